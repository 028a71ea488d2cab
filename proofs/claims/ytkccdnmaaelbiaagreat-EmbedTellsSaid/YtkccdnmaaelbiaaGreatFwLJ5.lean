/- A text. -/
import Derived.Test.YtkccdnmaaelbiaaGreatFwLI11
set_option linter.all false
set_option maxRecDepth 99999
set_option maxHeartbeats 9999999
open Go.Proofs
namespace Go.Fw
section
attribute [local instance] Classical.propDecidable
attribute [local irreducible] Kp MQ lU rS KO KN KX KE VK Kl ZJ TC aab
variable {a b:Int} {j m:Nat} {p:Pr} {pl:RZ} {α:Type}
theorem Qc{n:Nat}{way:II}(a:way.length<=1000):∀i,i<=way.length->∀(v:Nat) x,(KI n way i)[v]?=some x->-1<=x/\x<=1000
 |0,_,v,x,h=>by grind[KI.eq_1]
 |i+1,hi,v,x,h=>by
  rw[KI,VU]at h;split at h
  .grind
  .exact Qc a i NH v x h
theorem Zz(ha:pl.getD p.1.toNat 0=a)(hb:pl.getD p.2.toNat 0=b)(h:a<0\/b<0\/(a-b≠1/\b-a≠1)):aI pl p=true:=by grind[aI]
theorem Gh(ha:pl.getD p.1.toNat 0=a)(hb:pl.getD p.2.toNat 0=b)(c:¬a<0)(h2:¬b<0)(h3:a-b=1\/b-a=1):aI pl p=false:=by grind[aI]
def ID{x y:Int}(a:-1<=x/\x<=1000)(b:-1<=y/\y<=1000):adA .i64 (x-y)=x-y:=ie _ NH NH
theorem fil_b{l:List α}(q:α->Bool)(h:l.length<=1000)(j:Nat):((l.take j).filter q).length+1<=100000:=pw
theorem QJ(h:m<=1000):m<=40000:=NH
def Lb(h:j<m)(h2:m<=40000):j<4611686018427387904:=NH
theorem Bs(W0:LA)(B n:Nat)(bv ov fv iv lv ev P:Value)(zp:List Pr)(way:II)(h:aae)(hs:Sr h B n bv ov fv iv lv)(Q:PR h ev zp)(hw:RL RP h P (aaa way))(hR:InR n zp)(R:∀x∈way,x<n)(hn:n<=300)(z:zp.length<=1000)(hl:way.length<=1000):
  AC Tryz.prog W0 103 [.pointer (some ⟨B,0,none⟩),ev,P] h fun x h'=>GP h' x (V8 n zp way)/\Le h h'/\Z2 h x:=by
 refine AC.vE ⟨Tryz.func103,rfl,WY⟩ Tryz.ntmps103 Tryz.results103 fun S=>?_;simp only[Br,seval];obtain⟨h1,e1,l1,w1,o1⟩:=Tt S [.int .i64 (-1)];have s1:=hs.le l1;refine Sk (bG @DQ e1 @sf0 @Ip.eq_1 @Gc s1.l0) ?_;refine kCi NQ (rN W0 _ n NH h1 (RL.Wh (RS.whole o1 rfl))) ?_;rintro x h2 w2 ⟨T,rfl,hT,o2,l2⟩
 have nT:h.own T=none:=l1.next w1 hT
 have A:=l1.trans l2;have oT:h2.own T=some (.cells (Bp (KI n way 0))):=by rw[o2];simp[Bp,KI]
 have hlen:(aaa way).length=way.length:=y6 way;have ll:=fun g=>hw.DH g;rw[hlen]at ll;have r:=fun(k:IntKind) j hj=>Kx T n k j hj;refine Sk ll ?_;refine lIn (fun k fr U=>∃i:Nat,k=way.length-i/\i<=way.length/\fr=mkF [(1,ev),(7,.slice (some ⟨T,0,none⟩) n n),(21,P),(22,.int .i64 (way.length:Nat)),(23,.int .i64 (i:Nat))]/\U.own T=some (.cells (Bp (KI n way i)))/\Le h U) ⟨0,rfl,WA _,rfl,oT,A⟩ ?_;clear oT o2 l2 w2 A;rintro k fr U V ⟨i,rfl,hi,rfl,oT,M⟩;refine Uy ?_;refine Kl.intro (fun C=>?_) (fun hf=>?_)
 .have e:i<way.length:=CC C;clear C;have ad:=hw.TA i NH;have ld:=(hw.le Nn.RP M).Uc i NH;rw[sY e]at ld;have hx:=R way[i] (j9 e);have W:way.getD i 0=way[i]:=D4 e;have st:=stI oT (i:=way[i]) (by grind[Ou]) (i:Int);simp only[HO,seval,ad,ld,r _ _ hx,st,Tw i (Lb e (QJ hl))];refine lgA (JS e) ⟨i+1,rfl,e,rfl,?_,M.put _ nT⟩;rw[aae.Y3,KI,W]
 have D:way.length<=i:=vp hf;obtain rfl:i=way.length:=NH;have rD:=Qc (n:=n) hl way.length (qL0 _);have ar:=Ou n way way.length;have X:=fun g=>Q.len g;unfold V8;generalize KI n way way.length=pl at*;refine Sk X ?_;refine lIn (fun k fr l=>∃(j:Nat)(m:Value),k=zp.length-j/\j<=zp.length/\fr=mkF [(7,.slice (some ⟨T,0,none⟩) n n),(10,m),(33,ev),(34,.int .i64 (zp.length:Nat)),(35,.int .i64 (j:Nat))]/\l.own T=some (.cells (Bp pl))/\Le h l/\GP l m ((zp.take j).filter (aI pl))/\Z2 h m/\blk m≠some T) ⟨0,_,rfl,WA _,rfl,oT,M,GP.nil _,fun b hb=>by simp[blk]at hb,by simp[blk]⟩ ?_;clear oT M V;rintro k fr l F ⟨j,m,rfl,hj,rfl,oT,lz,g,ap,nb⟩;refine Uy ?_;refine Kl.intro (fun C=>?_) (fun hf=>?_)
 rotate_left
 .have D:zp.length<=j:=vp hf;rw[HV D]at g;refine Uy ?_;grind
 have c:j<zp.length:=CC C;clear C;have aa:=CA c;have av:zp.take (j+1)=zp.take j++[zp[j]]:=EL c;obtain⟨p1,p2,p3⟩:=hR zp[j] (j9 c);have ad:=Q.addr (k:=.i64) j c;have ld:=(Q.le lz).load aa;generalize zp[j]=p at*;obtain⟨h3,h4,e3,e4,l4,w4,o4⟩:=Ut F p
 have ay:l.own l.next=none:=(Le.refl l).next F (qL0 _)
 have G:=lz.trans l4;have f:=l4.own _ _ oT;have g4:=g.le l4;have Lp:=uM o4;have L0:=lK o4;have L1:=HY o4
 generalize l.next=E at*
 obtain⟨a,ea⟩:∃a:Nat,p.1=(a:Int):=⟨p.1.toNat,NH⟩;obtain⟨b,eb⟩:∃b:Nat,p.2=(b:Int):=⟨p.2.toNat,NH⟩;have ae:a<n:=NH;have ag:b<n:=NH;rw[ea]at L0;rw[eb]at L1;have aj:a<pl.length:=pw;have al:b<pl.length:=pw;have hA:=CA aj;have hB:=CA al;have rA:=rD a _ hA;have rB:=rD b _ hB;have H:pl.getD p.1.toNat 0=pl[a]:=pw;have gB:pl.getD p.2.toNat 0=pl[b]:=pw;have lA:=XP f hA;have lB:=XP f hB;generalize pl[a]=x at*;generalize pl[b]=y at*;have s:=ID rA rB;have I:=ID rB rA;have aw:=Tw j (Lb c (QJ z));have aq:=fil_b (aI pl) z j
 have yes:aI pl p=true->∃d u o,abB Tryz.prog h4 22 1 [(0,UI p)]=some (.slice (some ⟨h4.next,0,none⟩) 1 1,u)/\adg Tryz.prog u 22 22 m (.slice (some ⟨h4.next,0,none⟩) 1 1)=some (d,o)/\o.own T=some (.cells (Bp pl))/\Le h o/\GP o d ((zp.take (j+1)).filter (aI pl))/\Z2 h d/\blk d≠some T:=fun q=>by obtain⟨d,u,o,v,w,g7,w7,l6,az,aB⟩:=g4.push w4 p aq;grind
 have no:aI pl p=false->(zp.take (j+1)).filter (aI pl)=(zp.take j).filter (aI pl):=fun q=>by grind
 simp only[HO,seval,ad,ld,e3,e4];refine gh (tA [0,1,2,3,4,5,6,7,8,9,10,11] .done) ?_;simp only[HO,seval,Qg,Dh,Z0,Ip,Gc,L0,L1,r _ a ae,r _ b ag,lA,lB];by_cases c1:x<0
 .obtain⟨d,u,o,v,w,r1,r2,J,K,L⟩:=yes (Zz H gB (.inl c1));simp only[HO,seval,c1,Lp,v,w,aw];exact lgA (JS c) ⟨j+1,d,rfl,c,rfl,r1,r2,J,K,L⟩
 by_cases c2:y<0
 .obtain⟨d,u,o,v,w,r1,r2,J,K,L⟩:=yes (Zz H gB (.inr (.inl c2)));simp only[HO,seval,c1,c2,Lp,v,w,aw];exact lgA (JS c) ⟨j+1,d,rfl,c,rfl,r1,r2,J,K,L⟩
 by_cases N:x-y=1
 .have t:=no (Gh H gB c1 c2 (.inl N));have d3:decide (x-y=1)=true:=XJ N;simp only[HO,seval,c1,c2,s,bne,d3,aw];exact lgA (JS c) ⟨j+1,m,rfl,c,rfl,f,G,by rw[t];exact g4,ap,nb⟩
 have d3:decide (x-y=1)=false:=Sb N;by_cases O:y-x=1
 .have t:=no (Gh H gB c1 c2 (.inr O));have d4:decide (y-x=1)=true:=XJ O;simp only[HO,seval,c1,c2,s,I,bne,d3,d4,aw];exact lgA (JS c) ⟨j+1,m,rfl,c,rfl,f,G,by rw[t];exact g4,ap,nb⟩
 have d4:decide (y-x=1)=false:=Sb O;obtain⟨d,u,o,v,w,r1,r2,J,K,L⟩:=yes (Zz H gB (.inr (.inr ⟨N,O⟩)));simp only[HO,seval,c1,c2,s,I,bne,d3,d4,Lp,v,w,aw];exact lgA (JS c) ⟨j+1,d,rfl,c,rfl,r1,r2,J,K,L⟩
def Hj(h:aae):agH Tryz.prog h 49=some (.pointer (some ⟨h.next,0,none⟩),h.alloc (.cells [.slice none 0 0])):=rfl
structure LL (b0 h:aae) (S5 T6 M7 T n start:Nat) (mv:Value) (st:RZ×II):Prop where
 oS:h.own S5=some (.cells [.int .i64 (start:Int)])
 o6:h.own T6=some (.cells [.slice (some ⟨T,0,none⟩) n n])
 oT:h.own T=some (.cells (Bp st.1))
 oM:h.own M7=some (.cells [mv])
 gm:GI h mv (aaa st.2)
 nS:b0.own S5=none
 n6:b0.own T6=none
 nT:b0.own T=none
 nM:b0.own M7=none
 am:Z2 b0 mv
 d1:T≠T6
 d2:T≠M7
 d3:T≠S5
 d4:M7≠S5
 d5:M7≠T6
 m1:blk mv≠some S5
 m2:blk mv≠some T6
 m3:blk mv≠some T
 m4:blk mv≠some M7
 le:Le b0 h
section
variable{b0 h:aae}{S5 T6 M7 T n start:Nat}{mv:Value}{st:RZ×II}
theorem LL.up{h':aae}(W:LL b0 h S5 T6 M7 T n start mv st)(e:Le h h'):LL b0 h' S5 T6 M7 T n start mv st:={W with oS:=e.own _ _ W.oS,o6:=e.own _ _ W.o6,oT:=e.own _ _ W.oT,oM:=e.own _ _ W.oM,gm:=W.gm.le e,le:=W.le.trans e}
def LL.lS(W:LL b0 h S5 T6 M7 T n start mv st):acd Tryz.prog h 3 ⟨S5,0,none⟩=some (.int .i64 (start:Int)):=by rw[Fq Ac rfl W.oS];rfl
def LL.l6(W:LL b0 h S5 T6 M7 T n start mv st):acd Tryz.prog h 49 ⟨T6,0,none⟩=some (.slice (some ⟨T,0,none⟩) n n):=by rw[Fq Mb rfl W.o6];rfl
def LL.lM(W:LL b0 h S5 T6 M7 T n start mv st):acd Tryz.prog h 49 ⟨M7,0,none⟩=some mv:=by rw[Fq Mb rfl W.oM];rfl
end
theorem meet_yes{start:Nat}{st:RZ×II}{v by_:Nat}(h:v≠start)(h2:st.1.getD v 0<0):aaY start st v by_=(st.1.set v (by_:Int),st.2++[v]):=by grind[aaY]
theorem RF{start:Nat}{st:RZ×II}{v by_:Nat}(h:v=start\/¬st.1.getD v 0<0):aaY start st v by_=st:=by grind[aaY]
theorem K8(l:LA){b0 h:aae}{S5 T6 M7 T n start:Nat}{mv:Value}{st:RZ×II}(W:LL b0 h S5 T6 M7 T n start mv st)(z:st.1.length=n){v by_:Nat}(m:v<n)(A:st.2.length<=1000):
  AC Tryz.prog l 140 [.int .i64 (v:Int),.int .i64 (by_:Int),.pointer (some ⟨S5,0,none⟩),.pointer (some ⟨T6,0,none⟩),.pointer (some ⟨M7,0,none⟩)] h fun _ h'=>∃d,LL b0 h' S5 T6 M7 T n start d (aaY start st v by_):=by
 refine AC.vE ⟨qS38,rfl,WY⟩ Tryz.ntmps140 Tryz.results140 fun e=>?_;simp only[Br,seval];have o:=CA (show v<st.1.length by omega);have gd:st.1.getD v 0=st.1[v]'(by omega):=D4 NH
 have k:=Kx T n .i64 v m;have ld:=XP W.oT o;generalize st.1[v]'(by omega)=x at*
 by_cases c1:v=start
 .have d1:decide ((v:Int)=(start:Int))=true:=XJ NH;refine Sk (Yb W.lS @bne.eq_1.{0} d1) ?_
  grind[RF]
 have d1:decide ((v:Int)=(start:Int))=false:=Sb NH;by_cases c2:x<0
 rotate_left
 .simp only[HO,seval,W.lS,bne,d1,W.l6,k,ld,c2];grind[RF]
 have st1:=stI W.oT (i:=v) NH (by_:Int);have b:LL b0 (h.put T (.cells (Bp (st.1.set v (by_:Int))))) S5 T6 M7 T n start mv (st.1.set v (by_:Int),st.2):=
  {W with
   oS:=by grind[aae.By,LL.d3,LL.oS]
   o6:=by grind[aae.By,LL.d1,LL.o6]
   oT:=aae.Y3 _ _ _
   oM:=by grind[aae.By,LL.d2,LL.oM]
   gm:=GS.put W.gm _ W.m3
   le:=W.le.put _ W.nT}
 have w1:WF (h.put T (.cells (Bp (st.1.set v (by_:Int))))):=e.put _ (e.lt W.oT);rw[meet_yes c1 pw];simp only[HO,seval,W.lS,bne,d1,W.l6,k,ld,c2,st1];generalize h.put T (.cells (Bp (st.1.set v (by_:Int))))=B at*;obtain⟨d,h2,h3,p,q,f,C,l2,hf,g⟩:=b.gm.push w1 (v:Int) (by grind[y6]);obtain⟨l3,r⟩:=hf b0 b.le b.am;obtain⟨s,m1⟩:=g _ _ b.oS b.m1;obtain⟨u,m2⟩:=g _ _ b.o6 b.m2;obtain⟨w,m3⟩:=g _ _ b.oT b.m3;obtain⟨j,m4⟩:=g _ _ b.oM b.m4;have stM:=QB (P:=Tryz.prog) (t:=49) (x:=d) Mb Ji j (off:=0) Ma (by obtain⟨a,c,rfl,_⟩:=f.rl.sl;rfl) f.rl.sl.one;simp only[HO,seval,b.lM,p,q,stM];have y:aaa st.2++[(v:Int)]=aaa (st.2++[v]):=by simp[aaa]
 rw[y]at f;exact⟨d,{b with
   oS:=by grind[aae.By,LL.d4]
   o6:=by grind[aae.By,LL.d5]
   oT:=by grind[aae.By,LL.d2]
   oM:=aae.Y3 _ _ _
   gm:=GS.put f _ m4
   am:=r,m1:=m1,m2:=m2,m3:=m3,m4:=m4
   le:=l3.put _ W.nM}⟩
variable {i n:Nat} {rows:AM}
def pf0(a:Addr):agQ Tryz.prog 125 (.pointer (some a)) 0=some (.pointer (some (Ip a 0))):=rfl
def pf1(a:Addr):agQ Tryz.prog 125 (.pointer (some a)) 1=some (.pointer (some (Ip a 1))):=rfl
def pf2(a:Addr):agQ Tryz.prog 125 (.pointer (some a)) 2=some (.pointer (some (Ip a 2))):=rfl
theorem way_at{on:List Bool}{p:wW}{start i:Nat}(h2:¬p.Fm.length<2)(a:(p.Fm.headD 0).toNat=start)(hi:i<n+1)(b:∀j,j<i->XG rows on start (aaP n start p.zp) j=false)(hs:XG rows on start (aaP n start p.zp) i=true):
  J6 n rows on p=match(ag5 rows start (aaP n start p.zp) i).2[i]? with
   |some v=>traceM (ag5 rows start (aaP n start p.zp) i).1 start n v
   |none=>[]:=by grind[List.find?_range_eq_some,J6]
theorem headI0:∀{l:RZ}(h:0<l.length),l.headD 0=l[0]
 |_::_,_=>rfl
def sub_lt1(h:i<n):n+1-(i+1)<n+1-i:=NH
theorem TL(fr:RZ)(start:Nat):∀f,traceM fr start f start=[start]
 |0=>rfl
 |f+1=>by grind[traceM.eq_2]
abbrev TT1:Nat->Prop:=fun _=>True
abbrev TT2:Nat->Nat->Prop:=fun _ _=>True
def trc_k{k f:Nat}(h:k<f+1)(j:Nat)(a:j<k):j<f:=NH
theorem way_any(W0:LA)(B n:Nat)(bv ov fv iv lv ea fa ta:Value)(es:List Pr)(on:List Bool)(p:wW)(h:aae)(hs:Sr h B n bv ov fv iv lv)(hb:RL (RL RP) h bv (Zh n es))(ho:RL sJ h ov on)(cN:on.length=n)(Q:PR h ea p.zp)(R:RL RP h fa p.Fm)(bT:ta.oneCell'=true)(hR:InR n es)(bW:InR n p.zp)(bY:∀x∈p.Fm,∃v:Nat,x=(v:Int)/\v<n)(hn:n<=300)(cP:es.length<=1000)(bZ:p.zp.length<=1000)(cR:p.Fm.length<=1000):
  AC Tryz.prog W0 98 [.pointer (some ⟨B,0,none⟩),.agg #[ea,fa,ta]] h fun x h'=>GI h' x (aaa (J6 n (Zh n es) on p))/\Le h h'/\Z2 h x:=by
 refine AC.vE ⟨Tryz.func98,rfl,WY⟩ Tryz.ntmps98 Tryz.results98 fun b0=>?_;simp only[Br,seval];obtain⟨S,e1,l1,w1,o1⟩:=Tt b0 [ea,fa,ta];have bx:=aBox3 (h:=h) (a:=ea) (b:=fa) (c:=ta) Q.sl.one R.one bT;rw[e1]at bx
 have P0:∀g,Le S g->acd Tryz.prog g 22 ⟨h.next,0,none⟩=some ea/\acd Tryz.prog g 49 ⟨h.next,1,none⟩=some fa:=fun g lg=>by have o:=lg.own _ _ o1;exact⟨by rw[Fq eY rfl o];rfl,by rw[Fq Mb rfl o];rfl⟩
 generalize h.next=P at*
 have lf:=fun g=>R.DH g;by_cases c2:p.Fm.length<2
 .have d2:decide ((p.Fm.length:Int)<2)=true:=XJ NH;refine Sk (rE bx @pf1 @Ip.eq_1 @Gc ((P0 S (Le.refl _)).2) lf @d2) ?_;have e:J6 n (Zh n es) on p=[]:=by grind[J6]
  rw[e];exact⟨GI.nil _,l1,fun b hb=>by grind[blk]⟩
 have d2:decide ((p.Fm.length:Int)<2)=false:=Sb NH;have f0:0<p.Fm.length:=NH;have aP:=R.TA 0 f0;have aT:=(R.le Nn.RP l1).Uc 0 f0;obtain⟨start,b1,cU⟩:=bY _ (j9 f0);have aV:(p.Fm.headD 0).toNat=start:=by grind[headI0]
 rw[b1]at aT;obtain⟨h2,h3,e2,e3,l3,w3,o3⟩:=newI w1 (start:Int);simp only[P2]at aP;refine Sk (rk bx @pf1 @Ip.eq_1 @Gc ((P0 S (Le.refl _)).2) lf @d2 aP aT e2 e3) ?_
 have aW:h.own S.next=none:=l1.next w1 (qL0 _)
 generalize S.next=m at*
 have aj:=l1.trans l3;obtain⟨h4,e4,l4,w4,o4⟩:=Tt w3 [.int .i64 (-1)];have s4:=hs.le (aj.trans l4);refine Sk (bG @DQ e4 @sf0 @Ip.eq_1 @Gc s4.l0) ?_;refine kCi NQ (rN W0 _ n NH h4 (RL.Wh (RS.whole o4 rfl))) ?_;rintro x C w5 ⟨T,rfl,hT,o5,l5⟩;have U:=l4.trans l5;have aX:=aj.trans U
 have nT:h.own T=none:=(aj.trans l4).next w4 hT
 have a1:C.own T=some (.cells (Bp (List.replicate n (-1)))):=by rw[o5];simp[Bp]
 have a6:=U.own _ _ o3;obtain⟨h6,e6,l6,w6,o6⟩:=Tt w5 [.slice none 0 0]
 have n6:h.own C.next=none:=aX.next w5 (qL0 _)
 have a7:T≠C.next:=fun e=>by have:=w5.lt a1;omega
 have b2:C.next≠m:=fun e=>by have:=w5.lt a6;omega
 have a8:=QB (P:=Tryz.prog) (t:=49) (x:=.slice (some ⟨T,0,none⟩) n n) Mb Ji o6 (off:=0) Ma rfl rfl;refine Sk (Yb @Hj e6 a8) ?_
 have al:Le h (h6.put C.next (.cells (([.slice none 0 0]:List Value).set 0 (.slice (some ⟨T,0,none⟩) n n)))):=(aX.trans l6).put _ n6
 have w7:WF (h6.put C.next (.cells (([.slice none 0 0]:List Value).set 0 (.slice (some ⟨T,0,none⟩) n n)))):=w6.put _ (w6.lt o6)
 have aq:(h6.put C.next (.cells (([.slice none 0 0]:List Value).set 0 (.slice (some ⟨T,0,none⟩) n n)))).own T=some (.cells (Bp (List.replicate n (-1)))):=by grind[aae.By,Le.own]
 have ar:(h6.put C.next (.cells (([.slice none 0 0]:List Value).set 0 (.slice (some ⟨T,0,none⟩) n n)))).own m=some (.cells [.int .i64 (start:Int)]):=by grind[aae.By,Le.own]
 have av:(h6.put C.next (.cells (([.slice none 0 0]:List Value).set 0 (.slice (some ⟨T,0,none⟩) n n)))).own C.next=some (.cells [.slice (some ⟨T,0,none⟩) n n]):=aae.Y3 _ _ _
 have P7:Le S (h6.put C.next (.cells (([.slice none 0 0]:List Value).set 0 (.slice (some ⟨T,0,none⟩) n n)))):=((l3.trans U).trans l6).put _ ((l3.trans U).next w5 (qL0 _))
 have ba:T≠m:=fun e=>by have:=w4.lt (l4.own _ _ o3);omega
 generalize C.next=y at*
 generalize h6.put y (.cells (([.slice none 0 0]:List Value).set 0 (.slice (some ⟨T,0,none⟩) n n)))=h7 at*;obtain⟨h8,e8,l8,w8,o8⟩:=Tt w7 [.slice none 0 0]
 have n8:h.own h7.next=none:=al.next w7 (qL0 _)
 have dM:∀{b o},h7.own b=some o->h7.next≠b:=fun{b o} ob e=>by have:=w7.lt ob;omega
 have b3:=fun g=>Q.len g;refine Sk (rE @Hj e8 @pf0 @Ip.eq_1 @Gc ((P0 h8 (P7.trans l8)).1) b3) ?_
 have W8:LL h h8 m y h7.next T n start (.slice none 0 0) (List.replicate n (-1),[]):=⟨l8.own _ _ ar,l8.own _ _ av,l8.own _ _ aq,o8,GI.nil _,aW,n6,nT,n8,fun b hb=>by grind[blk],a7,fun e=>dM aq e.symm,ba,dM ar,dM av,by simp[blk],by simp[blk],by simp[blk],by simp[blk],al.trans l8⟩
 generalize h7.next=M at*
 clear dM n8 o8 P7 av ar aq w7 al a8 b2 a7 n6 o6 w6 l6 e6 a6 a1 o5 e4 e8;clear ba nT aW P0 hT;have bb:BF n start TT1 TT2 ((p.zp.take 0).foldl (wR start) (List.replicate n (-1),[])):=BF.zero;refine lIn (fun k fr hq=>∃(i:Nat)(r:Value),k=p.zp.length-i/\i<=p.zp.length/\fr=mkF [(0,.pointer (some ⟨B,0,none⟩)),(5,.pointer (some ⟨m,0,none⟩)),(6,.pointer (some ⟨y,0,none⟩)),(7,.pointer (some ⟨M,0,none⟩)),(8,.func (.func 140) #[] #[.pointer (some ⟨m,0,none⟩),.pointer (some ⟨y,0,none⟩),.pointer (some ⟨M,0,none⟩)]),(32,ea),(33,.int .i64 (p.zp.length:Nat)),(34,.int .i64 (i:Nat))]/\
   LL h hq m y M T n start r ((p.zp.take i).foldl (wR start) (List.replicate n (-1),[]))/\BF n start TT1 TT2 ((p.zp.take i).foldl (wR start) (List.replicate n (-1),[]))) ⟨0,_,rfl,WA _,rfl,W8,bb⟩ ?_
 clear bb W8 w8 l8;rintro k fr hq bg ⟨i,r,rfl,hi,rfl,W,F⟩;refine Uy ?_;refine Kl.intro (fun ht=>?_) (fun hf=>?_)
 .have d:i<p.zp.length:=CC ht;clear ht;have b4:=CA d;have b5:p.zp.take (i+1)=p.zp.take i++[p.zp[i]]:=EL d;have b6:=j9 d;obtain⟨p1,p2,p3⟩:=bW p.zp[i] b6;have ad:=Q.addr (k:=.i64) i d;have ld:=(Q.le W.le).load b4;have N:(p.zp.take (i+1)).foldl (wR start) (List.replicate n (-1),[])=wR start ((p.zp.take i).foldl (wR start) (List.replicate n (-1),[])) p.zp[i]:=pw;have F1:=(F.Vk [p.zp[i]] fun e he=>by grind[jB]).1;rw[show[p.zp[i]].foldl (wR start) ((p.zp.take i).foldl (wR start) (List.replicate n (-1),[]))=wR start ((p.zp.take i).foldl (wR start) (List.replicate n (-1),[])) p.zp[i]from rfl]at F1;rw[N.symm]at F1;have hm:=F.jI;have hlen:=F.len;generalize p.zp[i]=e at*;obtain⟨g3,g4,q3,q4,m4,v4,u4⟩:=Ut bg e;have W4:=W.up m4;have V:=lK u4;have X:=HY u4
  generalize hq.next=E at*
  have aw:=Tw i (Lb d (QJ bZ));obtain⟨a,ha⟩:∃a:Nat,e.1=(a:Int):=⟨e.1.toNat,NH⟩;obtain⟨b,sZ⟩:∃b:Nat,e.2=(b:Int):=⟨e.2.toNat,NH⟩;have b8:a<n:=NH;have b9:b<n:=NH;rw[ha]at V;rw[sZ]at X;have aa:((p.zp.take i).foldl (wR start) (List.replicate n (-1),[])).2.length<=1000:=NH;by_cases c1:a=start
  .have d1:decide ((a:Int)=(start:Int))=true:=XJ NH;have eB:wR start ((p.zp.take i).foldl (wR start) (List.replicate n (-1),[])) e=aaY start ((p.zp.take i).foldl (wR start) (List.replicate n (-1),[])) b start:=by grind[wR]
   rw[eB]at N;simp only[HO,seval,ad,ld,q3,q4,Dh,Z0,Ip,Gc,V,X,W4.lS,ahI,d1];refine kCi qS38 (K8 W0 W4 hlen (v:=b) (by_:=start) b9 aa) ?_;rintro x g5 v5 ⟨D,O⟩;simp only[HO,seval,aw];exact lgA (JS d) ⟨i+1,D,rfl,d,rfl,by rw[N];exact O,F1⟩
  have d1:decide ((a:Int)=(start:Int))=false:=Sb NH;by_cases c3:b=start
  .have d3:decide ((b:Int)=(start:Int))=true:=XJ NH;have eB:wR start ((p.zp.take i).foldl (wR start) (List.replicate n (-1),[])) e=aaY start ((p.zp.take i).foldl (wR start) (List.replicate n (-1),[])) a start:=by grind[wR]
   rw[eB]at N;simp only[HO,seval,ad,ld,q3,q4,Dh,Z0,Ip,Gc,V,X,W4.lS,ahI,d1,d3];refine kCi qS38 (K8 W0 W4 hlen (v:=a) (by_:=start) b8 aa) ?_;rintro x g5 v5 ⟨D,O⟩;simp only[HO,seval,aw];exact lgA (JS d) ⟨i+1,D,rfl,d,rfl,by rw[N];exact O,F1⟩
  .have d3:decide ((b:Int)=(start:Int))=false:=Sb NH;have eB:wR start ((p.zp.take i).foldl (wR start) (List.replicate n (-1),[])) e=(p.zp.take i).foldl (wR start) (List.replicate n (-1),[]):=by grind[wR]
   rw[eB]at N;simp only[HO,seval,ad,ld,q3,q4,Dh,Z0,Ip,Gc,V,X,W4.lS,ahI,d1,d3,aw];exact lgA (JS d) ⟨i+1,r,rfl,d,rfl,by rw[N];exact W4,F1⟩
 have z:p.zp.length<=i:=vp hf;rw[HV z]at W F;have ae:p.zp.foldl (wR start) (List.replicate n (-1),[])=aaP n start p.zp:=rfl;rw[ae]at W F;refine Uy ?_;have bh:aaP n start p.zp=ag5 (Zh n es) start (aaP n start p.zp) 0:=rfl;rw[bh]at W F;refine lIn (fun k fr hz=>∃(i:Nat)(r:Value),k=n+1-i/\fr=mkF [(0,.pointer (some ⟨B,0,none⟩)),(5,.pointer (some ⟨m,0,none⟩)),(6,.pointer (some ⟨y,0,none⟩)),(7,.pointer (some ⟨M,0,none⟩)),(8,.func (.func 140) #[] #[.pointer (some ⟨m,0,none⟩),.pointer (some ⟨y,0,none⟩),.pointer (some ⟨M,0,none⟩)]),(11,.int .i64 (i:Nat))]/\
   LL h hz m y M T n start r (ag5 (Zh n es) start (aaP n start p.zp) i)/\BF n start TT1 TT2 (ag5 (Zh n es) start (aaP n start p.zp) i)/\i<=(ag5 (Zh n es) start (aaP n start p.zp) i).2.length/\∀j,j<i->XG (Zh n es) on start (aaP n start p.zp) j=false) ⟨0,r,rfl,rfl,W,F,WA _,fun j hj=>absurd hj (Ki _)⟩ ?_
 clear bg W F z hf hi bh ae i r;rintro k fr hz cc ⟨i,r,rfl,rfl,W,F,cd,cf⟩;have aa:=F.jI;have hlen:=F.len;have lm:=fun g=>W.gm.rl.DH g;rw[y6]at lm;have ay:=way_at (p:=p) (i:=i) (n:=n) (rows:=Zh n es) (on:=on) c2 aV NH cf;simp only[HO,seval,W.lM,lm];refine Kl.intro (fun ht=>?_) (fun hf=>?_)
 rotate_left
 .have z:(ag5 (Zh n es) start (aaP n start p.zp) i).2.length<=i:=vp hf;have az:(ag5 (Zh n es) start (aaP n start p.zp) i).2[i]?=none:=qk z;have e:=ay (by grind[XG]);simp only[az]at e;rw[e];refine Uy ?_;exact⟨GI.nil _,W.le,fun b hb=>by grind[blk]⟩
 have d:i<(ag5 (Zh n es) start (aaP n start p.zp) i).2.length:=CC ht;clear ht;have l:=CA d;have aB:=W.gm.rl.TA i (by rw[y6];exact d);have G:=W.gm.rl.Uc i (by rw[y6];exact d);rw[sY d]at G;have bj:=j9 d;have cg:=(F.lt _ bj).1;generalize (ag5 (Zh n es) start (aaP n start p.zp) i).2[i]=v at l G bj cg;have sz:=hs.le W.le;have H:v<on.length:=pw;have aC:=ho.LB (k:=.i64) v H;have A:=(ho.le Nn.sJ W.le).W7 v H;have ck:Wg on v=on[v]:=D4 H;rw[<-ck]at A;have bk:i<n:=NH;cases aD:Wg on v with
 |true=>
  rw[aD]at A;have e:=ay (by grind[XG]);simp only[l]at e;rw[e];refine Sk (amk W.lM aB G @sf2 @Ip.eq_1 @Gc sz.l2 aC A) ?_;have par:=F.par;clear e aD;generalize ag5 (Zh n es) start (aaP n start p.zp) i=st at*;refine lIn (fun k fr hy=>∃(cur:Nat)(xv:Value)(L:II),fr=mkF [(5,.pointer (some ⟨m,0,none⟩)),(6,.pointer (some ⟨y,0,none⟩)),(12,.int .i64 (cur:Nat)),(13,xv)]/\LL h hy m y M T n start r st/\GI hy xv (aaa L)/\Z2 hz xv/\Le hz hy/\
    traceM st.1 start k cur++L.reverse=traceM st.1 start n v/\(cur=start\/∃q,q<k/\st.2[q]?=some cur)/\L.length+k=n) ⟨v,_,[],rfl,W,GI.nil _,fun b hb=>by grind[blk],Le.refl _,Ma,.inr ⟨i,bk,l⟩,Ma⟩ ?_
  rintro k fr hy aE ⟨cur,xv,L,rfl,Wy,gx,ax,bm,aF,bo,cW⟩;by_cases cs:cur=start
  .subst cs;have ds:decide ((cur:Int)=(cur:Int))=true:=XJ rfl;obtain⟨aH,g4,g5,q4,q5,I,v5,m4,aJ,-⟩:=gx.push aE (cur:Int) (by grind[y6]);obtain⟨m5,a5⟩:=aJ hz bm ax;have e6:aaa L++[(cur:Int)]=aaa (L++[cur]):=by simp[aaa]
   rw[e6]at I;simp only[HO,seval,Wy.lS,bne,ds,q4,q5];refine kCi qS29 (Wk W0 aH _ g5 I (by rw[y6,eR,qH];omega)) ?_;rintro x g6 v6 ⟨br,cm,-⟩;refine Uy ?_;have e7:(aaa (L++[cur])).reverse=aaa (traceM st.1 cur n v):=by rw[<-aF,TL];simp[aaa]
   rw[e7]at br;have l6:=cm hz m5 a5;exact⟨br,W.le.trans l6,fun b hb=>W.le.none (a5 b hb)⟩
  .have ds:decide ((cur:Int)=(start:Int))=false:=Sb NH;obtain⟨q,cp,bB⟩:=bo.resolve_left cs;obtain⟨f,rfl⟩:∃f,k=f+1:=⟨k-1,NH⟩;have cq:=(F.lt cur (BS bB)).1;obtain⟨aH,g4,g5,q4,q5,I,v5,m4,aJ,cZ⟩:=gx.push aE (cur:Int) (by grind[y6]);obtain⟨m5,a5⟩:=aJ hz bm ax;have O:=W.up m5;have e6:aaa L++[(cur:Int)]=aaa (L++[cur]):=by simp[aaa]
   rw[e6]at I;have hL:=CA (show cur<st.1.length by grind);have ld:=XP O.oT hL;have gd:st.1.getD cur 0=st.1[cur]'(by grind):=D4 _
   rw[traceM,aal cs]at aF;have cr:∃J:Nat,st.1.getD cur 0=(J:Int)/\(J=start\/∃q,q<f/\st.2[q]?=some J):=by
    rcases par q cur bB with⟨S,_⟩|⟨j,u,S,h2,h3,_⟩
    .grind
    .exact⟨u,h3,.inr ⟨j,trc_k cp j S,h2⟩⟩
   obtain⟨J,ag,bF⟩:=cr;rw[<-gd,ag]at ld;rw[ag,af8]at aF;simp only[HO,seval,Wy.lS,bne,ds,q4,q5,O.l6,Kx T n .i64 cur cq,ld];refine lgA (FD _) ⟨J,aH,L++[cur],rfl,O,I,a5,m5,?_,bF,?_⟩
   .grind
   grind
 |false=>
  rw[aD]at A;have cx:XG (Zh n es) on start (aaP n start p.zp) i=false:=by grind[XG]
  have bH:ag5 (Zh n es) start (aaP n start p.zp) (i+1)=abO start (ag5 (Zh n es) start (aaP n start p.zp) i) v ((Zh n es).getD v []):=by rw[ag5,l]
  have aK:v<(Zh n es).length:=by grind[Xq]
  have bI:=hb.NS v aK;obtain⟨uv,cz,s⟩:=hb.Wm v aK;have bN:(Zh n es).getD v []=(Zh n es)[v]:=D4 aK;generalize (Zh n es)[v]=row at s bN;have lr:=fun g=>s.DH g;have c0:row.length<=3000:=by have:=bV n es row pw;omega
  rw[bN]at bH;simp only[HO,seval,W.lM,aB,G,sf1,sf2,Ip,Gc,sz.l1,sz.l2,aC,A,bI,cz hz W.le,lr];clear ay lm aB G sz aC A bI;generalize ag5 (Zh n es) start (aaP n start p.zp) i=st at*;refine lIn (fun k fr hy=>∃(q:Nat)(r:Value),k=row.length-q/\q<=row.length/\fr=mkF [(0,.pointer (some ⟨B,0,none⟩)),(5,.pointer (some ⟨m,0,none⟩)),(6,.pointer (some ⟨y,0,none⟩)),(7,.pointer (some ⟨M,0,none⟩)),(8,.func (.func 140) #[] #[.pointer (some ⟨m,0,none⟩),.pointer (some ⟨y,0,none⟩),.pointer (some ⟨M,0,none⟩)]),(11,.int .i64 (i:Nat)),(12,.int .i64 (v:Nat)),(98,uv),(99,.int .i64 (row.length:Nat)),(100,.int .i64 (q:Nat))]/\
    LL h hy m y M T n start r (abO start st v (row.take q))/\BF n start TT1 TT2 (abO start st v (row.take q))/\i<(abO start st v (row.take q)).2.length/\(abO start st v (row.take q)).2[i]?=some v) ⟨0,r,rfl,WA _,rfl,W,F,d,l⟩ ?_
  clear cc W F d l aa hlen cd;clear r;rintro k fr hy aE ⟨q,r,rfl,hq,rfl,W,F,d,l⟩;refine Uy ?_;refine Kl.intro (fun ht=>?_) (fun hf=>?_)
  .have K:q<row.length:=CC ht;clear ht;have cC:=s.TA q K;have cE:=(s.le Nn.RP W.le).Uc q K;have b5:row.take (q+1)=row.take q++[row[q]]:=EL K;have cM:row[q]∈(Zh n es).getD v []:=pw;generalize row[q]=x at*;obtain⟨w,rfl,bQ⟩:=Ru hR cM;have N:abO start st v (row.take (q+1))=aaY start (abO start st v (row.take q)) w v:=by grind[abO]
   have hm:=F.jI;have hlen:=F.len;obtain⟨F1,⟨t,et⟩,-⟩:=F.meet (v:=w) (by_:=v) bQ (.inr ⟨i,l,trivial⟩);rw[<-N]at F1 et;have aw:=Tw q NH;refine Sk (XC cC cE) ?_;refine kCi qS38 (K8 W0 W hlen (v:=w) (by_:=v) bQ NH) ?_;rintro x g5 v5 ⟨D,O⟩;rw[<-N]at O;simp only[HO,seval,aw];exact lgA (JS K) ⟨q+1,D,rfl,K,rfl,O,F1,pw,Z5 et l⟩
  .have z:row.length<=q:=vp hf;rw[HV z,<-bH]at W F d;have aw:=Tw i NH;simp only[HO,seval,aw];refine lgA (sub_lt1 bk) ⟨i+1,r,rfl,rfl,W,F,d,fun j hj=>?_⟩;grind
structure Fst (n:Nat) (L:RZ) (ρ d:Nat->Nat):Prop where
 len:L.length=n
 up:∀v,v<n->∃w,w<n/\L[v]?=some (w:Int)/\ρ w=ρ v/\((w=v/\ρ v=v)\/(w≠v/\d w<d v))
 rt:∀v,v<n->ρ v<n/\ρ (ρ v)=ρ v
section
variable{n:Nat}{L:RZ}{ρ d:Nat->Nat}
theorem Fst.zero(n:Nat):Fst n ((List.range n).map fun(v:Nat)=>(v:Int)) id (fun _=>0):=⟨Ma,fun v a=>⟨v,a,by simp[a],rfl,.inl ⟨rfl,rfl⟩⟩,fun v a=>⟨a,rfl⟩⟩
theorem Fst.halve(F:Fst n L ρ d){v w u:Nat}(f:v<n)(hw:L[v]?=some (w:Int))(a:w≠v)(g:L[w]?=some (u:Int)):Fst n (L.set v (u:Int)) ρ d/\d u<d v/\u<n/\ρ u=ρ v:=by
 obtain⟨w',h,h2,h3,c⟩:=F.up v f;rw[hw]at h2;injection h2 with h2;obtain rfl:w=w':=NH;have c:=c.resolve_left fun q=>a q.1;obtain⟨u',i,b,j,l⟩:=F.up w h;rw[g]at b;injection b with b;obtain rfl:u=u':=NH;have hd:d u<d v:=pw;refine⟨⟨by grind[Fst.len],fun x k=>?_,F.rt⟩,hd,i,j.trans h3⟩;by_cases e:v=x
 .grind
 .rw[VU,aal e];exact F.up x k
noncomputable def mW(ρ:Nat->Nat)(a b:Nat):Nat->Nat:=fun x=>if ρ x=a then b else ρ x
noncomputable def cO(ρ d:Nat->Nat)(a b:Nat):Nat->Nat:=fun x=>if ρ x=a/\a≠b then d x+d b+1 else d x
theorem Fst.join(F:Fst n L ρ d){a b:Nat}(ha:a<n)(hb:b<n)(ra:ρ a=a)(rb:ρ b=b):Fst n (L.set a (b:Int)) (mW ρ a b) (cO ρ d a b):=by
 by_cases e:a=b
 .subst e;have h:mW ρ a a=ρ:=by grind[mW]
  have i:cO ρ d a a=d:=by grind[cO]
  rw[h,i];refine⟨by grind[Fst.len],fun x f=>?_,F.rt⟩;by_cases e:a=x
  .grind[Fst.len]
  .rw[VU,aal e];exact F.up x f
 .have k:mW ρ a b b=b:=by grind[mW]
  have g:∀x,x<n->mW ρ a b x<n:=fun x f=>by grind[mW,Fst.rt]
  refine⟨by grind[Fst.len],fun x f=>?_,fun x f=>⟨g x f,?_⟩⟩
  .by_cases ex:a=x
   .grind[Fst.len,mW,cO]
   .rw[VU,aal ex];obtain⟨w,j,h2,h3,l⟩:=F.up x f;refine⟨w,j,h2,by grind[mW],?_⟩;grind[mW,cO]
  .unfold mW;by_cases c:ρ x=a
   all_goals grind[Fst.rt]
end
theorem Y9(K:LA)(i T n:Nat)(L:RZ)(ρ d:Nat->Nat)(v:Nat)(h:aae)(G:h.own i=some (.cells [.slice (some ⟨T,0,none⟩) n n]))(oT:h.own T=some (.cells (Bp L)))(j:T≠i)(F:Fst n L ρ d)(M:v<n):
  AC Tryz.prog K 143 [.int .i64 (v:Int),.pointer (some ⟨i,0,none⟩)] h fun x h'=>x=.int .i64 (ρ v:Int)/\∃a,Fst n a ρ d/\h'.own T=some (.cells (Bp a))/\(∀f,Le f h->f.own T=none->Le f h')/\∀b o,b≠T->h.own b=some o->h'.own b=some o:=by
 refine AC.vE ⟨UP,rfl,WY⟩ Tryz.ntmps143 Tryz.results143 fun N=>?_;simp only[Br,seval];refine Uy ?_;refine lIn (fun k fr g=>∃(c:Nat)(a:RZ),k=d c/\c<n/\fr=mkF [(0,.int .i64 (c:Nat)),(1,.pointer (some ⟨i,0,none⟩))]/\ρ c=ρ v/\Fst n a ρ d/\g.own T=some (.cells (Bp a))/\(∀f,Le f h->f.own T=none->Le f g)/\∀b o,b≠T->h.own b=some o->g.own b=some o) ⟨v,L,rfl,M,rfl,rfl,F,oT,fun f s _=>s,fun b o _ H=>H⟩ ?_;clear oT F;rintro k fr g O ⟨c,a,rfl,l,rfl,P,F,oT,s,Q⟩;have t:=Q i _ (Hs j) G;have l5:acd Tryz.prog g 49 ⟨i,0,none⟩=some (.slice (some ⟨T,0,none⟩) n n):=by rw[Fq Mb rfl t];rfl
 obtain⟨w,hw,I,R,y⟩:=F.up c l;have ld:=XP oT I;by_cases e:w=c
 .subst e;have d1:decide ((w:Int)=(w:Int))=true:=XJ rfl;have S:ρ w=w:=pw;simp only[HO,seval,l5,Kx T n .i64 w l,ld,bne,d1];grind
 .have d1:decide ((w:Int)=(c:Int))=false:=Sb NH;obtain⟨u,V,m,_,_⟩:=F.up w hw;have z:=XP oT m;obtain⟨U,hd,A,B⟩:=F.halve l I e m;have p:c<a.length:=pw;have st:=stI oT p (u:Int);have q:(g.put T (.cells (Bp (a.set c (u:Int))))).own T=some (.cells (Bp (a.set c (u:Int)))):=aae.Y3 _ _ _;have r:∀b o,b≠T->h.own b=some o->(g.put T (.cells (Bp (a.set c (u:Int))))).own b=some o:=fun b o hb H=>by grind[aae.By]
  have C:acd Tryz.prog (g.put T (.cells (Bp (a.set c (u:Int))))) 49 ⟨i,0,none⟩=some (.slice (some ⟨T,0,none⟩) n n):=by rw[Fq Mb rfl (r i _ (Hs j) G)];rfl
  have D:acd Tryz.prog (g.put T (.cells (Bp (a.set c (u:Int))))) 3 ⟨T,c,none⟩=some (.int .i64 (u:Int)):=XP q (by rw[VU,AE rfl,AE p]);simp only[HO,seval,l5,Kx T n .i64 c l,ld,bne,d1];refine gh (tA [0,1,2,3,4,5,6,7,8,9] (JQ 10 [0,1,2,3,4,5,6,7,8,9] .done)) ?_;simp only[HO,seval,Qg,l5,Kx T n .i64 c l,Kx T n .i64 w hw,ld,z,st,C,D];exact lgA hd ⟨u,_,rfl,A,rfl,B.trans P,U,q,fun f E J=>(s f E J).put _ J,r⟩
structure Sep (b0 h:aae) (vs:List Value):Prop where
 TE:∀(i j:Nat) u w b,i≠j->vs[i]?=some u->vs[j]?=some w->blk u=some b->blk w≠some b
 own:∀(i:Nat) u b,vs[i]?=some u->blk u=some b->h.own b≠none
 ap:∀(i:Nat) u,vs[i]?=some u->Z2 b0 u
 le:Le b0 h
section
variable{b0 h h':aae}{vs:List Value}
theorem Sep.kept(S:Sep b0 h vs)(l:Le b0 h')(c:∀b o,h.own b=some o->h'.own b≠none):Sep b0 h' vs:=⟨S.TE,fun i u b a hb=>by obtain⟨o,d⟩:=iy.1 (S.own i u b a hb);grind,S.ap,l⟩
theorem Sep.up(S:Sep b0 h vs)(l:Le h h'):Sep b0 h' vs:=by grind[Sep.kept,Sep.le,Le.trans,Le.own]
theorem Sep.app(S:Sep b0 h vs){i:Nat}{u u':Value}(c:vs[i]?=some u)(hf:∀f,Le f h->Z2 f u->Le f h'/\Z2 f u')(m:∀b o,h.own b=some o->blk u≠some b->h'.own b=some o/\blk u'≠some b)(d:∀b,blk u'=some b->h'.own b≠none):Sep b0 h' (vs.set i u'):=by
 have key:∀(j:Nat) w,(vs.set i u')[j]?=some w->(j=i/\w=u')\/(j≠i/\vs[j]?=some w):=pw;obtain⟨l1,n⟩:=hf b0 S.le (S.ap i u c);have fresh:∀(j:Nat) w b,j≠i->vs[j]?=some w->blk w=some b->h'.own b≠none/\blk u'≠some b:=fun j w b p hw hb=>by obtain⟨o,d⟩:=iy.1 (S.own j w b hw hb);grind[Sep.TE]
 refine⟨fun j k a w b e ha hw hb q=>?_,fun j a b ha hb=>?_,fun j a ha=>?_,l1⟩
 .rcases key j a ha with⟨g,rfl⟩|⟨g,r⟩
  .grind
  .rcases key k w hw with⟨l,rfl⟩|⟨l,h2⟩
   .grind
   grind[Sep.TE]
 all_goals grind[Sep.ap]
theorem Sep.snoc(S:Sep b0 h vs){v:Value}(e:blk v=none):Sep b0 h (vs++[v]):=by
 have key:∀(j:Nat) w,(vs++[v])[j]?=some w->vs[j]?=some w\/w=v:=pw;refine⟨fun i j u w b c a hw hb q=>?_,fun i u b a hb=>?_,fun i u a b hb=>?_,S.le⟩
 .grind[Sep.TE]
 .grind[Sep.own]
 .rcases key i u a with d|rfl
  .exact S.ap i u d b hb
  grind
end
abbrev rW:Value:=.slice none 0 0
def agJ(vs:List Value):Nat->List Value
 |0=>[]
 |m+1=>agJ vs m++[vs.getD (2*m) rW,vs.getD (2*m+1) rW,rW]
theorem Iy(vs:List Value):∀m,(agJ vs m).length=m*3
 |0=>rfl
 |m+1=>by rw[agJ,eR,Iy vs m];simp;omega
theorem aY(vs:List Value){k:Nat}:∀m,k<m->(agJ vs m)[k*3]?=some (vs.getD (2*k) rW)/\(agJ vs m)[k*3+1]?=some (vs.getD (2*k+1) rW)/\(agJ vs m)[k*3+2]?=some rW
 |0,h=>by grind
 |m+1,h=>by
  rw[agJ];by_cases e:k=m
  .refine⟨?_,?_,?_⟩
   .grind[Iy]
   .grind[Iy]
   grind[Iy]
  .obtain⟨a,h2,h3⟩:=aY vs (k:=k) m NH;grind
theorem aA{vs ws:List Value}:∀m,(∀i,i<2*m->vs.getD i rW=ws.getD i rW)->agJ vs m=agJ ws m
 |0,_=>rfl
 |m+1,h=>by rw[agJ,agJ,aA m fun i hi=>h i NH,h (2*m) NH,h (2*m+1) NH]
theorem Yv{vs:List Value}{k r:Nat}(b:r<2){a:Value}:∀m,k<m->2*m<=vs.length->agJ (vs.set (2*k+r) a) m=(agJ vs m).set (k*3+r) a
 |0,h,_=>by grind
 |m+1,h,c=>by
  rw[agJ,agJ];by_cases e:k=m
  .subst e;rw[aA (ws:=vs) k pw];grind[Iy,Nat.add_sub_cancel_left]
  .rw[Yv b m NH NH,List.set_append_left _ _ (by grind[Iy])];grind
structure Wq (b0 h:aae) (xv:Value) (vs:List Value) (ps:List (List Pr×RZ)):Prop where
 sep:Sep b0 h (xv::vs)
 len:vs.length=2*ps.length
 sl:GS 3 h xv ps.length (agJ vs ps.length)
 ge:∀(i:Nat) p,ps[i]?=some p->GP h (vs.getD (2*i) rW) p.1/\GI h (vs.getD (2*i+1) rW) p.2
 cu:cu xv
section
variable{b0 h h':aae}{xv:Value}{vs:List Value}{ps:List (List Pr×RZ)}
theorem Wq.nil(b0:aae):Wq b0 b0 rW [] []:=by
 refine⟨⟨fun i j u w b d a hw hb=>?_,fun i u b a hb=>?_,fun i u a b hb=>?_,Le.refl _⟩,rfl,GS.nil 3 b0,pw,.inl rfl⟩
 all_goals
  have c:=BS a;rw[jf]at c;subst c;cases hb
theorem Wq.kept(P:Wq b0 h xv vs ps)(l:Le b0 h')(g:∀b o,(∃u∈xv::vs,blk u=some b)->h.own b=some o->h'.own b=some o):Wq b0 h' xv vs ps:=by
 have a:∀i,i<vs.length->vs.getD i rW∈xv::vs:=pw;refine⟨⟨P.sep.TE,fun i u b d hb=>?_,P.sep.ap,l⟩,P.len,GS.kept P.sl pw,fun i p c=>?_,P.cu⟩
 .obtain⟨o,j⟩:=iy.1 (P.sep.own i u b d hb);grind
 .have hi:=(Ny.1 c).1;have:=P.len;obtain⟨e,f⟩:=P.ge i p c;exact⟨GS.kept e pw,GS.kept f pw⟩
theorem Wq.up(P:Wq b0 h xv vs ps)(l:Le h h'):Wq b0 h' xv vs ps:=P.kept (P.sep.le.trans l) (by grind[Le.own])
theorem u6(P:Wq b0 h xv vs ps){i:Nat}(hi:i<vs.length):(xv::vs)[i+1]?=some (vs.getD i rW):=pw
theorem dD:UA Tryz.prog 125=3:=Ji
def bld0:ag1 Tryz.prog 125 []=some (.agg #[rW,rW,rW]):=Ji
def mkPc(h:aae):abB Tryz.prog h 75 1 [(0,.agg #[rW,rW,rW])]=some (.slice (some ⟨h.next,0,none⟩) 1 1,h.alloc (.cells [rW,rW,rW])):=Ji
theorem one3(vs:List Value)(a:∀u∈vs,u.oneCell'=true):∀m,(agJ vs m).all (·.oneCell')=true
 |0=>rfl
 |m+1=>by
  have g:∀i,(vs.getD i rW).oneCell'=true:=fun i=>by
   by_cases c:i<vs.length
   .grind
   .rw[K4,qk NH];rfl
  rw[agJ,agb,one3 vs a m,aeD,aeD,aeD,g,g];rfl
theorem Wq.one(P:Wq b0 h xv vs ps):(agJ vs ps.length).all (·.oneCell')=true:=by
 refine one3 vs (fun u a=>?_) _;obtain⟨i,hi,rfl⟩:=fj.1 a;have f:=P.len;have b:=yY (l:=ps) (i:=i / 2) NH;obtain⟨c,d⟩:=P.ge _ _ b;have:i=2*(i / 2)\/i=2*(i / 2)+1:=NH;rcases this with e|e
 .have:=c.pr.sl.one;grind
 .have:=d.rl.one;grind
theorem Wq.push(P:Wq b0 h xv vs ps)(l:WF h)(J:ps.length<=100000):
  ∃a g d,abB Tryz.prog h 75 1 [(0,.agg #[rW,rW,rW])]=some (.slice (some ⟨h.next,0,none⟩) 1 1,g)/\adg Tryz.prog g 75 75 xv (.slice (some ⟨h.next,0,none⟩) 1 1)=some (a,d)/\
   Wq b0 d a (vs++[rW,rW]) (ps++[([],[])])/\WF d/\Le h g/\(∀f,Le f h->Z2 f xv->Le f d)/\∀b o,h.own b=some o->blk xv≠some b->d.own b=some o/\blk a≠some b:=by
 obtain⟨g,z,l4,s,A⟩:=Tt l [rW,rW,rW]
 have hs:∀e,UA Tryz.prog e=3->agM Tryz.prog g e (.slice (some ⟨h.next,0,none⟩) 1 1)=some (1,[rW,rW,rW]):=fun e B=>CS.src B (CS.own (k:=3) (off:=0) (n:=1) (cap:=1) A Ma)
 obtain⟨a,d,m,K,q⟩:=GS.append (P:=Tryz.prog) (t:=75) (xt:=75) (k:=3) Ji (P.sl.le l4) hs P.one rfl rfl NH;have C:=xr s m;have w:∀b o,h.own b=some o->blk xv≠some b->d.own b=some o/\blk a≠some b:=fun b o D hb=>aG q s (l4.own _ _ D) hb;refine⟨a,g,d,by rw[mkPc,z],m,?_,C,l4,(by grind[Le.trans]),w⟩;have E:=P.sep.app (h':=d) (i:=0) (u:=xv) (u':=a) rfl (by grind[Le.trans]) w (by grind[GS.Sy]);have F:Sep b0 d (a::(vs++[rW,rW])):=by have:=(Sep.snoc E (v:=rW) rfl).snoc (v:=rW) rfl;grind
 have x:agJ (vs++[rW,rW]) (ps++[([],[])]).length=agJ vs ps.length++[rW,rW,rW]:=by
  rw[eR,qH,agJ];congr 1
  .grind[aA]
  .rw[<-P.len,K4,K4,Og (qL0 _),Og NH];simp
 refine⟨F,by grind[Wq.len],pw,fun i p y=>?_,uZ m P.cu⟩;by_cases c:i<ps.length
 .rw[kc c]at y;have L:=P.len;obtain⟨G,H⟩:=P.ge i p y;have r:∀j,j<vs.length->(vs++[rW,rW]).getD j rW=vs.getD j rW:=pw;rw[r _ NH,r _ NH];have nb:∀j,j<vs.length->∀b,blk (vs.getD j rW)=some b->blk xv≠some b:=fun j I b hb=>P.sep.TE (j+1) 0 _ _ b NH (u6 P I) rfl hb;exact⟨GS.kept G pw,GS.kept H pw⟩
 .have M:(vs++[rW,rW]).getD (2*ps.length) rW=rW:=by grind[Wq.len]
  have r:(vs++[rW,rW]).getD (2*ps.length+1) rW=rW:=by rw[<-P.len,K4,Og NH,acN];rfl
  grind[GP.nil,GI.nil]
end
theorem GS.stor{P:Program}{h:aae}{k m:Nat}{v x:Value}{cs:List Value}{t:TypeId}{d:TypeDesc}(g:GS k h v m cs)(a:WF h)(q:P.underlying t=some d)(hs:UA P t=1){i:Nat}(hi:i<m*k)(r:x.cells=#[x])(s:x.oneCell'=true):
  ∃h',acs P h t (.pointer (some (abv v i))) x=some h'/\GS k h' v m (cs.set i x)/\WF h'/\(∀f,Le f h->Z2 f v->Le f h')/\∀b o,h.own b=some o->blk v≠some b->h'.own b=some o:=by
 obtain⟨u,⟨rfl,rfl⟩|⟨id,c,cap,rfl,j,w,l⟩⟩:=g
 .omega
 .refine⟨h.put id (.cells (c.set i x)),?_,⟨pw,.inr ⟨id,c.set i x,cap,rfl,aae.Y3 _ _ _,?_,l⟩⟩,a.put _ (a.lt j),fun f n af=>n.put _ (af id rfl),fun b o hb p=>?_⟩
  .grind[fA,Ip.eq_1,QB]
  .grind[List.take_set]
  .rw[aae.By _ _ _ _ (fun e=>p (by rw[e];rfl))];exact hb
def xO.cell{v:Value}{n:Nat}(h:xO v n):v.cells=#[v]:=by obtain⟨_,_,rfl,_⟩:=h;rfl
def GS.ad3{h:aae}{v:Value}{cs:List Value}{m:Nat}(g:GS 3 h v m cs){k:Nat}(d:k<m):abX Tryz.prog 75 v (.int .i64 (k:Int))=some (.pointer (some (abv v (k*3)))):=by obtain⟨a,c,rfl,hs⟩:=g.cs.sl;obtain⟨a,rfl⟩:=EP.1 (hs NH);have b:(k:Int)<(m:Int):=NH;simp[abX,adW,qS19,b,dD,abv]
theorem eA3{h:aae}{v:Value}{cs:List Value}{m:Nat}(g:GS 3 h v m cs){k r:Nat}(b:k<m):Ip (abv v (k*3)) r=abv v (k*3+r):=by obtain⟨a,c,rfl,hs⟩:=g.cs.sl;grind[Option.isSome_iff_exists,fA,Ub]
section
variable{b0 h h2:aae}{xv:Value}{vs:List Value}{ps:List (List Pr×RZ)}
def Wq.ldE(P:Wq b0 h xv vs ps){k:Nat}(a:k<ps.length):acd Tryz.prog h 22 (abv xv (k*3))=some (vs.getD (2*k) rW):=by rw[Bj eY rfl];exact P.sl.cs.get _ _ (aY vs ps.length a).1
def Wq.ldF(P:Wq b0 h xv vs ps){k:Nat}(a:k<ps.length):acd Tryz.prog h 49 (abv xv (k*3+1))=some (vs.getD (2*k+1) rW):=by rw[Bj Mb rfl];exact P.sl.cs.get _ _ (aY vs ps.length a).2.1
def Wq.len_(P:Wq b0 h xv vs ps)(g:aae):ahz Tryz.prog g 75 xv=some (.int .i64 (ps.length:Nat)):=by obtain⟨a,c,rfl,_⟩:=P.sl.cs.sl;exact Jg adW g
theorem Wq.setR(P:Wq b0 h xv vs ps){t:TypeId}{d:TypeDesc}(G:Tryz.prog.underlying t=some d)(z:UA Tryz.prog t=1){k r:Nat}(H:k<ps.length)(R:r<2){u':Value}{pk:List Pr×RZ}(A:WF h2)(hf:∀f,Le f h->Z2 f (vs.getD (2*k+r) rW)->Le f h2/\Z2 f u')(s:∀b o,h.own b=some o->blk (vs.getD (2*k+r) rW)≠some b->h2.own b=some o/\blk u'≠some b)(a:(r=0/\GP h2 u' pk.1/\∃l,ps[k]?=some (l,pk.2))\/(r=1/\GI h2 u' pk.2/\∃f,ps[k]?=some (pk.1,f))):
  ∃h3,acs Tryz.prog h2 t (.pointer (some (abv xv (k*3+r)))) u'=some h3/\Wq b0 h3 xv (vs.set (2*k+r) u') (ps.set k pk)/\WF h3/\(∀f,Le f h->Z2 f (vs.getD (2*k+r) rW)->Z2 f xv->Le f h3)/\∀b o,h.own b=some o->(∀u∈xv::vs,blk u≠some b)->h3.own b=some o:=by
 have S:=P.len;have n:2*k+r<vs.length:=NH
 have v:xO u' (if r=0 then pk.1.length else pk.2.length):=by
  rcases a with⟨e,g,_⟩|⟨e,g,_⟩
  .rw[AE e];exact g.pr.sl
  .rw[aal NH];exact g.rl.sl
 have I:∀b,blk u'=some b->h2.own b≠none:=fun b hb=>by
  rcases a with⟨_,g,_⟩|⟨_,g,_⟩
  .exact GS.Sy g hb
  .exact GS.Sy g hb
 have dx:∀b,blk xv=some b->blk (vs.getD (2*k+r) rW)≠some b:=fun b hb=>P.sep.TE 0 _ _ _ b NH rfl (u6 P n) hb;have B:GS 3 h2 xv ps.length (agJ vs ps.length):=GS.kept P.sl pw;obtain⟨h3,J,T,K,L,M⟩:=GS.stor B A (x:=u') G z (i:=k*3+r) NH v.cell v.one;have N:∀b,blk xv=some b->blk u'≠some b:=fun b hb=>by obtain⟨o,E⟩:=iy.1 (P.sep.own 0 xv b rfl hb);grind
 refine⟨h3,J,?_,K,pw,pw⟩;have C:=P.sep.app (u6 P n) hf s I;have O:Sep b0 h3 (xv::vs.set (2*k+r) u'):=C.kept (L b0 C.le (C.ap 0 xv rfl)) (by grind[GS.Sy]);refine⟨O,pw,by grind[Yv],fun i p c=>?_,P.cu⟩;have keep:∀j,j<vs.length->j≠2*k+r->∀b o,blk (vs.getD j rW)=some b->h.own b=some o->h3.own b=some o:=fun j F Q b o hb E=>M b o (s b o E (P.sep.TE (j+1) (2*k+r+1) _ _ b NH (u6 P F) (u6 P n) hb)).1 (P.sep.TE (j+1) 0 _ _ b NH (u6 P F) rfl hb);have same:∀j,j≠2*k+r->(vs.set (2*k+r) u').getD j rW=vs.getD j rW:=pw;have m:(vs.set (2*k+r) u').getD (2*k+r) rW=u':=pw;have D:∀b o,blk u'=some b->h2.own b=some o->h3.own b=some o:=pw;rw[VU]at c;by_cases e:k=i
 .subst e;simp only[if_true,H]at c;injection c with c;subst c;rcases a with⟨e,g,l,q⟩|⟨e,g,l,q⟩
  .subst e;obtain⟨w,y⟩:=P.ge k _ q;have n0:=m;rw[Qn]at n0;rw[Qn,n0];have s1:=same (2*k+1) NH;rw[Qn]at s1;rw[s1];exact⟨GS.kept g pw,GS.kept y pw⟩
  .subst e;obtain⟨w,y⟩:=P.ge k _ q;rw[m,same (2*k) NH];exact⟨GS.kept w pw,GS.kept g pw⟩
 .rw[aal e]at c;have hi:=(Ny.1 c).1;obtain⟨w,y⟩:=P.ge i p c;rw[same (2*i) NH,same (2*i+1) NH];exact⟨GS.kept w pw,GS.kept y pw⟩
end
def Cls(n:Nat)(on:Nat->Bool)(es:List Pr)(ρ:Nat->Nat):Prop:=∀u w,u<n->w<n->on u=false->on w=false->(ρ u=ρ w↔Cn on es u w)
section
variable{n:Nat}{on:Nat->Bool}{es:List Pr}{ρ d:Nat->Nat}
theorem Cn.mono{es b:List Pr}(h:∀e∈es,e∈b){u w:Nat}(c:Cn on es u w):Cn on b u w:=by
 induction c with
 |refl o=>exact .refl o
 |step _ a o f=>exact .step f (a.imp (h _) (h _)) o
def cls_nil:Cls n on [] id:=fun u w _ _ b _=>by
 constructor
 .intro h;subst h;exact .refl b
 .intro h;cases h with
  |refl=>rfl
  |step _ a _=>rcases a with a|a<;>cases a
theorem bD{p:Pr}(C:Cls n on es ρ)(hR:0<=p.1/\0<=p.2)(h:on p.1.toNat=true\/on p.2.toNat=true):Cls n on (es++[p]) ρ:=fun u w e hw f b=>by
 rw[C u w e hw f b];refine⟨by grind[Cn.mono],fun c=>?_⟩;clear hw b
 induction c with
 |refl o=>exact .refl o
 |@step x y c1 a o g=>
  refine .step g ?_ o;have ox:=c1.off2;rcases a with a|a
  .rcases yM.1 a with a|a
   .exact .inl a
   grind
  .rcases yM.1 a with a|a
   .exact .inr a
   grind
theorem cls_join{a b:Nat}(C:Cls n on es ρ)(hR:InR n (es++[((a:Int),(b:Int))]))(k:on a=false)(l:on b=false):Cls n on (es++[((a:Int),(b:Int))]) (mW ρ (ρ a) (ρ b)):=fun u w o hw p q=>by
 have r:=hR _ (BR _ (jf.2 rfl));have sub:∀{x y},Cn on es x y->Cn on (es++[((a:Int),(b:Int))]) x y:=by grind[Cn.mono]
 have m:Cn on (es++[((a:Int),(b:Int))]) a b:=.step (.refl k) (.inl (by grind[List.mem_singleton])) l;have up:∀x,x<n->on x=false->∀y,y<n->on y=false->ρ x=ρ y->Cn on (es++[((a:Int),(b:Int))]) x y:=fun x g ox y i f e=>sub ((C x y g i ox f).1 e);have j:∀x,x<n->on x=false->∃y,y<n/\on y=false/\Cn on (es++[((a:Int),(b:Int))]) x y/\mW ρ (ρ a) (ρ b) x=ρ y:=by grind[mW,Cn.trans]
 constructor
 .grind[Cn.trans,Cn.symm]
 .intro c;have key:∀{x y},x<n->y<n->on x=false->on y=false->Jp (es++[((a:Int),(b:Int))]) x y->mW ρ (ρ a) (ρ b) x=mW ρ (ρ a) (ρ b) y:=fun{x y} g i ox f h=>by
   have qi:Jp es x y->mW ρ (ρ a) (ρ b) x=mW ρ (ρ a) (ρ b) y:=fun h=>by have:=(C x y g i ox f).2 (.step (.refl ox) h f);unfold mW;rw[this]
   have new:∀{x y:Nat},(((x:Int),(y:Int)):Pr)=((a:Int),(b:Int))->mW ρ (ρ a) (ρ b) x=mW ρ (ρ a) (ρ b) y:=fun{x y} e=>by injection e with s t;obtain rfl:x=a:=NH;obtain rfl:y=b:=NH;unfold mW;grind
   rcases h with h|h
   .rcases yM.1 h with h|h
    .exact qi (.inl h)
    grind
   .rcases yM.1 h with h|h
    .exact qi (.inr h)
    grind
  have lt:∀{x y},Jp (es++[((a:Int),(b:Int))]) x y->x<n/\y<n:=fun h=>h.lt hR
  induction c<;>grind[Cn.off2]
end
def hdL(n i:Nat):RZ:=(List.range n).map fun v=>if v<i then(v:Int)else 0
theorem hdL_len(n i:Nat):(hdL n i).length=n:=by simp[hdL]
theorem hdL_zero(n:Nat):hdL n 0=List.replicate n 0:=by apply mJ;grind[hdL]
theorem hdL_set{n i:Nat}(hi:i<n):(hdL n i).set i (i:Int)=hdL n (i+1):=by apply mJ;grind[hdL]
theorem hdL_all(n:Nat):hdL n n=(List.range n).map fun(v:Nat)=>(v:Int):=by grind[hdL,List.map_congr_left]
noncomputable abbrev Gu(n:Nat)(on:Nat->Bool)(es:List Pr)(v:Nat):Int:=(MF n on es).getD v 0
noncomputable abbrev frL(n:Nat)(on:Nat->Bool)(es:List Pr):Pr->Nat->Int:=Zo n on (MF n on es)
def qT(on:Nat->Bool)(gs:List Gr):List (List Pr×RZ):=gs.map fun g=>(g.2,kZ (BY on g.2))
structure AtP (n:Nat) (on:Nat->Bool) (es:List Pr) (ρ:Nat->Nat) (gs:List Gr) (A:RZ):Prop where
 len:A.length=n
 val:∀v,v<n->on v=false->(∃(k:Nat)(l:List Pr),A[ρ v]?=some (k:Int)/\gs[k]?=some (Gu n on es v,l))\/(A[ρ v]?=some (-1)/\Gu n on es v∉Ea gs)
section
variable{n:Nat}{on:Nat->Bool}{es:List Pr}{ρ:Nat->Nat}{A:RZ}
theorem pH{v:Nat}(a:v<n)(b:on v=false):∃k:Nat,k<n/\Gu n on es v=(k:Int):=by grind[uY,wx.off]
theorem akK{u w:Nat}(a:u<n)(hw:w<n)(b:on u=false)(c:on w=false):Gu n on es u=Gu n on es w↔Cn on es u w:=M9 uY a hw b c
theorem AtP.zero(F:∀v,v<n->ρ v<n):AtP n on es ρ [] (List.replicate n (-1)):=⟨Ma,(by grind[Ea])⟩
theorem AtP.qi{gs:List Gr}(T:AtP n on es ρ gs A)(b:(Ea gs).Nodup){v k:Nat}{l:List Pr}(c:gs[k]?=some (Gu n on es v,l))(p:Pr):agN gs (Gu n on es v) p=gs.set k (Gu n on es v,l++[p])/\AtP n on es ρ (gs.set k (Gu n on es v,l++[p])) A:=by
 have e:agN gs (Gu n on es v) p=gs.set k (Gu n on es v,l++[p]):=by
  rcases Ga (Gu n on es v) gs (gs.map fun _=>rW) 0 Ma with⟨a,_⟩|⟨j,l',u,a,_,_,_,h⟩
  .exact absurd (N8.2 ⟨_,BS c,rfl⟩) a
  .have i:j=k:=by
    refine QN b (x:=Gu n on es v) ?_ ?_
    all_goals grind[Ea]
   grind
 refine⟨e,T.len,fun w hw f=>?_⟩;have g:Ea (gs.set k (Gu n on es v,l++[p]))=Ea gs:=by unfold Ea;apply mJ;grind
 rcases T.val w hw f with⟨j,l',a,h2⟩|⟨a,h2⟩
 .grind
 grind
def V4{gs:List Gr}{f:Int}(h:f∉Ea gs)(p:Pr):agN gs f p=gs++[(f,[p])]:=by
 rcases Ga f gs (gs.map fun _=>rW) 0 Ma with⟨_,_,_,a⟩|⟨j,l',u,b,_⟩
 .exact a p
 .exact absurd (N8.2 ⟨_,BS b,rfl⟩) h
theorem AtP.new{gs:List Gr}(C:Cls n on es ρ)(F:∀v,v<n->ρ v<n)(T:AtP n on es ρ gs A){v:Nat}(b:v<n)(e:on v=false)(h:Gu n on es v∉Ea gs)(p:Pr):AtP n on es ρ (gs++[(Gu n on es v,[p])]) (A.set (ρ v) (gs.length:Int)):=by
 refine⟨by grind[AtP.len],fun w hw a=>?_⟩;have hA:ρ v<A.length:=by grind[AtP.len]
 by_cases c:ρ v=ρ w
 .have el:Gu n on es v=Gu n on es w:=(akK b hw e a).2 ((C v w b hw e a).1 c);grind
 .rw[VU,aal c];rcases T.val w hw a with⟨j,l',f,h2⟩|⟨f,h2⟩
  .grind
  .refine .inr ⟨f,?_⟩;have:Ea (gs++[(Gu n on es v,[p])])=Ea gs++[Gu n on es v]:=by simp[Ea]
   rw[this,yM,jf];rintro(q|q)
   .exact h2 q
   .exact c ((C v w b hw e a).2 (by grind[akK]))
theorem AtP.lone{gs:List Gr}(T:AtP n on es ρ gs A){f:Int}(hf:(n:Int)<=f)(p:Pr):AtP n on es ρ (gs++[(f,[p])]) A:=by
 refine⟨T.len,fun w hw a=>?_⟩;rcases T.val w hw a with⟨j,l',b,h2⟩|⟨b,h2⟩
 .grind
 .refine .inr ⟨b,?_⟩;have:Ea (gs++[(f,[p])])=Ea gs++[f]:=by simp[Ea]
  rw[this,yM,jf];rintro(q|q)
  .exact h2 q
  .obtain⟨k,c,e⟩:=pH (es:=es) hw a;omega
theorem lone_new(hR:InR n es){i:Nat}:((n:Int)+i)∉Ea (ac3 (frL n on es) es [] i):=fun c=>by
 obtain⟨j,q,p,f,_,e⟩:=(keys_mem _ _ _ _ _).1 c;obtain⟨a,b,rfl,g,hb⟩:=jB hR (BS f);unfold frL Zo at e;split at e
 .rename_i h;obtain⟨k,l,m⟩:=pH (n:=n) (es:=es) pw h;grind
 .split at e
  .rename_i o;obtain⟨k,l,m⟩:=pH (n:=n) (es:=es) hb o;grind
  .omega
def Xe(gs:List Gr)(f:Int)(p:Pr):qT on (gs++[(f,[p])])=qT on gs++[([p],kZ (ftP on p))]:=by simp[qT,BY]
def ps_old(gs:List Gr)(k:Nat)(f:Int)(l:List Pr):qT on (gs.set k (f,l))=(qT on gs).set k (l,kZ (BY on l)):=by simp[qT,adH]
theorem KS(l:List Pr)(p:Pr):kZ (BY on (l++[p]))=(ftP on p).foldl Uo (kZ (BY on l)):=by grind[kZ,BY]
end
end
end Go.Fw
