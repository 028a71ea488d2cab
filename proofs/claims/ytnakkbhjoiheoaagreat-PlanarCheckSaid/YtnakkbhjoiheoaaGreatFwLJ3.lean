/- A text. -/
import Derived.Test.YtnakkbhjoiheoaaGreatFwLF13
set_option linter.all false
set_option maxRecDepth 99999
set_option maxHeartbeats 9999999
open Go.Proofs
open Option renaming some→Z,none→Y
open Bool renaming true→tT,false→fF
open List renaming replicate→rP
open Go.Value renaming slice→sL,pointer→pT
open Go renaming Value→vV
open Go.Proofs.Tryz renaming prog→pG
open Go.Proofs.Tryz
namespace Go.Fw
section
attribute [local irreducible] Kp MQ lU KO1 KO KN KX KE VK Kl ZJ TC aab
def sf0(a:Addr):aca pG 129 (pT (Z a)) 0=Z (pT (Z (Ip a 0))):=rfl
def sf1(a:Addr):aca pG 129 (pT (Z a)) 1=Z (pT (Z (Ip a 1))):=rfl
def sf2(a:Addr):aca pG 129 (pT (Z a)) 2=Z (pT (Z (Ip a 2))):=rfl
def sf4(a:Addr):aca pG 129 (pT (Z a)) 4=Z (pT (Z (Ip a 4))):=rfl
structure Sr (h:aai) (B:Nat) (n:Nat) (bv ov fv iv lv:vV):Prop where
 o:h.own B=Z (.cells [n,bv,ov,fv,iv,lv])
section
variable{h:aai}{B n:Nat}{bv ov fv iv lv:vV}
theorem Sr.le{h':aai}(s:Sr h B n bv ov fv iv lv)(e:Le h h'):Sr h' B n bv ov fv iv lv:=⟨e.own _ _ s.o⟩
def Sr.l0(s:Sr h B n bv ov fv iv lv):aaC pG h 3 ⟨B,0,Y⟩=Z (.int .i64 n):=by rw[Fq Ac rfl s.o];rfl
def Sr.l1(s:Sr h B n bv ov fv iv lv):aaC pG h 25 ⟨B,1,Y⟩=Z bv:=by rw[Fq qS6 rfl s.o];rfl
def Sr.l2(s:Sr h B n bv ov fv iv lv):aaC pG h 41 ⟨B,2,Y⟩=Z ov:=by rw[Fq Uh rfl s.o];rfl
def Sr.l3(s:Sr h B n bv ov fv iv lv):aaC pG h 25 ⟨B,3,Y⟩=Z fv:=by rw[Fq qS6 rfl s.o];rfl
def Sr.l4(s:Sr h B n bv ov fv iv lv):aaC pG h 126 ⟨B,4,Y⟩=Z iv:=by rw[Fq qS28 rfl s.o];rfl
def Sr.l5(s:Sr h B n bv ov fv iv lv):aaC pG h 127 ⟨B,5,Y⟩=Z lv:=by rw[Fq zL rfl s.o];rfl
end
theorem qc(n:Nat)(f:II):(eJ n f).length=n:=by simp[eJ]
theorem NN{n v:Nat}(f:II)(a:v<n):(eJ n f)[v]?=Z (decide (v∈f)):=by grind[eJ]
theorem stand_nil(n:Nat):eJ n []=rP n fF:=by apply wI;grind[NN,qc]
theorem afr{n v:Nat}(f:II)(a:v<n):eJ n (f++[v])=(eJ n f).set v tT:=by apply wI;grind[NN,qc]
theorem bJ(q:LA)(B n:Nat)(bv ov fv iv lv v:vV)(f:II)(h:aai)(hs:Sr h B n bv ov fv iv lv)(e:RL RP h v (kz f))(hf:∀x∈f,x<n)(r:n<=1000)(A:f.length<=1000):
  AC pG q 158 [pT (Z B),v] h fun x h'=>GS 1 h' x n (Bo (eJ n f))/\Le h h'/\Z2 h x:=by
 refine AC.vE ⟨func158,rfl,WY⟩ ntmps158 results158 fun c=>?_;simp only[Br,seval];obtain⟨s,u,l1,w1,w⟩:=Tt c (rP n (.bool fF));have mk:=mk100 h n r;rw[u]at mk;have hlen:(kz f).length=f.length:=y6 f;have o:=fun g=>e.DH g;rw[hlen]at o;simp only[HO,seval,sf0,Ip,Gc,hs.l0,mk,o]
 have nT:h.own h.next=Y:=(Le.refl h).next c (qL0 _)
 generalize h.next=T at*
 have y:s.own T=Z (.cells (Bo (eJ n (f.take 0)))):=by rw[w,agT,stand_nil];simp[Bo]
 refine lIn (fun k fr d=>∃i:Nat,k=f.length-i/\i<=f.length/\fr=mkF [(5,sL (Z T) n n),(13,v),(14,(f.length:Nat)),(15,(i:Nat))]/\d.own T=Z (.cells (Bo (eJ n (f.take i))))/\Le h d) ⟨0,rfl,abe _,rfl,y,l1⟩ ?_;rintro k fr d z ⟨i,rfl,hi,rfl,oT,leq⟩;refine sSs ?_;refine Kl.intro (fun p=>?_) (fun hf=>?_)
 .have a:i<f.length:=CC p;clear p;have ad:=e.TA i NH;have ld:=(e.le Nn.RP leq).Uc i NH;rw[sY a]at ld;have j:f.take (i+1)=f.take i++[f[i]]:=EL a;have l:=hf f[i] (aev a);generalize f[i]=x at*;have ix:aao pG 41 (sL (Z T) n n) (.int .i64 (x:Int))=Z (pT (Z ⟨T,x,Y⟩)):=by rw[Wc Uh AV Ji x l];simp[Ip]
  have st:aaK pG d 4 (pT (Z ⟨T,x,Y⟩)) (.bool tT)=Z (d.put T (.cells (Bo (eJ n (f.take (i+1)))))):=by rw[QB (P:=pG) (t:=4) (x:=.bool tT) AV Ji oT (off:=x) (by rw[O2,qc];exact l) rfl rfl,Tr,j,afr _ l]
  simp only[HO,seval,ad,ld,ix,st,aaa i NH];exact lgA NH ⟨i+1,rfl,a,rfl,aai.Y3 _ _ _,leq.put _ nT⟩
 .have m:f.length<=i:=vp hf;rw[HV m]at oT;refine sSs ?_;refine⟨GS.full oT (by grind[O2,qc]) NH,leq,fun b hb=>by grind[blk]⟩
theorem QQ(j:LA)(lv:vV)(xs:RZ)(P:Int->Bool)(F:FuncId){fn:Func}{c:Code}(b:Good pG F fn c)(cap:xLV)(h:aai)(d:RL RP h lv xs)(u:xs.length<=100000)(hf:∀x∈xs,AC pG j F (.int .i64 x::cap) h fun y h'=>y=.bool (P x)/\h'=h):
  AC pG j 178 [lv,.func (.func F) #[] cap.toArray] h fun x h'=>((x=.int .i64 (-1)/\xs.any P=fF)\/∃i:Nat,x=(i:Nat)/\xs.any P=tT)/\h'=h:=by
 refine AC.vE ⟨func178,rfl,WY⟩ ntmps178 results178 fun o=>?_;simp only[Br,seval];have p:=fun g=>d.DH g;refine sFa p ?_;refine lIn (fun k fr l=>∃i:Nat,k=xs.length-i/\i<=xs.length/\fr=mkF [(0,lv),(1,.func (.func F) #[] cap.toArray),(7,(xs.length:Nat)),(8,(i:Nat))]/\l=h/\(xs.take i).any P=fF) ⟨0,rfl,abe _,rfl,rfl,rfl⟩ ?_;rintro k fr l q ⟨i,rfl,hi,rfl,rfl,e⟩;refine sSs ?_;refine Kl.intro (fun m=>?_) (fun hf=>?_)
 .have a:i<xs.length:=CC m;clear m;have ad:=d.TA i a;have ld:=d.Uc i a;have r:xs.take (i+1)=xs.take i++[xs[i]]:=EL a;have s:=aev a;have t:=hf xs[i] s;generalize xs[i]=x at*;simp only[HO,seval,ad,ld];refine TC.intro PJ b (by simpa using t) ?_;rintro y h2 w2 ⟨rfl,rfl⟩;cases v:P x with
  |true=>refine sSs ?_;grind
  |false=>refine sFa (aaa i NH) ?_;refine lgA NH ⟨i+1,rfl,a,rfl,rfl,?_⟩;grind
 .have f:xs.length<=i:=vp hf;rw[HV f]at e;refine sSs ?_;grind
theorem xN(b:LA)(lv:vV)(xs:RZ)(P:Int->Bool)(F:FuncId){fn:Func}{c:Code}(a:Good pG F fn c)(cap:xLV)(h:aai)(f:RL RP h lv xs)(g:xs.length<=100000)(hf:∀x∈xs,AC pG b F (.int .i64 x::cap) h fun y h'=>y=.bool (P x)/\h'=h):
  AC pG b 164 [lv,.func (.func F) #[] cap.toArray] h fun x h'=>x=.bool (xs.any P)/\h'=h:=by
 refine AC.vE ⟨func164,rfl,WY⟩ ntmps164 results164 fun j=>?_;simp only[Br,seval];refine sSs ?_;refine kCi func178 (QQ b lv xs P F a cap h f g hf) ?_;rintro x h2 w2 ⟨⟨rfl,e⟩|⟨i,rfl,e⟩,rfl⟩
 .have d:decide ((-1:Int)>=0)=fF:=by decide
  refine sFa (XC d e) ?_;grind
 .have d:decide ((i:Int)>=0)=tT:=qL7 NH;refine sFa (XC d e) ?_;grind
attribute [local instance] Classical.propDecidable
variable {h:aai}
theorem out_any(l:LA)(B n f d e v:Nat)(bv m o j p:vV)(F:Cs)(h:aai)(hs:Sr h B n bv m o j p)(hi:RL (RL sJ) h j (F.map (eJ n)))(hf:f<F.length)(q:v<n)(r:h.own e=Z (.cells [pT (Z B)]))(s:h.own d=Z (.cells [f])):
  AC pG l 163 [v,pT (Z e),pT (Z d)] h fun x h'=>x=.bool (!decide (v∈F.getD f []))/\h'=h:=by
 refine AC.vE ⟨func163,rfl,WY⟩ ntmps163 results163 fun t=>?_;simp only[Br,seval];have a:f<(F.map (eJ n)).length:=hGr;have l3:aaC pG h 124 ⟨e,0,Y⟩=Z (pT (Z B)):=by rw[Fq underlying124 rfl r];rfl
 have w:aaC pG h 3 ⟨d,0,Y⟩=Z (.int .i64 (f:Int)):=by rw[Fq Ac rfl s];rfl
 have ad:=hi.addr (P:=pG) qS28 Uh Ji (k:=.i64) f a;obtain⟨u,lu,g⟩:=hi.load (P:=pG) Uh rfl f a;have y:(F.map (eJ n))[f]=eJ n (F.getD f []):=hGr;rw[y]at g;have b:v<(eJ n (F.getD f [])).length:=by grind[qc]
 have i:=g.LB (k:=.i64) v b;have c:=g.W7 v b;have z:(eJ n (F.getD f []))[v]=decide (v∈F.getD f []):=by have:=NN (F.getD f []) q;grind
 rw[z]at c;refine sSs ?_;refine gh (tA [0,1,2,3,4,5,6,7,8,9,10,11] .done) ?_;simp only[HO,seval,Qg,l3,w,sf4,Ip,Gc,hs.l4,ad,lu,i,c]
 try exact⟨trivial,trivial⟩
theorem box72(x:vV)(a:x.oneCell'=tT)(b:x.cells=#[x]):zF h x=Z (pT (Z h.next),h.alloc (.cells [x])):=by grind[zF,IF]
theorem allocI(h:aai):abO pG h 3=Z (pT (Z h.next),h.alloc (.cells [.int .i64 0])):=rfl
theorem newI(hw:WF h)(x:Int):∃a h2,abO pG h 3=Z (pT (Z h.next),a)/\aaK pG a 3 (pT (Z h.next)) x=Z h2/\Le h h2/\WF h2/\h2.own h.next=Z (.cells [x]):=by
 obtain⟨a,c,l1,w1,b⟩:=Tt hw [.int .i64 0]
 have d:h.own h.next=Y:=(Le.refl h).next hw (qL0 _)
 have st:=QB (P:=pG) (t:=3) (x:=x) Ac Ji b (off:=0) Ma rfl rfl;grind[allocI,Le.put,WF.put,WF.lt,aai.Y3]
theorem NR(p:LA)(B n:Nat)(bv M N q O o r:vV)(F:Cs)(Fm:RZ)(a:II)(h:aai)(hs:Sr h B n bv M N q O)(hi:RL (RL sJ) h q (F.map (eJ n)))(U:RL RP h o Fm)(ha:RL RP h r (kz a))(s:∀x∈Fm,∃v:Nat,x=(v:Int)/\v<n)(t:∀f∈a,f<F.length)(V:Fm.length<=100000)(W:a.length<=100000):
  AC pG p 131 [pT (Z B),o,r] h fun x h'=>GI h' x (kz (zh F Fm a))/\Le h h'/\Z2 h x:=by
 refine AC.vE ⟨qS32,rfl,WY⟩ ntmps131 results131 fun u=>?_;simp only[Br,seval];obtain⟨w,X,l1,w1,o1⟩:=Tt u [pT (Z B)];have P:=box72 (h:=h) (pT (Z B)) rfl rfl;rw[X]at P;have z:(kz a).length=a.length:=y6 a;have Q:=fun g=>ha.DH g;rw[z]at Q
 generalize h.next=A at*
 refine sFa (XC P Q) ?_;refine lIn (fun k fr l=>∃(i:Nat)(m:vV),k=a.length-i/\i<=a.length/\fr=mkF [(1,o),(3,pT (Z A)),(7,m),(11,r),(12,(a.length:Nat)),(13,(i:Nat))]/\Le w l/\GI l m (kz (zh F Fm (a.take i)))/\Z2 w m) ⟨0,_,rfl,abe _,rfl,Le.refl _,GI.nil _,fun b hb=>by simp[blk]at hb⟩ ?_;rintro k fr l C ⟨i,m,rfl,aa,rfl,D,g,ap⟩;refine sSs ?_;refine Kl.intro (fun R=>?_) (fun hf=>?_)
 .have c:i<a.length:=CC R;clear R;have ad:=ha.TA i NH;have ld:=(ha.le Nn.RP (l1.trans D)).Uc i NH;rw[sY c]at ld;have ae:a.take (i+1)=a.take i++[a[i]]:=EL c;have E:=t a[i] (aev c);generalize a[i]=f at*;obtain⟨h2,h3,e2,e3,l3,w3,S⟩:=newI C (f:Int);have e:=D.trans l3;have j:=l1.trans e
  have G:aaC pG h3 3 ⟨l.next,0,Y⟩=Z (.int .i64 (f:Int)):=by rw[Fq Ac rfl S];rfl
  have key:=xN p o Fm (fun x=>!decide (x.toNat∈F.getD f [])) 163 ⟨func163,rfl,WY⟩ [pT (Z A),pT (Z ⟨l.next,0,Y⟩)] h3 (U.le Nn.RP j) V fun x H=>by
   obtain⟨v,rfl,hv⟩:=s x H
   have:=out_any p B n f l.next A v bv M N q O F h3 (hs.le j) (hi.le (Nn.RL Nn.sJ) j) E hv (e.own _ _ o1) S
   rw[Z6];exact this
  simp only[HO,seval,ad,ld,e2,e3];refine kCi func164 key ?_;rintro y h4 w4 ⟨rfl,rfl⟩
  have d:zh F Fm (a.take (i+1))=zh F Fm (a.take i)++if(Fm.any fun x=>!decide (x.toNat∈F.getD f []))=fF then[f]else[]:=by grind[zh,fitsB]
  cases hb:(Fm.any fun x=>!decide (x.toNat∈F.getD f []))with
  |true=>rw[hb]at d;refine sFa (aaa i NH) ?_;refine lgA NH ⟨i+1,m,rfl,c,rfl,e,?_,ap⟩;grind[GI.le]
  |false=>
   rw[hb,IE rfl]at d;have g3:=g.le l3;have I:(kz (zh F Fm (a.take i))).length<=100000:=by grind[y6,zh]
   obtain⟨J,h5,h6,e5,e6,T,w6,l5,K,-⟩:=g3.push w3 (f:Int) I;obtain⟨l6,a6⟩:=K w e ap;have e7:kz (zh F Fm (a.take i))++[(f:Int)]=kz (zh F Fm (a.take (i+1))):=by grind[kz]
   rw[e7]at T;refine sFa (ae7 G e5 e6 (aaa i NH)) ?_;exact lgA NH ⟨i+1,J,rfl,c,rfl,l6,T,a6⟩
 .have L:a.length<=i:=vp hf;rw[HV L]at g;refine sSs ?_;exact⟨g,l1.trans D,fun b hb=>l1.none (ap b hb)⟩
variable {a b:Int} {j m:Nat} {p:Pr} {pl:RZ} {α:Type}
theorem Qc{n:Nat}{way:II}(a:way.length<=1000):∀i,i<=way.length->∀(v:Nat) x,(KI n way i)[v]?=Z x->-1<=x/\x<=1000
 |0,_,v,x,h=>by grind[KI.eq_1]
 |i+1,hi,v,x,h=>by
  rw[KI,Tn]at h;split at h
  .grind
  .exact Qc a i NH v x h
theorem Zz(ha:pl.getD p.1.toNat 0=a)(hb:pl.getD p.2.toNat 0=b)(h:a<0\/b<0\/(a-b≠1/\b-a≠1)):aI pl p=tT:=by grind[aI]
theorem Gh(ha:pl.getD p.1.toNat 0=a)(hb:pl.getD p.2.toNat 0=b)(c:¬a<0)(h2:¬b<0)(h3:a-b=1\/b-a=1):aI pl p=fF:=by grind[aI]
def ID{x y:Int}(a:-1<=x/\x<=1000)(b:-1<=y/\y<=1000):aaY .i64 (x-y)=x-y:=ie _ NH NH
theorem fil_b{l:List α}(q:α->Bool)(h:l.length<=1000)(j:Nat):((l.take j).filter q).length+1<=100000:=hGr
theorem QJ(h:m<=1000):m<=40000:=NH
def Lb(h:j<m)(h2:m<=40000):j<4611686018427387904:=NH
theorem Bs(W0:LA)(B n:Nat)(bv ov fv iv lv ev P:vV)(zp:xLP)(way:II)(h:aai)(hs:Sr h B n bv ov fv iv lv)(Q:PR h ev zp)(hw:RL RP h P (kz way))(hR:aV n zp)(R:∀x∈way,x<n)(hn:n<=300)(z:zp.length<=1000)(hl:way.length<=1000):
  AC pG W0 136 [pT (Z B),ev,P] h fun x h'=>GP h' x (V8 n zp way)/\Le h h'/\Z2 h x:=by
 refine AC.vE ⟨func136,rfl,WY⟩ ntmps136 results136 fun S=>?_;simp only[Br,seval];obtain⟨h1,e1,l1,w1,o1⟩:=Tt S [.int .i64 (-1)];have s1:=hs.le l1;refine sFa (afN @DQ e1 @sf0 @Ip.eq_1 @Gc s1.l0) ?_;refine kCi akx (rN W0 _ n NH h1 (RL.Wh (RS.whole o1 rfl))) ?_;rintro x h2 w2 ⟨T,rfl,hT,o2,l2⟩
 have nT:h.own T=Y:=l1.next w1 hT
 have A:=l1.trans l2;have oT:h2.own T=Z (.cells (Bp (KI n way 0))):=by rw[o2];simp[Bp,KI]
 have hlen:(kz way).length=way.length:=y6 way;have ll:=fun g=>hw.DH g;rw[hlen]at ll;have r:=fun(k:IntKind) j hj=>Kx T n k j hj;refine sFa ll ?_;refine lIn (fun k fr U=>∃i:Nat,k=way.length-i/\i<=way.length/\fr=mkF [(1,ev),(7,sL (Z T) n n),(21,P),(22,(way.length:Nat)),(23,(i:Nat))]/\U.own T=Z (.cells (Bp (KI n way i)))/\Le h U) ⟨0,rfl,abe _,rfl,oT,A⟩ ?_;clear oT o2 l2 w2 A;rintro k fr U V ⟨i,rfl,hi,rfl,oT,M⟩;refine sSs ?_;refine Kl.intro (fun C=>?_) (fun hf=>?_)
 .have e:i<way.length:=CC C;clear C;have ad:=hw.TA i NH;have ld:=(hw.le Nn.RP M).Uc i NH;rw[sY e]at ld;have hx:=R way[i] (aev e);have W:way.getD i 0=way[i]:=D4 e;have st:=stI oT (i:=way[i]) (by grind[Ou]) (i:Int);simp only[HO,seval,ad,ld,r _ _ hx,st,aaa i (Lb e (QJ hl))];refine lgA (JS e) ⟨i+1,rfl,e,rfl,?_,M.put _ nT⟩;rw[aai.Y3,KI,W]
 have D:way.length<=i:=vp hf;obtain rfl:i=way.length:=NH;have rD:=Qc (n:=n) hl way.length (qL0 _);have aq:=Ou n way way.length;have X:=fun g=>Q.len g;unfold V8;generalize KI n way way.length=pl at*;refine sFa X ?_;refine lIn (fun k fr l=>∃(j:Nat)(m:vV),k=zp.length-j/\j<=zp.length/\fr=mkF [(7,sL (Z T) n n),(10,m),(33,ev),(34,(zp.length:Nat)),(35,(j:Nat))]/\l.own T=Z (.cells (Bp pl))/\Le h l/\GP l m ((zp.take j).filter (aI pl))/\Z2 h m/\blk m≠Z T) ⟨0,_,rfl,abe _,rfl,oT,M,GP.nil _,fun b hb=>by simp[blk]at hb,by simp[blk]⟩ ?_;clear oT M V;rintro k fr l F ⟨j,m,rfl,hj,rfl,oT,lz,g,ap,nb⟩;refine sSs ?_;refine Kl.intro (fun C=>?_) (fun hf=>?_)
 rotate_left
 .have D:zp.length<=j:=vp hf;rw[HV D]at g;refine sSs ?_;grind
 have c:j<zp.length:=CC C;clear C;have aa:=CA c;have ar:zp.take (j+1)=zp.take j++[zp[j]]:=EL c;obtain⟨p1,p2,p3⟩:=hR zp[j] (aev c);have ad:=Q.addr (k:=.i64) j c;have ld:=(Q.le lz).load aa;generalize zp[j]=p at*;obtain⟨h3,h4,e3,e4,l4,w4,o4⟩:=Ut F p
 have av:l.own l.next=Y:=(Le.refl l).next F (qL0 _)
 have G:=lz.trans l4;have f:=l4.own _ _ oT;have g4:=g.le l4;have Lp:=uM o4;have L0:=lK o4;have L1:=HY o4
 generalize l.next=E at*
 obtain⟨a,ea⟩:∃a:Nat,p.1=(a:Int):=⟨p.1.toNat,NH⟩;obtain⟨b,eb⟩:∃b:Nat,p.2=(b:Int):=⟨p.2.toNat,NH⟩;have ae:a<n:=NH;have ag:b<n:=NH;rw[ea]at L0;rw[eb]at L1;have ai:a<pl.length:=hGr;have aj:b<pl.length:=hGr;have hA:=CA ai;have hB:=CA aj;have rA:=rD a _ hA;have rB:=rD b _ hB;have H:pl.getD p.1.toNat 0=pl[a]:=hGr;have gB:pl.getD p.2.toNat 0=pl[b]:=hGr;have lA:=XP f hA;have lB:=XP f hB;generalize pl[a]=x at*;generalize pl[b]=y at*;have s:=ID rA rB;have I:=ID rB rA;have aw:=aaa j (Lb c (QJ z));have al:=fil_b (aI pl) z j
 have yes:aI pl p=tT->∃d u o,aas pG h4 22 1 [(0,UI p)]=Z (sL (Z h4.next) 1 1,u)/\aaR pG u 22 22 m (sL (Z h4.next) 1 1)=Z (d,o)/\o.own T=Z (.cells (Bp pl))/\Le h o/\GP o d ((zp.take (j+1)).filter (aI pl))/\Z2 h d/\blk d≠Z T:=fun q=>by obtain⟨d,u,o,v,w,g7,w7,l6,ay,az⟩:=g4.push w4 p al;grind
 have no:aI pl p=fF->(zp.take (j+1)).filter (aI pl)=(zp.take j).filter (aI pl):=fun q=>by grind
 simp only[HO,seval,ad,ld,e3,e4];refine gh (tA [0,1,2,3,4,5,6,7,8,9,10,11] .done) ?_;simp only[HO,seval,Qg,Dh,Z0,Ip,Gc,L0,L1,r _ a ae,r _ b ag,lA,lB];by_cases c1:x<0
 .obtain⟨d,u,o,v,w,r1,r2,J,K,L⟩:=yes (Zz H gB (.inl c1));simp only[HO,seval,c1,Lp,v,w,aw];exact lgA (JS c) ⟨j+1,d,rfl,c,rfl,r1,r2,J,K,L⟩
 by_cases c2:y<0
 .obtain⟨d,u,o,v,w,r1,r2,J,K,L⟩:=yes (Zz H gB (.inr (.inl c2)));simp only[HO,seval,c1,c2,Lp,v,w,aw];exact lgA (JS c) ⟨j+1,d,rfl,c,rfl,r1,r2,J,K,L⟩
 by_cases N:x-y=1
 .have t:=no (Gh H gB c1 c2 (.inl N));have d3:decide (x-y=1)=tT:=qL7 N;simp only[HO,seval,c1,c2,s,bne,d3,aw];exact lgA (JS c) ⟨j+1,m,rfl,c,rfl,f,G,by rw[t];exact g4,ap,nb⟩
 have d3:decide (x-y=1)=fF:=WA N;by_cases O:y-x=1
 .have t:=no (Gh H gB c1 c2 (.inr O));have d4:decide (y-x=1)=tT:=qL7 O;simp only[HO,seval,c1,c2,s,I,bne,d3,d4,aw];exact lgA (JS c) ⟨j+1,m,rfl,c,rfl,f,G,by rw[t];exact g4,ap,nb⟩
 have d4:decide (y-x=1)=fF:=WA O;obtain⟨d,u,o,v,w,r1,r2,J,K,L⟩:=yes (Zz H gB (.inr (.inr ⟨N,O⟩)));simp only[HO,seval,c1,c2,s,I,bne,d3,d4,Lp,v,w,aw];exact lgA (JS c) ⟨j+1,d,rfl,c,rfl,r1,r2,J,K,L⟩
def Hj(h:aai):abO pG h 28=Z (pT (Z h.next),h.alloc (.cells [.slice Y 0 0])):=rfl
structure LL (b0 h:aai) (S5 T6 M7 T n start:Nat) (mv:vV) (st:RZ×II):Prop where
 oS:h.own S5=Z (.cells [start])
 o6:h.own T6=Z (.cells [sL (Z T) n n])
 oT:h.own T=Z (.cells (Bp st.1))
 oM:h.own M7=Z (.cells [mv])
 gm:GI h mv (kz st.2)
 nS:b0.own S5=Y
 n6:b0.own T6=Y
 nT:b0.own T=Y
 nM:b0.own M7=Y
 am:Z2 b0 mv
 d1:T≠T6
 d2:T≠M7
 d3:T≠S5
 d4:M7≠S5
 d5:M7≠T6
 m1:blk mv≠Z S5
 m2:blk mv≠Z T6
 m3:blk mv≠Z T
 m4:blk mv≠Z M7
 le:Le b0 h
section
variable{b0 h:aai}{S5 T6 M7 T n start:Nat}{mv:vV}{st:RZ×II}
theorem LL.up{h':aai}(W:LL b0 h S5 T6 M7 T n start mv st)(e:Le h h'):LL b0 h' S5 T6 M7 T n start mv st:={W with oS:=e.own _ _ W.oS,o6:=e.own _ _ W.o6,oT:=e.own _ _ W.oT,oM:=e.own _ _ W.oM,gm:=W.gm.le e,le:=W.le.trans e}
def LL.lS(W:LL b0 h S5 T6 M7 T n start mv st):aaC pG h 3 ⟨S5,0,Y⟩=Z (.int .i64 (start:Int)):=by rw[Fq Ac rfl W.oS];rfl
def LL.l6(W:LL b0 h S5 T6 M7 T n start mv st):aaC pG h 28 ⟨T6,0,Y⟩=Z (sL (Z T) n n):=by rw[Fq Mb rfl W.o6];rfl
def LL.lM(W:LL b0 h S5 T6 M7 T n start mv st):aaC pG h 28 ⟨M7,0,Y⟩=Z mv:=by rw[Fq Mb rfl W.oM];rfl
end
theorem meet_yes{start:Nat}{st:RZ×II}{v by_:Nat}(h:v≠start)(h2:st.1.getD v 0<0):dt start st v by_=(st.1.set v (by_:Int),st.2++[v]):=by grind[dt]
theorem RF{start:Nat}{st:RZ×II}{v by_:Nat}(h:v=start\/¬st.1.getD v 0<0):dt start st v by_=st:=by grind[dt]
theorem K8(k:LA){b0 h:aai}{S5 T6 M7 T n start:Nat}{mv:vV}{st:RZ×II}(W:LL b0 h S5 T6 M7 T n start mv st)(w:st.1.length=n){v by_:Nat}(l:v<n)(y:st.2.length<=1000):
  AC pG k 165 [v,by_,pT (Z S5),pT (Z T6),pT (Z M7)] h fun _ h'=>∃d,LL b0 h' S5 T6 M7 T n start d (dt start st v by_):=by
 refine AC.vE ⟨qS40,rfl,WY⟩ ntmps165 results165 fun e=>?_;simp only[Br,seval];have m:=CA (show v<st.1.length by omega);have gd:st.1.getD v 0=st.1[v]'(by omega):=D4 NH
 have ix:=Kx T n .i64 v l;have ld:=XP W.oT m;generalize st.1[v]'(by omega)=x at*
 by_cases c1:v=start
 .have d1:decide ((v:Int)=(start:Int))=tT:=qL7 NH;refine sFa (adG W.lS @bne.eq_1.{0} d1) ?_
  grind[RF]
 have d1:decide ((v:Int)=(start:Int))=fF:=WA NH;by_cases c2:x<0
 rotate_left
 .simp only[HO,seval,W.lS,bne,d1,W.l6,ix,ld,c2];grind[RF]
 have st1:=stI W.oT (i:=v) NH (by_:Int);have b:LL b0 (h.put T (.cells (Bp (st.1.set v (by_:Int))))) S5 T6 M7 T n start mv (st.1.set v (by_:Int),st.2):=
  {W with
   oS:=by grind[aai.By,LL.d3,LL.oS]
   o6:=by grind[aai.By,LL.d1,LL.o6]
   oT:=aai.Y3 _ _ _
   oM:=by grind[aai.By,LL.d2,LL.oM]
   gm:=GS.put W.gm _ W.m3
   le:=W.le.put _ W.nT}
 have w1:WF (h.put T (.cells (Bp (st.1.set v (by_:Int))))):=e.put _ (e.lt W.oT);rw[meet_yes c1 hGr];simp only[HO,seval,W.lS,bne,d1,W.l6,ix,ld,c2,st1];generalize h.put T (.cells (Bp (st.1.set v (by_:Int))))=z at*;obtain⟨d,h2,h3,o,e3,f,A,l2,hf,g⟩:=b.gm.push w1 (v:Int) (by grind[y6]);obtain⟨l3,p⟩:=hf b0 b.le b.am;obtain⟨q,m1⟩:=g _ _ b.oS b.m1;obtain⟨r,m2⟩:=g _ _ b.o6 b.m2;obtain⟨s,m3⟩:=g _ _ b.oT b.m3;obtain⟨j,m4⟩:=g _ _ b.oM b.m4;have stM:=QB (P:=pG) (t:=28) (x:=d) Mb Ji j (off:=0) Ma (by obtain⟨a,c,rfl,_⟩:=f.rl.sl;rfl) f.rl.sl.one;simp only[HO,seval,b.lM,o,e3,stM];have u:kz st.2++[(v:Int)]=kz (st.2++[v]):=by simp[kz]
 rw[u]at f;exact⟨d,{b with
   oS:=by grind[aai.By,LL.d4]
   o6:=by grind[aai.By,LL.d5]
   oT:=by grind[aai.By,LL.d2]
   oM:=aai.Y3 _ _ _
   gm:=GS.put f _ m4
   am:=p,m1:=m1,m2:=m2,m3:=m3,m4:=m4
   le:=l3.put _ W.nM}⟩
variable {i n:Nat} {rows:AM}
def pf0(a:Addr):aca pG 168 (pT (Z a)) 0=Z (pT (Z (Ip a 0))):=rfl
def pf1(a:Addr):aca pG 168 (pT (Z a)) 1=Z (pT (Z (Ip a 1))):=rfl
def pf2(a:Addr):aca pG 168 (pT (Z a)) 2=Z (pT (Z (Ip a 2))):=rfl
theorem way_at{on:List Bool}{p:wW}{start i:Nat}(h2:¬p.Fm.length<2)(a:(p.Fm.headD 0).toNat=start)(hi:i<n+1)(b:∀j,j<i->XG rows on start (SL n start p.zp) j=fF)(hs:XG rows on start (SL n start p.zp) i=tT):
  J6 n rows on p=match(acz rows start (SL n start p.zp) i).2[i]? with
   |some v=>traceM (acz rows start (SL n start p.zp) i).1 start n v
   |none=>[]:=by grind[List.find?_range_eq_some,J6]
theorem headI0:∀{l:RZ}(h:0<l.length),l.headD 0=l[0]
 |_::_,_=>rfl
def sub_lt1(h:i<n):n+1-(i+1)<n+1-i:=NH
theorem TL(fr:RZ)(start:Nat):∀f,traceM fr start f start=[start]
 |0=>rfl
 |f+1=>by grind[traceM.eq_2]
abbrev TT1:Nat->Prop:=fun _=>True
abbrev TT2:Nat->Nat->Prop:=fun _ _=>True
def trc_k{k f:Nat}(h:k<f+1)(j:Nat)(a:j<k):j<f:=NH
theorem way_any(W0:LA)(B n:Nat)(bv ov fv iv lv ea fa ta:vV)(es:xLP)(on:List Bool)(p:wW)(h:aai)(hs:Sr h B n bv ov fv iv lv)(hb:RL (RL RP) h bv (Zh n es))(ho:RL sJ h ov on)(cR:on.length=n)(Q:PR h ea p.zp)(R:RL RP h fa p.Fm)(bZ:ta.oneCell'=tT)(hR:aV n es)(b0:aV n p.zp)(b1:∀x∈p.Fm,∃v:Nat,x=(v:Int)/\v<n)(hn:n<=300)(cU:es.length<=1000)(b2:p.zp.length<=1000)(cW:p.Fm.length<=1000):
  AC pG W0 132 [pT (Z B),.agg #[ea,fa,ta]] h fun x h'=>GI h' x (kz (J6 n (Zh n es) on p))/\Le h h'/\Z2 h x:=by
 refine AC.vE ⟨func132,rfl,WY⟩ ntmps132 results132 fun b3=>?_;simp only[Br,seval];obtain⟨S,e1,l1,w1,o1⟩:=Tt b3 [ea,fa,ta];have bx:=aBox3 (h:=h) (a:=ea) (b:=fa) (c:=ta) Q.sl.one R.one bZ;rw[e1]at bx
 have P0:∀g,Le S g->aaC pG g 22 ⟨h.next,0,Y⟩=Z ea/\aaC pG g 28 ⟨h.next,1,Y⟩=Z fa:=fun g lg=>by have o:=lg.own _ _ o1;exact⟨by rw[Fq eY rfl o];rfl,by rw[Fq Mb rfl o];rfl⟩
 generalize h.next=P at*
 have lf:=fun g=>R.DH g;by_cases c2:p.Fm.length<2
 .have d2:decide ((p.Fm.length:Int)<2)=tT:=qL7 NH;refine sFa (ahn bx @pf1 @Ip.eq_1 @Gc ((P0 S (Le.refl _)).2) lf @d2) ?_;have e:J6 n (Zh n es) on p=[]:=by grind[J6]
  rw[e];exact⟨GI.nil _,l1,fun b hb=>by grind[blk]⟩
 have d2:decide ((p.Fm.length:Int)<2)=fF:=WA NH;have f0:0<p.Fm.length:=NH;have aN:=R.TA 0 f0;have aP:=(R.le Nn.RP l1).Uc 0 f0;obtain⟨start,b4,cZ⟩:=b1 _ (aev f0);have aT:(p.Fm.headD 0).toNat=start:=by grind[headI0]
 rw[b4]at aP;obtain⟨h2,h3,e2,e3,l3,w3,o3⟩:=newI w1 (start:Int);simp only[aku]at aN;refine sFa (aga bx @pf1 @Ip.eq_1 @Gc ((P0 S (Le.refl _)).2) lf @d2 aN aP e2 e3) ?_
 have aW:h.own S.next=Y:=l1.next w1 (qL0 _)
 generalize S.next=m at*
 have ai:=l1.trans l3;obtain⟨h4,e4,l4,w4,o4⟩:=Tt w3 [.int .i64 (-1)];have s4:=hs.le (ai.trans l4);refine sFa (afN @DQ e4 @sf0 @Ip.eq_1 @Gc s4.l0) ?_;refine kCi akx (rN W0 _ n NH h4 (RL.Wh (RS.whole o4 rfl))) ?_;rintro x C w5 ⟨T,rfl,hT,o5,l5⟩;have U:=l4.trans l5;have aX:=ai.trans U
 have nT:h.own T=Y:=(ai.trans l4).next w4 hT
 have a6:C.own T=Z (.cells (Bp (rP n (-1)))):=by rw[o5];simp[Bp]
 have a7:=U.own _ _ o3;obtain⟨h6,e6,l6,w6,o6⟩:=Tt w5 [.slice Y 0 0]
 have n6:h.own C.next=Y:=aX.next w5 (qL0 _)
 have a8:T≠C.next:=fun e=>by have:=w5.lt a6;omega
 have b5:C.next≠m:=fun e=>by have:=w5.lt a7;omega
 have bb:=QB (P:=pG) (t:=28) (x:=sL (Z T) n n) Mb Ji o6 (off:=0) Ma rfl rfl;refine sFa (adG @Hj e6 bb) ?_
 have aj:Le h (h6.put C.next (.cells (([.slice Y 0 0]:xLV).set 0 (sL (Z T) n n)))):=(aX.trans l6).put _ n6
 have w7:WF (h6.put C.next (.cells (([.slice Y 0 0]:xLV).set 0 (sL (Z T) n n)))):=w6.put _ (w6.lt o6)
 have al:(h6.put C.next (.cells (([.slice Y 0 0]:xLV).set 0 (sL (Z T) n n)))).own T=Z (.cells (Bp (rP n (-1)))):=by grind[aai.By,Le.own]
 have aq:(h6.put C.next (.cells (([.slice Y 0 0]:xLV).set 0 (sL (Z T) n n)))).own m=Z (.cells [start]):=by grind[aai.By,Le.own]
 have ar:(h6.put C.next (.cells (([.slice Y 0 0]:xLV).set 0 (sL (Z T) n n)))).own C.next=Z (.cells [sL (Z T) n n]):=aai.Y3 _ _ _
 have P7:Le S (h6.put C.next (.cells (([.slice Y 0 0]:xLV).set 0 (sL (Z T) n n)))):=((l3.trans U).trans l6).put _ ((l3.trans U).next w5 (qL0 _))
 have bg:T≠m:=fun e=>by have:=w4.lt (l4.own _ _ o3);omega
 generalize C.next=y at*
 generalize h6.put y (.cells (([.slice Y 0 0]:xLV).set 0 (sL (Z T) n n)))=h7 at*;obtain⟨h8,e8,l8,w8,o8⟩:=Tt w7 [.slice Y 0 0]
 have n8:h.own h7.next=Y:=aj.next w7 (qL0 _)
 have dM:∀{b o},h7.own b=Z o->h7.next≠b:=fun{b o} ob e=>by have:=w7.lt ob;omega
 have b6:=fun g=>Q.len g;refine sFa (ahn @Hj e8 @pf0 @Ip.eq_1 @Gc ((P0 h8 (P7.trans l8)).1) b6) ?_
 have W8:LL h h8 m y h7.next T n start (.slice Y 0 0) (rP n (-1),[]):=⟨l8.own _ _ aq,l8.own _ _ ar,l8.own _ _ al,o8,GI.nil _,aW,n6,nT,n8,fun b hb=>by grind[blk],a8,fun e=>dM al e.symm,bg,dM aq,dM ar,by simp[blk],by simp[blk],by simp[blk],by simp[blk],aj.trans l8⟩
 generalize h7.next=M at*
 clear dM n8 o8 P7 ar aq al w7 aj bb b5 a8 n6 o6 w6 l6 e6 a7 a6 o5 e4 e8;clear bg nT aW P0 hT;have bh:BF n start TT1 TT2 ((p.zp.take 0).foldl (abY start) (rP n (-1),[])):=BF.zero;refine lIn (fun k fr hq=>∃(i:Nat)(r:vV),k=p.zp.length-i/\i<=p.zp.length/\fr=mkF [(0,pT (Z B)),(5,pT (Z m)),(6,pT (Z y)),(7,pT (Z M)),(8,.func (.func 165) #[] #[pT (Z m),pT (Z y),pT (Z M)]),(32,ea),(33,(p.zp.length:Nat)),(34,(i:Nat))]/\
   LL h hq m y M T n start r ((p.zp.take i).foldl (abY start) (rP n (-1),[]))/\BF n start TT1 TT2 ((p.zp.take i).foldl (abY start) (rP n (-1),[]))) ⟨0,_,rfl,abe _,rfl,W8,bh⟩ ?_
 clear bh W8 w8 l8;rintro k fr hq bk ⟨i,r,rfl,hi,rfl,W,F⟩;refine sSs ?_;refine Kl.intro (fun ht=>?_) (fun hf=>?_)
 .have d:i<p.zp.length:=CC ht;clear ht;have b8:=CA d;have b9:p.zp.take (i+1)=p.zp.take i++[p.zp[i]]:=EL d;have cc:=aev d;obtain⟨p1,p2,p3⟩:=b0 p.zp[i] cc;have ad:=Q.addr (k:=.i64) i d;have ld:=(Q.le W.le).load b8;have N:(p.zp.take (i+1)).foldl (abY start) (rP n (-1),[])=abY start ((p.zp.take i).foldl (abY start) (rP n (-1),[])) p.zp[i]:=hGr;have F1:=(F.Vk [p.zp[i]] fun e he=>by grind[jB]).1;rw[show[p.zp[i]].foldl (abY start) ((p.zp.take i).foldl (abY start) (rP n (-1),[]))=abY start ((p.zp.take i).foldl (abY start) (rP n (-1),[])) p.zp[i]from rfl]at F1;rw[N.symm]at F1;have hm:=F.jI;have hlen:=F.len;generalize p.zp[i]=e at*;obtain⟨g3,g4,q3,q4,m4,v4,u4⟩:=Ut bk e;have W4:=W.up m4;have V:=lK u4;have X:=HY u4
  generalize hq.next=E at*
  have aw:=aaa i (Lb d (QJ b2));obtain⟨a,ha⟩:∃a:Nat,e.1=(a:Int):=⟨e.1.toNat,NH⟩;obtain⟨b,sZ⟩:∃b:Nat,e.2=(b:Int):=⟨e.2.toNat,NH⟩;have cd:a<n:=NH;have cf:b<n:=NH;rw[ha]at V;rw[sZ]at X;have aa:((p.zp.take i).foldl (abY start) (rP n (-1),[])).2.length<=1000:=NH;by_cases c1:a=start
  .have d1:decide ((a:Int)=(start:Int))=tT:=qL7 NH;have eB:abY start ((p.zp.take i).foldl (abY start) (rP n (-1),[])) e=dt start ((p.zp.take i).foldl (abY start) (rP n (-1),[])) b start:=by grind[abY]
   rw[eB]at N;simp only[HO,seval,ad,ld,q3,q4,Dh,Z0,Ip,Gc,V,X,W4.lS,ag6,d1];refine kCi qS40 (K8 W0 W4 hlen (v:=b) (by_:=start) cf aa) ?_;rintro x g5 v5 ⟨D,O⟩;simp only[HO,seval,aw];exact lgA (JS d) ⟨i+1,D,rfl,d,rfl,by rw[N];exact O,F1⟩
  have d1:decide ((a:Int)=(start:Int))=fF:=WA NH;by_cases c3:b=start
  .have d3:decide ((b:Int)=(start:Int))=tT:=qL7 NH;have eB:abY start ((p.zp.take i).foldl (abY start) (rP n (-1),[])) e=dt start ((p.zp.take i).foldl (abY start) (rP n (-1),[])) a start:=by grind[abY]
   rw[eB]at N;simp only[HO,seval,ad,ld,q3,q4,Dh,Z0,Ip,Gc,V,X,W4.lS,ag6,d1,d3];refine kCi qS40 (K8 W0 W4 hlen (v:=a) (by_:=start) cd aa) ?_;rintro x g5 v5 ⟨D,O⟩;simp only[HO,seval,aw];exact lgA (JS d) ⟨i+1,D,rfl,d,rfl,by rw[N];exact O,F1⟩
  .have d3:decide ((b:Int)=(start:Int))=fF:=WA NH;have eB:abY start ((p.zp.take i).foldl (abY start) (rP n (-1),[])) e=(p.zp.take i).foldl (abY start) (rP n (-1),[]):=by grind[abY]
   rw[eB]at N;simp only[HO,seval,ad,ld,q3,q4,Dh,Z0,Ip,Gc,V,X,W4.lS,ag6,d1,d3,aw];exact lgA (JS d) ⟨i+1,r,rfl,d,rfl,by rw[N];exact W4,F1⟩
 have z:p.zp.length<=i:=vp hf;rw[HV z]at W F;have ae:p.zp.foldl (abY start) (rP n (-1),[])=SL n start p.zp:=rfl;rw[ae]at W F;refine sSs ?_;have bm:SL n start p.zp=acz (Zh n es) start (SL n start p.zp) 0:=rfl;rw[bm]at W F;refine lIn (fun k fr hz=>∃(i:Nat)(r:vV),k=n+1-i/\fr=mkF [(0,pT (Z B)),(5,pT (Z m)),(6,pT (Z y)),(7,pT (Z M)),(8,.func (.func 165) #[] #[pT (Z m),pT (Z y),pT (Z M)]),(11,(i:Nat))]/\
   LL h hz m y M T n start r (acz (Zh n es) start (SL n start p.zp) i)/\BF n start TT1 TT2 (acz (Zh n es) start (SL n start p.zp) i)/\i<=(acz (Zh n es) start (SL n start p.zp) i).2.length/\∀j,j<i->XG (Zh n es) on start (SL n start p.zp) j=fF) ⟨0,r,rfl,rfl,W,F,abe _,fun j hj=>absurd hj (aeA _)⟩ ?_
 clear bk W F z hf hi bm ae i r;rintro k fr hz cg ⟨i,r,rfl,rfl,W,F,ck,cm⟩;have aa:=F.jI;have hlen:=F.len;have lm:=fun g=>W.gm.rl.DH g;rw[y6]at lm;have av:=way_at (p:=p) (i:=i) (n:=n) (rows:=Zh n es) (on:=on) c2 aT NH cm;simp only[HO,seval,W.lM,lm];refine Kl.intro (fun ht=>?_) (fun hf=>?_)
 rotate_left
 .have z:(acz (Zh n es) start (SL n start p.zp) i).2.length<=i:=vp hf;have ay:(acz (Zh n es) start (SL n start p.zp) i).2[i]?=Y:=mJ z;have e:=av (by grind[XG]);simp only[ay]at e;rw[e];refine sSs ?_;exact⟨GI.nil _,W.le,fun b hb=>by grind[blk]⟩
 have d:i<(acz (Zh n es) start (SL n start p.zp) i).2.length:=CC ht;clear ht;have l:=CA d;have az:=W.gm.rl.TA i (by rw[y6];exact d);have G:=W.gm.rl.Uc i (by rw[y6];exact d);rw[sY d]at G;have bo:=aev d;have cp:=(F.lt _ bo).1;generalize (acz (Zh n es) start (SL n start p.zp) i).2[i]=v at l G bo cp;have sz:=hs.le W.le;have H:v<on.length:=hGr;have aC:=ho.LB (k:=.i64) v H;have A:=(ho.le Nn.sJ W.le).W7 v H;have cq:Wg on v=on[v]:=D4 H;rw[<-cq]at A;have br:i<n:=NH;cases aD:Wg on v with
 |true=>
  rw[aD]at A;have e:=av (by grind[XG]);simp only[l]at e;rw[e];refine sFa (aNd9 W.lM az G @sf2 @Ip.eq_1 @Gc sz.l2 aC A) ?_;have par:=F.par;clear e aD;generalize acz (Zh n es) start (SL n start p.zp) i=st at*;refine lIn (fun k fr hy=>∃(cur:Nat)(xv:vV)(L:II),fr=mkF [(5,pT (Z m)),(6,pT (Z y)),(12,(cur:Nat)),(13,xv)]/\LL h hy m y M T n start r st/\GI hy xv (kz L)/\Z2 hz xv/\Le hz hy/\
    traceM st.1 start k cur++L.reverse=traceM st.1 start n v/\(cur=start\/∃q,q<k/\st.2[q]?=Z cur)/\L.length+k=n) ⟨v,_,[],rfl,W,GI.nil _,fun b hb=>by grind[blk],Le.refl _,Ma,.inr ⟨i,br,l⟩,Ma⟩ ?_
  rintro k fr hy aF ⟨cur,xv,L,rfl,Wy,gx,ax,bB,aH,bF,c0⟩;by_cases cs:cur=start
  .subst cs;have ds:decide ((cur:Int)=(cur:Int))=tT:=qL7 rfl;obtain⟨aJ,g4,g5,q4,q5,I,v5,m4,aK,-⟩:=gx.push aF (cur:Int) (by grind[y6]);obtain⟨m5,a5⟩:=aK hz bB ax;have e6:kz L++[(cur:Int)]=kz (L++[cur]):=by simp[kz]
   rw[e6]at I;simp only[HO,seval,Wy.lS,bne,ds,q4,q5];refine kCi qS31 (Wk W0 aJ _ g5 I (by rw[y6,aaf,OM];omega)) ?_;rintro x g6 v6 ⟨bG,cx,-⟩;refine sSs ?_;have e7:(kz (L++[cur])).reverse=kz (traceM st.1 cur n v):=by rw[<-aH,TL];simp[kz]
   rw[e7]at bG;have l6:=cx hz m5 a5;exact⟨bG,W.le.trans l6,fun b hb=>W.le.none (a5 b hb)⟩
  .have ds:decide ((cur:Int)=(start:Int))=fF:=WA NH;obtain⟨q,cz,bH⟩:=bF.resolve_left cs;obtain⟨f,rfl⟩:∃f,k=f+1:=⟨k-1,NH⟩;have cC:=(F.lt cur (BS bH)).1;obtain⟨aJ,g4,g5,q4,q5,I,v5,m4,aK,c4⟩:=gx.push aF (cur:Int) (by grind[y6]);obtain⟨m5,a5⟩:=aK hz bB ax;have O:=W.up m5;have e6:kz L++[(cur:Int)]=kz (L++[cur]):=by simp[kz]
   rw[e6]at I;have hL:=CA (show cur<st.1.length by grind);have ld:=XP O.oT hL;have gd:st.1.getD cur 0=st.1[cur]'(by grind):=D4 _
   rw[traceM,yM cs]at aH;have cE:∃J:Nat,st.1.getD cur 0=(J:Int)/\(J=start\/∃q,q<f/\st.2[q]?=Z J):=by
    rcases par q cur bH with⟨S,_⟩|⟨j,u,S,h2,h3,_⟩
    .grind
    .exact⟨u,h3,.inr ⟨j,trc_k cz j S,h2⟩⟩
   obtain⟨J,ag,bI⟩:=cE;rw[<-gd,ag]at ld;rw[ag,Z6]at aH;simp only[HO,seval,Wy.lS,bne,ds,q4,q5,O.l6,Kx T n .i64 cur cC,ld];refine lgA (afC _) ⟨J,aJ,L++[cur],rfl,O,I,a5,m5,?_,bI,?_⟩
   .grind
   grind
 |false=>
  rw[aD]at A;have cJ:XG (Zh n es) on start (SL n start p.zp) i=fF:=by grind[XG]
  have bN:acz (Zh n es) start (SL n start p.zp) (i+1)=abU start (acz (Zh n es) start (SL n start p.zp) i) v ((Zh n es).getD v []):=by rw[acz,l]
  have aL:v<(Zh n es).length:=by grind[Xq]
  have bQ:=hb.Wm v aL;obtain⟨uv,cK,s⟩:=hb.NS v aL;have bW:(Zh n es).getD v []=(Zh n es)[v]:=D4 aL;generalize (Zh n es)[v]=row at s bW;have lr:=fun g=>s.DH g;have c5:row.length<=3000:=by have:=bV n es row hGr;omega
  rw[bW]at bN;simp only[HO,seval,W.lM,az,G,sf1,sf2,Ip,Gc,sz.l1,sz.l2,aC,A,bQ,cK hz W.le,lr];clear av lm az G sz aC A bQ;generalize acz (Zh n es) start (SL n start p.zp) i=st at*;refine lIn (fun k fr hy=>∃(q:Nat)(r:vV),k=row.length-q/\q<=row.length/\fr=mkF [(0,pT (Z B)),(5,pT (Z m)),(6,pT (Z y)),(7,pT (Z M)),(8,.func (.func 165) #[] #[pT (Z m),pT (Z y),pT (Z M)]),(11,(i:Nat)),(12,(v:Nat)),(98,uv),(99,(row.length:Nat)),(100,(q:Nat))]/\
    LL h hy m y M T n start r (abU start st v (row.take q))/\BF n start TT1 TT2 (abU start st v (row.take q))/\i<(abU start st v (row.take q)).2.length/\(abU start st v (row.take q)).2[i]?=Z v) ⟨0,r,rfl,abe _,rfl,W,F,d,l⟩ ?_
  clear cg W F d l aa hlen ck;clear r;rintro k fr hy aF ⟨q,r,rfl,hq,rfl,W,F,d,l⟩;refine sSs ?_;refine Kl.intro (fun ht=>?_) (fun hf=>?_)
  .have K:q<row.length:=CC ht;clear ht;have cM:=s.TA q K;have cN:=(s.le Nn.RP W.le).Uc q K;have b9:row.take (q+1)=row.take q++[row[q]]:=EL K;have cP:row[q]∈(Zh n es).getD v []:=hGr;generalize row[q]=x at*;obtain⟨w,rfl,bY⟩:=Ru hR cP;have N:abU start st v (row.take (q+1))=dt start (abU start st v (row.take q)) w v:=by grind[abU]
   have hm:=F.jI;have hlen:=F.len;obtain⟨F1,⟨t,et⟩,-⟩:=F.meet (v:=w) (by_:=v) bY (.inr ⟨i,l,trivial⟩);rw[<-N]at F1 et;have aw:=aaa q NH;refine sFa (XC cM cN) ?_;refine kCi qS40 (K8 W0 W hlen (v:=w) (by_:=v) bY NH) ?_;rintro x g5 v5 ⟨D,O⟩;rw[<-N]at O;simp only[HO,seval,aw];exact lgA (JS K) ⟨q+1,D,rfl,K,rfl,O,F1,hGr,Z5 et l⟩
  .have z:row.length<=q:=vp hf;rw[HV z,<-bN]at W F d;have aw:=aaa i NH;simp only[HO,seval,aw];refine lgA (sub_lt1 br) ⟨i+1,r,rfl,rfl,W,F,d,fun j hj=>?_⟩;grind
end
end Go.Fw
