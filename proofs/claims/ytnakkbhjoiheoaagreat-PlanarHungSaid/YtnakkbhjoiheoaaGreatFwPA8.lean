/- A text. -/
import Derived.Test.YtnakkbhjoiheoaaGreatFwPA1
set_option linter.all false
set_option maxRecDepth 99999
set_option maxHeartbeats 9999999
open Go.Proofs
open Option renaming some→Z,none→Y
open Bool renaming true→tT,false→fF
open Go.Value renaming pointer→pT
open Go renaming Value→vV
open Go.Proofs.Tryz renaming prog→pG
open Go.Proofs.Tryz
open List
namespace Go.Fw
section
attribute [local irreducible] Kp MQ lU KO1 KO KN KX KE VK Kl ZJ TC aab
attribute [local irreducible] Jz JL vq cQ
variable {es:List Pr} {h':aai} {n:Nat} {rs:AM} {x:Value}
def noR:bX ⟨((0:Nat):Int),[]⟩:=V5 WY WY WY WY
def RN(h:aai):RL (RL RP) h (.slice Y 0 0) []:=(Lj.nil (RL RP) h).rl (Nn.RL Nn.RP)
def aiE.plan(c:aiE ⟨(n:Int),es⟩ h' x)(b:bX ⟨(n:Int),es⟩)(d:aak n es):
  ∃a rs,x=.tuple #[a,.slice Y 0 0,.int .i64 0]/\RL (RL RP) h' a rs/\Av n es rs/\Flat n (Xl rs):=by
 rcases c with⟨q,-⟩|⟨-,-,a,e,h2,h3,f⟩|⟨-,q,-⟩
 .exact absurd b q
 .exact⟨a,_,e,h2,h3,f⟩
 .exact absurd d q
def aiE.twist(c:aiE ⟨(n:Int),es⟩ h' x)(b:bX ⟨(n:Int),es⟩)(d:¬aak n es):
  ∃a,x=.tuple #[.slice Y 0 0,a,.int .i64 0]/\PR h' a (abv ⟨(n:Int),es⟩)/\Ct a (abv ⟨(n:Int),es⟩).length:=by
 rcases c with⟨q,-⟩|⟨-,q,-⟩|⟨-,-,q⟩
 .exact absurd b q
 .exact absurd q d
 .exact q
def aiF(a:bX ⟨(n:Int),es⟩)(G:Av n es rs)(F:Flat n (Xl rs)):CertG ⟨(n:Int),es⟩ rs []:=⟨a,.inl ⟨rfl,G,(En a.GD a.q9 G).2 F⟩⟩
def ahU (W0:LA) (h:aai):AC Tryz.prog W0 11 [] h fun x h'=>x=.bool true/\Le h h':=by
 refine AC.vF qS25 Tryz.ntmps11 Tryz.results11 fun hwf=>?_;have d0:decide ((0:Int)=0)=true:=by decide
 have d5:decide ((5:Int)=5)=true:=by decide
 have d4:decide ((4:Int)=4)=true:=by decide
 have aw0:aaY .i64 (0+0)=0:=by decide
 have E5:afP 0 5 5=k5L:=by decide
 obtain⟨h1,e1,l1,w1,o1⟩:=Tt hwf (Iu ajl);have m1:=mkP6 h (0,1) (0,2) (1,2) (2,3) (2,4) (3,4);have hk:Iu [(0,1),(0,2),(1,2),(2,3),(2,4),(3,4)]=Iu ajl:=rfl;rw[hk,e1]at m1
 have p1:PR h1 (.slice (some ⟨h.next,0,none⟩) 6 6) ajl:=PR.made o1 rfl
 obtain⟨h2,h3,a2,s2,l3,w3,lG⟩:=newG (n:=5) w1 p1;have bg:=Wj (n:=5) p1.sl;obtain⟨h4,h5,a4,s4,l5,w5,nX,G0⟩:=GX.new w3 5;simp only[HO,Nat.reduceLT,↓reduceIte,Nat.reduceEqDiff,reduceCtorEq,xe,m1,bg,a2,s2,ait,a4,s4]
 generalize h.next=R1 at*
 generalize h1.next=T at*
 generalize h3.next=X at*
 have p3:=p1.le l3;have l03:=l1.trans l3;clear p1 m1 e1 o1 a2 s2 a4 s4 bg hk w1;refine aab.intro (fun k fr hq=>∃(i:Nat) (v:Value),k=5-i/\i<=5/\fr=mkF [(1,.pointer (some ⟨T,0,none⟩)),(2,.pointer (some ⟨X,0,none⟩)),(23,.int .i64 (i:Nat))]/\GX hq X 5 v (afP 0 5 i)/\Le h3 hq/\Z2 h3 v)
  5 [(1,.pointer (some ⟨T,0,none⟩)),(2,.pointer (some ⟨X,0,none⟩)),(23,.int .i64 (0:Nat))] fD ⟨0,_,rfl,Og _,rfl,G0,l5,fun b hb=>by simp[blk]at hb⟩ ?_
 clear G0 l5 w5;rintro k fr hq hwq ⟨i,v,rfl,hi,rfl,G,lq,ap⟩;have hb1:=ad5 0 5 i;by_cases c:i<5
 .have dc:decide ((i:Int)<5)=true:=HV NH;have tc:((i:Int)<5)=True:=eq_true NH;have aw:=aaa i NH;simp only[HO,Nat.reduceLT,↓reduceIte,Nat.reduceEqDiff,reduceCtorEq,dc,tc,aw];refine aab.intro (fun k fr hz=>∃(j:Nat) (v:Value),k=5-j/\i+1<=j/\j<=5/\fr=mkF [(1,.pointer (some ⟨T,0,none⟩)),(2,.pointer (some ⟨X,0,none⟩)),(3,.int .i64 (i:Nat)),(4,.int .i64 (j:Nat)),(23,.int .i64 (i:Nat))]/\GX hz X 5 v (afP 0 5 i++acJ i j)/\Le h3 hz/\Z2 h3 v)
   (5-(i+1)) [(1,.pointer (some ⟨T,0,none⟩)),(2,.pointer (some ⟨X,0,none⟩)),(3,.int .i64 (i:Nat)),(4,.int .i64 (i+1:Nat)),(23,.int .i64 (i:Nat))] fD ⟨i+1,v,rfl,qL0 _,NH,rfl,by simpa[acJ]using G,lq,ap⟩ ?_
  clear G lq ap hwq;clear hq v;rintro k fr hz hwz ⟨j,v,rfl,hj,hj5,rfl,G,lq,ap⟩;by_cases c2:j<5
  rotate_left
  .have dc:decide (((j:Nat):Int)<5)=false:=Z6 NH;have tc:(((j:Nat):Int)<5)=False:=eq_false NH;obtain rfl:j=5:=NH;simp only[HO,Nat.reduceLT,↓reduceIte,Nat.reduceEqDiff,reduceCtorEq,dc,tc,aw];exact tn (5-(i+1)) [(1,.pointer (some ⟨T,0,none⟩)),(2,.pointer (some ⟨X,0,none⟩)),(23,.int .i64 (i+1:Nat))] NH fD ⟨i+1,v,rfl,NH,rfl,by rw[afP,BS];exact G,lq,ap⟩
  have dc:decide (((j:Nat):Int)<5)=true:=HV NH;have tc:(((j:Nat):Int)<5)=True:=eq_true NH;have awj:=aaa j NH;have hb2:=ad4 i j;obtain⟨v',g4,g5,g6,q4,q5,q6,G7,w7,l7,f7,-⟩:=G.push' hwz ((i:Int),(j:Int)) (by rw[aaf];omega);obtain⟨l7',a7⟩:=f7 h3 lq nX ap;rw[Cg,<-afy hj]at G7;have bld:=xe (i:Int) (j:Int);simp only[HO,Nat.reduceLT,↓reduceIte,Nat.reduceEqDiff,reduceCtorEq,dc,tc,Di,Ip,BS,G.ld.2.2,bld,q4,q5,q6,awj];exact tn (5-(j+1)) [(1,.pointer (some ⟨T,0,none⟩)),(2,.pointer (some ⟨X,0,none⟩)),(3,.int .i64 (i:Nat)),(4,.int .i64 (j+1:Nat)),(23,.int .i64 (i:Nat))] NH fD ⟨j+1,v',rfl,NH,NH,rfl,G7,l7',a7⟩
 obtain rfl:i=5:=NH;have dc:decide (((5:Nat):Int)<5)=false:=by decide
 have tc:(((5:Nat):Int)<5)=False:=eq_false NH;rw[E5]at G;clear hb1 c hi ap nX;simp only[HO,Nat.reduceLT,↓reduceIte,Nat.reduceEqDiff,reduceCtorEq,dc,tc,(lG hq lq).1];refine TC.intro PJ ⟨akW,rfl,WY⟩ (ahd W0 _ ⟨((5:Nat):Int),ajl⟩ hq ⟨_,rfl,p3.le lq⟩) ?_;rintro x h7 w7 ⟨l7,C⟩;obtain⟨rv,rs,rfl,hrv,RG,FL⟩:=C.plan bowR (acG bowR WY);clear C;simp only[HO,Nat.reduceLT,↓reduceIte,Nat.reduceEqDiff,reduceCtorEq,(G.le l7).ld.1];refine TC.intro PJ ⟨akW,rfl,WY⟩ (ahd W0 _ ⟨((5:Nat):Int),k5L⟩ h7 ⟨v,rfl,(G.le l7).gp.pr⟩) ?_;rintro x h8 w8 ⟨l8,C⟩;obtain⟨wv,rfl,hw,-⟩:=C.twist k5R k5_np;clear C;rw[fnd_k5]at hw;simp only[HO,Nat.reduceLT,↓reduceIte,Nat.reduceEqDiff,reduceCtorEq,aew,agO];refine TC.intro PJ ⟨akW,rfl,WY⟩ (ahd W0 _ ⟨((0:Nat):Int),[]⟩ h8 ⟨_,rfl,PR.nil _⟩) ?_;rintro x h9 w9 ⟨l9,C⟩;obtain⟨tv,ts,rfl,htv,TG,TF⟩:=C.plan noR (acG noR WY);clear C;have l79:=l8.trans l9;have hrv9:=hrv.le (Nn.RL Nn.RP) l79;have lr:=fun g=>hrv.qP6 g;have lt:=fun g=>htv.qP6 g;have lnR:=fun g=>(RN g).qP6 g;have lnP:=fun g=>(PR.nil g).len g;rw[RG.len]at lr;rw[TG.len]at lt;have h2l:2<rs.length:=by rw[RG.len];decide
 have ad:=hrv.qP7 2 h2l;obtain⟨u,lu',hu⟩:=hrv.NS 2 h2l;have lu:=fun g l=>lu' g l;have hul:(rs[2]'h2l).length=4:=by
  have:=(RG.perm 2 WY).length_eq;rw[VU,Gc h2l]at this;exact this.trans WY
 have llu:=fun g=>hu.DH g;rw[hul]at llu;have d55:decide (((5:Nat):Int)=5)=true:=by decide
 have d44:decide (((4:Nat):Int)=4)=true:=by decide
 have dn0:decide (((([]:List Pr).length:Nat):Int)=0)=true:=by decide
 have dn1:decide (((([]:AM).length:Nat):Int)=0)=true:=by decide
 simp only[ur]at ad;have l39:=lq.trans (l7.trans l79);have G9:=G.le (l7.trans l79);simp only[HO,Nat.reduceLT,↓reduceIte,Nat.reduceEqDiff,reduceCtorEq,aw0,d0,lr,d55,ad,lu h9 l79,llu,d44,lnP,dn0,(lG h9 l39).1];refine TC.intro PJ ⟨qS24,rfl,WY⟩ (ahY W0 _ rv (.slice none 0 0) ⟨((5:Nat):Int),ajl⟩ rs [] h9 ⟨_,rfl,p3.le l39⟩ hrv9 (PR.nil _)) ?_;rintro x h10 w10 ⟨⟨bb,rfl,hbb⟩,l10⟩;obtain rfl:bb=true:=hbb.2 (aiF bowR RG FL);clear hbb;have G10:=G9.le l10;have hw10:=hw.le (l9.trans l10);simp only[HO,Nat.reduceLT,↓reduceIte,Nat.reduceEqDiff,reduceCtorEq,lnR,dn1,Di,Ip,BS,G10.ld.2.2];refine TC.intro PJ ⟨Tryz.func17,rfl,WY⟩ (abn W0 wv v k5L k5L h10 hw10 G10.gp.pr WY) ?_;rintro x h11 w11 ⟨rfl,rfl⟩;have sp:decide (k5L=k5L)=true:=HV rfl;simp only[HO,Nat.reduceLT,↓reduceIte,Nat.reduceEqDiff,reduceCtorEq,sp,G10.ld.1];refine TC.intro PJ ⟨qS24,rfl,WY⟩ (ahY W0 _ (.slice none 0 0) wv ⟨((5:Nat):Int),k5L⟩ [] k5L h11 ⟨v,rfl,G10.gp.pr⟩ (RN _) hw10) ?_;rintro x h12 w12 ⟨⟨bb,rfl,hbb⟩,l12⟩;obtain rfl:bb=true:=hbb.2 ⟨k5R,.inr ⟨WY,rfl,by rw[kind_k5];decide,fun p hp=>hp⟩⟩;clear hbb;have aw00:aaY .i64 (((0:Nat):Int)+((([]:List Pr).length:Nat):Int))=0:=by decide
 simp only[HO,Nat.reduceLT,↓reduceIte,Nat.reduceEqDiff,reduceCtorEq,lt,lnP,aw00,d0,aew,agO];refine TC.intro PJ ⟨qS24,rfl,WY⟩ (ahY W0 _ tv (.slice none 0 0) ⟨((0:Nat):Int),[]⟩ ts [] h12 ⟨_,rfl,PR.nil _⟩ (htv.le (Nn.RL Nn.RP) (l10.trans l12)) (PR.nil _)) ?_;rintro x h13 w13 ⟨⟨bb,rfl,hbb⟩,l13⟩;obtain rfl:bb=true:=hbb.2 (aiF noR TG TF);clear hbb;have l913:=l10.trans (l12.trans l13);have l313:=l39.trans l913;simp only[HO,Nat.reduceLT,↓reduceIte,Nat.reduceEqDiff,reduceCtorEq,Di,Ip,BS,(lG h13 l313).1,(lG h13 l313).2.2];refine TC.intro PJ ⟨qS24,rfl,WY⟩ (ahY W0 _ rv _ ⟨((5:Nat):Int),ajl⟩ rs ajl h13 ⟨_,rfl,p3.le l313⟩ (hrv9.le (Nn.RL Nn.RP) l913) (p3.le l313)) ?_;rintro x h14 w14 ⟨⟨bb,rfl,hbb⟩,l14⟩;obtain rfl:bb=false:=by
  cases bb with
  |false=>rfl
  |true=>
   rcases(hbb.1 rfl).2 with q|q
   .exact absurd q.1 WY
   .have:=RG.len;rw[q.2.1]at this;cases this
 refine Uy ?_;exact⟨trivial,(l03.trans l313).trans l14⟩
end
section
attribute [local instance] Classical.propDecidable
attribute [local irreducible] Kp MQ lU KO1 KO KN KX KE VK Kl ZJ TC aab
def ajp(l:LA)(v:vV)(G:GM)(h:aai)(hg:GR h v G):AC pG l 21 [v] h fun x h'=>RR (bX G/\G.n<=20/\G.es.length<=50) x/\Le h h':=by
 have i:=hg;have⟨e,es⟩:=G
 obtain⟨ev,rfl,m⟩:=hg.open
 refine AC.vF func21 ntmps21 results21 fun j=>?_;obtain⟨o,r,a,s,-,p⟩:=r8 (n:=e) j m
 generalize h.next=B at*
 have k:=p o (Le.refl _);have t:=fun g=>m.len g;refine Sk (XC r k.1) ?_;refine kCi qS6 (ak l _ _ o (i.le a)) ?_;rintro x h2 w2 ⟨⟨u,rfl,d⟩,l2⟩;have b:=p h2 l2;cases u with
 |false=>refine Uy ?_;exact⟨RR.f (fun q=>by cases d.2 q.1),a.trans l2⟩
 |true=>
 have w:=d.1 rfl;by_cases c:e<=20
 rotate_left
 .have dc:decide (e<=20)=fF:=Z6 c;refine Sk (IX @Ii @Ip.eq_1 @BS b.2.1 dc) ?_;exact⟨RR.f (fun q=>c q.2.1),a.trans l2⟩
 have dc:decide (e<=20)=tT:=HV c;refine Sk (adG @Ii @Di @Ip.eq_1 @BS b.2.1 b.2.2 t dc) ?_;refine⟨⟨_,rfl,?_⟩,a.trans l2⟩;rw[uV];exact⟨fun q=>⟨w,c,NH⟩,fun q=>by have:=q.2.2;omega⟩
section
variable{n:Nat}{es:List Pr}{rs:AM}
end
def awMil{x:Int}(a:-1000000<=x)(h2:x<=1000000):aaY .i64 x=x:=ie x NH NH
end
section
attribute [local irreducible] Kp MQ lU KO1 KO KN KX KE VK Kl ZJ TC aab
attribute [local irreducible] Jz JL vq cQ aaN
variable {es:List Pr} {h':aai} {n:Nat}
def CertAll(n:Nat)(es:xLP)(rs:AM)(ws:xLP):Prop:=CertG ⟨(n:Int),es⟩ rs ws/\((aak n es/\ws=[]/\Av n es rs/\z8 n es rs)\/(¬aak n es/\rs=[]/\ws≠[]/\ws.Sublist es/\aaz ws≠0))
theorem aiE.all{x:vV}(c:aiE ⟨(n:Int),es⟩ h' x)(b:bX ⟨(n:Int),es⟩):
  ∃f d rs ws,x=.tuple #[f,d,.int .i64 0]/\RL (RL RP) h' f rs/\PR h' d ws/\Ct d ws.length/\CertAll n es rs ws:=by
 by_cases a:aak n es
 .obtain⟨f,rs,g,h2,h3,i⟩:=c.plan b a;have hP:=(En b.GD b.q9 h3).2 i;exact⟨f,_,rs,[],g,h2,PR.nil _,⟨Y,0,rfl,.inl ⟨WY,qL0 _⟩⟩,⟨b,.inl ⟨rfl,h3,hP⟩⟩,.inl ⟨a,rfl,h3,hP⟩⟩
 .obtain⟨d,g,h2,h3⟩:=c.twist b a;have h:=fnd_kind b a;have hs:=(ajQ (G:=⟨(n:Int),es⟩) a).1;have e:abv ⟨(n:Int),es⟩≠[]:=fun q=>a ((fnd_nil b).1 q);exact⟨_,d,[],_,g,RN _,h2,h3,⟨b,.inr ⟨e,rfl,h,fun p j=>hs.subset j⟩⟩,.inr ⟨a,rfl,e,hs,h⟩⟩
end
section
attribute [local irreducible] Kp MQ lU KO1 KO KN KX KE VK Kl ZJ TC aab
def nmH(n u v:Nat)(apart:Bool)(x:Nat):Nat:=if x=v/\apart=fF then u else n+x
def akQ(d:LA)(U V A B n u v:Nat)(ap:Bool)(x:Nat)(h:aai)(f:h.own U=Z (.cells [u]))(g:h.own V=Z (.cells [v]))(ha:h.own A=Z (.cells [.bool ap]))(hb:aaC pG h 3 ⟨B,0,Y⟩=Z (.int .i64 (n:Int)))(j:n+x<=100000):
  AC pG d 28 [x,pT (Z V),pT (Z A),pT (Z U),pT (Z B)] h fun y h'=>y=(nmH n u v ap x:Int)/\h'=h:=by
 refine AC.vF func28 ntmps28 results28 fun i=>?_;have lu:aaC pG h 3 ⟨U,0,Y⟩=Z (.int .i64 (u:Int)):=by rw[Fq Ac rfl f];rfl
 have a:aaC pG h 3 ⟨V,0,Y⟩=Z (.int .i64 (v:Int)):=by rw[Fq Ac rfl g];rfl
 have b:aaC pG h 4 ⟨A,0,Y⟩=Z (.bool ap):=by rw[Fq AV rfl ha];rfl
 have aw:aaY .i64 ((n:Int)+(x:Int))=((n+x:Nat):Int):=(awMil NH NH).trans NH;by_cases c:x=v
 .have dc:decide ((x:Int)=(v:Int))=tT:=HV NH;cases ap
  .have e:nmH n u v fF x=u:=by simp[nmH,c]
   simp only[HO,seval,lu,a,b,dc,e];exact⟨trivial,trivial⟩
  .have e:nmH n u v tT x=n+x:=by simp[nmH]
   simp only[HO,seval,Ii,Ip,BS,lu,a,b,dc,hb,aw,e];exact⟨trivial,trivial⟩
 .have dc:decide ((x:Int)=(v:Int))=fF:=Z6 NH;have e:nmH n u v ap x=n+x:=by simp[nmH,c]
  simp only[HO,seval,Ii,Ip,BS,lu,a,b,dc,hb,aw,e];exact⟨trivial,trivial⟩
def aeL(n u v:Nat)(ap:Bool)(fs:xLP):xLP:=fs.map fun p=>(((nmH n u v ap p.1.toNat:Nat):Int),((nmH n u v ap p.2.toNat:Nat):Int))
def pH(n m u v:Nat)(ap:Bool)(x:Nat):Nat:=if ap then hP n m x else swN u (n+v) (hP n m x)
def qH(n m u v:Nat)(ap:Bool)(y:Nat):Nat:=if ap then hQ n m y else hQ n m (swN u (n+v) y)
section
variable{n m u v:Nat}{ap:Bool}{es fs:List Pr}
def ren_pH(c:u<n)(d:v<m):Ren (n+m) (pH n m u v ap) (qH n m u v ap):=by
 cases ap
 .exact(ren_hP n m).comp (ren_sw (a:=u) (b:=n+v) NH NH)
 .exact ren_hP n m
theorem nm_p{x:Nat}(a:u<n)(b:x<m):pH n m u v ap x=nmH n u v ap x:=by grind[pH,nmH,hP,swN]
theorem nm_low{x:Nat}(a:nmH n u v ap x<n):x=v:=by grind[nmH]
theorem nm_lt{x:Nat}(a:u<n)(b:x<m):nmH n u v ap x<n+m:=by grind[nmH]
theorem nm_inj{x y:Nat}(a:u<n)(h:nmH n u v ap x=nmH n u v ap y):x=y:=by grind[nmH]
theorem adj_hung(a:u<n)(c:v<m)(hf:aV m fs){x y:Nat}:Jp (aeL n u v ap fs) x y↔x<n+m/\y<n+m/\Jp fs (qH n m u v ap x) (qH n m u v ap y):=by
 have N:=ren_pH (n:=n) (m:=m) (ap:=ap) a c;have mem:∀x y:Nat,((x:Int),(y:Int))∈aeL n u v ap fs↔x<n+m/\y<n+m/\((qH n m u v ap x:Int),(qH n m u v ap y:Int))∈fs:=fun x y=>by
  unfold aeL;rw[aev];constructor
  .rintro⟨p,b,e⟩;have⟨d,f,h2⟩:=hf p b;simp only[abW,Int.natCast_inj]at e;have a1:p.1.toNat<m:=NH;have a2:p.2.toNat<m:=NH;have g:=N.qp p.1.toNat NH;have h:=N.qp p.2.toNat NH;rw[nm_p a a1,e.1]at g;rw[nm_p a a2,e.2]at h;refine⟨e.1▸nm_lt a a1,e.2▸nm_lt a a2,?_⟩;grind
  .rintro⟨i,j,b⟩;have⟨d,f,h2⟩:=hf _ b;grind[nm_p,Ren.pq]
 grind[Jp]
theorem hung_ok(i:u<n)(k:v<m)(j:bX ⟨(n:Int),es⟩)(hs:bX ⟨(m:Int),fs⟩)(l:n+m<=200)(o:es.length+fs.length<=594):YG ((n+m:Nat):Int) (es++aeL n u v ap fs):=by
 have K:=j.newOK;have hR:=j.GD;have d:=hs.GD;have low:∀p∈fs,¬(nmH n u v ap p.1.toNat<n/\nmH n u v ap p.2.toNat<n):=fun p c q=>by have h:=d p c;grind[nm_low]
 refine⟨NH,NH,by grind[aeL],fun p c=>?_,?_⟩
 .rcases yM.1 c with c|c
  .have:=K.ok p c;omega
  .obtain⟨q,f,rfl⟩:=aev.1 c;have h:=d q f;have l1:nmH n u v ap q.1.toNat<n+m:=nm_lt i NH;have l2:nmH n u v ap q.2.toNat<n+m:=nm_lt i NH;have ne:nmH n u v ap q.1.toNat≠nmH n u v ap q.2.toNat:=by grind[nm_inj]
   grind[lZ]
 .rw[KG,ZT];refine⟨K.nd,?_,fun a ha b hb e=>?_⟩
  .unfold aeL;rw[Vn];refine Uz.2 (hs.nodup.imp_of_mem fun{a b} ha hb ne e=>ne ?_);have r:=d a ha;have h2:=d b hb;simp only[Function.comp,lZ,abW]at e;grind[nm_inj]
  .obtain⟨p,c,rfl⟩:=aev.1 ha;obtain⟨q,f,rfl⟩:=aev.1 hb;obtain⟨q,g,rfl⟩:=aev.1 f;have h:=hR p c;refine low q g ?_;simp only[lZ,abW]at e;omega
theorem hung_plan(b:u<n)(c:v<m)(a:bX ⟨(n:Int),es⟩)(hs:bX ⟨(m:Int),fs⟩)(d:n+m<=200)(e:es.length+fs.length<=594):aak (n+m) (sg (es++aeL n u v ap fs))↔aak n es/\aak m fs:=by
 have K:=hung_ok (ap:=ap) b c a hs d e;rw[ako K.right,ako a,ako hs];have N:=ren_pH (n:=n) (m:=m) (ap:=ap) b c;refine akP (S:=fun x=>n<=x\/x=u) N (MG a.GD a.q9) (MG hs.GD hs.q9) (fun x y=>?_) (fun x f=>?_) hGr
 .rw[vD K.right.GD,adj_sg,vD a.GD,vD hs.GD,<-adj_hung b c hs.GD];grind[Jp]
 grind[nm_p,nmH]
end
attribute [local irreducible] Jz JL vq cQ aaN
variable {a b c n:Nat} {es:List Pr} {g:aai} {rs:AM}
def newA(w:WF g):∃a,abO pG g 3=Z (pT (Z g.next),a)/\Le g a/\WF a/\a.own g.next=Z (.cells [.int .i64 0]):=by have⟨a,e,l,w',o⟩:=Tt w [.int .i64 0];exact⟨a,by rw[<-e];rfl,l,w',o⟩
def putHU{U:Nat}{x:Int}(o:g.own U=Z (.cells [x]))(y:Int):aaK pG g 3 (pT (Z U)) y=Z (g.put U (.cells [y])):=QB (P:=pG) (t:=3) (x:=y) Ac Ji o (off:=0) Ma rfl rfl
def eqBH(a b:Bool):aEq pG 4 (.bool a) (.bool b)=Z (a==b):=by simp[aEq,AV]
def agq{ws:xLP}(c:(aak n es/\ws=[]/\Av n es rs/\z8 n es rs)\/(¬aak n es/\rs=[]/\ws≠[]/\ws.Sublist es/\aaz ws≠0)):(0<ws.length↔¬aak n es)/\ws.length<=es.length:=by
 rcases c with⟨a,rfl,-⟩|⟨a,-,h2,h3,-⟩
 .exact⟨⟨fun q=>absurd q (qL257 0),fun q=>absurd a q⟩,Og _⟩
 .exact⟨⟨fun _=>a,fun _=>fE.2 h2⟩,h3.length_le⟩
def hung_aw(ha:a<=1000)(hb:b<=1000):aaY .i64 ((a:Int)+(b:Int))=(a:Int)+(b:Int):=awMil NH NH
def hung_eq{p q r:Prop}(ha:0<a↔¬p)(hb:0<b↔¬q)(d:0<c↔¬r)(h:p↔q/\r):(decide ((a:Int)>0)==decide ((b:Int)+(c:Int)>0))=tT:=by
 have:((a:Int)>0)↔((b:Int)+(c:Int)>0):=by rw[show((a:Int)>0)↔0<a by omega,show((b:Int)+(c:Int)>0)↔(0<b\/0<c) by omega,ha,hb,d,h];by_cases q<;>by_cases r<;>simp_all
 rw[decide_eq_decide.2 this];cases decide ((b:Int)+(c:Int)>0)<;>rfl
def agr(q:LA)(v1 v2:vV)(G H:GM)(a1 a2:Int)(ap:Bool)(h:aai)(hg:GR h v1 G)(hh:GR h v2 H):
  AC pG q 7 [v1,v2,a1,a2,.bool ap] h fun x h'=>x=.bool tT/\Le h h':=by
 have aJ:=hg;have aK:=hh;have⟨gn,es⟩:=G;have⟨gm,M⟩:=H
 obtain⟨ev,rfl,hp⟩:=hg.open
 obtain⟨fv,rfl,hq⟩:=hh.open
 refine AC.vF func7 ntmps7 results7 fun bI=>?_;obtain⟨h1,b1,aL,bN,-,lA⟩:=r8 (n:=gn) bI hp;obtain⟨h2,b2,aN,bQ,-,lB⟩:=r8 (n:=gm) bN (hq.le aL);have⟨h3,e3,aq,cq,oB⟩:=Tt bQ [.bool ap];have b3:=box72 (h:=h2) (.bool ap) rfl rfl;rw[e3]at b3
 generalize h.next=B at*
 generalize h1.next=C at*
 generalize h2.next=D at*
 have s:=aL.trans (aN.trans aq);have aP:=aN.trans aq;refine Sk (xU b1 b2 b3 ((lA h3 aP).1)) ?_;refine kCi func21 (ajp q _ ⟨gn,es⟩ h3 (aJ.le s)) ?_;rintro x h4 w4 ⟨⟨bb,rfl,N⟩,l4⟩;cases bb with
 |false=>refine Uy ?_;refine kCi qS25 (ahU q h4) ?_;rintro x r w5 ⟨rfl,l5⟩;refine Uy ?_;exact⟨trivial,(s.trans l4).trans l5⟩
 |true=>
 have⟨hr,hn,he⟩:=N.1 rfl;clear N;refine Sk ((lB h4 (aq.trans l4)).1) ?_;refine kCi func21 (ajp q _ ⟨gm,M⟩ h4 (aK.le (s.trans l4))) ?_;rintro x r w5 ⟨⟨bb,rfl,N⟩,l5⟩;cases bb with
 |false=>refine Uy ?_;refine kCi qS25 (ahU q r) ?_;rintro x h6 w6 ⟨rfl,l6⟩;refine Uy ?_;exact⟨trivial,((s.trans l4).trans l5).trans l6⟩
 |true=>
 have⟨hs,hm,hf⟩:=N.1 rfl;clear N;obtain⟨n,rfl⟩:=Sb hr.n0;obtain⟨m,rfl⟩:=Sb hs.n0;simp only at hn he hm hf;have X:=aP.trans (l4.trans l5);have aa:=aq.trans (l4.trans l5);have O:=l4.trans l5;have A5:=lA r X;have B5:=lB r aa;by_cases c1:n=0
 .have d1:decide ((n:Int)=0)=tT:=HV NH;refine Sk (IX @Ii @Ip.eq_1 @BS A5.2.1 d1) ?_;refine kCi qS25 (ahU q r) ?_;rintro x h6 w6 ⟨rfl,l6⟩;refine Uy ?_;exact⟨trivial,(s.trans O).trans l6⟩
 have d1:decide ((n:Int)=0)=fF:=Z6 NH;by_cases c2:m=0
 .have d2:decide ((m:Int)=0)=tT:=HV NH;refine Sk (rE @Ii @Ip.eq_1 @BS A5.2.1 B5.2.1 d1 @d2) ?_;refine kCi qS25 (ahU q r) ?_;rintro x h6 w6 ⟨rfl,l6⟩;refine Uy ?_;exact⟨trivial,(s.trans O).trans l6⟩
 have d2:decide ((m:Int)=0)=fF:=Z6 NH;refine Sk (rE @Ii @Ip.eq_1 @BS A5.2.1 B5.2.1 d1 @d2) ?_;have oD:=O.own _ _ oB;apply Ya (F:=fun(fr:aam)(hx:aai)=>∃(U V u v:Nat),Fj fr [(5,pT (Z B)),(6,pT (Z C)),(9,pT (Z D)),(11,pT (Z U)),(12,pT (Z V))]/\Le r hx/\WF hx/\u<n/\v<m/\hx.own U=Z (.cells [u])/\hx.own V=Z (.cells [v]))
 .intro cont;have⟨J,P,mA,wA,oA⟩:=newA w5;have⟨gC,Q,mC,wC,oC⟩:=newA wA
  have n1:r.own r.next=Y:=(Le.refl r).next w5 (qL0 _)
  have n2:J.own J.next=Y:=(Le.refl J).next wA (qL0 _)
  have n3:r.own J.next=Y:=mA.next wA (qL0 _)
  have ne:r.next≠J.next:=fun e=>by rw[e]at oA;rw[oA]at n2;cases n2
  have ai:=mC.own _ _ oA;have R:=A5.2.1;have S:=B5.2.1;have d:=(lA J (X.trans mA)).2.1;have f:=(lB J (aa.trans mA)).2.1;have j:=(lA gC (X.trans (mA.trans mC))).2.1;have l:=(lB gC (aa.trans (mA.trans mC))).2.1;have t:=fun(k1:Nat)(_:Nat)=>putHU ai (k1:Int)
  have w:=fun(k1 k2:Nat)=>putHU (g:=gC.put r.next (.cells [.int .i64 (k1:Int)])) (U:=J.next) (x:=0) (by rw[aai.By _ _ _ _ ne.symm];exact oC) (k2:Int)
  have A:=fun(k1:Nat)(_:Nat)=>putHU oC (k1:Int)
  have I:=fun(k1 k2:Nat)=>putHU (g:=gC.put J.next (.cells [.int .i64 (k1:Int)])) (U:=r.next) (x:=0) (by rw[aai.By _ _ _ _ ne];exact ai) (k2:Int)
  have b:∀k1 k2:Nat,Le r ((gC.put r.next (.cells [.int .i64 (k1:Int)])).put J.next (.cells [.int .i64 (k2:Int)]))/\WF ((gC.put r.next (.cells [.int .i64 (k1:Int)])).put J.next (.cells [.int .i64 (k2:Int)]))/\((gC.put r.next (.cells [.int .i64 (k1:Int)])).put J.next (.cells [.int .i64 (k2:Int)])).own r.next=Z (.cells [.int .i64 (k1:Int)])/\((gC.put r.next (.cells [.int .i64 (k1:Int)])).put J.next (.cells [.int .i64 (k2:Int)])).own J.next=Z (.cells [.int .i64 (k2:Int)]):=fun k1 k2=>⟨((mA.trans mC).put _ n1).put _ n3,(wC.put _ (wC.lt ai)).put _ ((wC.put _ (wC.lt ai)).lt (by rw[aai.By _ _ _ _ ne.symm];exact oC)),by rw[aai.By _ _ _ _ ne];exact aai.Y3 _ _ _,aai.Y3 _ _ _⟩
  have c:∀k1 k2:Nat,Le r ((gC.put J.next (.cells [.int .i64 (k1:Int)])).put r.next (.cells [.int .i64 (k2:Int)]))/\WF ((gC.put J.next (.cells [.int .i64 (k1:Int)])).put r.next (.cells [.int .i64 (k2:Int)]))/\((gC.put J.next (.cells [.int .i64 (k1:Int)])).put r.next (.cells [.int .i64 (k2:Int)])).own J.next=Z (.cells [.int .i64 (k1:Int)])/\((gC.put J.next (.cells [.int .i64 (k1:Int)])).put r.next (.cells [.int .i64 (k2:Int)])).own r.next=Z (.cells [.int .i64 (k2:Int)]):=fun k1 k2=>⟨((mA.trans mC).put _ n3).put _ n1,(wC.put _ (wC.lt oC)).put _ ((wC.put _ (wC.lt oC)).lt (by rw[aai.By _ _ _ _ ne];exact ai)),by rw[aai.By _ _ _ _ ne.symm];exact aai.Y3 _ _ _,aai.Y3 _ _ _⟩
  generalize r.next=P1 at*
  generalize J.next=P2 at*
  refine gh (tA [0,1,2,4,5,6] (.ch 3 [0,2] (.ch 7 [3,4,6] (.ch 8 [] (JQ 9 [] (JQ 10 [0,1,2,3,7,8,9] (JQ 11 [0,1,2,3,4,5,6,7,8,9,10] .done))) (JQ 9 [] (JQ 8 [] (JQ 10 [0,1,2,3,7,8,9] (JQ 11 [0,1,2,3,4,5,6,7,8,9,10] .done))))) (.ch 8 [] (.ch 7 [3,4,6] (JQ 9 [] (JQ 10 [0,1,2,3,7,8,9] (JQ 11 [0,1,2,3,4,5,6,7,8,9,10] .done))) (JQ 9 [] (JQ 7 [3,4,6] (JQ 10 [0,1,2,3,7,8,9] (JQ 11 [0,1,2,3,4,5,6,7,8,9,10] .done))))) (JQ 9 [] (.ch 7 [3,4,6] (JQ 8 [] (JQ 10 [0,1,2,3,7,8,9] (JQ 11 [0,1,2,3,4,5,6,7,8,9,10] .done))) (JQ 8 [] (JQ 7 [3,4,6] (JQ 10 [0,1,2,3,7,8,9] (JQ 11 [0,1,2,3,4,5,6,7,8,9,10] .done)))))))) (.ch 8 [] (.ch 3 [0,2] (.ch 7 [3,4,6] (JQ 9 [] (JQ 10 [0,1,2,3,7,8,9] (JQ 11 [0,1,2,3,4,5,6,7,8,9,10] .done))) (JQ 9 [] (JQ 7 [3,4,6] (JQ 10 [0,1,2,3,7,8,9] (JQ 11 [0,1,2,3,4,5,6,7,8,9,10] .done))))) (JQ 9 [] (JQ 3 [0,2] (JQ 7 [3,4,6] (JQ 10 [0,1,2,3,7,8,9] (JQ 11 [0,1,2,3,4,5,6,7,8,9,10] .done)))))) (JQ 9 [] (.ch 3 [0,2] (.ch 7 [3,4,6] (JQ 8 [] (JQ 10 [0,1,2,3,7,8,9] (JQ 11 [0,1,2,3,4,5,6,7,8,9,10] .done))) (JQ 8 [] (JQ 7 [3,4,6] (JQ 10 [0,1,2,3,7,8,9] (JQ 11 [0,1,2,3,4,5,6,7,8,9,10] .done))))) (JQ 8 [] (JQ 3 [0,2] (JQ 7 [3,4,6] (JQ 10 [0,1,2,3,7,8,9] (JQ 11 [0,1,2,3,4,5,6,7,8,9,10] .done)))))))))) ?_;simp only[kJJ,seval,Qg,Ii,Ip,BS,R,S,d,f,j,l,P,Q];refine⟨?_,⟨⟨?_,?_⟩,⟨?_,?_⟩⟩⟩
  .refine kGi qS5 (ac5 q a1 n NH NH _) ?_;rintro _ _ _ ⟨⟨k1,o,rfl⟩,rfl⟩;simp only[kJJ,seval,Qg,Ii,Ip,BS,R,S,d,f,j,l,P,Q];refine⟨?_,⟨⟨?_,?_⟩,⟨?_,?_⟩⟩⟩
   .refine kGi qS5 (ac5 q a2 m NH NH _) ?_;rintro _ _ _ ⟨⟨k2,a,rfl⟩,rfl⟩;simp only[kJJ,seval,Qg,Ii,Ip,BS,R,S,d,f,j,l,P,Q,t k1 k2,A k1 k2,w k1 k2,I k1 k2];refine⟨?_,?_⟩
    .refine KN.UJ fun fr' h' x y=>cont fr' h' ?_;rw[x,y];exact⟨P1,P2,k1,k2,fD,(b k1 k2).1,(b k1 k2).2.1,o,a,(b k1 k2).2.2⟩
    .refine KN.UJ fun fr' h' x y=>cont fr' h' ?_;rw[x,y];exact⟨P2,P1,k1,k2,fD,(c k1 k2).1,(c k1 k2).2.1,o,a,(c k1 k2).2.2⟩
   .refine kGi qS5 (ac5 q a2 m NH NH _) ?_;rintro _ _ _ ⟨⟨k2,a,rfl⟩,rfl⟩;simp only[kJJ,seval,Qg,Ii,Ip,BS,R,S,d,f,j,l,P,Q,t k1 k2,A k1 k2,w k1 k2,I k1 k2];refine KN.UJ fun fr' h' x y=>cont fr' h' ?_;rw[x,y];exact⟨P1,P2,k1,k2,fD,(b k1 k2).1,(b k1 k2).2.1,o,a,(b k1 k2).2.2⟩
   .refine kGi qS5 (ac5 q a2 m NH NH _) ?_;rintro _ _ _ ⟨⟨k2,a,rfl⟩,rfl⟩;simp only[kJJ,seval,Qg,Ii,Ip,BS,R,S,d,f,j,l,P,Q,t k1 k2,A k1 k2,w k1 k2,I k1 k2];refine KN.UJ fun fr' h' x y=>cont fr' h' ?_;rw[x,y];exact⟨P1,P2,k1,k2,fD,(b k1 k2).1,(b k1 k2).2.1,o,a,(b k1 k2).2.2⟩
   .refine kGi qS5 (ac5 q a2 m NH NH _) ?_;rintro _ _ _ ⟨⟨k2,a,rfl⟩,rfl⟩;simp only[kJJ,seval,Qg,Ii,Ip,BS,R,S,d,f,j,l,P,Q,t k1 k2,A k1 k2,w k1 k2,I k1 k2];refine KN.UJ fun fr' h' x y=>cont fr' h' ?_;rw[x,y];exact⟨P2,P1,k1,k2,fD,(c k1 k2).1,(c k1 k2).2.1,o,a,(c k1 k2).2.2⟩
   .refine kGi qS5 (ac5 q a2 m NH NH _) ?_;rintro _ _ _ ⟨⟨k2,a,rfl⟩,rfl⟩;simp only[kJJ,seval,Qg,Ii,Ip,BS,R,S,d,f,j,l,P,Q,t k1 k2,A k1 k2,w k1 k2,I k1 k2];refine KN.UJ fun fr' h' x y=>cont fr' h' ?_;rw[x,y];exact⟨P2,P1,k1,k2,fD,(c k1 k2).1,(c k1 k2).2.1,o,a,(c k1 k2).2.2⟩
  .refine kGi qS5 (ac5 q a1 n NH NH _) ?_;rintro _ _ _ ⟨⟨k1,o,rfl⟩,rfl⟩;simp only[kJJ,seval,Qg,Ii,Ip,BS,R,S,d,f,j,l,P,Q];refine⟨?_,?_⟩
   .refine kGi qS5 (ac5 q a2 m NH NH _) ?_;rintro _ _ _ ⟨⟨k2,a,rfl⟩,rfl⟩;simp only[kJJ,seval,Qg,Ii,Ip,BS,R,S,d,f,j,l,P,Q,t k1 k2,A k1 k2,w k1 k2,I k1 k2];refine KN.UJ fun fr' h' x y=>cont fr' h' ?_;rw[x,y];exact⟨P1,P2,k1,k2,fD,(b k1 k2).1,(b k1 k2).2.1,o,a,(b k1 k2).2.2⟩
   .refine kGi qS5 (ac5 q a2 m NH NH _) ?_;rintro _ _ _ ⟨⟨k2,a,rfl⟩,rfl⟩;simp only[kJJ,seval,Qg,Ii,Ip,BS,R,S,d,f,j,l,P,Q,t k1 k2,A k1 k2,w k1 k2,I k1 k2];refine KN.UJ fun fr' h' x y=>cont fr' h' ?_;rw[x,y];exact⟨P1,P2,k1,k2,fD,(b k1 k2).1,(b k1 k2).2.1,o,a,(b k1 k2).2.2⟩
  .refine kGi qS5 (ac5 q a1 n NH NH _) ?_;rintro _ _ _ ⟨⟨k1,o,rfl⟩,rfl⟩;simp only[kJJ,seval,Qg,Ii,Ip,BS,R,S,d,f,j,l,P,Q];refine kGi qS5 (ac5 q a2 m NH NH _) ?_;rintro _ _ _ ⟨⟨k2,a,rfl⟩,rfl⟩;simp only[kJJ,seval,Qg,Ii,Ip,BS,R,S,d,f,j,l,P,Q,t k1 k2,A k1 k2,w k1 k2,I k1 k2];refine KN.UJ fun fr' h' x y=>cont fr' h' ?_;rw[x,y];exact⟨P1,P2,k1,k2,fD,(b k1 k2).1,(b k1 k2).2.1,o,a,(b k1 k2).2.2⟩
  .refine kGi qS5 (ac5 q a1 n NH NH _) ?_;rintro _ _ _ ⟨⟨k1,o,rfl⟩,rfl⟩;simp only[kJJ,seval,Qg,Ii,Ip,BS,R,S,d,f,j,l,P,Q];refine⟨?_,?_⟩
   .refine kGi qS5 (ac5 q a2 m NH NH _) ?_;rintro _ _ _ ⟨⟨k2,a,rfl⟩,rfl⟩;simp only[kJJ,seval,Qg,Ii,Ip,BS,R,S,d,f,j,l,P,Q,t k1 k2,A k1 k2,w k1 k2,I k1 k2];refine KN.UJ fun fr' h' x y=>cont fr' h' ?_;rw[x,y];exact⟨P2,P1,k1,k2,fD,(c k1 k2).1,(c k1 k2).2.1,o,a,(c k1 k2).2.2⟩
   .refine kGi qS5 (ac5 q a2 m NH NH _) ?_;rintro _ _ _ ⟨⟨k2,a,rfl⟩,rfl⟩;simp only[kJJ,seval,Qg,Ii,Ip,BS,R,S,d,f,j,l,P,Q,t k1 k2,A k1 k2,w k1 k2,I k1 k2];refine KN.UJ fun fr' h' x y=>cont fr' h' ?_;rw[x,y];exact⟨P2,P1,k1,k2,fD,(c k1 k2).1,(c k1 k2).2.1,o,a,(c k1 k2).2.2⟩
  .refine kGi qS5 (ac5 q a1 n NH NH _) ?_;rintro _ _ _ ⟨⟨k1,o,rfl⟩,rfl⟩;simp only[kJJ,seval,Qg,Ii,Ip,BS,R,S,d,f,j,l,P,Q];refine kGi qS5 (ac5 q a2 m NH NH _) ?_;rintro _ _ _ ⟨⟨k2,a,rfl⟩,rfl⟩;simp only[kJJ,seval,Qg,Ii,Ip,BS,R,S,d,f,j,l,P,Q,t k1 k2,A k1 k2,w k1 k2,I k1 k2];refine KN.UJ fun fr' h' x y=>cont fr' h' ?_;rw[x,y];exact⟨P2,P1,k1,k2,fD,(c k1 k2).1,(c k1 k2).2.1,o,a,(c k1 k2).2.2⟩
 rintro fr hx ⟨U,V,u,v,aT,lx,wx,hu,hv,oU,oV⟩;simp only[Fj]at aT;obtain⟨f5,f6,f9,av,ay,-⟩:=aT;have AX:=lA hx (X.trans lx);have aW:=lx.own _ _ oD;refine Sk (aNd9 f5 f6 f9 av ay @Di @Ip.eq_1 @BS AX.2.2) ?_;refine kCi func12 (aho q ev es hx (hp.le (s.trans (O.trans lx))) NH) ?_;rintro lv h6 w6 ⟨gl,l6,al⟩;have lF:=fun g=>hq.len g;have B6:=lB h6 (aa.trans (lx.trans l6));obtain⟨aX,aC⟩:∃z,z=vV.func (.func 28) #[] #[pT (Z V),pT (Z D),pT (Z U),pT (Z B)]:=⟨_,rfl⟩;refine Sk (Pj f5 f6 f9 av ay @Di @Ip.eq_1 @BS B6.2.2 lF) ?_;have a6:=hq.le (s.trans (O.trans lx));refine aab.intro (fun k fr hz=>∃(i:Nat)(xv:vV),k=M.length-i/\i<=M.length/\fr=mkF [(5,pT (Z B)),(6,pT (Z C)),(13,aX),(14,xv),(60,fv),(61,M.length),(62,i)]/\GP hz xv (es++aeL n u v ap (M.take i))/\Le hx hz/\Z2 hx xv)
  M.length [(5,pT (Z B)),(6,pT (Z C)),(13,aX),(14,lv),(60,fv),(61,M.length),(62,(0:Nat))] (by rw[aC];simp only[Fj,HO,seval,f5,f6,f9,av,ay];simp) ⟨0,lv,rfl,Og _,rfl,by simpa[aeL]using gl,l6,al⟩ ?_
 clear gl al l6 w6 B6;clear h6 lv;rintro k fr hz a7 ⟨i,xv,rfl,hi,rfl,g,lz,az⟩;refine Uy ?_;refine Kl.intro (fun ht=>?_) (fun hf=>?_)
 .have ae:i<M.length:=acb ht;clear ht;have bW:=CA ae;have bg:=AE ae;have bh:aeL n u v ap (M.take (i+1))=aeL n u v ap (M.take i)++[(((nmH n u v ap M[i].1.toNat:Nat):Int),((nmH n u v ap M[i].2.toNat:Nat):Int))]:=by rw[EL ae,aeL,KG];rfl
  have⟨p0,p1,p2⟩:=hs.GD _ bg;generalize M[i]=p at*;have⟨px,py⟩:=p;simp only at p0 p1 p2;obtain⟨x,rfl⟩:=Sb p0;obtain⟨y,rfl⟩:=Sb (show 0<=py by omega);simp only[vZ]at bh;have bY:(es++aeL n u v ap (M.take i)).length+1<=100000:=by simp[aeL];omega
  have ad:=a6.addr (k:=.i64) i ae;have ld:=(a6.le lz).load bW
  have nE:hz.own hz.next=Y:=(Le.refl hz).next a7 (qL0 _)
  have⟨cx,h7,e7,s7,l7,w7,o7⟩:=Ut a7 ((x:Int),(y:Int))
  have bE:blk xv≠Z hz.next:=fun e=>GS.Sy g e nE
  generalize hz.next=E at*
  have W:=lz.trans l7;have L0:=lK o7;have L1:=HY o7;have aw:=aaa i NH;have A7:=(lA h7 (X.trans (lx.trans W))).2.1;have⟨v',h8,h9,e8,e9,g9,w9,l8,bZ,k9⟩:=(g.le l7).push w7 (((nmH n u v ap x:Nat):Int),((nmH n u v ap y:Nat):Int)) bY;have⟨l9,a9⟩:=bZ hx W az;rw[Cg,<-bh]at g9;have bk:=lK (l8.own _ _ o7);have bm:=HY (l8.own _ _ o7);have bo:=lK (k9 _ _ o7 bE).1;have br:=HY (k9 _ _ o7 bE).1;have b0:=xe ((nmH n u v ap x:Nat):Int) ((nmH n u v ap y:Nat):Int);simp only at L0 L1 bk bm bo br;simp only[HO,seval,ad,ld,e7,s7];refine gh (tA [0,1,2,3,5,6,7] (JQ 4 [1,3] (JQ 8 [4,5,7] (tA [9] (JQ 10 [9] (JQ 11 [0,8,10] (JQ 12 [0,1,2,3,4,5,6,7,8,9,10,11] .done))))))) ?_;rw[aC];refine CO (bG @Dh @Z0 @Ip.eq_1 @BS L0 L1) ?_;refine kGi func28 (akQ q U V D B n u v ap x h7 (W.own _ _ oU) (W.own _ _ oV) (W.own _ _ aW) A7 NH) ?_;rintro _ q7 _ ⟨rfl,rfl⟩;refine CO (bG @Dh @Z0 @Ip.eq_1 @BS L0 L1) ?_;refine kGi func28 (akQ q U V D B n u v ap y q7 (W.own _ _ oU) (W.own _ _ oV) (W.own _ _ aW) A7 NH) ?_;rintro _ _ _ ⟨rfl,rfl⟩;simp only[HO,seval,Qg,Dh,Z0,Ip,BS,L0,L1,b0,e8,e9,bk,bm,bo,br,aw];rw[<-aC];exact lgA (JS ae) ⟨i+1,v',rfl,ae,rfl,g9,l9,a9⟩
 have b4:M.length<=i:=vp hf;rw[abe b4]at g;have aD:=lx.trans lz;have AZ:=lA hz (X.trans aD);have BZ:=lB hz (aa.trans aD);have aw:aaY .i64 ((n:Int)+(m:Int))=((n+m:Nat):Int):=(awMil NH NH).trans NH;have hlen:(es++aeL n u v ap M).length<=594:=by simp[aeL];omega
 have K:=hung_ok (ap:=ap) hu hv hr hs NH NH;have PL:=hung_plan (ap:=ap) hu hv hr hs NH NH;generalize es++aeL n u v ap M=L at*;simp only[HO,seval,Ii,Ip,BS,AZ.2.1,BZ.2.1,aw];refine kCi func26 (New_any q ((n+m:Nat):Int) xv L hz g.pr NH) ?_;rintro x h7 w7 ⟨l7,⟨b5,-⟩|⟨-,sv,rfl,gs,-⟩⟩
 .exact absurd K b5
 have hR:=K.right;have⟨h8,h9,a8,s8,l9,w9,lG⟩:=newG (n:=((n+m:Nat):Int)) w7 gs.pr
 generalize h7.next=T at*
 refine Sk (Yb a8 s8 ((lG h9 (Le.refl _)).1)) ?_;refine kCi akW (ahd q _ ⟨((n+m:Nat):Int),sg L⟩ h9 ⟨sv,rfl,gs.pr.le l9⟩) ?_;rintro x q1 v1 ⟨m1,C1⟩;obtain⟨rv,wv,rs,ws,rfl,b6,bx,-,CG,CC⟩:=C1.all hR;clear C1;have b8:=aD.trans (l7.trans l9);have ar:=b8.trans m1;refine Sk ((lA q1 (X.trans ar)).1) ?_;refine kCi akW (ahd q _ ⟨(n:Int),es⟩ q1 (aJ.le (s.trans (O.trans ar)))) ?_;rintro x q2 v2 ⟨m2,C2⟩;obtain⟨cz,cC,cE,aF,rfl,-,bB,-,-,b9⟩:=C2.all hr;clear C2;have bF:=ar.trans m2;refine Sk ((lB q2 (aa.trans bF)).1) ?_;refine kCi akW (ahd q _ ⟨(m:Int),M⟩ q2 (aK.le (s.trans (O.trans bF)))) ?_;rintro x q3 v3 ⟨m3,C3⟩;obtain⟨cJ,cK,cM,aH,rfl,-,bH,-,-,cc⟩:=C3.all hs;clear C3;have p1:=agq CC;have p2:=agq b9;have p3:=agq cc;have aj:=m2.trans m3;have d0:decide ((0:Int)=0)=tT:=by decide
 have cd:aaY .i64 (0+0)=0:=by decide
 have cf:=fun g=>bx.len g;have cg:=fun g=>bB.len g;have ck:=fun g=>bH.len g;have cm:aaY .i64 ((aF.length:Int)+(aH.length:Int))=(aF.length:Int)+(aH.length:Int):=hung_aw NH NH;have cp:(decide ((ws.length:Int)>0)==decide ((aF.length:Int)+(aH.length:Int)>0))=tT:=hung_eq p1.1 p2.1 p3.1 PL;refine Sk (Yb cd d0 ((lG q3 (m1.trans aj)).1)) ?_;refine kCi qS24 (ahY q _ rv wv ⟨((n+m:Nat):Int),sg L⟩ rs ws q3 ⟨sv,rfl,gs.pr.le (l9.trans (m1.trans aj))⟩ (b6.le (Nn.RL Nn.RP) aj) (bx.le aj)) ?_;rintro x q4 v4 ⟨⟨bb,rfl,N⟩,m4⟩;obtain rfl:bb=tT:=N.2 CG;clear N;refine Sk (bG cf cg ck cm @eqBH cp) ?_;refine kCi qS25 (ahU q q4) ?_;rintro x q5 v5 ⟨rfl,m5⟩;refine Uy ?_;exact⟨trivial,(s.trans (O.trans (ar.trans aj))).trans (m4.trans m5)⟩
end
section
open Go.Proofs Go.ChangeShapes Go.WideShapes Go.RowKit Go.ChangeAt
open Go.Proofs.YtnakkbhjoiheoaaGreat
def agh(c:LA)(a b:vV)(G H:GM)(a1 a2:Int)(ap:Bool)(h:aai)(hg:GR h a G)(hh:GR h b H)(_:(Lit.int .i64 a1).wf=tT)(_:(Lit.int .i64 a2).wf=tT):
  AC pG c 7 [a,b,a1,a2,.bool ap] h fun x h'=>x=.bool tT/\Le h h':=agr c a b G H a1 a2 ap h hg hh
def afS(os:Os)(started:os.Started)(H:Type)(enc:TypeId×vV->H):
  ReturnsInHanded {} Tryz.checked os 7 .any (Rows.planarHungSpec.pre6 enc pG Tryz.f7 Rows.planarHungRow.domain fF) (Rows.planarHungSpec.post enc pG Tryz.f7 fF tT fF fF):=by
 have own:ownKnob pG.godebug=Option.none:=Ji;have laidOut:laidOutB pG=tT:=Ji;refine returnsInHanded_of_change (C:=Tryz.checked) own started Ji func7
  (ChangeSpec.witness6 (enc:=enc) (C:=Tryz.checked) fF ⟨#[],#[.agg #[.int .i64 0,.slice Option.none 0 0],.agg #[.int .i64 0,.slice Option.none 0 0],.int .i64 0,.int .i64 0,.bool fF],[]⟩ 8 Ji Ji Ji Ji) ?_
 intro W base args ds gs before c z A _;have a:∀(j:Nat) t v,Tryz.f7.params[j]?=Z t->args[j]?=Z v->vV.okWide pG W .any base t v:=c;have d:=z;obtain⟨p,q,i,M,rfl,N,O⟩:=z;have hA:DataW.TrodAll enc pG W 0 (fun _=>tT) tT Tryz.f7.params.toList args.toList ds p:=i;rw[Tryz.params7]at hA a;obtain⟨k,V,X,e0,P,q0,b,rfl,rfl,B,hA⟩:=trodAll_cons hA;obtain⟨l,w1,d1,e1,Q,q1,rfl,rfl,rfl,D,hA⟩:=trodAll_cons hA;obtain⟨E,w2,d2,e2,p2,q2,rfl,rfl,rfl,h2,hA⟩:=trodAll_cons hA;obtain⟨F,w3,d3,e3,p3,q3,rfl,rfl,rfl,h3,hA⟩:=trodAll_cons hA;obtain⟨G,w4,d4,e4,p4,q4,rfl,rfl,rfl,I,hA⟩:=trodAll_cons hA;obtain⟨rfl,rfl,rfl⟩:=trodAll_nil hA;obtain rfl:args=#[k,l,E,F,G]:=by cases args;simp_all
 obtain⟨rfl,rfl⟩:=trodVars_none M;have⟨S,x0,m,n⟩:=afp (a 0 24 k rfl rfl) B (fun _=>⟨0,0,0⟩);have⟨u1,x1,o,r⟩:=afp (a 1 24 l rfl rfl) D (fun _=>⟨0,0,0⟩);obtain⟨J,rfl,rfl,rfl,s⟩:=open_int Ac (a 2 3 E rfl rfl) h2;obtain⟨K,rfl,rfl,rfl,u⟩:=open_int Ac (a 3 3 F rfl rfl) h3;obtain⟨L,rfl,rfl,rfl⟩:=open_bool AV (a 4 4 G rfl rfl) I;refine(agh (LA.of W) S u1 x0 x1 J K L (MR W) n r s u [] (fun _=>⟨0,0,0⟩) W [k,l,J,K,.bool L] (Rel.start W _) ?_).mono ?_
 .exact .cons m (.cons o (.cons (.flat rfl) (.cons (.flat rfl) (.cons (.flat rfl) ((.nil _ _))))))
 .rintro e T ⟨x,x',m',h',rfl,R,-,-,U,rfl,-⟩;obtain rfl:=U.YE;have hb:=R.below;have g:∀y∈P,y.block<W.heap.size:=fun y w=>d.lt y (by simp[w]);have h:∀y∈Q,y.block<W.heap.size:=fun y w=>d.lt y (by simp[w]);have f:DataW.Trod enc pG T W.heap.size (fun _=>fF) fF 4 (.bool tT) (.lit (.bool tT)) []:=⟨1,by simp[DataW.trod,vV.cells,AV]⟩;have b:=
   akb (Below.trod laidOut Ji (ai4 Ji) B hb g) (akb (Below.trod laidOut Ji (ai4 Ji) D hb h) (akb (Below.trod laidOut Ji (ai4 Ji) h2 hb Ma) (akb (Below.trod laidOut Ji (ai4 Ji) h3 hb Ma) (akb (Below.trod laidOut Ji (ai4 Ji) I hb Ma) (trodAll_mk0)))))
  try simp only[age,JR]at b
  exact⟨_,rfl,_,_,_,[],_,[],d,trodAll_mk1 f,b,rfl,hb.frame _,fun e=>by cases e⟩
def planarHung_said:Rows.PlanarHungSaid:=
 OpenClaim.holds_of_wide 7 Tryz.f7 rfl rfl rfl rfl rfl rfl rfl ⟨rfl,rfl,rfl,rfl,rfl⟩ rfl rfl rfl rfl rfl Ji func7 Ji
  (ai4 Ji) (by unfold Func.isWrapper;first|(rw[WA iw];kernel_rfl)|(rw[IE iw];exact⟨rfl,rfl⟩))
  (fun os started H enc _=>afS os started H enc)
end
end Go.Fw
