/- A text. -/
import Derived.Test.YtnakkbhjoiheoaaGreatFwPA2
set_option linter.all false
set_option maxRecDepth 99999
set_option maxHeartbeats 9999999
open Go.Proofs
open Option renaming some→Z,none→Y
open Bool renaming true→tT,false→fF
open List renaming replicate→rP,range→rG
open Go.Value renaming slice→sL,pointer→pT
open Go renaming Value→vV
open Go.Proofs.Tryz renaming prog→pG
open Go.Proofs.Tryz
namespace Go.Fw
section
attribute [local irreducible] Kp MQ lU KO1 KO KN KX KE VK Kl ZJ TC aab
attribute [local irreducible] Jz JL vq cQ
variable {es:List Pr} {i n:Nat}
def ahD(n:Nat):ag3 n []=rP n []:=by
 refine j3 fun v=>?_;by_cases a:v<n
 .simp[ag3,a]
 .rw[V3 (by rw[aic];omega),V3 (by simp;omega)]
def ajL(n:Nat)(pre:List xLP)(b:xLP):ag3 n (pre++[b])=aiC n (ag3 n pre) b:=by unfold aiC;refine vY fun v a=>?_;rw[aiB (K4.1 a)];simp
def ajM(m:bX ⟨(n:Int),es⟩)(h:∀(j:Nat) b,j<i->(vq n es)[j]?=Z b->ah0 n b):∀r∈ag3 n ((vq n es).take i),r.length<=n:=by
 have hR:=m.GD;obtain⟨c,o⟩:=lQ (cQ n es) _ es rfl;have eb:vq n es=(CY (cQ n es) es).map fun k=>abb n es k:=aaB n es;have e:∀k∈(CY (cQ n es) es).take i,abb n es k∈vq n es/\ah0 n (abb n es k):=fun k e=>by
  obtain⟨j,d⟩:=yM.1 e;rw[aeC]at d;split at d
  .rename_i f;have hb:(vq n es)[j]?=Z (abb n es k):=by rw[eb,bC,d];rfl
   exact⟨Gc hb,h j _ f hb⟩
  .cases d
 obtain⟨g,-,-⟩:=aj0 m _ (c.sublist (List.take_sublist i _)) e;intro r l;obtain⟨v,q,rfl⟩:=Gw.1 l;have nd:=g.nd v;have:=tf nd (B:=rG n) fun w hw=>K4.2 (g.lt w v (g.sy v w hw));rw[iU]at this;refine VU (Nat.le_of_eq ?_) this;rw[eb,<-qL238,List.flatMap_map];generalize (CY (cQ n es) es).take i=L
 induction L with
 |nil=>rfl
 |cons a L p=>rw[oK,oK,ZT,ZT,p];simp[acr]
def ah0.planar{b:xLP}(B:ah0 n b)(hR:aV n b):XU n (eN n b):=⟨acr n b,B.Rl,B.flat,fun v w=>by rw[B.mem,vD hR]⟩
def aiE(G:GM)(h':aai)(x:vV):Prop:=
 (¬bX G/\x=.tuple #[.slice Y 0 0,.slice Y 0 0,.int .i64 20])\/
 (bX G/\aak G.n.toNat G.es/\∃b,x=.tuple #[b,.slice Y 0 0,.int .i64 0]/\RL (RL RP) h' b (ag3 G.n.toNat (vq G.n.toNat G.es))/\Av G.n.toNat G.es (ag3 G.n.toNat (vq G.n.toNat G.es))/\Flat G.n.toNat (Xl (ag3 G.n.toNat (vq G.n.toNat G.es))))\/
 (bX G/\¬aak G.n.toNat G.es/\∃a,x=.tuple #[.slice Y 0 0,a,.int .i64 0]/\PR h' a (abv G)/\Ct a (abv G).length)
def ahd(A:LA)(v:vV)(G:GM)(h:aai)(hg:GR h v G):
  AC pG A 14 [v] h fun x h'=>Le h h'/\aiE G h' x:=by
 have o:=hg;obtain⟨K,es⟩:=G
 obtain⟨ev,rfl,hp⟩:=hg.open
 refine AC.vE ⟨qS31,rfl,WY⟩ ntmps14 results14 fun M=>?_;simp only[Br,seval];obtain⟨h1,b1,f,ar,-,I⟩:=r8 (n:=K) M hp
 generalize h.next=B at*
 have N:=I h1 (Le.refl _);refine Sk (XC b1 N.1) ?_;refine kCi yU (ak A _ ⟨K,es⟩ h1 (o.le f)) ?_;rintro x h2 w2 ⟨⟨bb,rfl,s⟩,l2⟩;cases bb with
 |false=>refine Uy ?_;exact⟨f.trans l2,.inl ⟨(fun q=>by cases s.2 q),rfl⟩⟩
 |true=>
 have d:=s.1 rfl;clear s;have h0:0<=K:=d.n0;obtain⟨n,rfl⟩:=Sb h0;have Q:(n:Int)<=200:=d.n1;refine Sk ((I h2 l2).1) ?_;refine kCi func34 (Cw A _ ⟨(n:Int),es⟩ h2 (o.le (f.trans l2))) ?_;rintro x h3 w3 ⟨l3,⟨u,-⟩|⟨-,bv,rfl,hB⟩⟩
 .exact absurd d u
 have l:=l2.trans l3;simp only[IE]at hB;have d0:decide ((0:Int)=0)=tT:=by decide
 have mk:abl pG h3 26 (.int .i64 (n:Int)) (.int .i64 (n:Int))=Z (sL (Z h3.next) n n,h3.alloc (.cells (rP n (.slice Y 0 0)))):=Ye (P:=pG) (t:=26) (z:=.slice Y 0 0) h3 qS20 Ji rfl rfl rfl Ji Mb Ji n NH
 obtain⟨h4,e4,l4,w4,o4⟩:=Tt w3 (rP n (.slice Y 0 0));rw[e4]at mk
 have nL:h3.own h3.next=Y:=(Le.refl h3).next w3 (qL0 _)
 have A3:=I h3 l;have lB:=fun g=>hB.len (P:=pG) NQ g;have R0:=Rows.start (b0:=h3) o4 l4 nL
 generalize h3.next=L at*
 have av:=afx n es;have C:=d.len;simp only at C;simp only[HO,seval,bne,d0,Ii,Ip,EL,A3.2.1,mk,lB];clear e4 mk o4;refine aab.intro (fun k fr J=>∃(i:Nat)(us:xLV),k=(vq n es).length-i/\i<=(vq n es).length/\fr=mkF [(1,pT (Z B)),(7,sL (Z L) n n),(26,bv),(27,.int .i64 (vq n es).length),(28,i)]/\
   us.length=n/\Rows h3 J L us (ag3 n ((vq n es).take i))/\∀(j:Nat) b,j<i->(vq n es)[j]?=Z b->ah0 n b)
  (vq n es).length [(1,pT (Z B)),(7,sL (Z L) n n),(26,bv),(27,.int .i64 (vq n es).length),(28,(0:Nat))] fD
  ⟨0,rP n (.slice Y 0 0),rfl,vZ _,rfl,qL233,by rw[ajO,ahD];exact R0,fun j b D=>absurd D (adQ j)⟩ ?_
 clear R0 l4 w4;clear h4;rintro k fr J ay ⟨i,us,rfl,hi,rfl,S,R,m⟩;refine Uy ?_;refine Kl.intro (fun ht=>?_) (fun hf=>?_)
 rotate_left
 .have T:(vq n es).length<=i:=vp hf;rw[HV T]at R;have E:∀b∈vq n es,ah0 n b:=fun b hb=>by
   obtain⟨j,D⟩:=yM.1 hb;exact m j b (by have:=(Ny.1 D).1;omega) D
  obtain⟨c1,c2⟩:=cert_ok d E;have w:aak n es:=(acp d).2 fun b hb=>(aem (aaQ d hb)).2 ((E b hb).planar (aaQ d hb).1.GD);refine Uy ?_;exact⟨(f.trans l).trans R.le,.inr (.inl ⟨d,w,_,rfl,R.rl S,c1,c2⟩)⟩
 have a:i<(vq n es).length:=CC ht;clear ht;have U:=CA a;have O:=aaQ d (aev a);have V:(vq n es)[i].Sublist es:=by obtain⟨p,-,e⟩:=aaP.1 (aev a);rw[e];exact ajm _
 have W:=hB.addr (P:=pG) NQ eY Ji (k:=.i64) i a;obtain⟨xb,pb,X⟩:=hB.loadS eY rfl i a;have aa:(vq n es).take (i+1)=(vq n es).take i++[(vq n es)[i]]:=XJ a;have ae:(vq n es)[i].length<=594:=VU V.length_le C;have ag:=ajM d m;have ai:(vq n es)[i]∈vq n es:=aev a;generalize (vq n es)[i]=b at*;have aw:=aaa i NH;refine Sk (XC W (X J R.le)) ?_;refine kCi func35 (ajK A h3 J L n us _ R (aic _ _) xb b pb O ae NH (fun r aj=>by have:=ag r aj;omega)) ?_;rintro x h5 w5 (⟨rfl,al,l5⟩|⟨rfl,BR,aq,F,R'⟩)
 .have w:¬aak n es:=fun q=>al ((aem O).1 ((acp d).1 q b ai));have y:=R.le.trans l5;refine Sk ((I h5 (l.trans y)).1) ?_;refine kCi func36 (ahs A _ ⟨(n:Int),es⟩ h5 (o.le (f.trans (l.trans y)))) ?_;rintro x h6 w6 ⟨l6,⟨u,-⟩|⟨-,lv,rfl,pl,ct⟩⟩
  .exact absurd d u
  refine Uy ?_;exact⟨(f.trans (l.trans y)).trans l6,.inr (.inr ⟨d,w,lv,rfl,pl,ct⟩)⟩
 .rw[<-ajL,<-aa]at R';simp only[HO,seval,aw];exact lgA (stpP a) ⟨i+1,aq,rfl,a,rfl,F,R',fun j c D H=>by
    by_cases e:j=i
    .subst e;rw[U]at H;injection H with H;rw[<-H];exact BR
    .exact m j c NH H⟩
end
section
attribute [local instance] Classical.propDecidable
attribute [local irreducible] Kp MQ lU KO1 KO KN KX KE VK Kl ZJ TC aab
variable {es:List Pr}
def ajH(h:aaz es≠0):bX ⟨200,es⟩:=uV fun q=>h (abe q)
def CertG(G:GM)(rs:AM)(ps:xLP):Prop:=bX G/\((ps=[]/\Av G.n.toNat G.es rs/\z8 G.n.toNat G.es rs)\/(ps≠[]/\rs=[]/\aaz ps≠0/\∀p∈ps,p∈G.es))
def ahY(s:LA)(v z y:vV)(G:GM)(rs:AM)(ps:xLP)(h:aai)(hg:GR h v G)(R:RL (RL RP) h z rs)(hw:PR h y ps):
  AC pG s 19 [v,z,y] h fun x h'=>RR (CertG G rs ps) x/\Le h h':=by
 have u:=hg;obtain⟨A,es⟩:=G
 obtain⟨ev,rfl,S⟩:=hg.open
 refine AC.vE ⟨qS32,rfl,WY⟩ ntmps19 results19 fun C=>?_;simp only[Br,seval];obtain⟨D,b1,a,aa,-,F⟩:=r8 (n:=A) C S
 generalize h.next=B at*
 have lR:=fun g=>R.qP6 g;have T:=fun g=>hw.len g;refine Sk (XC b1 ((F D (Le.refl _)).1)) ?_;refine kCi yU (ak s _ ⟨A,es⟩ D (u.le a)) ?_;rintro x h2 w2 ⟨⟨H,rfl,j⟩,l2⟩;cases H with
 |false=>refine Uy ?_;exact⟨.f (fun q=>by cases j.2 q.1),a.trans l2⟩
 |true=>
 have U:=j.1 rfl;clear j;have b:=a.trans l2;refine Sk T ?_;by_cases r:ps=[]
 .subst r;have d:decide (((([]:xLP).length:Nat):Int)=0)=tT:=by decide
  refine Sk (XC d ((F h2 l2).1)) ?_;refine kCi func24 (akf s _ z ⟨A,es⟩ rs h2 (u.le b) (R.le (Nn.RL Nn.RP) b)) ?_;rintro x h3 w3 ⟨⟨H,rfl,j⟩,l3⟩;refine Uy ?_;refine⟨⟨H,rfl,j.trans ⟨fun q=>⟨q.1,.inl ⟨rfl,q.2⟩⟩,fun q=>⟨q.1,?_⟩⟩⟩,b.trans l3⟩;rcases q.2 with q|q
  .exact q.2
  .exact absurd rfl q.1
 have ae:0<ps.length:=adE.2 r;have d:decide ((ps.length:Int)=0)=fF:=WA NH;refine Sk (XC d lR) ?_;by_cases c1:rs=[]
 rotate_left
 .have:0<rs.length:=adE.2 c1;have d1:decide ((rs.length:Int)>0)=tT:=qL7 NH;refine Sk d1 ?_;refine⟨.f fun q=>?_,b⟩;rcases q.2 with q|q
  .exact r q.1
  .exact c1 q.2.1
 subst c1;have d1:decide (((([]:AM).length:Nat):Int)>0)=fF:=by decide
 refine Sk d1 ?_;refine kCi func25 (Kind_any s y ps h2 (hw.le b)) ?_;rintro x h3 w3 ⟨rfl,l3⟩;by_cases c2:aaz ps=0
 .have d2:decide (aaz ps=0)=tT:=qL7 c2;refine Sk @d2 ?_;refine⟨.f fun q=>?_,b.trans l3⟩;rcases q.2 with q|q
  .exact r q.1
  .exact q.2.2.1 c2
 have d2:decide (aaz ps=0)=fF:=WA c2;have I:=l2.trans l3;have J:=U.len;have K:=(ajH c2).len;simp only at J K;refine Sk (XC @d2 T) ?_;refine lIn (fun k fr o=>∃(i:Nat),k=ps.length-i/\i<=ps.length/\fr=mkF [(3,pT (Z B)),(26,y),(27,.int .i64 ps.length),(28,.int .i64 i)]/\Le D o/\∀p∈ps.take i,p∈es) ⟨0,rfl,vZ _,rfl,I,Ma⟩ ?_;rintro k fr o L ⟨i,rfl,hi,rfl,M,l⟩;refine Uy ?_;refine Kl.intro (fun V=>?_) (fun hf=>?_)
 rotate_left
 .have N:ps.length<=i:=vp hf;rw[HV N]at l;refine Uy ?_;exact⟨.t ⟨U,.inr ⟨r,rfl,c2,l⟩⟩,a.trans M⟩
 have e:i<ps.length:=CC V;clear V;have O:=CA e;have w:=aev e;have P:ps.take (i+1)=ps.take i++[ps[i]]:=XJ e;generalize ps[i]=p at*;have ad:=hw.addr (k:=.i64) i e;have ld:=(hw.le (a.trans M)).load O;obtain⟨ag,W,e6,s6,l6,w6,o6⟩:=Ut L p;have Q:=uM o6;have aw:=aaa i NH;have m:=M.trans l6
 generalize o.next=E at*
 simp only[HO,seval,ad,ld,e6,s6,Q,Di,Ip,EL,(F W m).2.2];refine kCi func43 (aiZ s ev es p W (S.le (a.trans m)) NH) ?_;rintro x h7 w7 ⟨rfl,X⟩;by_cases c:p∈es
 .have dc:decide (p∈es)=tT:=qL7 c;simp only[HO,seval,dc,aw];exact lgA (JS e) ⟨i+1,rfl,e,rfl,m.trans X,fun q o=>by
    rw[P,aax,iy]at o;rcases o with o|rfl
    .exact l q o
    .exact c⟩
 .have dc:decide (p∈es)=fF:=WA c;refine Sk dc ?_;refine⟨.f fun q=>?_,a.trans (m.trans X)⟩;rcases q.2 with q|q
  .exact r q.1
  .exact c (q.2.2.2 p w)
end
section
attribute [local irreducible] Kp MQ lU KO1 KO KN KX KE VK Kl ZJ TC aab
attribute [local irreducible] Jz JL vq cQ
variable {es:List Pr} {h':aai} {n:Nat} {rs:AM} {x:Value}
def noR:bX ⟨((0:Nat):Int),[]⟩:=V5 WY WY WY WY
def RN(h:aai):RL (RL RP) h (.slice Y 0 0) []:=(Lj.nil (RL RP) h).rl (Nn.RL Nn.RP)
def aiE.plan(c:aiE ⟨(n:Int),es⟩ h' x)(b:bX ⟨(n:Int),es⟩)(d:aak n es):
  ∃a rs,x=.tuple #[a,.slice Y 0 0,.int .i64 0]/\RL (RL RP) h' a rs/\Av n es rs/\Flat n (Xl rs):=by
 rcases c with⟨q,-⟩|⟨-,-,a,e,h2,h3,f⟩|⟨-,q,-⟩
 .exact absurd b q
 .exact⟨a,_,e,h2,h3,f⟩
 .exact absurd d q
def aiE.twist(c:aiE ⟨(n:Int),es⟩ h' x)(b:bX ⟨(n:Int),es⟩)(d:¬aak n es):
  ∃a,x=.tuple #[.slice Y 0 0,a,.int .i64 0]/\PR h' a (abv ⟨(n:Int),es⟩)/\Ct a (abv ⟨(n:Int),es⟩).length:=by
 rcases c with⟨q,-⟩|⟨-,q,-⟩|⟨-,-,q⟩
 .exact absurd b q
 .exact absurd q d
 .exact q
def aiF(a:bX ⟨(n:Int),es⟩)(G:Av n es rs)(F:Flat n (Xl rs)):CertG ⟨(n:Int),es⟩ rs []:=⟨a,.inl ⟨rfl,G,(En a.GD a.q9 G).2 F⟩⟩
def ahU (W0:LA) (h:aai):AC Tryz.prog W0 11 [] h fun x h'=>x=.bool true/\Le h h':=by
 refine AC.vE ⟨Tryz.func11,rfl,WY⟩ Tryz.ntmps11 Tryz.results11 fun hwf=>?_;simp only[Br,Nat.reduceAdd];have d0:decide ((0:Int)=0)=true:=by decide
 have d5:decide ((5:Int)=5)=true:=by decide
 have d4:decide ((4:Int)=4)=true:=by decide
 have aw0:aaY .i64 (0+0)=0:=by decide
 have E5:afP 0 5 5=k5L:=by decide
 obtain⟨h1,e1,l1,w1,o1⟩:=Tt hwf (Iu ajl);have m1:=mkP6 h (0,1) (0,2) (1,2) (2,3) (2,4) (3,4);have hk:Iu [(0,1),(0,2),(1,2),(2,3),(2,4),(3,4)]=Iu ajl:=rfl;rw[hk,e1]at m1
 have p1:PR h1 (.slice (some ⟨h.next,0,none⟩) 6 6) ajl:=PR.made o1 rfl
 obtain⟨h2,h3,a2,s2,l3,w3,lG⟩:=newG (n:=5) w1 p1;have bg:=Wj (n:=5) p1.sl;obtain⟨h4,h5,a4,s4,l5,w5,nX,G0⟩:=GX.new w3 5;simp only[HO,Nat.reduceLT,↓reduceIte,Nat.reduceEqDiff,reduceCtorEq,xe,m1,bg,a2,s2,ait,a4,s4]
 generalize h.next=R1 at*
 generalize h1.next=T at*
 generalize h3.next=X at*
 have p3:=p1.le l3;have l03:=l1.trans l3;clear p1 m1 e1 o1 a2 s2 a4 s4 bg hk w1;refine aab.intro (fun k fr hq=>∃(i:Nat) (v:Value),k=5-i/\i<=5/\fr=mkF [(1,.pointer (some ⟨T,0,none⟩)),(2,.pointer (some ⟨X,0,none⟩)),(23,.int .i64 (i:Nat))]/\GX hq X 5 v (afP 0 5 i)/\Le h3 hq/\Z2 h3 v)
  5 [(1,.pointer (some ⟨T,0,none⟩)),(2,.pointer (some ⟨X,0,none⟩)),(23,.int .i64 (0:Nat))] fD ⟨0,_,rfl,vZ _,rfl,G0,l5,fun b hb=>by simp[blk]at hb⟩ ?_
 clear G0 l5 w5;rintro k fr hq hwq ⟨i,v,rfl,hi,rfl,G,lq,ap⟩;have hb1:=ad5 0 5 i;by_cases c:i<5
 .have dc:decide ((i:Int)<5)=true:=qL7 NH;have tc:((i:Int)<5)=True:=eq_true NH;have aw:=aaa i NH;simp only[HO,Nat.reduceLT,↓reduceIte,Nat.reduceEqDiff,reduceCtorEq,dc,tc,aw];refine aab.intro (fun k fr hz=>∃(j:Nat) (v:Value),k=5-j/\i+1<=j/\j<=5/\fr=mkF [(1,.pointer (some ⟨T,0,none⟩)),(2,.pointer (some ⟨X,0,none⟩)),(3,.int .i64 (i:Nat)),(4,.int .i64 (j:Nat)),(23,.int .i64 (i:Nat))]/\GX hz X 5 v (afP 0 5 i++acJ i j)/\Le h3 hz/\Z2 h3 v)
   (5-(i+1)) [(1,.pointer (some ⟨T,0,none⟩)),(2,.pointer (some ⟨X,0,none⟩)),(3,.int .i64 (i:Nat)),(4,.int .i64 (i+1:Nat)),(23,.int .i64 (i:Nat))] fD ⟨i+1,v,rfl,qL0 _,NH,rfl,by simpa[acJ]using G,lq,ap⟩ ?_
  clear G lq ap hwq;clear hq v;rintro k fr hz hwz ⟨j,v,rfl,hj,hj5,rfl,G,lq,ap⟩;by_cases c2:j<5
  rotate_left
  .have dc:decide (((j:Nat):Int)<5)=false:=WA NH;have tc:(((j:Nat):Int)<5)=False:=eq_false NH;obtain rfl:j=5:=NH;simp only[HO,Nat.reduceLT,↓reduceIte,Nat.reduceEqDiff,reduceCtorEq,dc,tc,aw];exact tn (5-(i+1)) [(1,.pointer (some ⟨T,0,none⟩)),(2,.pointer (some ⟨X,0,none⟩)),(23,.int .i64 (i+1:Nat))] NH fD ⟨i+1,v,rfl,NH,rfl,by rw[afP,EL];exact G,lq,ap⟩
  have dc:decide (((j:Nat):Int)<5)=true:=qL7 NH;have tc:(((j:Nat):Int)<5)=True:=eq_true NH;have awj:=aaa j NH;have hb2:=ad4 i j;obtain⟨v',g4,g5,g6,q4,q5,q6,G7,w7,l7,f7,-⟩:=G.push' hwz ((i:Int),(j:Int)) (by rw[ZT];omega);obtain⟨l7',a7⟩:=f7 h3 lq nX ap;rw[Bx,<-afy hj]at G7;have bld:=xe (i:Int) (j:Int);simp only[HO,Nat.reduceLT,↓reduceIte,Nat.reduceEqDiff,reduceCtorEq,dc,tc,Di,Ip,EL,G.ld.2.2,bld,q4,q5,q6,awj];exact tn (5-(j+1)) [(1,.pointer (some ⟨T,0,none⟩)),(2,.pointer (some ⟨X,0,none⟩)),(3,.int .i64 (i:Nat)),(4,.int .i64 (j+1:Nat)),(23,.int .i64 (i:Nat))] NH fD ⟨j+1,v',rfl,NH,NH,rfl,G7,l7',a7⟩
 obtain rfl:i=5:=NH;have dc:decide (((5:Nat):Int)<5)=false:=by decide
 have tc:(((5:Nat):Int)<5)=False:=eq_false NH;rw[E5]at G;clear hb1 c hi ap nX;simp only[HO,Nat.reduceLT,↓reduceIte,Nat.reduceEqDiff,reduceCtorEq,dc,tc,(lG hq lq).1];refine TC.intro PJ ⟨qS31,rfl,WY⟩ (ahd W0 _ ⟨((5:Nat):Int),ajl⟩ hq ⟨_,rfl,p3.le lq⟩) ?_;rintro x h7 w7 ⟨l7,C⟩;obtain⟨rv,rs,rfl,hrv,RG,FL⟩:=C.plan bowR (acG bowR WY);clear C;simp only[HO,Nat.reduceLT,↓reduceIte,Nat.reduceEqDiff,reduceCtorEq,(G.le l7).ld.1];refine TC.intro PJ ⟨qS31,rfl,WY⟩ (ahd W0 _ ⟨((5:Nat):Int),k5L⟩ h7 ⟨v,rfl,(G.le l7).gp.pr⟩) ?_;rintro x h8 w8 ⟨l8,C⟩;obtain⟨wv,rfl,hw,-⟩:=C.twist k5R k5_np;clear C;rw[fnd_k5]at hw;simp only[HO,Nat.reduceLT,↓reduceIte,Nat.reduceEqDiff,reduceCtorEq,aew,agO];refine TC.intro PJ ⟨qS31,rfl,WY⟩ (ahd W0 _ ⟨((0:Nat):Int),[]⟩ h8 ⟨_,rfl,PR.nil _⟩) ?_;rintro x h9 w9 ⟨l9,C⟩;obtain⟨tv,ts,rfl,htv,TG,TF⟩:=C.plan noR (acG noR WY);clear C;have l79:=l8.trans l9;have hrv9:=hrv.le (Nn.RL Nn.RP) l79;have lr:=fun g=>hrv.qP6 g;have lt:=fun g=>htv.qP6 g;have lnR:=fun g=>(RN g).qP6 g;have lnP:=fun g=>(PR.nil g).len g;rw[RG.len]at lr;rw[TG.len]at lt;have h2l:2<rs.length:=by rw[RG.len];decide
 have ad:=hrv.qP7 2 h2l;obtain⟨u,lu',hu⟩:=hrv.NS 2 h2l;have lu:=fun g l=>lu' g l;have hul:(rs[2]'h2l).length=4:=by
  have:=(RG.perm 2 WY).length_eq;rw[xD,BS h2l]at this;exact this.trans WY
 have llu:=fun g=>hu.Uc g;rw[hul]at llu;have d55:decide (((5:Nat):Int)=5)=true:=by decide
 have d44:decide (((4:Nat):Int)=4)=true:=by decide
 have dn0:decide (((([]:List Pr).length:Nat):Int)=0)=true:=by decide
 have dn1:decide (((([]:AM).length:Nat):Int)=0)=true:=by decide
 simp only[NC]at ad;have l39:=lq.trans (l7.trans l79);have G9:=G.le (l7.trans l79);simp only[HO,Nat.reduceLT,↓reduceIte,Nat.reduceEqDiff,reduceCtorEq,aw0,d0,lr,d55,ad,lu h9 l79,llu,d44,lnP,dn0,(lG h9 l39).1];refine TC.intro PJ ⟨qS32,rfl,WY⟩ (ahY W0 _ rv (.slice none 0 0) ⟨((5:Nat):Int),ajl⟩ rs [] h9 ⟨_,rfl,p3.le l39⟩ hrv9 (PR.nil _)) ?_;rintro x h10 w10 ⟨⟨bb,rfl,hbb⟩,l10⟩;obtain rfl:bb=true:=hbb.2 (aiF bowR RG FL);clear hbb;have G10:=G9.le l10;have hw10:=hw.le (l9.trans l10);simp only[HO,Nat.reduceLT,↓reduceIte,Nat.reduceEqDiff,reduceCtorEq,lnR,dn1,Di,Ip,EL,G10.ld.2.2];refine TC.intro PJ ⟨Tryz.func17,rfl,WY⟩ (abn W0 wv v k5L k5L h10 hw10 G10.gp.pr WY) ?_;rintro x h11 w11 ⟨rfl,rfl⟩;have sp:decide (k5L=k5L)=true:=qL7 rfl;simp only[HO,Nat.reduceLT,↓reduceIte,Nat.reduceEqDiff,reduceCtorEq,sp,G10.ld.1];refine TC.intro PJ ⟨qS32,rfl,WY⟩ (ahY W0 _ (.slice none 0 0) wv ⟨((5:Nat):Int),k5L⟩ [] k5L h11 ⟨v,rfl,G10.gp.pr⟩ (RN _) hw10) ?_;rintro x h12 w12 ⟨⟨bb,rfl,hbb⟩,l12⟩;obtain rfl:bb=true:=hbb.2 ⟨k5R,.inr ⟨WY,rfl,by rw[kind_k5];decide,fun p hp=>hp⟩⟩;clear hbb;have aw00:aaY .i64 (((0:Nat):Int)+((([]:List Pr).length:Nat):Int))=0:=by decide
 simp only[HO,Nat.reduceLT,↓reduceIte,Nat.reduceEqDiff,reduceCtorEq,lt,lnP,aw00,d0,aew,agO];refine TC.intro PJ ⟨qS32,rfl,WY⟩ (ahY W0 _ tv (.slice none 0 0) ⟨((0:Nat):Int),[]⟩ ts [] h12 ⟨_,rfl,PR.nil _⟩ (htv.le (Nn.RL Nn.RP) (l10.trans l12)) (PR.nil _)) ?_;rintro x h13 w13 ⟨⟨bb,rfl,hbb⟩,l13⟩;obtain rfl:bb=true:=hbb.2 (aiF noR TG TF);clear hbb;have l913:=l10.trans (l12.trans l13);have l313:=l39.trans l913;simp only[HO,Nat.reduceLT,↓reduceIte,Nat.reduceEqDiff,reduceCtorEq,Di,Ip,EL,(lG h13 l313).1,(lG h13 l313).2.2];refine TC.intro PJ ⟨qS32,rfl,WY⟩ (ahY W0 _ rv _ ⟨((5:Nat):Int),ajl⟩ rs ajl h13 ⟨_,rfl,p3.le l313⟩ (hrv9.le (Nn.RL Nn.RP) l913) (p3.le l313)) ?_;rintro x h14 w14 ⟨⟨bb,rfl,hbb⟩,l14⟩;obtain rfl:bb=false:=by
  cases bb with
  |false=>rfl
  |true=>
   rcases(hbb.1 rfl).2 with q|q
   .exact absurd q.1 WY
   .have:=RG.len;rw[q.2.1]at this;cases this
 refine Uy ?_;exact⟨trivial,(l03.trans l313).trans l14⟩
end
section
attribute [local instance] Classical.propDecidable
attribute [local irreducible] Kp MQ lU KO1 KO KN KX KE VK Kl ZJ TC aab
def ajp(l:LA)(v:vV)(G:GM)(h:aai)(hg:GR h v G):AC pG l 21 [v] h fun x h'=>RR (bX G/\G.n<=20/\G.es.length<=50) x/\Le h h':=by
 have i:=hg;obtain⟨e,es⟩:=G
 obtain⟨ev,rfl,m⟩:=hg.open
 refine AC.vE ⟨func21,rfl,WY⟩ ntmps21 results21 fun j=>?_;simp only[Br,seval];obtain⟨o,r,a,s,-,p⟩:=r8 (n:=e) j m
 generalize h.next=B at*
 have k:=p o (Le.refl _);have t:=fun g=>m.len g;refine Sk (XC r k.1) ?_;refine kCi yU (ak l _ _ o (i.le a)) ?_;rintro x h2 w2 ⟨⟨u,rfl,d⟩,l2⟩;have b:=p h2 l2;cases u with
 |false=>refine Uy ?_;exact⟨RR.f (fun q=>by cases d.2 q.1),a.trans l2⟩
 |true=>
 have w:=d.1 rfl;by_cases c:e<=20
 rotate_left
 .have dc:decide (e<=20)=fF:=WA c;refine Sk (IX @Ii @Ip.eq_1 @EL b.2.1 dc) ?_;exact⟨RR.f (fun q=>c q.2.1),a.trans l2⟩
 have dc:decide (e<=20)=tT:=qL7 c;refine Sk (adG @Ii @Di @Ip.eq_1 @EL b.2.1 b.2.2 t dc) ?_;refine⟨⟨_,rfl,?_⟩,a.trans l2⟩;rw[vg];exact⟨fun q=>⟨w,c,NH⟩,fun q=>by have:=q.2.2;omega⟩
section
variable{n:Nat}{es:List Pr}{rs:AM}
theorem ajq(b:aV n es)(ha:D3 es)(G:Av n es rs)(F:Flat n (Xl rs)):n+(IN n rs).length+((Es n es).filter fun a=>decide (Gn es es a=0)).length=es.length+2*(Es n es).length:=by
 have R:=G.jD b ha;have c:mj n (Xl rs)=(IN n rs).length+((Es n es).filter fun a=>decide (Gn es es a=0)).length:=by grind[mj.eq_1,yp,agA,IN.eq_1,vf.eq_1]
 have d:(dl n (Xl rs)).length=2*es.length:=Ud R (ha.nodup) b fun v w=>G.mem b;grind[Flat.eq_1,IL]
def aiG{α:Type}(p q:α->Bool):∀l:List α,(∀a∈l,p a=!q a)->(l.filter p).length+(l.filter q).length=l.length
 |[],_=>rfl
 |a::l,h=>by have c:=aiG p q l fun b hb=>h b (si _ hb);have:=h a jz;rw[aiL,aiL,this];cases q a<;>simp<;>omega
def ai6(b:aV n es)(ha:D3 es)(G:Av n es rs)(F:Flat n (Xl rs)):n+(IN n rs).length=es.length+(Gx n es n).length+(((Gx n es n).map kz).filter fun l=>decide (1<l.length)).length:=by
 have d:=ajq b ha G F;have h2:=aiG (fun a=>decide (Gn es es a=0)) (fun a=>decide (1<(Ic n es a).length)) (Es n es) fun a ha=>by
  have:=ajF b (QO.1 ha).1;by_cases c:1<(Ic n es a).length
  .have:¬Gn es es a=0:=NH;simp[c,this]
  .have:Gn es es a=0:=NH;simp[c,this]
 have h3:(((Gx n es n).map kz).filter fun l=>decide (1<l.length)).length=((Es n es).filter fun a=>decide (1<(Ic n es a).length)).length:=by unfold Gx;rw[FD,aga,wI];congr 1;refine EH fun a _=>?_;simp[y6]
 have e:(Gx n es n).length=(Es n es).length:=wI _;omega
end
def ajr{x:Int}(a:-1000000<=x)(h2:x<=1000000):aaY .i64 x=x:=ie x NH NH
def awOut{k:Nat}(h:k<=1000):aaY .i64 (1-(k:Int)-1)=1-((k+1:Nat):Int):=(ajr NH NH).trans NH
def fcSum{n f e p k:Nat}(a:(n:Int)<=20)(b:e<=50)(d:p<=n)(g:k<=p)(c:n+f=e+p+k):aaY .i64 ((f:Int)+(1-(k:Int)))=(f:Int)+(1-(k:Int))/\aaY .i64 ((e:Int)+(p:Int))=(e:Int)+(p:Int)/\aaY .i64 ((e:Int)+(p:Int)+1)=(e:Int)+(p:Int)+1/\
  aaY .i64 ((e:Int)+(p:Int)+1-(n:Int))=(e:Int)+(p:Int)+1-(n:Int)/\decide ((f:Int)+(1-(k:Int))=(e:Int)+(p:Int)+1-(n:Int))=tT:=
 ⟨ajr NH NH,ajr NH NH,ajr NH NH,ajr NH NH,qL7 NH⟩
def aim (W0:LA) (v:Value) (G:GM) (h:aai) (hg:GR h v G):
  AC Tryz.prog W0 8 [v] h fun x h'=>x=.bool true/\Le h h':=by
 have hg0:=hg;obtain⟨gn,es⟩:=G
 obtain⟨ev,rfl,hp⟩:=hg.open
 refine AC.vE ⟨Tryz.func8,rfl,WY⟩ Tryz.ntmps8 Tryz.results8 fun hwf=>?_;simp only[Br,Nat.reduceAdd];obtain⟨h1,b1,le1,wf1,-,lA⟩:=r8 (n:=gn) hwf hp
 generalize h.next=B at*
 simp only[HO,Nat.reduceLT,↓reduceIte,Nat.reduceEqDiff,reduceCtorEq,b1,(lA h1 (Le.refl _)).1];refine TC.intro PJ ⟨Tryz.func21,rfl,WY⟩ (ajp W0 _ ⟨gn,es⟩ h1 (hg0.le le1)) ?_;rintro x h2 w2 ⟨⟨bb,rfl,hbb⟩,l2⟩;cases bb with
 |false=>
  refine Uy ?_;refine TC.intro PJ ⟨Tryz.func11,rfl,WY⟩ (ahU W0 h2) ?_;rintro x h3 w3 ⟨rfl,l3⟩;refine Uy ?_;exact⟨trivial,(le1.trans l2).trans l3⟩
 |true=>
 obtain⟨hr,hn,he⟩:=hbb.1 rfl;clear hbb;obtain⟨n,rfl⟩:=Sb hr.n0;simp only at hn he;have l02:=le1.trans l2;simp only[HO,Nat.reduceLT,↓reduceIte,Nat.reduceEqDiff,reduceCtorEq,(lA h2 l2).1];refine TC.intro PJ ⟨qS31,rfl,WY⟩ (ahd W0 _ ⟨(n:Int),es⟩ h2 (hg0.le l02)) ?_;rintro x h3 w3 ⟨l3,C⟩;have l13:=l2.trans l3;have d0:decide ((0:Int)=0)=true:=by decide
 have lnP:=fun g=>(PR.nil g).len g;have dn0:decide (((([]:List Pr).length:Nat):Int)>0)=false:=by decide
 by_cases hpk:aak n es
 rotate_left
 .obtain⟨wv,rfl,hw,-⟩:=C.twist hr hpk;have lw:=fun g=>hw.len g;cases dk:decide (((abv ⟨(n:Int),es⟩).length:Int)>0)
  .have:=SR dk;exfalso;have e0:abv ⟨(n:Int),es⟩=[]:=Zw.1 NH;exact hpk ((fnd_nil hr).1 e0)
  .simp only[HO,Nat.reduceLT,↓reduceIte,Nat.reduceEqDiff,reduceCtorEq,bne,d0,lw,dk];refine TC.intro PJ ⟨Tryz.func11,rfl,WY⟩ (ahU W0 h3) ?_;rintro x h4 w4 ⟨rfl,l4⟩;refine Uy ?_;exact⟨trivial,(le1.trans l13).trans l4⟩
 obtain⟨rv,rs,rfl,hrv,RG,FL⟩:=C.plan hr hpk;clear C;simp only[HO,Nat.reduceLT,↓reduceIte,Nat.reduceEqDiff,reduceCtorEq,bne,d0,lnP,dn0];have hrl:rs.length=n:=RG.len;refine TC.intro PJ ⟨Tryz.func29,rfl,WY⟩ (aiU W0 rv rs h3 hrv) ?_;rintro x h4 w4 ⟨l4,⟨-,hno⟩|⟨es',fv,-,-,rfl,hfv⟩⟩
 .exact absurd ⟨es,by rw[hrl];exact hr,by rw[hrl];exact RG⟩ hno
 rw[hrl]at hfv;have l14:=l13.trans l4;simp only[HO,Nat.reduceLT,↓reduceIte,Nat.reduceEqDiff,reduceCtorEq,(lA h4 l14).1];refine TC.intro PJ ⟨Tryz.func30,rfl,WY⟩ (It W0 _ ⟨(n:Int),es⟩ h4 (hg0.le (le1.trans l14)) hr) ?_;rintro pv h5 w5 ⟨gp,l5,-⟩;simp only[IE]at gp;have hpv:=gp.rl (Nn.RL Nn.RP);have OT:=ai6 hr.GD hr.q9 RG FL;have hpn:(Gx n es n).length<=n:=by
  unfold Gx;rw[wI];exact vH n es
 have hpl:((Gx n es n).map kz).length=(Gx n es n).length:=wI _;generalize (Gx n es n).map kz=PL at*;clear gp;have hP1:PL.length<=1000:=NH;have lp:=fun g=>hpv.qP5 g;have lf:=fun g=>hfv.qP5 g;simp only[HO,Nat.reduceLT,↓reduceIte,Nat.reduceEqDiff,reduceCtorEq,lp];refine aab.intro (fun k fr hq=>∃(i:Nat),k=PL.length-i/\i<=PL.length/\fr=mkF [(1,.pointer (some ⟨B,0,none⟩)),(6,fv),(7,.int .i64 0),(8,pv),(9,.int .i64 (1-((((PL.take i).filter fun l=>decide (1<l.length)).length:Nat):Int))),(41,pv),(42,.int .i64 PL.length),(43,.int .i64 i)]/\hq=h5)
  PL.length [(1,.pointer (some ⟨B,0,none⟩)),(6,fv),(7,.int .i64 0),(8,pv),(9,.int .i64 1),(41,pv),(42,.int .i64 PL.length),(43,.int .i64 (0:Nat))] fD ⟨0,rfl,vZ _,by rw[ajO];rfl,rfl⟩ ?_
 rintro k fr hq hwq ⟨i,rfl,hi,rfl,rfl⟩;refine Uy ?_;have hk:((PL.take i).filter fun l=>decide (1<l.length)).length<=i:=VU (Vn _ _) (by rw[Bn];omega);refine Kl.intro (fun ht=>?_) (fun hf=>?_)
 .have hlt:i<PL.length:=CC ht;clear ht;have ar:=hpv.Wm i hlt;obtain⟨u,lu',hu⟩:=hpv.NS i hlt;have lu:=lu' hq (Le.refl _);have ll:=fun g=>hu.Uc g;have htk:PL.take (i+1)=PL.take i++[PL[i]]:=XJ hlt
  have hf:((PL.take (i+1)).filter fun l=>decide (1<l.length)).length=((PL.take i).filter fun l=>decide (1<l.length)).length+if 1<PL[i].length then 1 else 0:=by
   rw[htk,Db,ZT];by_cases c:1<PL[i].length<;>simp[c]
  have aw:=aaa i NH;have hk1:((PL.take i).filter fun l=>decide (1<l.length)).length<=1000:=VU hk (VU (Nat.le_of_lt hlt) hP1);by_cases c:1<PL[i].length
  .rw[Z6 c]at hf;have dc:decide ((PL[i].length:Int)>1)=true:=qL7 NH;have aws:aaY .i64 (1-((((PL.take i).filter fun l=>decide (1<l.length)).length:Nat):Int)-1)=1-((((PL.take (i+1)).filter fun l=>decide (1<l.length)).length:Nat):Int):=by rw[hf];exact awOut hk1
   simp only[HO,Nat.reduceLT,↓reduceIte,Nat.reduceEqDiff,reduceCtorEq,ar,lu,ll,dc,aws,aw];exact tn (PL.length-(i+1)) [(1,.pointer (some ⟨B,0,none⟩)),(6,fv),(7,.int .i64 0),(8,pv),(9,.int .i64 (1-((((PL.take (i+1)).filter fun l=>decide (1<l.length)).length:Nat):Int))),(41,pv),(42,.int .i64 PL.length),(43,.int .i64 (i+1:Nat))] (JS hlt) fD ⟨i+1,rfl,hlt,rfl,rfl⟩
  .rw[abe c]at hf;replace hf:=hf.trans (Ki _);have dc:decide ((PL[i].length:Int)>1)=false:=WA NH;simp only[HO,Nat.reduceLT,↓reduceIte,Nat.reduceEqDiff,reduceCtorEq,ar,lu,ll,dc,aw];exact tn (PL.length-(i+1)) [(1,.pointer (some ⟨B,0,none⟩)),(6,fv),(7,.int .i64 0),(8,pv),(9,.int .i64 (1-((((PL.take i).filter fun l=>decide (1<l.length)).length:Nat):Int))),(41,pv),(42,.int .i64 PL.length),(43,.int .i64 (i+1:Nat))] (JS hlt) fD ⟨i+1,rfl,hlt,by rw[hf];rfl,rfl⟩
 have hge:PL.length<=i:=vp hf;rw[HV hge]at hk ⊢;have lh:=fun g=>hp.len g;generalize (PL.filter fun l=>decide (1<l.length)).length=K at*;obtain⟨a1,a2,a3,a4,dq⟩:=fcSum hn he (p:=PL.length) (k:=K) (f:=(IN n rs).length) NH NH NH;have A5:=lA hq (l14.trans l5);simp only[HO,Nat.reduceLT,↓reduceIte,Nat.reduceEqDiff,reduceCtorEq,d0,lf,lh,lp,Ii,Di,Ip,EL,A5.2.1,A5.2.2,a1,a2,a3,a4,dq];refine TC.intro PJ ⟨Tryz.func11,rfl,WY⟩ (ahU W0 hq) ?_;rintro x h6 w6 ⟨rfl,l6⟩;refine Uy ?_;exact⟨trivial,((le1.trans l14).trans l5).trans l6⟩
end
section
open Go.Proofs Go.ChangeShapes Go.WideShapes Go.RowKit Go.ChangeAt
open Go.Proofs.YtnakkbhjoiheoaaGreat
def ah9(os:Os)(started:os.Started)(H:Type)(enc:TypeId×vV->H):
  ReturnsInHanded {} Tryz.checked os 8 .any (Rows.planarFacesSpec.pre6 enc pG Tryz.f8 Rows.planarFacesRow.domain fF) (Rows.planarFacesSpec.post enc pG Tryz.f8 fF tT fF fF):=by
 have own:ownKnob pG.godebug=Option.none:=Ji;have laidOut:laidOutB pG=tT:=Ji;refine returnsInHanded_of_change (C:=Tryz.checked) own started Ji func8
  (ChangeSpec.witness6 (enc:=enc) (C:=Tryz.checked) fF ⟨#[],#[.agg #[.int .i64 0,.slice Option.none 0 0]],[]⟩ 8 Ji Ji Ji Ji) ?_
 intro W base args ds gs before c m n _;have b:∀(j:Nat) t v,Tryz.f8.params[j]?=Z t->args[j]?=Z v->vV.okWide pG W .any base t v:=c;have f:=m;obtain⟨p,q,h,r,rfl,s,u⟩:=m;have hA:DataW.TrodAll enc pG W 0 (fun _=>tT) tT Tryz.f8.params.toList args.toList ds p:=h;rw[Tryz.params8]at hA b;obtain⟨i,E,F,G,w,I,a,rfl,rfl,o,hA⟩:=trodAll_cons hA;obtain⟨rfl,rfl,rfl⟩:=trodAll_nil hA;obtain rfl:args=#[i]:=by cases args;simp_all
 obtain⟨rfl,rfl⟩:=trodVars_none r;obtain⟨z,x0,k,l⟩:=afp (b 0 24 i rfl rfl) o (fun _=>⟨0,0,0⟩);refine(aim (LA.of W) z x0 (MR W) l [] (fun _=>⟨0,0,0⟩) W [i] (Rel.start W _) ?_).mono ?_
 .exact .cons k ((.nil _ _))
 .rintro e A ⟨x,x',J,h',rfl,R,-,-,B,rfl,-⟩;obtain rfl:=B.YE;have hb:=R.below;have g:∀y∈w,y.block<W.heap.size:=fun y D=>f.lt y (by simp[D]);have d:DataW.Trod enc pG A W.heap.size (fun _=>fF) fF 4 (.bool tT) (.lit (.bool tT)) []:=⟨1,by simp[DataW.trod,vV.cells,AV]⟩;have a:=
   tcons (Below.trod laidOut Ji (aeu Ji) o hb g) (trodAll_mk0)
  try simp only[aik,IK]at a
  exact⟨_,rfl,_,_,_,[],_,[],f,trodAll_mk1 d,a,rfl,hb.frame _,fun e=>by cases e⟩
def planarFaces_said:Rows.PlanarFacesSaid:=
 OpenClaim.holds_of_wide 8 Tryz.f8 rfl rfl rfl rfl rfl rfl rfl ⟨rfl,rfl,rfl,rfl,rfl⟩ rfl rfl rfl rfl rfl Ji func8 Ji
  (aeu Ji) (by unfold Func.isWrapper;first|(rw[Z6 iw];kernel_rfl)|(rw[abe iw];exact⟨rfl,rfl⟩))
  (fun os started H enc _=>ah9 os started H enc)
end
end Go.Fw
