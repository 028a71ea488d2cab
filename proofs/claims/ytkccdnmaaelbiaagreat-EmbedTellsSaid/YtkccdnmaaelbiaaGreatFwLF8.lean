/- A text. -/
import Derived.Test.YtkccdnmaaelbiaaGreatFwLF6
set_option linter.all false
set_option maxRecDepth 99999
set_option maxHeartbeats 9999999
open Go.Proofs
namespace Go.Fw
section
attribute [local instance] Classical.propDecidable
attribute [local irreducible] Kp MQ lU rS KO KN KX KE VK Kl ZJ TC aab
attribute [local irreducible] IN Gn sA Es Ic Gx
variable {a b c i n q:Nat} {es:List Pr} {l:II} {rs:AM}
def cnt_ok(h:a<=40000):adA .i64 ((a:Int)+1)=(a:Int)+1:=ie _ NH NH
def cnt_ok2(h:a<=40000):adA .i64 ((a:Int)+2)=(a:Int)+2:=ie _ NH NH
def cnt_ok3(h:a<=40000)(g:b<=40000):adA .i64 ((a:Int)+(b:Int))=(a:Int)+(b:Int):=ie _ NH NH
def pl_iff:((a:Int)+(b:Int)=(c:Int)+2)↔a+b=c+2:=NH
def pl_pos:((c:Int)>0)↔0<c:=NH
def rep_map(n:Nat):List.replicate n (Value.int .i64 0)=Bp (List.replicate n 0):=by simp[Bp]
theorem aiu(n:Nat)(es:List Pr)(k:Nat):(Gx n es k).length=(Es k es).length:=by grind[Gx]
theorem al0(n:Nat)(es:List Pr)(k i:Nat)(h:i<(Es k es).length):(Gx n es k)[i]'(by grind[aiu])=Ic n es (Es k es)[i]:=by grind[Gx]
def edK_nil(n:Nat)(es b:List Pr):(List.replicate (Es n b).length (0:Int))=(Es n b).map fun a=>((Gn es ([]:List Pr) a:Nat):Int):=by apply qQ<;>simp[Gn,VF]
def faK_nil(n:Nat)(es b:List Pr):(List.replicate (Es n b).length (0:Int))=(Es n b).map fun a=>((sA es ([]:AM) a:Nat):Int):=by apply qQ<;>simp[sA,VF]
def edK_step(d:InR n es){l:List Pr}{e:Pr}(b:q<(Es n es).length)(c:Pu es (Es n es)[q] e.1.toNat):
  ((Es n es).map fun a=>((Gn es (l++[e]) a:Nat):Int))=((Es n es).map fun a=>((Gn es l a:Nat):Int)).set q (((Gn es l (Es n es)[q]:Nat):Int)+1):=by
 unfold Gn;exact ajQ b c (ajR d b c)
def faK_step(d:InR n es){l:AM}{e:RZ}(b:q<(Es n es).length)(c:Pu es (Es n es)[q] (e.headD 0).toNat):
  ((Es n es).map fun a=>((sA es (l++[e]) a:Nat):Int))=((Es n es).map fun a=>((sA es l a:Nat):Int)).set q (((sA es l (Es n es)[q]:Nat):Int)+1):=by
 unfold sA;exact ajQ b c (ajR d b c)
theorem edK_le(es l:List Pr)(a:Nat):Gn es l a<=l.length:=by grind[Gn,aiH]
theorem faK_le(es:List Pr)(l:AM)(a:Nat):sA es l a<=l.length:=by grind[sA,aiH]
theorem akF(n:Nat)(es:List Pr)(a:Nat):(Ic n es a).length<=n:=by grind[Ic]
def ai6{f:Nat->Int}(h:i<l.length):(l.map f)[i]?=some (f l[i]):=by simp[h]
theorem head_get{l:RZ}(h:0<l.length):l[0]=l.headD 0:=by
 cases l<;>grind
theorem z8.not(h:i<(Es n es).length)(a:0<Gn es es (Es n es)[i])(h2:¬(Ic n es (Es n es)[i]).length+sA es (IN n rs) (Es n es)[i]=Gn es es (Es n es)[i]+2):¬z8 n es rs:=fun H=>h2 (H _ (j9 h) a)
theorem al3(W0:LA)(v rv:Value)(G:GM)(rs:AM)(h:aae)(hg:GR h v G)(hv:RL (RL RP) h rv rs):
  AC Tryz.prog W0 27 [v,rv] h fun x h'=>afK (bX G/\Av G.n.toNat G.es rs/\z8 G.n.toNat G.es rs) x/\Le h h':=by
 have bm:=hg;obtain⟨gn,es⟩:=G
 obtain⟨ev,rfl,hp⟩:=hg.open
 refine AC.vE ⟨Tryz.func27,rfl,WY⟩ Tryz.ntmps27 Tryz.results27 fun b5=>?_;simp only[Br,seval];obtain⟨h1,b1,R,c6,-,lA⟩:=r8 (n:=gn) b5 hp
 generalize h.next=B at*
 have b6:=lA h1 (Le.refl _);refine Sk (XC b1 b6.1) ?_;refine kCi Tryz.func26 (ajm W0 _ rv ⟨gn,es⟩ rs h1 (bm.le R) (hv.le (Nn.RL Nn.RP) R)) ?_;rintro x h2 w2 ⟨⟨b,rfl,hb⟩,l2⟩;cases b
 .refine Uy ?_;exact⟨⟨false,rfl,pw⟩,R.trans l2⟩
 obtain⟨hr,G⟩:=hb.1 rfl;have h0:0<=gn:=hr.n0;obtain⟨n,rfl⟩:=Z6 h0;simp only[af8]at G ⊢;have hR:=hr.GD;have hA:=hr.q9;have c3:(n:Int)<=200:=hr.n1;have c4:es.length<=594:=hr.len;have aH:n<=200:=NH;have fin:∀b,(b=true↔z8 n es rs)->∀o,Le h o->afK (bX ⟨(n:Int),es⟩/\Av n es rs/\z8 n es rs) (.bool b)/\Le h o:=fun b hb o lz=>⟨⟨b,rfl,hb.trans ⟨fun p=>⟨hr,G,p⟩,fun p=>p.2.2⟩⟩,lz⟩;have c9:=lA h2 l2;refine Uy ?_;refine kCi Tryz.func68 (alZ W0 rv rs h2 (hv.le (Nn.RL Nn.RP) (R.trans l2))) ?_;rintro x h3 w3 ⟨l3,⟨rfl,b8⟩|⟨b9,fv,cc,G',rfl,hf⟩⟩
 .exact absurd ⟨es,by grind[Av.len],by grind[Av.len]⟩ b8
 clear cc G' b9;rw[G.len]at hf;have d0:decide ((0:Int)=0)=true:=by decide
 have fT:=lA h3 (l2.trans l3);simp only[HO,seval,bne,d0,fT.1];refine kCi Tryz.func64 (It W0 _ ⟨(n:Int),es⟩ h3 (bm.le ((R.trans l2).trans l3)) hr) ?_;rintro pv M w4 ⟨gp,l4,-⟩;simp only[af8]at gp;have rp:=gp.rl (Nn.RL Nn.RP);have lp:=fun g=>rp.qP5 g;have cd:((Gx n es n).map aaa).length=(Es n es).length:=by grind[aiu]
 rw[cd]at lp;have da:(Es n es).length<=n:=vH _ _;have aJ:=hf.le (Nn.RL Nn.RP) l4;have aK:=(l2.trans l3).trans l4;have bo:=R.trans aK;have cf:=lA M aK;have cg:=fun g:aae=>Ye (P:=Tryz.prog) (t:=49) (z:=.int .i64 0) g Mb rfl rfl rfl rfl Ji Ac Ji n NH;have ck:=fun g:aae=>Ye (P:=Tryz.prog) (t:=49) (z:=.int .i64 0) g Mb rfl rfl rfl rfl Ji Ac Ji (Es n es).length NH;obtain⟨h5,e5,l5,w5,o5⟩:=Tt w4 (List.replicate n (.int .i64 0))
 have nH:M.own M.next=none:=(Le.refl M).next w4 (qL0 _)
 refine Sk (bG @Ii @Ip.eq_1 @Gc cf.2.1 cg e5) ?_
 generalize M.next=H at*
 apply Ya (F:=fun(fr:aap)(h':aae)=>∃A C D,Fj fr [(2,.pointer (some ⟨B,0,none⟩)),(5,fv),(7,pv),(8,.slice (some ⟨H,0,none⟩) n n),(9,.slice (some ⟨A,0,none⟩) (Es n es).length (Es n es).length),(10,.slice (some ⟨C,0,none⟩) (Es n es).length (Es n es).length),(11,.slice (some ⟨D,0,none⟩) (Es n es).length (Es n es).length)]/\aic h5 h' A C D (List.replicate (Es n es).length (.int .i64 0)))
 .intro cont;refine gh (tA [0,1,3,4,6,7] (.ch 2 [1] (tA [9] (.ch 5 [4] (tA [10] (JQ 8 [7] (tA [11] .done))) (JQ 8 [7] (JQ 5 [4] (tA [10,11] .done))))) (.ch 5 [4] (.ch 2 [1] (tA [9,10] (JQ 8 [7] (tA [11] .done))) (JQ 8 [7] (JQ 2 [1] (tA [9,10,11] .done)))) (JQ 8 [7] (.ch 2 [1] (tA [9] (JQ 5 [4] (tA [10,11] .done))) (JQ 5 [4] (JQ 2 [1] (tA [9,10,11] .done)))))))) ?_;simp only[qj,seval,Qg,lp,ck,om];have N:=new3 w5 (List.replicate (Es n es).length (.int .i64 0));refine⟨⟨?_,?_⟩,⟨?_,?_⟩,?_,?_⟩
  all_goals
   refine KN.UJ fun fr' h' e1 e2=>cont fr' h' ?_;subst e1 e2
   first
    |(refine⟨_,_,_,?_,N⟩;simp only[Fj,HO,seval];simp;done)
    |(refine⟨_,_,_,?_,N.s12⟩;simp only[Fj,HO,seval];simp;done)
    |(refine⟨_,_,_,?_,N.s23⟩;simp only[Fj,HO,seval];simp;done)
    |(refine⟨_,_,_,?_,N.s12.s23⟩;simp only[Fj,HO,seval];simp;done)
    |(refine⟨_,_,_,?_,N.s23.s12⟩;simp only[Fj,HO,seval];simp;done)
    |(refine⟨_,_,_,?_,N.s12.s23.s12⟩;simp only[Fj,HO,seval];simp;done)
 rintro fr h6 ⟨A,C,D,br,N⟩;simp only[Fj]at br;obtain⟨f2,f5,f7,f8,f9,bx,bB,-⟩:=br;refine Sk (XC f7 lp) ?_;have l6:=l5.trans N.le;have aP:=N.le.own _ _ o5;have aT:=N.oA;have aV:=N.oB;have aW:=N.oC;rw[rep_map]at aP aT aV aW;have db:H≠A:=fun e=>by grind[aic.nA]
 have dc:H≠C:=fun e=>by grind[aic.nB]
 have dd:H≠D:=fun e=>by grind[aic.nC]
 have de:=N.ab;have df:=N.ac;have dj:=N.bc;have nA:M.own A=none:=l5.none N.nA;have nC:M.own C=none:=l5.none N.nB;have nD:M.own D=none:=l5.none N.nC;have w6:=N.wf;clear N o5 w5;refine aab.intro (fun k fr r=>∃(i:Nat)(L V:RZ),k=(Es n es).length-i/\i<=(Es n es).length/\fr=mkF [(2,.pointer (some ⟨B,0,none⟩)),(5,fv),(7,pv),(8,.slice (some ⟨H,0,none⟩) n n),(9,.slice (some ⟨A,0,none⟩) (Es n es).length (Es n es).length),(10,.slice (some ⟨C,0,none⟩) (Es n es).length (Es n es).length),(11,.slice (some ⟨D,0,none⟩) (Es n es).length (Es n es).length),(46,pv),(47,.int .i64 (Es n es).length),(48,.int .i64 i)]/\
   r.own H=some (.cells (Bp L))/\ahX n es i L/\r.own A=some (.cells (Bp V))/\V.length=(Es n es).length/\(∀j (T:j<(Es n es).length),j<i->V[j]?=some (((Ic n es (Es n es)[j]).length:Nat):Int))/\r.own C=some (.cells (Bp (List.replicate (Es n es).length 0)))/\r.own D=some (.cells (Bp (List.replicate (Es n es).length 0)))/\Le M r)
  (Es n es).length [(2,.pointer (some ⟨B,0,none⟩)),(5,fv),(7,pv),(8,.slice (some ⟨H,0,none⟩) n n),(9,.slice (some ⟨A,0,none⟩) (Es n es).length (Es n es).length),(10,.slice (some ⟨C,0,none⟩) (Es n es).length (Es n es).length),(11,.slice (some ⟨D,0,none⟩) (Es n es).length (Es n es).length),(46,pv),(47,.int .i64 (Es n es).length),(48,.int .i64 (0:Nat))] (by simp only[Fj,HO,seval,f2,f5,f7,f8,f9,bx,bB];simp)
  ⟨0,_,_,rfl,WA _,rfl,aP,ahX.zero,aT,Ma,fun j _ h=>absurd h (Ki _),aV,aW,l6⟩ ?_
 clear aP aT aV aW w6 f2 f5 f7 f8 f9 bx bB l6;clear l5 e5;clear h6;rintro k fr r y ⟨i,L,V,rfl,hi,rfl,U,HP,oA,hV,bF,oC,O,I⟩;refine Uy ?_;refine Kl.intro (fun Q=>?_) (fun hf=>?_)
 .have m:i<(Es n es).length:=CC Q;clear Q;have hm:i<((Gx n es n).map aaa).length:=pw;have aX:=rp.NS i hm;obtain⟨u,W,ay⟩:=rp.Wm i hm;have az:=W r I;have cm:((Gx n es n).map aaa)[i]=aaa (Ic n es (Es n es)[i]):=by grind[al0]
  rw[cm]at ay;have lu:=fun g=>ay.DH g;rw[y6]at lu;have bH:=yY m;have st:=stI oA (i:=i) pw (((Ic n es (Es n es)[i]).length:Nat):Int);have cp:=Kx A (Es n es).length .i64 i m;simp only[HO,seval,aX,az,lu,cp,st];have X:∀j,j<i+1->∀(T:j<(Es n es).length),(V.set i (((Ic n es (Es n es)[i]).length:Nat):Int))[j]?=some (((Ic n es (Es n es)[j]).length:Nat):Int):=fun j aB T=>by grind
  have cq:(V.set i (((Ic n es (Es n es)[i]).length:Nat):Int)).length=(Es n es).length:=pw;generalize V.set i (((Ic n es (Es n es)[i]).length:Nat):Int)=V2 at*;have w7:WF (r.put A (.cells (Bp V2))):=y.put _ (y.lt oA);have l7:Le M (r.put A (.cells (Bp V2))):=I.put _ nA;have a1:(r.put A (.cells (Bp V2))).own A=some (.cells (Bp V2)):=aae.Y3 _ _ _;have aC:(r.put A (.cells (Bp V2))).own H=some (.cells (Bp L)):=by grind[aae.By]
  have aa:(r.put A (.cells (Bp V2))).own C=some (.cells (Bp (List.replicate (Es n es).length 0))):=by grind[aae.By]
  have a6:(r.put A (.cells (Bp V2))).own D=some (.cells (Bp (List.replicate (Es n es).length 0))):=by grind[aae.By]
  generalize r.put A (.cells (Bp V2))=h7 at*;have cr:∀v∈Ic n es (Es n es)[i],v<n/\Pu es (Es n es)[i] v:=fun v hv=>mY.1 hv;generalize (Es n es)[i]=a at*;have dk:=akF n es a;generalize cx:Ic n es a=cs at*;refine lIn (fun k fr o=>∃(j:Nat)(L:RZ),k=cs.length-j/\j<=cs.length/\fr=mkF [(2,.pointer (some ⟨B,0,none⟩)),(5,fv),(7,pv),(8,.slice (some ⟨H,0,none⟩) n n),(9,.slice (some ⟨A,0,none⟩) (Es n es).length (Es n es).length),(10,.slice (some ⟨C,0,none⟩) (Es n es).length (Es n es).length),(11,.slice (some ⟨D,0,none⟩) (Es n es).length (Es n es).length),(12,.int .i64 i),(46,pv),(47,.int .i64 (Es n es).length),(48,.int .i64 i),(58,u),(59,.int .i64 cs.length),(60,.int .i64 j)]/\
    o.own H=some (.cells (Bp L))/\ahX n es i L/\(∀v∈cs.take j,L[v]?=some (i:Int))/\o.own A=some (.cells (Bp V2))/\o.own C=some (.cells (Bp (List.replicate (Es n es).length 0)))/\o.own D=some (.cells (Bp (List.replicate (Es n es).length 0)))/\Le M o) ⟨0,L,rfl,WA _,rfl,aC,HP,fun v hv=>absurd hv Bx,a1,aa,a6,l7⟩ ?_
  clear aC HP a1 aa a6 l7 w7 oA U oC O I bF st y az;clear h7 r L;rintro k fr o dm ⟨j,L,rfl,T,rfl,U,HP,bI,oA,oC,O,lz⟩;refine Uy ?_;refine Kl.intro (fun Q=>?_) (fun hf=>?_)
  .have d:j<cs.length:=CC Q;clear Q;have cz:=sY d;have bN:=ay.TA j (by rw[y6];exact d);have bQ:=(ay.le Nn.RP lz).Uc j (by rw[y6];exact d);rw[cz]at bQ;have aD:=cr cs[j] (j9 d);have S:cs.take (j+1)=cs.take j++[cs[j]]:=EL d;generalize cs[j]=v at*;have cC:=stI U (i:=v) (by rw[HP.1];exact aD.1) (i:Int);have ae:=Kx H n .i64 v aD.1;have bT:=Tw j NH;refine Sk (IX bN bQ ae cC bT) ?_;refine lgA (JS d) ⟨j+1,L.set v (i:Int),rfl,d,rfl,aae.Y3 _ _ _,HP.put hR bH aD.2,fun w hw=>?_,by grind[aae.By],by grind[aae.By],by grind[aae.By],lz.put _ nH⟩;rw[S,yM,jf]at hw;by_cases c:v=w
   .subst c;rw[List.getElem?_set_self (by rw[HP.1];exact aD.1)]
   grind
  .have s:cs.length<=j:=vp hf;rw[HV s,<-cx]at bI;have aE:=Tw i NH;refine Sk aE ?_
   exact lgA (JS m) ⟨i+1,L,V2,rfl,m,rfl,U,HP.next bH bI,oA,cq,fun j T aB=>X j aB T,oC,O,lz⟩
 have s:(Es n es).length<=i:=vp hf;obtain rfl:i=(Es n es).length:=NH;clear s hf hi;have bW:=lA r (aK.trans I);have cE:=fun g=>hp.len g;refine Sk (IX @Di @Ip.eq_1 @Gc bW.2.2 cE) ?_;have a7:=oC;rw[edK_nil n es es]at a7;have bY:∀p∈es,0<=p.1/\p.1<p.2/\p.2<(n:Int):=fun p aF=>by obtain⟨i,hi⟩:=qy.1 aF;exact(hr.ok i (Ny.1 hi).1 p hi).1
 refine lIn (fun k fr o=>∃(j:Nat),k=es.length-j/\j<=es.length/\fr=mkF [(5,fv),(7,pv),(8,.slice (some ⟨H,0,none⟩) n n),(9,.slice (some ⟨A,0,none⟩) (Es n es).length (Es n es).length),(10,.slice (some ⟨C,0,none⟩) (Es n es).length (Es n es).length),(11,.slice (some ⟨D,0,none⟩) (Es n es).length (Es n es).length),(71,ev),(72,.int .i64 es.length),(73,.int .i64 j)]/\
   o.own H=some (.cells (Bp L))/\o.own A=some (.cells (Bp V))/\o.own C=some (.cells (Bp ((Es n es).map fun a=>((Gn es (es.take j) a:Nat):Int))))/\o.own D=some (.cells (Bp (List.replicate (Es n es).length 0)))/\Le M o) ⟨0,rfl,WA _,rfl,U,oA,a7,O,I⟩ ?_
 clear a7 oC O oA U I bW y;clear r;rintro k fr r y ⟨j,rfl,T,rfl,U,oA,oC,O,I⟩;refine Uy ?_;refine Kl.intro (fun Q=>?_) (fun hf=>?_)
 .have d:j<es.length:=CC Q;clear Q;have aF:=CA d;have bZ:=bY es[j] (j9 d);have S:es.take (j+1)=es.take j++[es[j]]:=EL d;generalize es[j]=p at aF S bZ;have aX:=hp.addr (k:=.i64) j d;have cM:=(hp.le (bo.trans I)).load aF;obtain⟨dp,h7,e7,cN,l7,w7,o7⟩:=Ut y p
  have nE:M.own r.next=none:=I.none ((Le.refl r).next y (qL0 _))
  generalize r.next=E at*
  have m0:=lK o7;obtain⟨x1,x2⟩:=p;obtain⟨v,rfl⟩:=Z6 bZ.1;have ag:v<n:=pw;obtain⟨q,J,a8,cP⟩:=HP.get hR ag;have aC:=l7.own _ _ U;have a1:=l7.own _ _ oA;have aa:=l7.own _ _ oC;have a6:=l7.own _ _ O;have ae:=Kx H n .i64 v ag;have ba:=XP aC a8;have aj:=Kx C (Es n es).length .i64 q J;have al:=XP aa (ai6 (f:=fun a=>((Gn es (es.take j) a:Nat):Int)) J);have hle:Gn es (es.take j) (Es n es)[q]<=40000:=Tn (edK_le _ _ _) pw;have K:=cnt_ok hle;have b0:=stI aa (i:=q) pw (((Gn es (es.take j) (Es n es)[q]:Nat):Int)+1);have aq:=edK_step hR (l:=es.take j) (e:=((v:Int),x2)) J pw;rw[<-S]at aq;rw[<-aq]at b0;have X:=Tw j NH;refine Sk (aNd15 aX cM e7 cN @Dh @Ip.eq_1 @Gc m0 ae ba aj al K b0 X) ?_;exact lgA (JS d) ⟨j+1,rfl,d,rfl,by grind[aae.By],by grind[aae.By],aae.Y3 _ _ _,by grind[aae.By],(I.trans l7).put _ nC⟩
 have s:es.length<=j:=vp hf;rw[HV s]at oC;clear s hf T;have lF:=fun g=>aJ.qP5 g;have dq:=ajp (n:=n) (es:=es) (rs:=rs) aH;have bb:=O;rw[faK_nil n es es]at bb;have cR:=fun f (hf:f∈IN n rs)=>Uj hR hA G hf;refine Sk lF ?_;refine aab.intro (fun k fr o=>∃(j:Nat),k=(IN n rs).length-j/\j<=(IN n rs).length/\fr=mkF [(7,pv),(8,.slice (some ⟨H,0,none⟩) n n),(9,.slice (some ⟨A,0,none⟩) (Es n es).length (Es n es).length),(10,.slice (some ⟨C,0,none⟩) (Es n es).length (Es n es).length),(11,.slice (some ⟨D,0,none⟩) (Es n es).length (Es n es).length),(88,fv),(89,.int .i64 (IN n rs).length),(90,.int .i64 j)]/\
   o.own H=some (.cells (Bp L))/\o.own A=some (.cells (Bp V))/\o.own C=some (.cells (Bp ((Es n es).map fun a=>((Gn es es a:Nat):Int))))/\o.own D=some (.cells (Bp ((Es n es).map fun a=>((sA es ((IN n rs).take j) a:Nat):Int))))/\Le M o)
  (IN n rs).length [(7,pv),(8,.slice (some ⟨H,0,none⟩) n n),(9,.slice (some ⟨A,0,none⟩) (Es n es).length (Es n es).length),(10,.slice (some ⟨C,0,none⟩) (Es n es).length (Es n es).length),(11,.slice (some ⟨D,0,none⟩) (Es n es).length (Es n es).length),(88,fv),(89,.int .i64 (IN n rs).length),(90,.int .i64 (0:Nat))] hAs
  ⟨0,rfl,WA _,rfl,U,oA,oC,bb,I⟩ ?_
 clear bb oC O oA U I y;clear r j;rintro k fr r y ⟨j,rfl,T,rfl,U,oA,oC,O,I⟩;refine Uy ?_;refine Kl.intro (fun Q=>?_) (fun hf=>?_)
 .have d:j<(IN n rs).length:=CC Q;clear Q;have cU:=aJ.NS j d;obtain⟨u,W,hu⟩:=aJ.Wm j d;have az:=W r I;obtain⟨bg,v,ag,cW⟩:=cR (IN n rs)[j] (j9 d);have S:(IN n rs).take (j+1)=(IN n rs).take j++[(IN n rs)[j]]:=EL d;generalize (IN n rs)[j]=f at*;have b2:=hu.TA 0 bg;have b3:=(hu.le Nn.RP I).Uc 0 bg;rw[head_get bg,cW]at b3;simp only[iu]at b2;obtain⟨q,J,a8,cP⟩:=HP.get hR ag;have ae:=Kx H n .i64 v ag;have ba:=XP U a8;have ar:=Kx D (Es n es).length .i64 q J;have av:=XP O (ai6 (f:=fun a=>((sA es ((IN n rs).take j) a:Nat):Int)) J);have hle:sA es ((IN n rs).take j) (Es n es)[q]<=40000:=Tn (faK_le _ _ _) pw;have K:=cnt_ok hle;have b4:=stI O (i:=q) pw (((sA es ((IN n rs).take j) (Es n es)[q]:Nat):Int)+1);have aq:=faK_step hR (l:=(IN n rs).take j) (e:=f) J pw;rw[<-S]at aq;rw[<-aq]at b4;have X:=Tw j NH;refine Sk (rk cU az b2 b3 ae ba ar av K b4 X) ?_;exact lgA (JS d) ⟨j+1,rfl,d,rfl,by grind[aae.By],by grind[aae.By],by grind[aae.By],aae.Y3 _ _ _,I.put _ nD⟩
 have s:(IN n rs).length<=j:=vp hf;rw[HV s]at O;clear s hf T;refine Sk lp ?_;refine aab.intro (fun k fr o=>∃(i:Nat),k=(Es n es).length-i/\i<=(Es n es).length/\fr=mkF [(9,.slice (some ⟨A,0,none⟩) (Es n es).length (Es n es).length),(10,.slice (some ⟨C,0,none⟩) (Es n es).length (Es n es).length),(11,.slice (some ⟨D,0,none⟩) (Es n es).length (Es n es).length),(107,.int .i64 (Es n es).length),(108,.int .i64 i)]/\
   (∀j (T:j<(Es n es).length),j<i->0<Gn es es (Es n es)[j]->(Ic n es (Es n es)[j]).length+sA es (IN n rs) (Es n es)[j]=Gn es es (Es n es)[j]+2)/\o=r)
  (Es n es).length [(9,.slice (some ⟨A,0,none⟩) (Es n es).length (Es n es).length),(10,.slice (some ⟨C,0,none⟩) (Es n es).length (Es n es).length),(11,.slice (some ⟨D,0,none⟩) (Es n es).length (Es n es).length),(107,.int .i64 (Es n es).length),(108,.int .i64 (0:Nat))] hAs
  ⟨0,rfl,WA _,rfl,fun j _ h=>absurd h (Ki _),rfl⟩ ?_
 rintro k fr o-⟨i,rfl,hi,rfl,c5,rfl⟩;refine Uy ?_;refine Kl.intro (fun Q=>?_) (fun hf=>?_)
 .have m:i<(Es n es).length:=CC Q;clear Q;have bh:=Kx A (Es n es).length .i64 i m;have aj:=Kx C (Es n es).length .i64 i m;have ar:=Kx D (Es n es).length .i64 i m;have bj:=XP oA (bF i m m);have al:=XP oC (ai6 (f:=fun a=>((Gn es es a:Nat):Int)) m);have av:=XP O (ai6 (f:=fun a=>((sA es (IN n rs) a:Nat):Int)) m);have hle:Gn es es (Es n es)[i]<=40000:=Tn (edK_le _ _ _) NH;have cZ:sA es (IN n rs) (Es n es)[i]<=40000:=Tn (faK_le _ _ _) NH;have c0:(Ic n es (Es n es)[i]).length<=40000:=Tn (akF _ _ _) NH;have K:=cnt_ok2 hle;have bk:=cnt_ok3 c0 cZ;have aE:=Tw i NH;by_cases c1:0<Gn es es (Es n es)[i]
  .have d1:decide (((Gn es es (Es n es)[i]:Nat):Int)>0)=true:=XJ (pl_pos.2 c1);by_cases c2:(Ic n es (Es n es)[i]).length+sA es (IN n rs) (Es n es)[i]=Gn es es (Es n es)[i]+2
   .have d2:decide ((((Ic n es (Es n es)[i]).length:Nat):Int)+((sA es (IN n rs) (Es n es)[i]:Nat):Int)=((Gn es es (Es n es)[i]:Nat):Int)+2)=true:=XJ (pl_iff.2 c2);refine Uy ?_;refine gh (tA [0,1,2,3,4,5,6,7,8,9,10,11,12,13,14,15,16,17,18,19,20,21] .done) ?_;refine CO (aga bh aj ar bj al av K bk d1 @d2 @bne.eq_1.{0} aE) ?_
    refine lgA (JS m) ⟨i+1,rfl,m,rfl,fun j T aB hp=>?_,rfl⟩;grind
   .have d2:decide ((((Ic n es (Es n es)[i]).length:Nat):Int)+((sA es (IN n rs) (Es n es)[i]:Nat):Int)=((Gn es es (Es n es)[i]:Nat):Int)+2)=false:=Sb (fun e=>c2 (pl_iff.1 e));refine Uy ?_;refine gh (tA [0,1,2,3,4,5,6,7,8,9,10,11,12,13,14,15,16,17,18,19,20,21] .done) ?_;refine CO (rk bh aj ar bj al av K bk d1 @d2 @bne.eq_1.{0}) ?_
    grind[z8.not,Le.trans]
  .have d1:decide (((Gn es es (Es n es)[i]:Nat):Int)>0)=false:=Sb (fun e=>c1 (pl_pos.1 e));refine Uy ?_;refine gh (tA [0,1,2,3,4,5,6,7,8,9,10,11,12,13,14,15,16,17,18,19,20,21] .done) ?_;refine CO (rk bh aj ar bj al av K bk d1 @bne.eq_1.{0} aE) ?_
   refine lgA (JS m) ⟨i+1,rfl,m,rfl,fun j T aB hp=>?_,rfl⟩;grind
 have s:(Es n es).length<=i:=vp hf;refine Uy ?_;refine fin true ⟨fun _ a ha hp=>?_,fun _=>rfl⟩ _ (bo.trans I);obtain⟨q,dv⟩:=qy.1 ha;grind
end
section
attribute [local instance] Classical.propDecidable
attribute [local irreducible] Kp MQ lU rS KO KN KX KE VK Kl ZJ TC aab
variable {b0 h:aae} {i w:Nat} {rows:AM} {us:List Value}
theorem Rows.put{L:Nat}(R:Rows b0 h L us rows)(k:WF h){u:Value}{r:RZ}(j:us[w]?=some u)(l:rows[w]?=some r)(hi:i<r.length)(x:Int):
  ∃h',acs Tryz.prog h 3 (.pointer (some (abv u i))) (.int .i64 x)=some h'/\Rows b0 h' L us (rows.set w (r.set i x))/\WF h'/\(∀f,Le f h->Z2 f u->Le f h')/\(∀b o,h.own b=some o->blk u≠some b->h'.own b=some o):=by
 obtain⟨h',e,g,wf,m,keep⟩:=GI.store (show GI h u r from R.gs w u r j l) k hi x;refine⟨h',e,⟨keep _ _ R.oL (R.nL w u j),by grind[Rows.len],fun v a q ha d=>?_,R.nL,R.TE,R.ap,m _ R.le (R.ap w u j),R.bL⟩,wf,m,keep⟩;rw[VU]at d;by_cases c:w=v
 .subst c;rw[AE rfl,AE (Ny.1 l).1]at d;injection d with d;subst d;rw[j]at ha;injection ha with ha;subst ha;exact g
 .rw[aal c]at d;refine(R.gs v a q ha d).kept fun b o hb n=>keep b o n fun sZ=>R.TE w v u a b c j ha sZ hb
variable {n:Nat}
def ajB(z:LA)(v w:Value)(xs ys:AM)(h:aae)(n:RL (RL RP) h v xs)(hw:RL (RL RP) h w ys)(H:xs.length<=100000)(B:∀l∈xs,l.length<=100000):
  AC Tryz.prog z 21 [v,w] h fun x h'=>x=.bool (decide (xs=ys))/\h'=h:=by
 refine AC.vE ⟨Tryz.func21,rfl,WY⟩ Tryz.ntmps21 Tryz.results21 fun C=>?_;simp only[Br,seval];have o:=fun g=>n.qP5 g;have lw:=fun g=>hw.qP5 g;by_cases D:xs.length=ys.length
 rotate_left
 .have d:decide ((xs.length:Int)=(ys.length:Int))=false:=Sb NH;have e:decide (xs=ys)=false:=Sb (fun e=>D (by rw[e]));simp only[HO,seval,o,lw,bne,d,e];exact⟨trivial,trivial⟩
 have d:decide ((xs.length:Int)=(ys.length:Int))=true:=XJ NH;simp only[HO,seval,o,lw,bne,d];refine lIn (fun k fr p=>∃i,k=xs.length-i/\i<=xs.length/\fr=mkF [(0,v),(1,w),(5,.int .i64 i)]/\p=h/\xs.take i=ys.take i) ⟨0,rfl,WA _,rfl,rfl,rfl⟩ ?_;rintro k fr p E ⟨i,rfl,hi,rfl,rfl,q⟩;refine Sk o ?_;refine Kl.intro (fun A=>?_) (fun hf=>?_)
 .have a:i<xs.length:=CC A;clear A;have b:i<ys.length:=NH;have r:=n.NS i a;obtain⟨u,lu,F⟩:=n.load (P:=Tryz.prog) Mb rfl i a;have f:=hw.NS i b;obtain⟨G,j,s⟩:=hw.load (P:=Tryz.prog) Mb rfl i b;have t:xs.take (i+1)=xs.take i++[xs[i]]:=EL a;have m:ys.take (i+1)=ys.take i++[ys[i]]:=EL b;refine Uy ?_;refine gh (tA [0,1,2,3,4,5,6,7] (JQ 8 [3,7] (tA [9] .done))) ?_;simp only[HO,seval,Qg,r,lu,f,j];refine kGi Tryz.func58 (aj0 z u G xs[i] ys[i] p F s (B _ (j9 a))) ?_;rintro x h2 I ⟨rfl,rfl⟩;have hw:=Tw i NH;by_cases c:xs[i]=ys[i]
  .simp only[HO,seval,Qg,r,lu,f,j,XJ c,hw];exact lgA (JS a) ⟨i+1,rfl,a,rfl,rfl,by rw[t,m,q,c]⟩
  .have e:decide (xs=ys)=false:=Sb (fun e=>c (by subst e;rfl));simp only[HO,seval,Qg,r,lu,f,j,Sb c,e]
 .have y:xs.length<=i:=vp hf;rw[HV y,HV NH]at q;simp only[HO,seval,XJ q];exact⟨trivial,trivial⟩
theorem OS(l:LA)(v:Value)(xs:RZ)(y:Int)(h:aae)(d:RL RP h v xs)(s:xs.length<=100000):AC Tryz.prog l 141 [v,.int .i64 y] h fun x h'=>((x=.int .i64 (-1)/\y∉xs)\/∃i,∃hi:i<xs.length,x=.int .i64 (i:Nat)/\xs[i]=y/\∀j (b:j<i),xs[j]≠y)/\h'=h:=by
 refine AC.vE ⟨qS37,rfl,WY⟩ Tryz.ntmps141 Tryz.results141 fun m=>?_;simp only[Br,seval];have n:=fun g=>d.DH g;refine Sk n ?_;refine lIn (fun k fr e=>∃i,k=xs.length-i/\i<=xs.length/\fr=mkF [(0,v),(1,.int .i64 y),(7,.int .i64 xs.length),(8,.int .i64 i)]/\e=h/\∀j (b:j<xs.length),j<i->xs[j]≠y) ⟨0,rfl,WA _,rfl,rfl,fun j _ b=>absurd b (Ki _)⟩ ?_;rintro k fr e o ⟨i,rfl,hi,rfl,rfl,p⟩;refine Uy ?_;refine Kl.intro (fun f=>?_) (fun hf=>?_)
 .have a:i<xs.length:=CC f;clear f;have ad:=d.TA i a;have ld:=d.Uc i a;have hw:=Tw i NH;by_cases c:y=xs[i]
  .simp only[HO,seval,ad,ld,XJ c];grind
  .simp only[HO,seval,ad,ld,Sb c,hw];refine lgA (JS a) ⟨i+1,rfl,a,rfl,rfl,fun j b q=>?_⟩;grind
 .have r:xs.length<=i:=vp hf;refine Uy ?_;grind[List.mem_iff_getElem]
theorem W3(b:LA)(v:Value)(xs:RZ)(y:Int)(h:aae)(c:RL RP h v xs)(e:xs.length<=100000):AC Tryz.prog b 101 [v,.int .i64 y] h fun x h'=>x=.bool (decide (y∈xs))/\h'=h:=by
 refine AC.vE ⟨Tryz.func101,rfl,WY⟩ Tryz.ntmps101 Tryz.results101 fun f=>?_;simp only[Br,seval];refine Uy ?_;refine kCi qS37 (OS b v xs y h c e) ?_;rintro x h2 j ⟨⟨rfl,a⟩|⟨i,hi,rfl,a,-⟩,rfl⟩
 .have d:decide ((-1:Int)>=0)=false:=by decide
  simp only[HO,seval,d,Sb a];grind
 .have d:decide ((i:Int)>=0)=true:=by simp
  have g:y∈xs:=a▸j9 hi;simp only[HO,seval,d,XJ g];grind
def mkR(h:aae){u:Value}(b:xO u n):abB Tryz.prog h 28 1 [(0,u)]=some (.slice (some ⟨h.next,0,none⟩) 1 1,h.alloc (.cells [u])):=by obtain⟨a,c,rfl,_⟩:=b;rfl
attribute [local irreducible] IN af5 agV aio ofE
variable {es:List Pr} {j k:Nat} {r:Nat->II} {rs:AM}
theorem ajq(a:InR n es)(ha:D3 es)(G:Av n es rs){v:Nat}(b:v<n)(w:Nat):(∃i,aiP (rs.getD v []) (w:Int) i)↔w∈Xl rs v:=by
 have hb:=G.back a v;constructor
 .rintro⟨i,hi⟩;have:=BS hi.1;grind
 .intro h;refine ahq (G.nodup a ha b) ?_;grind
theorem ak6(ha:D3 es):es.Pairwise fun a b=>a.1<b.1\/a.1=b.1/\a.2<b.2:=by rw[wI];intro i j hi d c;have:=ha i j _ _ c (yY hi) (yY d);grind[Hv]
theorem of_eq(d:InR n es)(ha:D3 es)(G:Av n es rs):ofE rs rs.length=es:=by
 have j:=G.len;refine sx (lt:=fun a b:Pr=>a.1<b.1\/a.1=b.1/\a.2<b.2) (fun a h=>by omega) (fun a b c h g=>by omega) _ _ (alF rs _) (ak6 ha) fun p=>?_;rw[alE];constructor
 .rintro⟨v,w,k,hw,e,f,rfl⟩;have:=(G.mem d).1 ((ajq d ha G NH w).1 f);rcases this with h|h
  .exact h
  .have:=d _ h;grind
 .intro i;have l:=d p i;refine⟨p.1.toNat,p.2.toNat,NH,NH,NH,(ajq d ha G NH _).2 ((G.mem d).2 (.inl ?_)),?_⟩
  all_goals grind
noncomputable def aj8(r:Nat->II)(v j:Nat):List H8:=((List.range j).filter fun w=>decide (w∈r v)).map fun w=>(v,w)
def rowJ_all(n:Nat)(r:Nat->II)(v:Nat):aj8 r v n=aio n r v:=by unfold aio;rfl
theorem al4(r:Nat->II)(v j:Nat):aj8 r v (j+1)=aj8 r v j++if j∈r v then[(v,j)]else[]:=by grind[aj8,List.range_succ]
theorem rowJ_len(r:Nat->II)(v j:Nat):(aj8 r v j).length<=j:=by grind[aj8]
theorem ak7(h:n<=200)(a:k<n)(b:j<=n):(af5 r (agV n r k++aj8 r k j)).length<=100000:=by have c:=ahW n r k;have h2:=rowJ_len r k j;have h3:k*n<=200*200:=aiD NH h;grind[af5]
def mkL32{u:Value}(hs:xO u n):abB Tryz.prog h 27 1 [(0,u)]=some (.slice (some ⟨h.next,0,none⟩) 1 1,h.alloc (.cells [u])):=by obtain⟨a,c,rfl,_⟩:=hs;kernel_rfl
theorem ak8(C:LA)(n:Value)(rs:AM)(h:aae)(y:RL (RL RP) h n rs)(I:∀l∈rs,l.length<=100000):
  AC Tryz.prog C 60 [n] h fun x h'=>Le h h'/\((x=.tuple #[.slice none 0 0,.int .i64 70]/\¬∃es,bX ⟨(rs.length:Int),es⟩/\Av rs.length es rs)\/
   ∃es a,bX ⟨(rs.length:Int),es⟩/\Av rs.length es rs/\x=.tuple #[a,.int .i64 0]/\RL (RL RP) h' a (IN rs.length rs)):=by
 refine AC.vE ⟨Tryz.func60,rfl,WY⟩ Tryz.ntmps60 Tryz.results60 fun al=>?_;simp only[Br,seval];have lr:=fun g=>y.qP6 g;by_cases c:200<rs.length
 .have d:decide (((rs.length:Nat):Int)>200)=true:=XJ NH;simp only[HO,seval,lr,d];exact⟨Le.refl _,.inl ⟨trivial,fun⟨es,s,_⟩=>by have:=s.n1;grind⟩⟩
 have d:decide (((rs.length:Nat):Int)>200)=false:=Sb NH;have z:rs.length<=200:=NH;simp only[HO,seval,lr,d];refine kCi Tryz.func109 (ROf_any C n rs h y z I) ?_;rintro g h1 w1 ⟨hg,l1⟩;refine Uy ?_;refine kCi Tryz.func59 (ajl C g n _ rs h1 hg (y.le (Nn.RL Nn.RP) l1) I) ?_;rintro x h2 w2 ⟨⟨b,rfl,hb⟩,l2⟩;simp only[af8]at hb;cases b with
 |false=>refine Uy ?_;refine⟨l1.trans l2,.inl ⟨trivial,fun⟨es,s,G⟩=>?_⟩⟩;have e:=of_eq s.GD s.q9 G;grind
 |true=>
 obtain⟨s,G⟩:=hb.1 rfl;clear hb hg;clear c d;generalize ofE rs rs.length=es at s G;have hR:=s.GD;have hA:=s.q9;have R:=G.jD hR hA;have J:=l1.trans l2;have D:=aiB rs.length rs;have K:=fun v (y:v<rs.length) w=>ajq hR hA G y w;have L:=aiY (Xl rs);have M:=ahE rs.length (Xl rs);have N:=al4 (Xl rs);have O:=rowJ_all rs.length (Xl rs);have Q:=fun k j (S:k<rs.length) hj=>ak7 (r:=Xl rs) z S (j:=j) hj;refine Uy ?_;refine aab.intro (fun k fr T=>∃(i:Nat)(a:Value),k=rs.length-i/\i<=rs.length/\fr=mkF [(0,n),(4,a),(5,.int .i64 i)]/\Lj (RL RP) T a (af5 (Xl rs) (agV rs.length (Xl rs) i))/\Le h2 T/\Z2 h2 a)
  rs.length [(0,n),(4,.slice none 0 0),(5,.int .i64 (0:Nat))] hAs
  ⟨0,_,rfl,WA _,rfl,by have:af5 (Xl rs) (agV rs.length (Xl rs) 0)=[]:=(by grind[agV,af5]);grind[Lj.nil],Le.refl _,fun b hb=>by grind[blk]⟩ ?_
 rintro k fr T aq ⟨i,a,rfl,hi,rfl,gf,lq,af⟩;simp only[HO,seval,lr];refine Kl.intro (fun E=>?_) (fun hf=>?_)
 rotate_left
 .have U:rs.length<=i:=vp hf;obtain rfl:i=rs.length:=NH;rw[ahx,D]at gf;refine Uy ?_;grind[Le.trans,Lj.rl,Nn.RL,Nn.RP]
 have f:i<rs.length:=CC E;clear E;have ar:=y.qP7 i f;obtain⟨u,V,hu⟩:=y.Wm i f;have W:=I _ (j9 f);have X:rs.getD i []=rs[i]:=D4 f;have p:=K i f;simp only[X]at p;generalize rs[i]=r at*;have aa:=Tw i NH;refine Uy ?_;refine aab.intro (fun k fr F=>∃(j:Nat)(a:Value),k=rs.length-j/\j<=rs.length/\fr=mkF [(0,n),(4,a),(5,.int .i64 i),(6,.int .i64 j)]/\Lj (RL RP) F a (af5 (Xl rs) (agV rs.length (Xl rs) i++aj8 (Xl rs) i j))/\Le h2 F/\Z2 h2 a)
  rs.length [(0,n),(4,a),(5,.int .i64 i),(6,.int .i64 (0:Nat))] hAs
  ⟨0,a,rfl,WA _,rfl,by have:aj8 (Xl rs) i 0=[]:=rfl;grind,lq,af⟩ ?_
 clear gf lq af;clear a;rintro k fr F av ⟨j,a,rfl,hj,rfl,gf,A,af⟩;simp only[HO,seval,lr];refine Kl.intro (fun E=>?_) (fun hf=>?_)
 .have o:j<rs.length:=CC E;clear E;have ae:=V F (J.trans A);have B:=Tw j NH;have hJ:=N i j;have hs:=Q i j f NH;refine Sk (XC ar ae) ?_;refine kCi SV (ahT C u r (j:Int) F (hu.le Nn.RP (J.trans A)) W) ?_;rintro x h5 w5 ⟨⟨k,S,ag,rfl⟩|⟨rfl,ay⟩,rfl⟩
  .have d:decide ((k:Int)<0)=false:=Sb NH;have m:j∈Xl rs i:=(p j).1 ⟨k,ag⟩;rw[AE m]at hJ;refine Sk d ?_;refine kCi Tryz.func110 (akG C n rs.length es rs h5 (y.le (Nn.RL Nn.RP) (J.trans A)) s G i j ((IP R).2 m)) ?_;rintro x h6 w6 ⟨l6,⟨hH,cv,rfl,gc,ac⟩|⟨hH,rfl⟩⟩
   .have go2:=gf.le (Nn.RL Nn.RP) l6;have aj:∀b,blk cv=some b->b∉bl a:=fun b hb hm=>by
     obtain⟨us,g1,_⟩:=gf;exact GS.Sy g1 (Zr.1 hm) (ac b hb)
    have gu:RL RP (rem (bl a) h6) cv (aaa (zu (Xl rs) (i,j))):=GI.rl (GS.Fi gc aj);obtain⟨h7,H,h8,e7,e8,gp,l8,w8,f8,k8⟩:=Lj.push (P:=Tryz.prog) (t:=27) (Nn.RL Nn.RP) Ji go2 w6 gu gu.sl.one NH;obtain⟨l9,a9⟩:=f8 h2 (A.trans l6) af
    have bs:abB Tryz.prog h6 27 1 [(0,cv)]=some (.slice (some ⟨h6.next,0,none⟩) 1 1,h7):=by rw[mkL32 gu.sl,e7]
    refine Sk (Yb bs e8 B) ?_;exact tn (rs.length-(j+1)) [(0,n),(4,H),(5,.int .i64 i),(6,.int .i64 (j+1:Nat))] (stq o) hAs
     ⟨j+1,H,rfl,o,rfl,pw,l9,a9⟩
   .refine Sk B ?_;exact tn (rs.length-(j+1)) [(0,n),(4,a),(5,.int .i64 i),(6,.int .i64 (j+1:Nat))] (stq o) hAs
     ⟨j+1,a,rfl,o,rfl,by rw[hJ,<-bC,L,aal hH,Ua];exact gf.le (Nn.RL Nn.RP) l6,A.trans l6,af⟩
  .have d:decide ((-1:Int)<0)=true:=by decide
   have m:j∉Xl rs i:=fun q=>by obtain⟨k,S⟩:=(p j).2 q;grind
   rw[aal m,Ua]at hJ;refine Sk (XC d B) ?_;exact tn (rs.length-(j+1)) [(0,n),(4,a),(5,.int .i64 i),(6,.int .i64 (j+1:Nat))] (stq o) hAs
    ⟨j+1,a,rfl,o,rfl,pw,A,af⟩
 .have U:rs.length<=j:=vp hf;obtain rfl:j=rs.length:=NH;rw[O,<-M]at gf;refine Sk aa ?_;exact tn (rs.length-(i+1)) [(0,n),(4,a),(5,.int .i64 (i+1:Nat))] (stq f) hAs ⟨i+1,a,rfl,f,rfl,gf,A,af⟩
end
variable {es:List Pr} {n:Nat} {rs:AM}
attribute [local instance] Classical.propDecidable in
theorem vS{n:Nat}{es:List Pr}{rs:AM}(c:InR n es)(ha:D3 es)(G:Av n es rs)(d:0<n)(k:∀v,v<n->Pu es 0 v):
  z8 n es rs↔(0<es.length->n+(IN n rs).length=es.length+2):=by
 have all:∀a,a<n->Gn es es a=es.length/\(Ic n es a).length=n/\sA es (IN n rs) a=(IN n rs).length:=fun a g=>by
  have i:∀v,v<n->Pu es a v:=by grind[Cn.symm,Cn.trans]
  refine⟨?_,?_,?_⟩
  .unfold Gn VF;rw[Cg.2];intro e j;have h:=c e j;grind
  .grind[Ic,List.filter_eq_self]
  .unfold sA VF;rw[Cg.2];intro f hf;obtain⟨_,v,l,e⟩:=Uj c ha G hf;grind
 constructor
 .intro H m;obtain⟨a,b,_⟩:=B6 c 0 d;obtain⟨o,p,q⟩:=all a (QO.1 b).1;have:=H a b pw;grind
 .intro H a b;grind[QO]
theorem N9(h:rs.length=n)(d:(List.range n).all (fun v=>(rs.getD v []).isPerm ((Zh n es).getD v []))=true):Av n es rs:=⟨h,(by grind[List.isPerm_iff])⟩
theorem X9(a:bX ⟨(n:Int),es⟩)(G:Av n es rs){hs:List (H8×Nat)}(C:Cert n (Xl rs) hs):IN n rs=hs.map fun p=>(List.range p.2).map fun j=>(((it (Nv (Xl rs)) j p.1).1:Nat):Int):=by rw[IN,Fs (G.jD a.GD a.q9) C,C4];grind[List.map_congr_left,aaa]
instance (n:Nat) (r:Nat->II) (hs:List (H8×Nat)):Decidable (Cert n r hs):=by unfold Cert;infer_instance
section
attribute [local irreducible] IN z8
def mkP6(h:aae)(a b c d e f:Pr):abB Tryz.prog h 22 6 [(0,UI a),(1,UI b),(2,UI c),(3,UI d),(4,UI e),(5,UI f)]=some (.slice (some ⟨h.next,0,none⟩) 6 6,h.alloc (.cells (Iu [a,b,c,d,e,f]))):=Ji
end
section
attribute [local instance] Classical.propDecidable
theorem Td{α:Type}{p q:α->Bool}:∀(l:List α),(∀v∈l,p v=true\/q v=true)->(l.filter p).length+(l.filter q).length=l.length+(l.filter fun v=>p v&&q v).length
 |[],_=>rfl
 |x::l,h=>by have c:=Td l fun v b=>h v (Eh _ b);grind
theorem FP{P:Nat->Nat->Prop}{r:Nat->II}{v:Nat}(h:∀w∈r v,P v w):Om P r v=r v:=by grind[Om.eq_1,List.filter_eq_self]
theorem Ud{n:Nat}{s:Nat->II}(S:V7 n s){l:List Pr}(nd:l.Nodup)(c:InR n l)(h:∀v w,w∈s v↔Jp l v w):(dl n s).length=2*l.length:=by
 have key:∀l:List Pr,(l.flatMap fun p=>[(p.1.toNat,p.2.toNat),(p.2.toNat,p.1.toNat)]).length=2*l.length:=by
  intro l
  induction l<;>grind
 rw[<-key l];refine(yR (J8 S) ?_ fun d=>?_).length_eq
 .rw[Gw,qL212];refine⟨fun p b=>?_,?_⟩
  .have:=c p b;grind
  .refine b7 (fun{p q} b e f=>?_) nd;have g:=c p b;have h2:=c q e;grind
 .rw[IP S,h,y5];simp only[Jp,vZ,Bx,or_false,si];constructor
  .grind
  .rintro⟨p,b,⟨rfl,rfl⟩|⟨rfl,rfl⟩⟩
   .have:=c p b;grind
   .have:=c p b;grind
section
variable{n:Nat}{es:List Pr}{rs:AM}{a:Nat}
theorem T8(t:InR n es)(ha:D3 es)(G:Av n es rs)(E:a∈Es n es)(F:0<Gn es es a):∃g,(Ic n es a).length+sA es (IN n rs) a+2*g=Gn es es a+2:=by
 obtain⟨H,I⟩:=QO.1 E;have R:=G.jD t ha;generalize m:Xl rs=r at R;have i:∀v w,w∈r v↔Jp es v w:=fun v w=>by rw[<-m];exact G.mem t
 have S:V7 n (Om (fun v w=>Pu es a v/\Pu es a w) r):=by grind[OG]
 generalize hs:Om (fun v w=>Pu es a v/\Pu es a w) r=s at S;have j:∀v w,w∈s v↔Jp es v w/\Pu es a v:=fun v w=>by rw[<-hs,EM,i];exact⟨pw,fun h=>⟨h.1,h.2,h.2.step h.1 rfl⟩⟩
 have row:∀v,Pu es a v->s v=r v:=fun v u=>by rw[<-hs];exact FP fun w hw=>⟨u,u.step ((i v w).1 hw) rfl⟩
 have J:∀v y,Cr s v y->v=y\/(Pu es a v/\Pu es a y):=fun v y h=>by
  induction h with
  |refl=>grind
  |@step b c _ K z=>
   obtain⟨f,h2⟩:=(j _ _).1 K;right;rcases z with rfl|⟨h3,_⟩
   .exact⟨h2,h2.step f rfl⟩
   .exact⟨h3,h2.step f rfl⟩
 have L:∀y,Pu es a y->Cr s a y:=fun y h=>by
  induction h with
  |refl=>exact .refl _
  |step f h2 _ z=>exact z.step pw
 have M:iJ n s+(Ic n es a).length=n+1:=by
  have C:iJ n s=((List.range n).filter fun v=>decide (v=a\/¬Pu es a v)).length:=by rw[iJ,Yy (IC _).symm (Cr.eqv S _),zE (lt:=fun a b=>a<b) (by grind[Nat.lt_asymm]) _ _ rfl (uA n)];grind[Cr.symm,Cn.symm]
  have N:=Td (p:=fun v=>decide (v=a\/¬Pu es a v)) (q:=fun v=>decide (Pu es a v)) (List.range n) pw;have O:((List.range n).filter fun v=>decide (v=a\/¬Pu es a v)&&decide (Pu es a v)).length=1:=by
   refine Cq ?_ (x:=a) ?_ ?_
   all_goals grind[List.nodup_range,Pu.refl]
  grind[Ic]
 have nb:∀v,Pu es a v->∃w,Jp es v w:=fun v u=>by
  obtain⟨e,l⟩:=WL F;rw[uV,vg]at l;have P:=t e l.1;by_cases c:v=e.1.toNat
  .refine⟨e.2.toNat,.inl ?_⟩;grind
  .exact(FV (u.symm.trans l.2) c).1
 have D:((List.range n).filter fun v=>decide (s v=[])).length+(Ic n es a).length=n:=by
  have N:=Td (p:=fun v=>decide (s v=[])) (q:=fun v=>decide (Pu es a v)) (List.range n) fun v _=>by
   simp only[vg];by_cases c:Pu es a v
   .exact .inr c
   .rw[Uz];grind
  have O:((List.range n).filter fun v=>decide (s v=[])&&decide (Pu es a v))=[]:=by rw[qL74];grind
  grind[Ic]
 have A:(dl n s).length=2*Gn es es a:=by
  refine Ud S (ha.nodup.sublist fR) (fun p Q=>t p (uV.1 Q).1) fun v w=>?_;rw[j];simp only[Jp,uV,vg,af8];constructor
  .rintro⟨f|f,h2⟩
   .grind
   .exact .inr ⟨f,h2.step (.inr f) rfl⟩
  .rintro(⟨f,h2⟩|⟨f,h2⟩)
   .grind
   .exact⟨.inr f,h2.step (.inl f) rfl⟩
 have q:=TG S;have T:∀d:H8,Pu es a d.2->Nv s d=Nv r d:=fun d hd=>by show(d.2,nx (s d.2) d.1)=(d.2,nx (r d.2) d.1);rw[row _ hd]
 have U:∀d:H8,d.2∈s d.1->Pu es a d.2:=fun d hd=>by obtain⟨f,h2⟩:=(j _ _).1 hd;exact h2.step f rfl
 have o:∀(k:Nat)(d:H8),d.2∈s d.1->it (Nv s) k d=it (Nv r) k d:=fun k d hd=>by
  induction k with
  |zero=>rfl
  |succ k z=>show Nv s (it (Nv s) k d)=Nv r (it (Nv r) k d);have V:=q.uN ((IP S).2 hd) k;grind[IP]
 have B:sA es (IN n rs) a=(L3 n s).length:=by
  have C:L3 n s=(L3 n r).filter fun d=>decide (Pu es a d.1):=by
   refine sx JN (by grind[Nd]) _ _ ((pI n s).filter _) (((pI n r).filter _).filter _) fun d=>?_;rw[uV,vg];rw[gQ S,gQ R,j,i];constructor
   .rintro⟨⟨f,h2⟩,h3⟩;refine⟨⟨f,?_⟩,h2⟩;rintro e ⟨k,rfl⟩;rw[<-o k d pw];exact h3 _ ⟨k,rfl⟩
   .rintro⟨⟨f,h3⟩,h2⟩;refine⟨⟨f,h2⟩,?_⟩;rintro e ⟨k,rfl⟩;rw[o k d pw];exact h3 _ ⟨k,rfl⟩
  rw[C,sA,VF,IN,m,vf,C4,List.filter_map,vY];grind[List.filter_congr,gQ,JE,IP,Int.toNat_natCast]
 obtain⟨g,hg⟩:=Z4 S;rw[mj,<-yp S,<-B,A]at hg;exact⟨g,NH⟩
end
theorem yB{P:Nat->Prop}:∀(hs:II),hs.Nodup->(∃a∈hs,P a)->(∀a∈hs,∀b∈hs,P a->P b->a=b)->(hs.map fun a=>if P a then 1 else 0).sum=1
 |[],_,h,_=>by obtain⟨a,ha,_⟩:=h;cases ha
 |x::hs,nd,h,u=>by
  rw[jz]at nd;rw[U9,Cj];by_cases c:P x
  .have:∀l:II,(∀a∈l,¬P a)->(l.map fun a=>if P a then 1 else 0).sum=0:=by
    intro l
    induction l<;>grind
   grind
  .rw[aal c,yB hs nd.2 ?_ (by grind[List.mem_cons_of_mem])];grind
def aS(f g:Nat->Nat):∀l:II,(l.map fun a=>f a+g a).sum=(l.map f).sum+(l.map g).sum
 |[]=>rfl
 |x::l=>by simp only[U9,Cj,aS f g l];omega
theorem fH{α:Type}{P:Nat->α->Prop}{hs:II}(nd:hs.Nodup):∀(l:List α),(∀e∈l,∃a∈hs,P a e)->(∀e∈l,∀a∈hs,∀b∈hs,P a e->P b e->a=b)->(hs.map fun a=>VF P l a).sum=l.length
 |[],_,_=>by
  have:∀l:II,(l.map fun a=>VF P ([]:List α) a).sum=0:=by
   intro l
   induction l with
   |nil=>rfl
   |cons x l c=>rw[U9,Cj,c];rfl
  exact this hs
 |e::l,h,u=>by
  have c:=fH nd l (fun x d=>h x (Eh _ d)) fun x d=>u x (Eh _ d)
  have f:∀a,VF P (e::l) a=(if P a e then 1 else 0)+VF P l a:=by grind[VF]
  simp only[f];rw[aS,c,yB (P:=fun a=>P a e) hs nd (h e LH) (u e LH),cJ];omega
theorem Qs(l:II)(p:Nat->Prop)[DecidablePred p]:(l.map fun a=>if p a then 1 else 0).sum=(l.filter fun a=>decide (p a)).length:=by
 induction l<;>grind
section
variable{n:Nat}{es:List Pr}{rs:AM}
theorem abZ(c:InR n es){v:Nat}(d:v<n):(∃a∈Es n es,Pu es a v)/\∀a∈Es n es,∀b∈Es n es,Pu es a v->Pu es b v->a=b:=(by grind[B6,rf,Cn.trans,Cn.symm])
theorem yr(c:InR n es):((Es n es).map fun a=>(Ic n es a).length).sum=n:=by have:=fH (P:=fun a v=>Pu es a v) (qD n es) (List.range n) (fun v b=>(abZ c (j3.1 b)).1) fun v b=>(abZ c (j3.1 b)).2;grind[VF,Ic]
theorem Rr(b:InR n es):((Es n es).map fun a=>Gn es es a).sum=es.length:=by
 have d:∀e∈es,e.1.toNat<n:=fun e c=>by have:=b e c;omega
 unfold Gn;grind[fH,qD,abZ]
theorem lJ(b:InR n es)(ha:D3 es)(G:Av n es rs):((Es n es).map fun a=>sA es (IN n rs) a).sum=(IN n rs).length:=by
 have c:∀f∈IN n rs,(f.headD 0).toNat<n:=fun f hf=>by obtain⟨_,v,c,e⟩:=Uj b ha G hf;grind
 unfold sA;grind[fH,qD,abZ]
theorem ed_pos(f:InR n es){a:Nat}(g:a<n):0<Gn es es a↔1<(Ic n es a).length:=by
 have nd:(Ic n es a).Nodup:=by grind[Ic,List.filter_sublist]
 constructor
 .intro h;obtain⟨e,b⟩:=WL h;rw[uV,vg]at b;have k:=f e b.1;have h2:Pu es a e.2.toNat:=b.2.step (.inl pw) rfl;have:=agO (A:=[e.1.toNat,e.2.toNat]) (B:=Ic n es a) (by simp;omega) (by grind[mY]);grind
 .intro h;have:∃v∈Ic n es a,v≠a:=ff fun i=>by
   have c:∀v∈Ic n es a,v=a:=pw;have:=Cq nd (by grind[mY,Pu.refl]) c;omega
  obtain⟨v,j,d⟩:=this;obtain⟨w,hw⟩:=(FV (mY.1 j).2 (Hs d)).1;have:∃e∈es,Pu es a e.1.toNat:=by
   rcases hw with hw|hw
   .exact⟨_,hw,by simpa using Pu.refl es a⟩
   .exact⟨_,hw,by simpa using abp (.inr hw)⟩
  obtain⟨e,b,i⟩:=this;exact aaL (uV.2 ⟨b,pw⟩)
end
attribute [local irreducible] Kp MQ lU rS KO KN KX KE VK Kl ZJ TC aab
theorem QY(g:LA)(v:Value)(xs:RZ)(h:aae)(e:RL RP h v xs)(p:xs.length<=100000):AC Tryz.prog g 93 [v] h fun x h'=>GI h' x xs/\Le h h'/\Z2 h x:=by
 obtain⟨a,c,rfl,hs⟩:=e.sl;refine AC.vE ⟨qS28,rfl,WY⟩ Tryz.ntmps93 Tryz.results93 fun d=>?_;simp only[Br,seval];cases a with
 |none=>
  have i:xs=[]:=by
   cases xs<;>grind
  subst i;simp only[HO,seval,aEq,Mb,afn];exact⟨GI.nil _,Le.refl _,fun b hb=>by grind[blk]⟩
 |some a=>
  obtain⟨f,j,l1,w1,k⟩:=Tt d []
  have mk:abB Tryz.prog h 49 0 []=some (.slice (some ⟨h.next,0,none⟩) 0 0,f):=by rw[<-j];rfl
  have q:h.own h.next=none:=(Le.refl h).next d (qL0 _)
  have l:GI f (.slice (some ⟨h.next,0,none⟩) 0 0) []:=GS.full k rfl WY
  have m:Z2 h (.slice (some ⟨h.next,0,none⟩) 0 0):=fun b hb=>by injection hb with hb;grind
  obtain⟨r,s,n,t,u,o,-⟩:=GI.join l w1 (e.le Nn.RP l1) (by simp;omega);obtain⟨l6,w⟩:=o h l1 m;simp only[HO,seval,aEq,Mb,Po,mk,n];grind
variable {i:Nat} {xs ys:RZ}
def aiS(xs ys:RZ)(i:Nat):Prop:=ys.length=xs.length/\∀p,p<xs.length->ys[p]?=if p<i\/xs.length-i<=p then xs[xs.length-1-p]? else xs[p]?
theorem aiS.zero(xs:RZ):aiS xs xs 0:=⟨rfl,pw⟩
theorem aiS.fin(R:aiS xs ys i)(h:xs.length<=2*i+1):ys=xs.reverse:=by
 apply mJ;intro p;by_cases a:p<xs.length
 .rw[R.2 p a,iU a];grind
 .rw[qk (by rw[R.1];omega),qk pw]
theorem aiS.step{xs ys:RZ}{i:Nat}(R:aiS xs ys i)(h:2*i+1<xs.length)(b:i<ys.length)(h2:xs.length-1-i<ys.length):
  aiS xs ((ys.set i ys[xs.length-1-i]).set (xs.length-1-i) ys[i]) (i+1):=by
 refine⟨by simp[R.1],fun p a=>?_⟩;have c:ys[xs.length-1-i]?=xs[xs.length-1-i]?:=by rw[R.2 _ NH,aal NH]
 have d:ys[i]?=xs[i]?:=by rw[R.2 _ NH,aal NH]
 by_cases c1:p=xs.length-1-i
 .grind
 .rw[amo (Hs c1)];by_cases c2:p=i
  .grind
  .rw[amo (Hs c2),R.2 p a];grind
theorem Wk(w:LA)(u:Value)(xs:RZ)(h:aae)(g:GI h u xs)(L:xs.length<=100000):
  AC Tryz.prog w 94 [u] h fun _ h'=>GI h' u xs.reverse/\(∀f,Le f h->Z2 f u->Le f h')/\∀b o,h.own b=some o->blk u≠some b->h'.own b=some o:=by
 refine AC.vE ⟨qS29,rfl,WY⟩ Tryz.ntmps94 Tryz.results94 fun x=>?_;simp only[Br,seval];have lu:=fun y=>(GI.rl g).DH y;have z:adA .i64 ((xs.length:Int)-1)=(xs.length:Int)-1-((0:Nat):Int):=by grind[ie]
 simp only[HO,seval,lu,z];refine lIn (fun k fr j=>∃(i:Nat)(ys:RZ),k=xs.length-i/\2*i<=xs.length/\fr=mkF [(0,u),(2,.int .i64 i),(3,.int .i64 ((xs.length:Int)-1-(i:Int)))]/\aiS xs ys i/\GI j u ys/\(∀f,Le f h->Z2 f u->Le f j)/\∀b o,h.own b=some o->blk u≠some b->j.own b=some o) ⟨0,xs,rfl,WA _,rfl,aiS.zero xs,g,fun f n _=>n,fun b o hb _=>hb⟩ ?_;rintro k fr j p ⟨i,ys,rfl,hi,rfl,R,v,A,B⟩;by_cases c:2*i+1<xs.length
 .have d:decide ((i:Int)<(xs.length:Int)-1-(i:Int))=true:=XJ NH;have C:(xs.length:Int)-1-(i:Int)=((xs.length-1-i:Nat):Int):=NH;have l:i<ys.length:=by rw[R.1];omega
  have h2:xs.length-1-i<ys.length:=by rw[R.1];omega
  have m:=GI.rl v;have q:=m.TA i l;have e:=m.TA _ h2;have ld1:=m.Uc i l;have r:=m.Uc _ h2;obtain⟨M,D,E,F,l5,G⟩:=GI.store v p l ys[xs.length-1-i];obtain⟨N,H,I,O,l6,J⟩:=GI.store E F (i:=xs.length-1-i) pw ys[i];have K:=R.step c l h2;have s:=Tw i NH;have t:adA .i64 ((xs.length:Int)-1-(i:Int)-1)=(xs.length:Int)-1-((i+1:Nat):Int):=by grind[ie]
  rw[<-C]at e;refine Sk d ?_;refine gh (tA [0,1,2,3,4,5,6,7,8,9,10,11,12] (JQ 13 [0,1,4,5,6,7,11,12] (tA [14] (JQ 15 [0,1,2,3,4,5,6,7,8,9,10,11,12,13,14] .done)))) ?_;simp only[HO,seval,Qg,q,e,ld1,r,D,H,s,t];exact lgA (JS NH) ⟨i+1,_,rfl,NH,rfl,K,I,fun f n af=>l6 f (l5 f (A f n af) af) af,fun b o hb a=>J b o (G b o (B b o hb a) a) a⟩
 .have d:decide ((i:Int)<(xs.length:Int)-1-(i:Int))=false:=Sb NH;refine Sk d ?_;grind[aiS.fin]
end
end Go.Fw
