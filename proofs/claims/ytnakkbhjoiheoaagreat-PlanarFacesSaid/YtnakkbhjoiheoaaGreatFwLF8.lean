/- A text. -/
import Derived.Test.YtnakkbhjoiheoaaGreatFwLF3
set_option linter.all false
set_option maxRecDepth 99999
set_option maxHeartbeats 9999999
open Go.Proofs
open Option renaming some→Z,none→Y
open Bool renaming true→tT,false→fF
open List renaming replicate→rP,range→rG
open Go.Value renaming slice→sL,pointer→pT
open Go renaming Value→vV
open Go.Proofs.Tryz renaming prog→pG
open Go.Proofs.Tryz
namespace Go.Fw
section
attribute [local instance] Classical.propDecidable
attribute [local irreducible] Kp MQ lU KO1 KO KN KX KE VK Kl ZJ TC aab
attribute [local irreducible] IN Gn sA Es Ic Gx
variable {a b c i n q:Nat} {es:List Pr} {l:II} {rs:AM}
def cnt_ok(h:a<=40000):aaY .i64 ((a:Int)+1)=(a:Int)+1:=ie _ NH NH
def cnt_ok2(h:a<=40000):aaY .i64 ((a:Int)+2)=(a:Int)+2:=ie _ NH NH
def cnt_ok3(h:a<=40000)(g:b<=40000):aaY .i64 ((a:Int)+(b:Int))=(a:Int)+(b:Int):=ie _ NH NH
def pl_iff:((a:Int)+(b:Int)=(c:Int)+2)↔a+b=c+2:=NH
def pl_pos:((c:Int)>0)↔0<c:=NH
def rep_map(n:Nat):rP n (vV.int .i64 0)=Bp (rP n 0):=by simp[Bp]
theorem ah4(n:Nat)(es:xLP)(k:Nat):(Gx n es k).length=(Es k es).length:=by grind[Gx]
theorem ake(n:Nat)(es:xLP)(k i:Nat)(h:i<(Es k es).length):(Gx n es k)[i]'(by grind[ah4])=Ic n es (Es k es)[i]:=by grind[Gx]
def edK_nil(n:Nat)(es b:xLP):(rP (Es n b).length (0:Int))=(Es n b).map fun a=>((Gn es ([]:xLP) a:Nat):Int):=by apply aeU<;>simp[Gn,VF]
def faK_nil(n:Nat)(es b:xLP):(rP (Es n b).length (0:Int))=(Es n b).map fun a=>((sA es ([]:AM) a:Nat):Int):=by apply aeU<;>simp[sA,VF]
def edK_step(d:aV n es){l:xLP}{e:Pr}(b:q<(Es n es).length)(c:Pu es (Es n es)[q] e.1.toNat):
  ((Es n es).map fun a=>((Gn es (l++[e]) a:Nat):Int))=((Es n es).map fun a=>((Gn es l a:Nat):Int)).set q (((Gn es l (Es n es)[q]:Nat):Int)+1):=by
 unfold Gn;exact aiV b c (aiW d b c)
def faK_step(d:aV n es){l:AM}{e:RZ}(b:q<(Es n es).length)(c:Pu es (Es n es)[q] (e.headD 0).toNat):
  ((Es n es).map fun a=>((sA es (l++[e]) a:Nat):Int))=((Es n es).map fun a=>((sA es l a:Nat):Int)).set q (((sA es l (Es n es)[q]:Nat):Int)+1):=by
 unfold sA;exact aiV b c (aiW d b c)
theorem edK_le(es l:xLP)(a:Nat):Gn es l a<=l.length:=by grind[Gn,ajY]
theorem faK_le(es:xLP)(l:AM)(a:Nat):sA es l a<=l.length:=by grind[sA,ajY]
theorem ajj(n:Nat)(es:xLP)(a:Nat):(Ic n es a).length<=n:=by grind[Ic]
def aip{f:Nat->Int}(h:i<l.length):(l.map f)[i]?=Z (f l[i]):=by simp[h]
theorem head_get{l:RZ}(h:0<l.length):l[0]=l.headD 0:=by
 cases l<;>grind
theorem z8.not(h:i<(Es n es).length)(a:0<Gn es es (Es n es)[i])(h2:¬(Ic n es (Es n es)[i]).length+sA es (IN n rs) (Es n es)[i]=Gn es es (Es n es)[i]+2):¬z8 n es rs:=fun H=>h2 (H _ (aev h) a)
theorem akf(W0:LA)(v rv:vV)(G:GM)(rs:AM)(h:aai)(hg:GR h v G)(hv:RL (RL RP) h rv rs):
  AC pG W0 24 [v,rv] h fun x h'=>RR (bX G/\Av G.n.toNat G.es rs/\z8 G.n.toNat G.es rs) x/\Le h h':=by
 have bF:=hg;obtain⟨gn,es⟩:=G
 obtain⟨ev,rfl,hp⟩:=hg.open
 refine AC.vE ⟨func24,rfl,WY⟩ ntmps24 results24 fun cf=>?_;simp only[Br,seval];obtain⟨h1,b1,R,dd,-,lA⟩:=r8 (n:=gn) cf hp
 generalize h.next=B at*
 have cg:=lA h1 (Le.refl _);refine Sk (XC b1 cg.1) ?_;refine kCi func45 (aix W0 _ rv ⟨gn,es⟩ rs h1 (bF.le R) (hv.le (Nn.RL Nn.RP) R)) ?_;rintro x h2 w2 ⟨⟨b,rfl,hb⟩,l2⟩;cases b
 .refine Uy ?_;exact⟨⟨fF,rfl,pw⟩,R.trans l2⟩
 obtain⟨hr,G⟩:=hb.1 rfl;have h0:0<=gn:=hr.n0;obtain⟨n,rfl⟩:=Sb h0;simp only[IE]at G ⊢;have hR:=hr.GD;have hA:=hr.q9;have da:(n:Int)<=200:=hr.n1;have db:es.length<=594:=hr.len;have aJ:n<=200:=NH;have fin:∀b,(b=tT↔z8 n es rs)->∀o,Le h o->RR (bX ⟨(n:Int),es⟩/\Av n es rs/\z8 n es rs) (.bool b)/\Le h o:=fun b hb o lz=>⟨⟨b,rfl,hb.trans ⟨fun p=>⟨hr,G,p⟩,fun p=>p.2.2⟩⟩,lz⟩;have de:=lA h2 l2;refine Uy ?_;refine kCi func29 (aiU W0 rv rs h2 (hv.le (Nn.RL Nn.RP) (R.trans l2))) ?_;rintro x h3 w3 ⟨l3,⟨rfl,ck⟩|⟨cm,fv,cp,G',rfl,hf⟩⟩
 .exact absurd ⟨es,by grind[Av.len],by grind[Av.len]⟩ ck
 clear cp G' cm;rw[G.len]at hf;have d0:decide ((0:Int)=0)=tT:=by decide
 have fT:=lA h3 (l2.trans l3);simp only[HO,seval,bne,d0,fT.1];refine kCi func30 (It W0 _ ⟨(n:Int),es⟩ h3 (bF.le ((R.trans l2).trans l3)) hr) ?_;rintro pv M w4 ⟨gp,l4,-⟩;simp only[IE]at gp;have rp:=gp.rl (Nn.RL Nn.RP);have lp:=fun g=>rp.qP5 g;have cq:((Gx n es n).map kz).length=(Es n es).length:=by grind[ah4]
 rw[cq]at lp;have dg:(Es n es).length<=n:=vH _ _;have aK:=hf.le (Nn.RL Nn.RP) l4;have aP:=(l2.trans l3).trans l4;have bH:=R.trans aP;have cx:=lA M aP;have cz:=fun g:aai=>Ye (P:=pG) (t:=28) (z:=.int .i64 0) g Mb rfl rfl rfl rfl Ji Ac Ji n NH;have cC:=fun g:aai=>Ye (P:=pG) (t:=28) (z:=.int .i64 0) g Mb rfl rfl rfl rfl Ji Ac Ji (Es n es).length NH;obtain⟨h5,e5,l5,w5,o5⟩:=Tt w4 (rP n (.int .i64 0))
 have nH:M.own M.next=Y:=(Le.refl M).next w4 (qL0 _)
 refine Sk (bG @Ii @Ip.eq_1 @EL cx.2.1 cz e5) ?_
 generalize M.next=H at*
 apply Ya (F:=fun(fr:lC)(h':aai)=>∃A C D,Fj fr [(2,pT (Z B)),(5,fv),(7,pv),(8,sL (Z H) n n),(9,sL (Z ⟨A,0,Y⟩) (Es n es).length (Es n es).length),(10,sL (Z ⟨C,0,Y⟩) (Es n es).length (Es n es).length),(11,sL (Z ⟨D,0,Y⟩) (Es n es).length (Es n es).length)]/\ahT h5 h' A C D (rP (Es n es).length (.int .i64 0)))
 .intro cont;refine gh (tA [0,1,3,4,6,7] (.ch 2 [1] (tA [9] (.ch 5 [4] (tA [10] (JQ 8 [7] (tA [11] .done))) (JQ 8 [7] (JQ 5 [4] (tA [10,11] .done))))) (.ch 5 [4] (.ch 2 [1] (tA [9,10] (JQ 8 [7] (tA [11] .done))) (JQ 8 [7] (JQ 2 [1] (tA [9,10,11] .done)))) (JQ 8 [7] (.ch 2 [1] (tA [9] (JQ 5 [4] (tA [10,11] .done))) (JQ 5 [4] (JQ 2 [1] (tA [9,10,11] .done)))))))) ?_;simp only[kJJ,seval,Qg,lp,cC,om];have N:=new3 w5 (rP (Es n es).length (.int .i64 0));refine⟨⟨?_,?_⟩,⟨?_,?_⟩,?_,?_⟩
  all_goals
   refine KN.UJ fun fr' h' e1 e2=>cont fr' h' ?_;subst e1 e2
   first
    |(refine⟨_,_,_,?_,N⟩;simp only[Fj,HO,seval];simp;done)
    |(refine⟨_,_,_,?_,N.s12⟩;simp only[Fj,HO,seval];simp;done)
    |(refine⟨_,_,_,?_,N.s23⟩;simp only[Fj,HO,seval];simp;done)
    |(refine⟨_,_,_,?_,N.s12.s23⟩;simp only[Fj,HO,seval];simp;done)
    |(refine⟨_,_,_,?_,N.s23.s12⟩;simp only[Fj,HO,seval];simp;done)
    |(refine⟨_,_,_,?_,N.s12.s23.s12⟩;simp only[Fj,HO,seval];simp;done)
 rintro fr h6 ⟨A,C,D,bI,N⟩;simp only[Fj]at bI;obtain⟨f2,f5,f7,f8,f9,bN,bQ,-⟩:=bI;refine Sk (XC f7 lp) ?_;have l6:=l5.trans N.le;have aT:=N.le.own _ _ o5;have aW:=N.oA;have aX:=N.oB;have a6:=N.oC;rw[rep_map]at aT aW aX a6;have dj:H≠A:=fun e=>by grind[ahT.nA]
 have dk:H≠C:=fun e=>by grind[ahT.nB]
 have dm:H≠D:=fun e=>by grind[ahT.nC]
 have dp:=N.ab;have dq:=N.ac;have dv:=N.bc;have nA:M.own A=Y:=l5.none N.nA;have nC:M.own C=Y:=l5.none N.nB;have nD:M.own D=Y:=l5.none N.nC;have w6:=N.wf;clear N o5 w5;refine aab.intro (fun k fr r=>∃(i:Nat)(L V:RZ),k=(Es n es).length-i/\i<=(Es n es).length/\fr=mkF [(2,pT (Z B)),(5,fv),(7,pv),(8,sL (Z H) n n),(9,sL (Z ⟨A,0,Y⟩) (Es n es).length (Es n es).length),(10,sL (Z ⟨C,0,Y⟩) (Es n es).length (Es n es).length),(11,sL (Z ⟨D,0,Y⟩) (Es n es).length (Es n es).length),(46,pv),(47,.int .i64 (Es n es).length),(48,i)]/\
   r.own H=Z (.cells (Bp L))/\ahA n es i L/\r.own A=Z (.cells (Bp V))/\V.length=(Es n es).length/\(∀j (T:j<(Es n es).length),j<i->V[j]?=Z (((Ic n es (Es n es)[j]).length:Nat):Int))/\r.own C=Z (.cells (Bp (rP (Es n es).length 0)))/\r.own D=Z (.cells (Bp (rP (Es n es).length 0)))/\Le M r)
  (Es n es).length [(2,pT (Z B)),(5,fv),(7,pv),(8,sL (Z H) n n),(9,sL (Z ⟨A,0,Y⟩) (Es n es).length (Es n es).length),(10,sL (Z ⟨C,0,Y⟩) (Es n es).length (Es n es).length),(11,sL (Z ⟨D,0,Y⟩) (Es n es).length (Es n es).length),(46,pv),(47,.int .i64 (Es n es).length),(48,(0:Nat))] (by simp only[Fj,HO,seval,f2,f5,f7,f8,f9,bN,bQ];simp)
  ⟨0,_,_,rfl,vZ _,rfl,aT,ahA.zero,aW,Ma,fun j _ h=>absurd h (adQ _),aX,a6,l6⟩ ?_
 clear aT aW aX a6 w6 f2 f5 f7 f8 f9 bN bQ l6;clear l5 e5;clear h6;rintro k fr r y ⟨i,L,V,rfl,hi,rfl,U,HP,oA,hV,bW,oC,O,I⟩;refine Uy ?_;refine Kl.intro (fun Q=>?_) (fun hf=>?_)
 .have m:i<(Es n es).length:=CC Q;clear Q;have hm:i<((Gx n es n).map kz).length:=pw;have a7:=rp.Wm i hm;obtain⟨u,W,av⟩:=rp.NS i hm;have ay:=W r I;have cE:((Gx n es n).map kz)[i]=kz (Ic n es (Es n es)[i]):=by grind[ake]
  rw[cE]at av;have lu:=fun g=>av.Uc g;rw[y6]at lu;have bY:=BS m;have st:=stI oA (i:=i) pw (((Ic n es (Es n es)[i]).length:Nat):Int);have cJ:=Kx A (Es n es).length .i64 i m;simp only[HO,seval,a7,ay,lu,cJ,st];have X:∀j,j<i+1->∀(T:j<(Es n es).length),(V.set i (((Ic n es (Es n es)[i]).length:Nat):Int))[j]?=Z (((Ic n es (Es n es)[j]).length:Nat):Int):=fun j az T=>by grind
  have cK:(V.set i (((Ic n es (Es n es)[i]).length:Nat):Int)).length=(Es n es).length:=pw;generalize V.set i (((Ic n es (Es n es)[i]).length:Nat):Int)=V2 at*;have w7:WF (r.put A (.cells (Bp V2))):=y.put _ (y.lt oA);have l7:Le M (r.put A (.cells (Bp V2))):=I.put _ nA;have a8:(r.put A (.cells (Bp V2))).own A=Z (.cells (Bp V2)):=aai.Y3 _ _ _;have aC:(r.put A (.cells (Bp V2))).own H=Z (.cells (Bp L)):=by grind[aai.By]
  have aa:(r.put A (.cells (Bp V2))).own C=Z (.cells (Bp (rP (Es n es).length 0))):=by grind[aai.By]
  have bb:(r.put A (.cells (Bp V2))).own D=Z (.cells (Bp (rP (Es n es).length 0))):=by grind[aai.By]
  generalize r.put A (.cells (Bp V2))=h7 at*;have cM:∀v∈Ic n es (Es n es)[i],v<n/\Pu es (Es n es)[i] v:=fun v hv=>mY.1 hv;generalize (Es n es)[i]=a at*;have dw:=ajj n es a;generalize cN:Ic n es a=cs at*;refine lIn (fun k fr o=>∃(j:Nat)(L:RZ),k=cs.length-j/\j<=cs.length/\fr=mkF [(2,pT (Z B)),(5,fv),(7,pv),(8,sL (Z H) n n),(9,sL (Z ⟨A,0,Y⟩) (Es n es).length (Es n es).length),(10,sL (Z ⟨C,0,Y⟩) (Es n es).length (Es n es).length),(11,sL (Z ⟨D,0,Y⟩) (Es n es).length (Es n es).length),(12,i),(46,pv),(47,.int .i64 (Es n es).length),(48,i),(58,u),(59,.int .i64 cs.length),(60,.int .i64 j)]/\
    o.own H=Z (.cells (Bp L))/\ahA n es i L/\(∀v∈cs.take j,L[v]?=Z (i:Int))/\o.own A=Z (.cells (Bp V2))/\o.own C=Z (.cells (Bp (rP (Es n es).length 0)))/\o.own D=Z (.cells (Bp (rP (Es n es).length 0)))/\Le M o) ⟨0,L,rfl,vZ _,rfl,aC,HP,fun v hv=>absurd hv Qn,a8,aa,bb,l7⟩ ?_
  clear aC HP a8 aa bb l7 w7 oA U oC O I bW st y ay;clear h7 r L;rintro k fr o dy ⟨j,L,rfl,T,rfl,U,HP,bZ,oA,oC,O,lz⟩;refine Uy ?_;refine Kl.intro (fun Q=>?_) (fun hf=>?_)
  .have d:j<cs.length:=CC Q;clear Q;have cP:=sY d;have b0:=av.TA j (by rw[y6];exact d);have b2:=(av.le Nn.RP lz).DH j (by rw[y6];exact d);rw[cP]at b2;have aD:=cM cs[j] (aev d);have S:cs.take (j+1)=cs.take j++[cs[j]]:=XJ d;generalize cs[j]=v at*;have cR:=stI U (i:=v) (by rw[HP.1];exact aD.1) (i:Int);have ae:=Kx H n .i64 v aD.1;have b3:=aaa j NH;refine Sk (IX b0 b2 ae cR b3) ?_;refine lgA (JS d) ⟨j+1,L.set v (i:Int),rfl,d,rfl,aai.Y3 _ _ _,HP.put hR bY aD.2,fun w hw=>?_,by grind[aai.By],by grind[aai.By],by grind[aai.By],lz.put _ nH⟩;rw[S,aax,iy]at hw;by_cases c:v=w
   .subst c;rw[List.getElem?_set_self (by rw[HP.1];exact aD.1)]
   grind
  .have s:cs.length<=j:=vp hf;rw[HV s,<-cN]at bZ;have aF:=aaa i NH;refine Sk aF ?_
   exact lgA (JS m) ⟨i+1,L,V2,rfl,m,rfl,U,HP.next bY bZ,oA,cK,fun j T az=>X j az T,oC,O,lz⟩
 have s:(Es n es).length<=i:=vp hf;obtain rfl:i=(Es n es).length:=NH;clear s hf hi;have b4:=lA r (aP.trans I);have cU:=fun g=>hp.len g;refine Sk (IX @Di @Ip.eq_1 @EL b4.2.2 cU) ?_;have bg:=oC;rw[edK_nil n es es]at bg;have b5:∀p∈es,0<=p.1/\p.1<p.2/\p.2<(n:Int):=fun p aH=>by obtain⟨i,hi⟩:=yM.1 aH;exact(hr.ok i (Ny.1 hi).1 p hi).1
 refine lIn (fun k fr o=>∃(j:Nat),k=es.length-j/\j<=es.length/\fr=mkF [(5,fv),(7,pv),(8,sL (Z H) n n),(9,sL (Z ⟨A,0,Y⟩) (Es n es).length (Es n es).length),(10,sL (Z ⟨C,0,Y⟩) (Es n es).length (Es n es).length),(11,sL (Z ⟨D,0,Y⟩) (Es n es).length (Es n es).length),(71,ev),(72,.int .i64 es.length),(73,.int .i64 j)]/\
   o.own H=Z (.cells (Bp L))/\o.own A=Z (.cells (Bp V))/\o.own C=Z (.cells (Bp ((Es n es).map fun a=>((Gn es (es.take j) a:Nat):Int))))/\o.own D=Z (.cells (Bp (rP (Es n es).length 0)))/\Le M o) ⟨0,rfl,vZ _,rfl,U,oA,bg,O,I⟩ ?_
 clear bg oC O oA U I b4 y;clear r;rintro k fr r y ⟨j,rfl,T,rfl,U,oA,oC,O,I⟩;refine Uy ?_;refine Kl.intro (fun Q=>?_) (fun hf=>?_)
 .have d:j<es.length:=CC Q;clear Q;have aH:=CA d;have b6:=b5 es[j] (aev d);have S:es.take (j+1)=es.take j++[es[j]]:=XJ d;generalize es[j]=p at aH S b6;have a7:=hp.addr (k:=.i64) j d;have cW:=(hp.le (bH.trans I)).load aH;obtain⟨dz,h7,e7,cZ,l7,w7,o7⟩:=Ut y p
  have nE:M.own r.next=Y:=I.none ((Le.refl r).next y (qL0 _))
  generalize r.next=E at*
  have m0:=lK o7;obtain⟨x1,x2⟩:=p;obtain⟨v,rfl⟩:=Sb b6.1;have ag:v<n:=pw;obtain⟨q,J,bh,c0⟩:=HP.get hR ag;have aC:=l7.own _ _ U;have a8:=l7.own _ _ oA;have aa:=l7.own _ _ oC;have bb:=l7.own _ _ O;have ae:=Kx H n .i64 v ag;have bk:=XP aC bh;have ai:=Kx C (Es n es).length .i64 q J;have aj:=XP aa (aip (f:=fun a=>((Gn es (es.take j) a:Nat):Int)) J);have hle:Gn es (es.take j) (Es n es)[q]<=40000:=VU (edK_le _ _ _) pw;have K:=cnt_ok hle;have b8:=stI aa (i:=q) pw (((Gn es (es.take j) (Es n es)[q]:Nat):Int)+1);have al:=edK_step hR (l:=es.take j) (e:=((v:Int),x2)) J pw;rw[<-S]at al;rw[<-al]at b8;have X:=aaa j NH;refine Sk (aNd15 a7 cW e7 cZ @Dh @Ip.eq_1 @EL m0 ae bk ai aj K b8 X) ?_;exact lgA (JS d) ⟨j+1,rfl,d,rfl,by grind[aai.By],by grind[aai.By],aai.Y3 _ _ _,by grind[aai.By],(I.trans l7).put _ nC⟩
 have s:es.length<=j:=vp hf;rw[HV s]at oC;clear s hf T;have lF:=fun g=>aK.qP5 g;have dA:=ajE (n:=n) (es:=es) (rs:=rs) aJ;have bm:=O;rw[faK_nil n es es]at bm;have c3:=fun f (hf:f∈IN n rs)=>Uj hR hA G hf;refine Sk lF ?_;refine aab.intro (fun k fr o=>∃(j:Nat),k=(IN n rs).length-j/\j<=(IN n rs).length/\fr=mkF [(7,pv),(8,sL (Z H) n n),(9,sL (Z ⟨A,0,Y⟩) (Es n es).length (Es n es).length),(10,sL (Z ⟨C,0,Y⟩) (Es n es).length (Es n es).length),(11,sL (Z ⟨D,0,Y⟩) (Es n es).length (Es n es).length),(88,fv),(89,.int .i64 (IN n rs).length),(90,.int .i64 j)]/\
   o.own H=Z (.cells (Bp L))/\o.own A=Z (.cells (Bp V))/\o.own C=Z (.cells (Bp ((Es n es).map fun a=>((Gn es es a:Nat):Int))))/\o.own D=Z (.cells (Bp ((Es n es).map fun a=>((sA es ((IN n rs).take j) a:Nat):Int))))/\Le M o)
  (IN n rs).length [(7,pv),(8,sL (Z H) n n),(9,sL (Z ⟨A,0,Y⟩) (Es n es).length (Es n es).length),(10,sL (Z ⟨C,0,Y⟩) (Es n es).length (Es n es).length),(11,sL (Z ⟨D,0,Y⟩) (Es n es).length (Es n es).length),(88,fv),(89,.int .i64 (IN n rs).length),(90,(0:Nat))] fD
  ⟨0,rfl,vZ _,rfl,U,oA,oC,bm,I⟩ ?_
 clear bm oC O oA U I y;clear r j;rintro k fr r y ⟨j,rfl,T,rfl,U,oA,oC,O,I⟩;refine Uy ?_;refine Kl.intro (fun Q=>?_) (fun hf=>?_)
 .have d:j<(IN n rs).length:=CC Q;clear Q;have c4:=aK.Wm j d;obtain⟨u,W,hu⟩:=aK.NS j d;have ay:=W r I;obtain⟨bo,v,ag,c5⟩:=c3 (IN n rs)[j] (aev d);have S:(IN n rs).take (j+1)=(IN n rs).take j++[(IN n rs)[j]]:=XJ d;generalize (IN n rs)[j]=f at*;have b9:=hu.TA 0 bo;have cc:=(hu.le Nn.RP I).DH 0 bo;rw[head_get bo,c5]at cc;simp only[NC]at b9;obtain⟨q,J,bh,c0⟩:=HP.get hR ag;have ae:=Kx H n .i64 v ag;have bk:=XP U bh;have aq:=Kx D (Es n es).length .i64 q J;have ar:=XP O (aip (f:=fun a=>((sA es ((IN n rs).take j) a:Nat):Int)) J);have hle:sA es ((IN n rs).take j) (Es n es)[q]<=40000:=VU (faK_le _ _ _) pw;have K:=cnt_ok hle;have cd:=stI O (i:=q) pw (((sA es ((IN n rs).take j) (Es n es)[q]:Nat):Int)+1);have al:=faK_step hR (l:=(IN n rs).take j) (e:=f) J pw;rw[<-S]at al;rw[<-al]at cd;have X:=aaa j NH;refine Sk (rk c4 ay b9 cc ae bk aq ar K cd X) ?_;exact lgA (JS d) ⟨j+1,rfl,d,rfl,by grind[aai.By],by grind[aai.By],by grind[aai.By],aai.Y3 _ _ _,I.put _ nD⟩
 have s:(IN n rs).length<=j:=vp hf;rw[HV s]at O;clear s hf T;refine Sk lp ?_;refine aab.intro (fun k fr o=>∃(i:Nat),k=(Es n es).length-i/\i<=(Es n es).length/\fr=mkF [(9,sL (Z ⟨A,0,Y⟩) (Es n es).length (Es n es).length),(10,sL (Z ⟨C,0,Y⟩) (Es n es).length (Es n es).length),(11,sL (Z ⟨D,0,Y⟩) (Es n es).length (Es n es).length),(107,.int .i64 (Es n es).length),(108,i)]/\
   (∀j (T:j<(Es n es).length),j<i->0<Gn es es (Es n es)[j]->(Ic n es (Es n es)[j]).length+sA es (IN n rs) (Es n es)[j]=Gn es es (Es n es)[j]+2)/\o=r)
  (Es n es).length [(9,sL (Z ⟨A,0,Y⟩) (Es n es).length (Es n es).length),(10,sL (Z ⟨C,0,Y⟩) (Es n es).length (Es n es).length),(11,sL (Z ⟨D,0,Y⟩) (Es n es).length (Es n es).length),(107,.int .i64 (Es n es).length),(108,(0:Nat))] fD
  ⟨0,rfl,vZ _,rfl,fun j _ h=>absurd h (adQ _),rfl⟩ ?_
 rintro k fr o-⟨i,rfl,hi,rfl,dc,rfl⟩;refine Uy ?_;refine Kl.intro (fun Q=>?_) (fun hf=>?_)
 .have m:i<(Es n es).length:=CC Q;clear Q;have br:=Kx A (Es n es).length .i64 i m;have ai:=Kx C (Es n es).length .i64 i m;have aq:=Kx D (Es n es).length .i64 i m;have bx:=XP oA (bW i m m);have aj:=XP oC (aip (f:=fun a=>((Gn es es a:Nat):Int)) m);have ar:=XP O (aip (f:=fun a=>((sA es (IN n rs) a:Nat):Int)) m);have hle:Gn es es (Es n es)[i]<=40000:=VU (edK_le _ _ _) NH;have c6:sA es (IN n rs) (Es n es)[i]<=40000:=VU (faK_le _ _ _) NH;have c9:(Ic n es (Es n es)[i]).length<=40000:=VU (ajj _ _ _) NH;have K:=cnt_ok2 hle;have bB:=cnt_ok3 c9 c6;have aF:=aaa i NH;by_cases c1:0<Gn es es (Es n es)[i]
  .have d1:decide (((Gn es es (Es n es)[i]:Nat):Int)>0)=tT:=qL7 (pl_pos.2 c1);by_cases c2:(Ic n es (Es n es)[i]).length+sA es (IN n rs) (Es n es)[i]=Gn es es (Es n es)[i]+2
   .have d2:decide ((((Ic n es (Es n es)[i]).length:Nat):Int)+((sA es (IN n rs) (Es n es)[i]:Nat):Int)=((Gn es es (Es n es)[i]:Nat):Int)+2)=tT:=qL7 (pl_iff.2 c2);refine Uy ?_;refine gh (tA [0,1,2,3,4,5,6,7,8,9,10,11,12,13,14,15,16,17,18,19,20,21] .done) ?_;refine CO (ahv br ai aq bx aj ar K bB d1 @d2 @bne.eq_1.{0} aF) ?_
    refine lgA (JS m) ⟨i+1,rfl,m,rfl,fun j T az hp=>?_,rfl⟩;grind
   .have d2:decide ((((Ic n es (Es n es)[i]).length:Nat):Int)+((sA es (IN n rs) (Es n es)[i]:Nat):Int)=((Gn es es (Es n es)[i]:Nat):Int)+2)=fF:=WA (fun e=>c2 (pl_iff.1 e));refine Uy ?_;refine gh (tA [0,1,2,3,4,5,6,7,8,9,10,11,12,13,14,15,16,17,18,19,20,21] .done) ?_;refine CO (rk br ai aq bx aj ar K bB d1 @d2 @bne.eq_1.{0}) ?_
    grind[z8.not,Le.trans]
  .have d1:decide (((Gn es es (Es n es)[i]:Nat):Int)>0)=fF:=WA (fun e=>c1 (pl_pos.1 e));refine Uy ?_;refine gh (tA [0,1,2,3,4,5,6,7,8,9,10,11,12,13,14,15,16,17,18,19,20,21] .done) ?_;refine CO (rk br ai aq bx aj ar K bB d1 @bne.eq_1.{0} aF) ?_
   refine lgA (JS m) ⟨i+1,rfl,m,rfl,fun j T az hp=>?_,rfl⟩;grind
 have s:(Es n es).length<=i:=vp hf;refine Uy ?_;refine fin tT ⟨fun _ a ha hp=>?_,fun _=>rfl⟩ _ (bH.trans I);obtain⟨q,dB⟩:=yM.1 ha;grind
end
section
attribute [local instance] Classical.propDecidable
attribute [local irreducible] Kp MQ lU KO1 KO KN KX KE VK Kl ZJ TC aab
variable {b0 h:aai} {i w:Nat} {rows:AM} {us:List Value}
theorem Rows.put{L:Nat}(R:Rows b0 h L us rows)(k:WF h){u:vV}{r:RZ}(j:us[w]?=Z u)(l:rows[w]?=Z r)(hi:i<r.length)(x:Int):
  ∃h',aaK pG h 3 (pT (Z (aaq u i))) x=Z h'/\Rows b0 h' L us (rows.set w (r.set i x))/\WF h'/\(∀f,Le f h->Z2 f u->Le f h')/\(∀b o,h.own b=Z o->blk u≠Z b->h'.own b=Z o):=by
 obtain⟨h',e,g,wf,m,keep⟩:=GI.store (show GI h u r from R.gs w u r j l) k hi x;refine⟨h',e,⟨keep _ _ R.oL (R.nL w u j),by grind[Rows.len],fun v a q ha d=>?_,R.nL,R.TE,R.ap,m _ R.le (R.ap w u j),R.bL⟩,wf,m,keep⟩;rw[Tn]at d;by_cases c:w=v
 .subst c;rw[Z6 rfl,Z6 (Ny.1 l).1]at d;injection d with d;subst d;rw[j]at ha;injection ha with ha;subst ha;exact g
 .rw[abe c]at d;refine(R.gs v a q ha d).kept fun b o hb n=>keep b o n fun sZ=>R.TE w v u a b c j ha sZ hb
theorem OS(l:LA)(v:vV)(xs:RZ)(y:Int)(h:aai)(d:RL RP h v xs)(s:xs.length<=100000):AC pG l 101 [v,.int .i64 y] h fun x h'=>((x=.int .i64 (-1)/\y∉xs)\/∃i,∃hi:i<xs.length,x=.int .i64 (i:Nat)/\xs[i]=y/\∀j (b:j<i),xs[j]≠y)/\h'=h:=by
 refine AC.vE ⟨qS33,rfl,WY⟩ ntmps101 results101 fun m=>?_;simp only[Br,seval];have n:=fun g=>d.Uc g;refine Sk n ?_;refine lIn (fun k fr e=>∃i,k=xs.length-i/\i<=xs.length/\fr=mkF [(0,v),(1,.int .i64 y),(7,.int .i64 xs.length),(8,.int .i64 i)]/\e=h/\∀j (b:j<xs.length),j<i->xs[j]≠y) ⟨0,rfl,vZ _,rfl,rfl,fun j _ b=>absurd b (adQ _)⟩ ?_;rintro k fr e o ⟨i,rfl,hi,rfl,rfl,p⟩;refine Uy ?_;refine Kl.intro (fun f=>?_) (fun hf=>?_)
 .have a:i<xs.length:=CC f;clear f;have ad:=d.TA i a;have ld:=d.DH i a;have hw:=aaa i NH;by_cases c:y=xs[i]
  .simp only[HO,seval,ad,ld,qL7 c];grind
  .simp only[HO,seval,ad,ld,WA c,hw];refine lgA (JS a) ⟨i+1,rfl,a,rfl,rfl,fun j b q=>?_⟩;grind
 .have r:xs.length<=i:=vp hf;refine Uy ?_;grind[List.mem_iff_getElem]
theorem W3(b:LA)(v:vV)(xs:RZ)(y:Int)(h:aai)(c:RL RP h v xs)(e:xs.length<=100000):AC pG b 77 [v,y] h fun x h'=>x=.bool (decide (y∈xs))/\h'=h:=by
 refine AC.vE ⟨func77,rfl,WY⟩ ntmps77 results77 fun f=>?_;simp only[Br,seval];refine Uy ?_;refine kCi qS33 (OS b v xs y h c e) ?_;rintro x h2 w2 ⟨⟨rfl,a⟩|⟨i,hi,rfl,a,-⟩,rfl⟩
 .have d:decide ((-1:Int)>=0)=fF:=by decide
  simp only[HO,seval,d,WA a];grind
 .have d:decide ((i:Int)>=0)=tT:=by simp
  have g:y∈xs:=a▸aev hi;simp only[HO,seval,d,qL7 g];grind
end
variable {es:List Pr} {n:Nat} {rs:AM}
attribute [local instance] Classical.propDecidable in
theorem vS{n:Nat}{es:xLP}{rs:AM}(c:aV n es)(ha:D3 es)(G:Av n es rs)(d:0<n)(k:∀v,v<n->Pu es 0 v):
  z8 n es rs↔(0<es.length->n+(IN n rs).length=es.length+2):=by
 have all:∀a,a<n->Gn es es a=es.length/\(Ic n es a).length=n/\sA es (IN n rs) a=(IN n rs).length:=fun a g=>by
  have i:∀v,v<n->Pu es a v:=by grind[Cn.symm,Cn.trans]
  refine⟨?_,?_,?_⟩
  .unfold Gn VF;rw[pz.2];intro e j;have h:=c e j;grind
  .grind[Ic,List.filter_eq_self]
  .unfold sA VF;rw[pz.2];intro f hf;obtain⟨_,v,l,e⟩:=Uj c ha G hf;grind
 constructor
 .intro H m;obtain⟨a,b,_⟩:=B6 c 0 d;obtain⟨o,p,e3⟩:=all a (QO.1 b).1;have:=H a b pw;grind
 .intro H a b;grind[QO]
theorem rotG_of(h:rs.length=n)(d:(rG n).all (fun v=>(rs.getD v []).isPerm ((Zh n es).getD v []))=tT):Av n es rs:=⟨h,(by grind[List.isPerm_iff])⟩
theorem X9(a:bX ⟨(n:Int),es⟩)(G:Av n es rs){hs:List (H8×Nat)}(C:Cert n (Xl rs) hs):IN n rs=hs.map fun p=>(rG p.2).map fun j=>(((it (Nv (Xl rs)) j p.1).1:Nat):Int):=by rw[IN,Fs (G.jD a.GD a.q9) C,FD];grind[List.map_congr_left,kz]
instance (n:Nat) (r:Nat->II) (hs:List (H8×Nat)):Decidable (Cert n r hs):=by unfold Cert;infer_instance
section
attribute [local irreducible] Kp MQ lU KO1 KO KN KX KE VK Kl ZJ TC aab
variable {B M T i:Nat} {h:aai} {rows:AM} {x:Value}
def afu{l:List (Pr×Int)}(i:h.own M=Z (.map (wy l)))(k:Pr):∃(j:Nat)(l1:List (Pr×Int)),
  ad9 pG h 74 (.map (Z M)) (UI k)=Z (.tuple #[.int .i64 ((abo l k).getD 0),.int .i64 (j:Int)],h.put M (.map (wy l1)))/\(abo l1 k).getD 0=(abo l k).getD 0/\
  ∀v:Int,acT (h.put M (.map (wy l1))) (.map (Z M)) (.int .i64 (j:Int)) (.int .i64 v)=Z ((h.put M (.map (wy l1))).put M (.map (wy (acs l k v)))):=by
 have m:acd pG 3=Z (.int .i64 0):=Ji;have hf:=ady k l 0;have hd:∀v:Int,_:=fun v=>Ek l k v;rcases Ek l k 0 with⟨a,n⟩|⟨j,b,a,h2,h3,n⟩
 .have d:=hf.1 a;refine⟨l.length,l++[(k,0)],?_,?_,fun v=>?_⟩
  .simp only[ad9,zj,aj6,i,m,if_true,d,show flat (.int .i64 0)=tT from rfl,a];simp[wy]
  .rw[<-n,XR,Z6 rfl,a];rfl
  .have hs:acs l k v=l++[(k,v)]:=by
    rcases hd v with⟨_,e⟩|⟨j,b,e,_⟩
    .exact e
    .rw[a]at e;cases e
   have f:(0:Int)<=(l.length:Int):=NH;simp only[acT,aai.Y3,f,if_true,IE];rw[hs];simp[wy]
 .have c:=hf.2 j b h2 h3;rw[EL]at c;refine⟨j,l,?_,rfl,fun v=>?_⟩
  .simp only[ad9,zj,aj6,i,m,if_true,c,a,agR]
  .have hs:acs l k v=l.set j (k,v):=by
    rcases hd v with⟨e,_⟩|⟨g,s,e,o,p,r⟩
    .rw[a]at e;cases e
    .have:g=j:=by
      rcases oZ g j with q|q|q
      .exact absurd rfl (h3 g q _ o)
      .exact q
      .exact absurd rfl (p j q _ h2)
     rw[r,this]
   have f:(0:Int)<=(j:Int):=NH;have hg:(wy l)[j]?=Z (UI k,.int .i64 b):=by simp[wy,h2]
   simp only[acT,aai.Y3,f,if_true,IE,hg];rw[hs];simp[wy,aiq]
def bX.n200(a:bX ⟨(n:Int),es⟩):n<=200:=by have:(n:Int)<=200:=a.n1;omega
def stKI(o:h.own T=Z (.cells [x]))(y:Int):aaK pG h 3 (pT (Z T)) y=Z (h.put T (.cells [y])):=QB Ac Ji o Nat.zero_lt_one rfl rfl
def ldKI{x:Int}(o:h.own T=Z (.cells [x])):aaC pG h 3 ⟨T,0,Y⟩=Z (.int .i64 x):=by rw[Fq Ac rfl o];rfl
def ldKR{a:vV}(o:h.own B=Z (.cells [a])):aaC pG h 25 ⟨B,0,Y⟩=Z a:=by rw[Fq qS8 rfl o];rfl
def agC(V:LA)(T B:Nat)(Q:vV)(s c v:Nat)(t h:aai)(oT:h.own T=Z (.cells [(s:Nat)]))(oB:h.own B=Z (.cells [Q]))(F:B≠T)(hb:RL (RL RP) t Q (Zh n es))(l0:Le t h)(nT:t.own T=Y)(G:bX ⟨(n:Int),es⟩)(R:Jp es c v)(W:((Zh n es).getD c []).length≠2)(hs:s<=100000000):
  AC pG V 76 [(c:Nat),(v:Nat),pT (Z T),pT (Z B)] h fun x h'=>x=.int .i64 ((aal (Zh n es) (c,v)).1:Nat)/\h'.own T=Z (.cells [.int .i64 ((s+((aal (Zh n es) (c,v)).2+1):Nat):Int)])/\Le t h'/\∀b o,b≠T->h.own b=Z o->h'.own b=Z o:=by
 have hR:=G.GD;have hA:D3 es:=G.q9;obtain⟨K,hK,h2,h3,X⟩:=oth_go hR hA G.n200 R W;rw[X];have H:=aa7 hR hA (d:=(c,v)) R;have rt:=fun v=>abg hR hA (v:=v);have bl:=Xq n es;have bn:∀{x y},Jp es x y->y<n:=fun a=>(a.lt hR).2;generalize Zh n es=rows at*;refine AC.vE ⟨func76,rfl,WY⟩ ntmps76 results76 fun w=>?_;simp only[Br,seval];have z:=ldKI oT;have A:=stKI oT ((s+1:Nat):Int);have C:=aaa s NH;refine Sk (Yb z C A) ?_;have w1:WF (h.put T (.cells [((s+1:Nat):Int)])):=w.put _ (w.lt oT);refine aab.intro (fun k fr j=>∃i:Nat,k=K-i/\i<=K/\fr=mkF [(1,.int .i64 ((it (goS rows) i (c,v)).2:Nat)),(2,pT (Z T)),(3,pT (Z B)),(7,.int .i64 ((it (goS rows) i (c,v)).1:Nat))]/\
   j.own T=Z (.cells [((s+1+i:Nat):Int)])/\Le t j/\∀b o,b≠T->h.own b=Z o->j.own b=Z o)
  K [(1,(v:Nat)),(2,pT (Z T)),(3,pT (Z B)),(7,(c:Nat))] fD
  ⟨0,rfl,vZ _,rfl,aai.Y3 _ _ _,l0.put _ nT,fun b o hb I=>by rw[aai.By _ _ _ _ hb];exact I⟩ ?_
 clear w1 A z C oT;rintro k fr j aa ⟨i,rfl,hi,rfl,oT,p,J⟩;have lB:=ldKR (J B _ F oB);have ha:=H i fun q j=>h2 q NH;generalize e:it (goS rows) i (c,v)=d at*;have l:d.2<rows.length:=by rw[bl];exact bn ha
 have L:=hb.Wm d.2 l;obtain⟨u,M,r⟩:=hb.NS d.2 l;have lu:=M j p;have gd:rows.getD d.2 []=rows[d.2]:=D4 l;have ln:=fun g=>r.Uc g;have S:=ldKI oT;have st:=stKI oT ((s+1+(i+1):Nat):Int);have aw:=aaa (s+1+i) NH;rw[ais (s+1) i 1]at aw;by_cases c2:(rows.getD d.2 []).length=2
 rotate_left
 .have f:i=K:=by
   rcases abz i K with q|q
   .have:=h2 i q;rw[e]at this;exact absurd this c2
   .omega
  subst f;have d2:decide ((rows[d.2].length:Int)=2)=fF:=WA (by rw[gd]at c2;omega);rw[e];simp only[HO,seval,lB,L,lu,ln,d2];have e1:s+1+i=s+(i+1):=NH;rw[e1]at oT;exact⟨trivial,oT,p,J⟩
 have f:i<K:=by
  rcases abz i K with q|q
  .exact q
  .obtain rfl:i=K:=NH;rw[e]at h3;exact absurd c2 h3
 obtain⟨a,b,N,ne,h4,h5,h6⟩:=rt d.2 c2;have D:it (goS rows) (i+1) (c,v)=goS rows d:=by rw[<-e];rfl
 have gs:goS rows d=(d.2,if(a:Int)=(d.1:Int)then b else a):=by unfold goS;rw[N];simp only[List.getD_cons_zero,List.getD_cons_succ];split<;>simp
 rw[gd]at N;rw[N]at r ln;have d2:decide ((([(a:Int),(b:Int)]:RZ).length:Int)=2)=tT:=by simp
 have O:=r.TA 0 Ma;have a1:=r.TA 1 Ma;have m:=(r.le Nn.RP p).DH 0 Ma;have E:=(r.le Nn.RP p).DH 1 Ma;simp only[qL221,List.getElem_cons_succ]at m E;simp only[NC]at O a1;have U:∀b o,b≠T->h.own b=Z o->(j.put T (.cells [.int .i64 ((s+1+(i+1):Nat):Int)])).own b=Z o:=fun b o hb I=>by rw[aai.By _ _ _ _ hb];exact J b o hb I
 by_cases ca:(a:Int)=(d.1:Int)
 .have P:decide ((a:Int)=(d.1:Int))=tT:=qL7 ca;rw[Z6 ca]at gs;simp only[HO,seval,lB,L,lu,ln,d2,O,m,P,a1,E,S,aw,st];exact tn (K-(i+1)) [(1,(b:Nat)),(2,pT (Z T)),(3,pT (Z B)),(7,(d.2:Nat))] NH fD
   ⟨i+1,rfl,f,by rw[D,gs];rfl,aai.Y3 _ _ _,p.put _ nT,U⟩
 .have P:decide ((a:Int)=(d.1:Int))=fF:=WA ca;rw[abe ca]at gs;simp only[HO,seval,lB,L,lu,ln,d2,O,m,P,S,aw,st];exact tn (K-(i+1)) [(1,(a:Nat)),(2,pT (Z T)),(3,pT (Z B)),(7,(d.2:Nat))] NH fD
   ⟨i+1,rfl,f,by rw[D,gs];rfl,aai.Y3 _ _ _,p.put _ nT,U⟩
def aen(rows:AM)(D:List (Nat×Nat)):Nat:=(D.map fun d=>(aal rows d).2+1).sum
structure agd (rows:AM) (D:List (Nat×Nat)) (hq:aai) (M T B:Nat) (rv:vV) (l:List (Pr×Int)):Prop where
 oM:hq.own M=Z (.map (wy l))
 oT:hq.own T=Z (.cells [(aen rows D:Nat)])
 oB:hq.own B=Z (.cells [rv])
 OT:∀p,(abo l p).getD 0=(((D.map (aaH rows)).count p:Nat):Int)
def strS_le{D:List (Nat×Nat)}(h:∀d∈D,(aal rows d).2<=40000):aen rows D<=40001*D.length:=by
 induction D with
 |nil=>simp[aen]
 |cons d D a=>have c:=h d Ma;have h2:=a fun e b=>h e (by simp[b]);simp only[aen,Lm,CG,Yq]at*;omega
def agD(rows:AM)(D:List (Nat×Nat))(d:Nat×Nat):aen rows (D++[d])=aen rows D+((aal rows d).2+1):=by simp[aen]
def agE{cs:II}(h:i<cs.length):aaj rows (cs.take (i+1))=aaj rows (cs.take i)++(rows.getD cs[i] []).map fun x=>(cs[i],x.toNat):=by unfold aaj;rw[XJ h,ahR];simp only[oK,List.flatMap_nil,aik]
def afv(W0:LA)(C cv:vV)(cs:II)(h:aai)(hb:RL (RL RP) h C (Zh n es))(J:RL RP h cv (kz cs))(hr:bX ⟨(n:Int),es⟩)(hc:∀c∈cs,c<n/\((Zh n es).getD c []).length≠2)(hl:(aaj (Zh n es) cs).length<=1000)(b5:cs.length<=1000):
  AC pG W0 46 [C,cv] h fun x h'=>∃(M:Nat)(l:List (Pr×Int)),x=.tuple #[.map (Z M),(aaU (Zh n es) cs:Nat)]/\h'.own M=Z (.map (wy l))/\(∀p,(abo l p).getD 0=(aaI (Zh n es) cs p:Int))/\Le h h':=by
 have hR:=hr.GD;have hA:D3 es:=hr.q9;have Wn:=fun c v=>oth_go hR hA hr.n200 (c:=c) (v:=v);have f:=fun(T B:Nat)(s c v:Nat)(g:aai) a1 a2 a3 a4 a5 a6 a7 a8=>agC W0 T B C s c v h g a1 a2 a3 hb a4 a5 hr a6 a7 a8;have bl:=Xq n es;have bm:=EW hR;have bN:=fun u x=>Ru hR (u:=u) (x:=x);generalize Zh n es=rows at*;refine AC.vE ⟨func46,rfl,WY⟩ ntmps46 results46 fun ae=>?_;simp only[Br,seval];obtain⟨m,e1,l1,w1,o1⟩:=Tt ae [C]
 have bx:zF h C=Z (pT (Z h.next),m):=by obtain⟨a,c,rfl,_⟩:=hb.sl;rw[<-e1];rfl
 obtain⟨h2,e2,l2,w2,o2⟩:=Tt w1 [.int .i64 0]
 have al:abO pG m 3=Z (pT (Z m.next),h2):=by rw[<-e2];rfl
 have ag:=stKI o2 0
 have nB:h.own h.next=Y:=(Le.refl h).next ae (qL0 _)
 have z:m.own m.next=Y:=(Le.refl m).next w1 (qL0 _)
 have nT:=l1.none z
 have ai:h.next≠m.next:=fun e=>by rw[<-e,o1]at z;cases z
 have E:Le m (h2.put m.next (.cells [.int .i64 0])):=l2.put _ z
 have L:WF (h2.put m.next (.cells [.int .i64 0])):=w2.put _ (w2.lt o2)
 have N:=aai.Y3 h2 m.next (.cells [.int .i64 0])
 generalize h2.put m.next (.cells [.int .i64 0])=y at*
 obtain⟨g3,e3,l3,w3,o3⟩:∃g3,y.alloc (.map [])=g3/\Le y g3/\WF g3/\g3.own y.next=Z (.map []):=⟨_,rfl,(Le.refl y).alloc L _,L.alloc _,aai.zT _ _⟩
 have o:y.own y.next=Y:=(Le.refl y).next L (qL0 _)
 have nM:h.own y.next=Y:=(l1.trans E).none o
 have A:m.next≠y.next:=fun e=>by rw[<-e,N]at o;cases o
 have G:h.next≠y.next:=fun e=>by rw[<-e,E.own _ _ o1]at o;cases o
 have ln:=fun g=>J.Uc g;rw[y6]at ln;simp only[HO,seval,bx,al,ag,e3,ln]
 have S0:agd rows (aaj rows (cs.take 0)) g3 y.next m.next h.next C []:=⟨o3,l3.own _ _ N,l3.own _ _ (E.own _ _ o1),fun p=>rfl⟩
 have aj:=(l1.trans E).trans l3
 generalize h.next=B at*
 generalize m.next=T at*
 generalize y.next=M at*
 clear e3 o3 o N ag z al e2 bx e1 o1 o2 l2 w2 l1 w1;refine lIn (fun k fr hq=>∃(i:Nat)(l:List (Pr×Int)),k=cs.length-i/\i<=cs.length/\fr=mkF [(2,pT (Z B)),(6,pT (Z T)),(7,.func (.func 76) #[] #[pT (Z T),pT (Z B)]),(8,.map (Z M)),(16,cv),(17,.int .i64 cs.length),(18,.int .i64 i)]/\agd rows (aaj rows (cs.take i)) hq M T B C l/\Le h hq) ⟨0,[],rfl,vZ _,rfl,S0,aj⟩ ?_;clear S0 aj l3 w3;rintro k fr hq aW ⟨i,l,rfl,hi,rfl,S,lq⟩;refine Uy ?_;refine Kl.intro (fun ht=>?_) (fun hf=>?_)
 rotate_left
 .have O:cs.length<=i:=vp hf;rw[HV O]at S;have lT:=ldKI S.oT;refine Uy ?_;refine gh (tA [0,1,2,3] .done) ?_;refine CO lT ?_;exact⟨M,l,rfl,S.oM,S.OT,lq⟩
 have b:i<cs.length:=CC ht;clear ht;obtain⟨aX,P⟩:=hc cs[i] (aev b);have Q:cs[i]<rows.length:=by rw[bl];exact aX
 have aq:∀i,i<=cs.length->(aaj rows (cs.take i)).length<=(aaj rows cs).length:=fun i _=>by
  have:aaj rows cs=aaj rows (cs.take i)++aaj rows (cs.drop i):=by rw[aaj,aaj,aaj,<-ahR,qL88]
  rw[this,ZT];omega
 have R:=agE (rows:=rows) b;have U:=aq (i+1) b;have bb:∀d∈aaj rows (cs.take i),(aal rows d).2<=40000:=fun d hd=>by simp only[aaj,ac1,Gw]at hd;obtain⟨c,bg,x,V,rfl⟩:=hd;obtain⟨w,rfl,_⟩:=bN c x V;obtain⟨K,k1,-,-,k2⟩:=Wn c w ((bm c w).1 V) (hc c (adP bg)).2;rw[IE,k2];exact k1
 have adc:=J.TA i (by rw[y6];exact b);have W:=(J.le Nn.RP lq).DH i (by rw[y6];exact b);rw[sY b]at W;generalize cs[i]=c at*;have ar:=hb.Wm c Q;obtain⟨u,av,hu⟩:=hb.NS c Q;have lu:=av hq lq;have gd:rows.getD c []=rows[c]:=D4 Q;have bh:=fun g=>hu.Uc g;have X:∀x∈rows.getD c [],∃w:Nat,x=(w:Int)/\Jp es c w:=fun x V=>by obtain⟨w,rfl,_⟩:=bN c x V;exact⟨w,rfl,(bm c w).1 V⟩
 rw[R]at U;rw[gd]at R X U;have f:=fun s v g a1 a2 a4 a6 a8=>f T B s c v g a1 a2 ai a4 nT a6 P a8;have Wn:=fun v a=>Wn c v a P;clear P av;generalize rows[c]=r at*;have lB:=ldKR S.oB;have bk:=aaa i NH;simp only[HO,seval,adc,W,lB,ar,lu,bh];simp only[ZT,wI]at U;have b6:r.length<=1000:=NH;refine lIn (fun k fr hz=>∃(j:Nat)(l:List (Pr×Int)),k=r.length-j/\j<=r.length/\fr=mkF [(2,pT (Z B)),(6,pT (Z T)),(7,.func (.func 76) #[] #[pT (Z T),pT (Z B)]),(8,.map (Z M)),(10,(c:Nat)),(16,cv),(17,.int .i64 cs.length),(18,.int .i64 i),(25,u),(26,r.length),(27,j)]/\agd rows (aaj rows (cs.take i)++(r.take j).map fun x=>(c,x.toNat)) hz M T B C l/\Le h hz) ⟨0,l,rfl,vZ _,rfl,by simpa using S,lq⟩ ?_;clear S lq lu lB W;clear aW hq l;rintro k fr hz b8 ⟨j,l,rfl,hj,rfl,S,lz⟩;refine Uy ?_;refine Kl.intro (fun ht=>?_) (fun hf=>?_)
 rotate_left
 .have O:r.length<=j:=vp hf;rw[HV O,<-R]at S;refine Sk bk ?_;exact lgA (JS b) ⟨i+1,l,rfl,b,rfl,S,lz⟩
 have t:j<r.length:=CC ht;clear ht;obtain⟨v,ay,az⟩:=X r[j] (aev t);have bo:=hu.TA j t;have aC:=(hu.le Nn.RP lz).DH j t;have aD:(r.take (j+1)).map (fun x=>(c,x.toNat))=(r.take j).map (fun x=>(c,x.toNat))++[(c,v)]:=by rw[XJ t,MY,ay];simp
 rw[ay]at aC;have b9:(aaj rows (cs.take i)++(r.take j).map fun x=>(c,x.toNat)).length<=1000:=by simp only[ZT,wI,Bn];omega
 have br:∀d∈aaj rows (cs.take i)++(r.take j).map (fun x=>(c,x.toNat)),(aal rows d).2<=40000:=fun d hd=>by
  rcases aax.1 hd with q|q
  .exact bb d q
  .obtain⟨x,V,rfl⟩:=Gw.1 q;obtain⟨w,rfl,ha⟩:=X x (adP V);obtain⟨K,k1,-,-,k2⟩:=Wn w ha;rw[IE,k2];exact k1
 have cc:=strS_le br;have aF:=agD rows (aaj rows (cs.take i)++(r.take j).map fun x=>(c,x.toNat)) (c,v);rw[Bx,<-aD]at aF;have aH:=fun p=>List.count_le_length (a:=p) (l:=(aaj rows (cs.take i)++(r.take j).map fun x=>(c,x.toNat)).map (aaH rows));have bB:(aaj rows (cs.take i)++(r.take (j+1)).map fun x=>(c,x.toNat)).map (aaH rows)=(aaj rows (cs.take i)++(r.take j).map fun x=>(c,x.toNat)).map (aaH rows)++[aaH rows (c,v)]:=by rw[aD,<-Bx,MY];rfl
 generalize aaj rows (cs.take i)++(r.take j).map (fun x=>(c,x.toNat))=D at*;generalize bF:aaj rows (cs.take i)++(r.take (j+1)).map (fun x=>(c,x.toNat))=D1 at*;refine Sk (XC bo aC) ?_;refine kCi func76 (f (aen rows D) v hz S.oT S.oB lz az NH) ?_;rintro x H w9 ⟨rfl,bH,l9,kp⟩;have F:=kp M _ A.symm S.oM;have bI:=kp B _ ai S.oB;have hE:aaH rows (c,v)=(min (c:Int) ((aal rows (c,v)).1:Int),max (c:Int) ((aal rows (c,v)).1:Int)):=rfl;generalize aal rows (c,v)=od at*;generalize aaH rows (c,v)=p at*;obtain⟨jj,I,aJ,bQ,bW⟩:=afu F p;have aK:=SA F p;have aP:=aai.Y3 H M (.map (wy I));have aa:=SA aP p;rw[bQ]at aa;have cp:=S.OT p;have aT:=aH p;rw[wI]at aT;rw[cp]at aK aa aJ;have bY:=aaa ((D.map (aaH rows)).count p) NH;have bZ:=bW (((D.map (aaH rows)).count p+1:Nat):Int);have mn:=Dv (c:Int) (od.1:Int);have mx:=z6 (c:Int) (od.1:Int);have b0:acB pG 49 [(0,.int .i64 (min (c:Int) (od.1:Int))),(1,.int .i64 (max (c:Int) (od.1:Int)))]=Z (UI p):=by rw[hE];exact xe _ _
 have b1:=aaa j NH;have b2:=aai.Y3 (H.put M (.map (wy I))) M (.map (wy (acs l p (((D.map (aaH rows)).count p+1:Nat):Int))));have lb:Le h ((H.put M (.map (wy I))).put M (.map (wy (acs l p (((D.map (aaH rows)).count p+1:Nat):Int))))):=(l9.put _ nM).put _ nM;have b3:((H.put M (.map (wy I))).put M (.map (wy (acs l p (((D.map (aaH rows)).count p+1:Nat):Int))))).own T=Z (.cells [.int .i64 ((aen rows D+(od.2+1):Nat):Int)]):=(by rw[aai.By _ _ _ _ A,aai.By _ _ _ _ A];exact bH);have b4:((H.put M (.map (wy I))).put M (.map (wy (acs l p (((D.map (aaH rows)).count p+1:Nat):Int))))).own B=Z (.cells [C]):=(by rw[aai.By _ _ _ _ G,aai.By _ _ _ _ G];exact bI);have wb:WF ((H.put M (.map (wy I))).put M (.map (wy (acs l p (((D.map (aaH rows)).count p+1:Nat):Int))))):=(w9.put _ (w9.lt F)).put _ ((w9.put _ (w9.lt F)).lt aP);have S1:agd rows D1 ((H.put M (.map (wy I))).put M (.map (wy (acs l p (((D.map (aaH rows)).count p+1:Nat):Int))))) M T B C (acs l p (((D.map (aaH rows)).count p+1:Nat):Int)):=by
  refine⟨b2,by rw[aF];exact b3,b4,fun q=>?_⟩;rw[XR,bB,List.count_append,List.count_singleton];by_cases e:p=q
  .subst e;rw[Z6 rfl];simp
  .rw[abe e,S.OT q,abe (by simpa using e)];rfl
 refine Uy ?_;refine gh (tA [0,1,2,3,4,5,6,7] (.ch 8 [0,7] (tA [9] (JQ 10 [0,1,2,3,4,5,6,7] (tA [11] (JQ 12 [0,1,2,3,4,5,6,7,8,9,10,11] .done)))) (JQ 10 [0,1,2,3,4,5,6,7] (tA [11] (JQ 8 [0,7] (tA [9] (JQ 12 [0,1,2,3,4,5,6,7,8,9,10,11] .done))))))) ?_;simp only[HO,seval,Qg,mn,mx,b0,wD,aK,aa,bY,aJ,bZ,b1];generalize (H.put M (.map (wy I))).put M (.map (wy (acs l p (((D.map (aaH rows)).count p+1:Nat):Int))))=g at*;refine⟨?_,?_⟩
 all_goals exact lgA (JS t) ⟨j+1,_,rfl,t,rfl,by rw[bF];exact S1,lb⟩
end
end Go.Fw
