/- A text. -/
import Derived.Test.YtkccdnmaaelbiaaGreatFwLF6
set_option linter.all false
set_option maxRecDepth 99999
set_option maxHeartbeats 9999999
namespace Go.Fw
section
attribute [local instance] Classical.propDecidable
attribute [local irreducible] Kp MQ lU rS KO KN KX KE VK Kl ZJ TC gU
attribute [local irreducible] IN Gn sA Es Ic Gx
open Go.Proofs
variable {a b c i n q:Nat} {es:List Pr} {l:II} {rs:AM}
def El (h:a<=40000):awrap .i64 ((a:Int)+1)=(a:Int)+1:=ie _ NH NH
def cnt_ok2 (h:a<=40000):awrap .i64 ((a:Int)+2)=(a:Int)+2:=ie _ NH NH
def cnt_ok3 (h:a<=40000) (g:b<=40000):awrap .i64 ((a:Int)+(b:Int))=(a:Int)+(b:Int):=ie _ NH NH
def GJ:((a:Int)+(b:Int)=(c:Int)+2)↔a+b=c+2:=NH
def cP:((c:Int)>0)↔0<c:=NH
def rep_map (n:Nat):List.replicate n (Value.int .i64 0)=Bp (List.replicate n 0):=by simp[Bp]
theorem Bt (n:Nat) (es:List Pr) (k:Nat):(Gx n es k).length=(Es k es).length:=by grind [Gx]
theorem vM (n:Nat) (es:List Pr) (k i:Nat) (h:i<(Es k es).length):(Gx n es k)[i]'(by grind [Bt])=Ic n es (Es k es)[i]:=by grind [Gx]
def edK_nil (n:Nat) (es b:List Pr):(List.replicate (Es n b).length (0:Int))=(Es n b).map fun a=>((Gn es ([]:List Pr) a:Nat):Int):=by
 apply qk<;>simp[Gn,VF]
def faK_nil (n:Nat) (es b:List Pr):(List.replicate (Es n b).length (0:Int))=(Es n b).map fun a=>((sA es ([]:AM) a:Nat):Int):=by
 apply qk<;>simp[sA,VF]
def PI (d:aV n es) {l:List Pr} {e:Pr} (b:q<(Es n es).length) (c:Pu es (Es n es)[q] e.1.toNat):
  ((Es n es).map fun a=>((Gn es (l++[e]) a:Nat):Int))=((Es n es).map fun a=>((Gn es l a:Nat):Int)).set q (((Gn es l (Es n es)[q]:Nat):Int)+1):=by
 unfold Gn;exact QA b c (wT d b c)
def bQ (d:aV n es) {l:AM} {e:RZ} (b:q<(Es n es).length) (c:Pu es (Es n es)[q] (e.headD 0).toNat):
  ((Es n es).map fun a=>((sA es (l++[e]) a:Nat):Int))=((Es n es).map fun a=>((sA es l a:Nat):Int)).set q (((sA es l (Es n es)[q]:Nat):Int)+1):=by
 unfold sA;exact QA b c (wT d b c)
theorem ZD (es l:List Pr) (a:Nat):Gn es l a<=l.length:=by grind [Gn,xV]
theorem pU (es:List Pr) (l:AM) (a:Nat):sA es l a<=l.length:=by grind [sA,xV]
theorem jH (n:Nat) (es:List Pr) (a:Nat):(Ic n es a).length<=n:=by grind [Ic]
def Y0 {f:Nat->Int} (h:i<l.length):(l.map f)[i]?=some (f l[i]):=by simp[h]
theorem Q6 {l:RZ} (h:0<l.length):l[0]=l.headD 0:=by
 cases l<;>grind
theorem z8.not (h:i<(Es n es).length) (a:0<Gn es es (Es n es)[i]) (h2:¬(Ic n es (Es n es)[i]).length+sA es (IN n rs) (Es n es)[i]=Gn es es (Es n es)[i]+2):¬z8 n es rs:=fun H=>h2 (H _ (EP h) a)
theorem VS (W0:LA) (v rv:Value) (G:GM) (rs:AM) (h:AHeap) (hg:GR h v G) (hv:RL (RL RP) h rv rs):
  AC Tryz.prog W0 27 [v,rv] h fun x h'=>RR (bX G/\Av G.n.toNat G.es rs/\z8 G.n.toNat G.es rs) x/\Le h h':=by
 have b3:=hg;obtain⟨gn,es⟩:=G
 obtain⟨ev,rfl,hp⟩:=hg.open
 refine AC.vE ⟨Tryz.func27,rfl,WY⟩ Tryz.ntmps27 Tryz.results27 fun cM=>?_;simp only[Br,Nat.reduceAdd];obtain⟨h1,b1,R,dQ,-,lA⟩:=r8 (n:=gn) cM hp
 generalize h.next=B at*
 have cN:=lA h1 (Le.refl _);refine Sk (XC b1 cN.1) ?_;refine TC.intro PJ ⟨Tryz.func26,rfl,WY⟩ (wX W0 _ rv ⟨gn,es⟩ rs h1 (b3.le R) (hv.le (Nn.RL Nn.RP) R)) ?_;rintro x h2 w2 ⟨⟨b,rfl,hb⟩,l2⟩;cases b
 .refine Uy ?_
  exact⟨⟨false,rfl,pw⟩,R.trans l2⟩
 obtain⟨hr,G⟩:=hb.1 rfl;have h0:0<=gn:=hr.n0;obtain⟨n,rfl⟩:=HV h0;simp only[yY]at G ⊢;have hR:=hr.GD;have hA:=hr.q9;have dI:(n:Int)<=200:=hr.n1;have dL:es.length<=594:=hr.len;have aW:n<=200:=NH;have fin:∀b,(b=true↔z8 n es rs)->∀o,Le h o->RR (bX ⟨(n:Int),es⟩/\Av n es rs/\z8 n es rs) (.bool b)/\Le h o:=fun b hb o lz=>⟨⟨b,rfl,hb.trans ⟨fun p=>⟨hr,G,p⟩,fun p=>p.2.2⟩⟩,lz⟩;have dS:=lA h2 l2;refine Uy ?_;refine TC.intro PJ ⟨Tryz.func68,rfl,WY⟩ (Zq W0 rv rs h2 (hv.le (Nn.RL Nn.RP) (R.trans l2))) ?_;rintro x h3 w3 ⟨l3,⟨rfl,cU⟩|⟨c0,S,c3,G',rfl,hf⟩⟩
 .exact absurd ⟨es,by grind [Av.len],by grind [Av.len]⟩ cU
 clear c3 G' c0;rw[G.len]at hf;have d0:decide ((0:Int)=0)=true:=by decide
 have fT:=lA h3 (l2.trans l3);simp only[HO,Nat.reduceLT,↓reduceIte,Nat.reduceEqDiff,reduceCtorEq,bne,d0,fT.1];refine TC.intro PJ ⟨Tryz.func64,rfl,WY⟩ (It W0 _ ⟨(n:Int),es⟩ h3 (b3.le ((R.trans l2).trans l3)) hr) ?_;rintro pv M w4 ⟨gp,l4,-⟩;simp only[yY]at gp;have rp:=gp.rl (Nn.RL Nn.RP);have lp:=fun g=>rp.fy g;have c4:((Gx n es n).map kz).length=(Es n es).length:=by grind [Bt]
 rw[c4]at lp;have dT:(Es n es).length<=n:=vH _ _;have aX:=hf.le (Nn.RL Nn.RP) l4;have a1:=(l2.trans l3).trans l4;have b4:=R.trans a1;have c5:=lA M a1;have c9:=fun g:AHeap=>Ye (P:=Tryz.prog) (t:=49) (z:=.int .i64 0) g Mb rfl rfl rfl rfl Ji Ac Ji n NH;have da:=fun g:AHeap=>Ye (P:=Tryz.prog) (t:=49) (z:=.int .i64 0) g Mb rfl rfl rfl rfl Ji Ac Ji (Es n es).length NH;obtain⟨h5,e5,l5,w5,o5⟩:=Tt w4 (List.replicate n (.int .i64 0))
 have nH:M.own M.next=none:=(Le.refl M).next w4 (Ny _)
 refine Sk (bG @Ii @Ip.eq_1 @XJ c5.2.1 c9 e5) ?_
 generalize M.next=s at*
 apply Ya (F:=fun(fr:lC) (h':AHeap)=>∃A C D,Fj fr [(2,.pointer (some ⟨B,0,none⟩)),(5,S),(7,pv),(8,.slice (some ⟨s,0,none⟩) n n),(9,.slice (some ⟨A,0,none⟩) (Es n es).length (Es n es).length),(10,.slice (some ⟨C,0,none⟩) (Es n es).length (Es n es).length),(11,.slice (some ⟨D,0,none⟩) (Es n es).length (Es n es).length)]/\Yh h5 h' A C D (List.replicate (Es n es).length (.int .i64 0)))
 .intro cont
  refine gh (tA [0,1,3,4,6,7] (.ch 2 [1] (tA [9] (.ch 5 [4] (tA [10] (JQ 8 [7] (tA [11] .done))) (JQ 8 [7] (JQ 5 [4] (tA [10,11] .done))))) (.ch 5 [4] (.ch 2 [1] (tA [9,10] (JQ 8 [7] (tA [11] .done))) (JQ 8 [7] (JQ 2 [1] (tA [9,10,11] .done)))) (JQ 8 [7] (.ch 2 [1] (tA [9] (JQ 5 [4] (tA [10,11] .done))) (JQ 5 [4] (JQ 2 [1] (tA [9,10,11] .done)))))))) ?_;simp only[qj,Nat.reduceLT,↓reduceIte,Nat.reduceEqDiff,reduceCtorEq,Nat.reduceBEq,Qg,lp,da,om];have N:=new3 w5 (List.replicate (Es n es).length (.int .i64 0));refine⟨⟨?_,?_⟩,⟨?_,?_⟩,?_,?_⟩
  all_goals
   refine KN.UJ fun fr' h' e1 e2=>cont fr' h' ?_;subst e1 e2
   first
    |(refine⟨_,_,_,?_,N⟩;simp only[Fj,HO,Nat.reduceLT,↓reduceIte,Nat.reduceEqDiff,reduceCtorEq];simp;done)
    |(refine⟨_,_,_,?_,N.s12⟩;simp only[Fj,HO,Nat.reduceLT,↓reduceIte,Nat.reduceEqDiff,reduceCtorEq];simp;done)
    |(refine⟨_,_,_,?_,N.s23⟩;simp only[Fj,HO,Nat.reduceLT,↓reduceIte,Nat.reduceEqDiff,reduceCtorEq];simp;done)
    |(refine⟨_,_,_,?_,N.s12.s23⟩;simp only[Fj,HO,Nat.reduceLT,↓reduceIte,Nat.reduceEqDiff,reduceCtorEq];simp;done)
    |(refine⟨_,_,_,?_,N.s23.s12⟩;simp only[Fj,HO,Nat.reduceLT,↓reduceIte,Nat.reduceEqDiff,reduceCtorEq];simp;done)
    |(refine⟨_,_,_,?_,N.s12.s23.s12⟩;simp only[Fj,HO,Nat.reduceLT,↓reduceIte,Nat.reduceEqDiff,reduceCtorEq];simp;done)
 rintro fr h6 ⟨A,C,D,b6,N⟩;simp only[Fj]at b6;obtain⟨f2,f5,f7,f8,f9,b8,b9,-⟩:=b6;refine Sk (XC f7 lp) ?_;have l6:=l5.trans N.le;have a6:=N.le.own _ _ o5;have a7:=N.oA;have a8:=N.oB;have bb:=N.oC;rw[rep_map]at a6 a7 a8 bb;have dV:s≠A:=fun e=>by grind [Yh.nA]
 have ec:s≠C:=fun e=>by grind [Yh.nB]
 have ed:s≠D:=fun e=>by grind [Yh.nC]
 have ee:=N.ab;have ef:=N.ac;have eg:=N.bc;have nA:M.own A=none:=l5.none N.nA;have nC:M.own C=none:=l5.none N.nB;have nD:M.own D=none:=l5.none N.nC;have w6:=N.wf;clear N o5 w5;refine gU.intro (fun k fr r=>∃(i:Nat) (L V:RZ),k=(Es n es).length-i/\i<=(Es n es).length/\fr=mkF [(2,.pointer (some ⟨B,0,none⟩)),(5,S),(7,pv),(8,.slice (some ⟨s,0,none⟩) n n),(9,.slice (some ⟨A,0,none⟩) (Es n es).length (Es n es).length),(10,.slice (some ⟨C,0,none⟩) (Es n es).length (Es n es).length),(11,.slice (some ⟨D,0,none⟩) (Es n es).length (Es n es).length),(46,pv),(47,.int .i64 (Es n es).length),(48,.int .i64 i)]/\
   r.own s=some (.cells (Bp L))/\G4 n es i L/\r.own A=some (.cells (Bp V))/\V.length=(Es n es).length/\(∀j (U:j<(Es n es).length),j<i->V[j]?=some (((Ic n es (Es n es)[j]).length:Nat):Int))/\r.own C=some (.cells (Bp (List.replicate (Es n es).length 0)))/\r.own D=some (.cells (Bp (List.replicate (Es n es).length 0)))/\Le M r)
  (Es n es).length [(2,.pointer (some ⟨B,0,none⟩)),(5,S),(7,pv),(8,.slice (some ⟨s,0,none⟩) n n),(9,.slice (some ⟨A,0,none⟩) (Es n es).length (Es n es).length),(10,.slice (some ⟨C,0,none⟩) (Es n es).length (Es n es).length),(11,.slice (some ⟨D,0,none⟩) (Es n es).length (Es n es).length),(46,pv),(47,.int .i64 (Es n es).length),(48,.int .i64 (0:Nat))] (by simp only[Fj,HO,Nat.reduceLT,↓reduceIte,Nat.reduceEqDiff,reduceCtorEq,f2,f5,f7,f8,f9,b8,b9];simp)
  ⟨0,_,_,rfl,vZ _,rfl,a6,G4.zero,a7,Ma,fun j _ h=>absurd h (y5 _),a8,bb,l6⟩ ?_
 clear a6 a7 a8 bb w6 f2 f5 f7 f8 f9 b8 b9 l6;clear l5 e5;clear h6;rintro k fr r H ⟨i,L,V,rfl,hi,rfl,W,HP,oA,hV,cc,oC,O,I⟩;refine Uy ?_;refine Kl.intro (fun Q=>?_) (fun hf=>?_)
 .have m : i < (Es n es).length := CC Q
  clear Q;have hm:i<((Gx n es n).map kz).length:=pw;have bh:=rp.Wm i hm;obtain⟨u,X,ay⟩:=rp.NS i hm;have aD:=X r I;have db:((Gx n es n).map kz)[i]=kz (Ic n es (Es n es)[i]):=by grind [vM]
  rw[db]at ay;have lu:=fun g=>ay.Uc g;rw[y6]at lu;have cd:=BS m;have st:=M0 oA (i:=i) pw (((Ic n es (Es n es)[i]).length:Nat):Int);have dc:=Kx A (Es n es).length .i64 i m;simp only[HO,Nat.reduceLT,↓reduceIte,Nat.reduceEqDiff,reduceCtorEq,bh,aD,lu,dc,st];have Y:∀j,j<i+1->∀(U:j<(Es n es).length),(V.set i (((Ic n es (Es n es)[i]).length:Nat):Int))[j]?=some (((Ic n es (Es n es)[j]).length:Nat):Int):=fun j aH U=>by grind
  have dd:(V.set i (((Ic n es (Es n es)[i]).length:Nat):Int)).length=(Es n es).length:=pw;generalize V.set i (((Ic n es (Es n es)[i]).length:Nat):Int)=V2 at*;have w7:WF (r.put A (.cells (Bp V2))):=H.put _ (H.lt oA);have l7:Le M (r.put A (.cells (Bp V2))):=I.put _ nA;have bo:(r.put A (.cells (Bp V2))).own A=some (.cells (Bp V2)):=AHeap.Y3 _ _ _;have aJ:(r.put A (.cells (Bp V2))).own s=some (.cells (Bp L)):=by grind [AHeap.By]
  have Z:(r.put A (.cells (Bp V2))).own C=some (.cells (Bp (List.replicate (Es n es).length 0))):=by grind [AHeap.By]
  have br:(r.put A (.cells (Bp V2))).own D=some (.cells (Bp (List.replicate (Es n es).length 0))):=by grind [AHeap.By]
  generalize r.put A (.cells (Bp V2))=h7 at*;have de:∀v∈Ic n es (Es n es)[i],v<n/\Pu es (Es n es)[i] v:=fun v hv=>mY.1 hv;generalize (Es n es)[i]=a at*;have eh:=jH n es a;generalize dj:Ic n es a=cs at*;refine gU.intro (fun k fr o=>∃(j:Nat) (L:RZ),k=cs.length-j/\j<=cs.length/\fr=mkF [(2,.pointer (some ⟨B,0,none⟩)),(5,S),(7,pv),(8,.slice (some ⟨s,0,none⟩) n n),(9,.slice (some ⟨A,0,none⟩) (Es n es).length (Es n es).length),(10,.slice (some ⟨C,0,none⟩) (Es n es).length (Es n es).length),(11,.slice (some ⟨D,0,none⟩) (Es n es).length (Es n es).length),(12,.int .i64 i),(46,pv),(47,.int .i64 (Es n es).length),(48,.int .i64 i),(58,u),(59,.int .i64 cs.length),(60,.int .i64 j)]/\
    o.own s=some (.cells (Bp L))/\G4 n es i L/\(∀v∈cs.take j,L[v]?=some (i:Int))/\o.own A=some (.cells (Bp V2))/\o.own C=some (.cells (Bp (List.replicate (Es n es).length 0)))/\o.own D=some (.cells (Bp (List.replicate (Es n es).length 0)))/\Le M o)
   cs.length [(2,.pointer (some ⟨B,0,none⟩)),(5,S),(7,pv),(8,.slice (some ⟨s,0,none⟩) n n),(9,.slice (some ⟨A,0,none⟩) (Es n es).length (Es n es).length),(10,.slice (some ⟨C,0,none⟩) (Es n es).length (Es n es).length),(11,.slice (some ⟨D,0,none⟩) (Es n es).length (Es n es).length),(12,.int .i64 i),(46,pv),(47,.int .i64 (Es n es).length),(48,.int .i64 i),(58,u),(59,.int .i64 cs.length),(60,.int .i64 (0:Nat))] fD
   ⟨0,L,rfl,vZ _,rfl,aJ,HP,fun v hv=>absurd hv Db,bo,Z,br,l7⟩ ?_
  clear aJ HP bo Z br l7 w7 oA W oC O I cc st H aD;clear h7 r L;rintro k fr o ei ⟨j,L,rfl,U,rfl,W,HP,cf,oA,oC,O,lz⟩;refine Uy ?_;refine Kl.intro (fun Q=>?_) (fun hf=>?_)
  .have d : j < cs.length := CC Q
   clear Q;have dk:=sY d;have cg:=ay.TA j (by rw[y6];exact d);have ck:=(ay.le Nn.RP lz).DH j (by rw[y6];exact d);rw[dk]at ck;have aK:=de cs[j] (EP d);have T:cs.take (j+1)=cs.take j++[cs[j]]:=EL d;generalize cs[j]=v at*;have dm:=M0 W (i:=v) (by rw[HP.1];exact aK.1) (i:Int);have ad:=Kx s n .i64 v aK.1;have cm:=Tw j NH;refine Sk (IX cg ck ad dm cm) ?_;refine tn (cs.length-(j+1)) [(2,.pointer (some ⟨B,0,none⟩)),(5,S),(7,pv),(8,.slice (some ⟨s,0,none⟩) n n),(9,.slice (some ⟨A,0,none⟩) (Es n es).length (Es n es).length),(10,.slice (some ⟨C,0,none⟩) (Es n es).length (Es n es).length),(11,.slice (some ⟨D,0,none⟩) (Es n es).length (Es n es).length),(12,.int .i64 i),(46,pv),(47,.int .i64 (Es n es).length),(48,.int .i64 i),(58,u),(59,.int .i64 cs.length),(60,.int .i64 (j+1:Nat))] (JS d) fD
    ⟨j+1,L.set v (i:Int),rfl,d,rfl,AHeap.Y3 _ _ _,HP.put hR cd aK.2,fun w hw=>?_,by grind [AHeap.By],by grind [AHeap.By],by grind [AHeap.By],lz.put _ nH⟩
   rw[T,Sb,j9]at hw;by_cases c:v=w
   .subst c;rw[List.getElem?_set_self (by rw[HP.1];exact aK.1)]
   grind
  .have y : cs.length <= j := vp hf
   rw[AE y,<-dj]at cf;have aP:=Tw i NH;refine Sk aP ?_;exact tn ((Es n es).length-(i+1)) [(2,.pointer (some ⟨B,0,none⟩)),(5,S),(7,pv),(8,.slice (some ⟨s,0,none⟩) n n),(9,.slice (some ⟨A,0,none⟩) (Es n es).length (Es n es).length),(10,.slice (some ⟨C,0,none⟩) (Es n es).length (Es n es).length),(11,.slice (some ⟨D,0,none⟩) (Es n es).length (Es n es).length),(46,pv),(47,.int .i64 (Es n es).length),(48,.int .i64 (i+1:Nat))] (JS m) fD
    ⟨i+1,L,V2,rfl,m,rfl,W,HP.next cd cf,oA,dd,fun j U aH=>Y j aH U,oC,O,lz⟩
 have y:(Es n es).length<=i:=vp hf;obtain rfl:i=(Es n es).length:=NH;clear y hf hi;have cp:=lA r (a1.trans I);have dq:=fun g=>hp.len g;refine Sk (IX @Di @Ip.eq_1 @XJ cp.2.2 dq) ?_;have bx:=oC;rw[edK_nil n es es]at bx;have cq:∀p∈es,0<=p.1/\p.1<p.2/\p.2<(n:Int):=fun p aT=>by
  obtain⟨i,hi⟩:=qy.1 aT;exact(hr.ok i (vT.1 hi).1 p hi).1
 refine gU.intro (fun k fr o=>∃(j:Nat),k=es.length-j/\j<=es.length/\fr=mkF [(5,S),(7,pv),(8,.slice (some ⟨s,0,none⟩) n n),(9,.slice (some ⟨A,0,none⟩) (Es n es).length (Es n es).length),(10,.slice (some ⟨C,0,none⟩) (Es n es).length (Es n es).length),(11,.slice (some ⟨D,0,none⟩) (Es n es).length (Es n es).length),(71,ev),(72,.int .i64 es.length),(73,.int .i64 j)]/\
   o.own s=some (.cells (Bp L))/\o.own A=some (.cells (Bp V))/\o.own C=some (.cells (Bp ((Es n es).map fun a=>((Gn es (es.take j) a:Nat):Int))))/\o.own D=some (.cells (Bp (List.replicate (Es n es).length 0)))/\Le M o)
  es.length [(5,S),(7,pv),(8,.slice (some ⟨s,0,none⟩) n n),(9,.slice (some ⟨A,0,none⟩) (Es n es).length (Es n es).length),(10,.slice (some ⟨C,0,none⟩) (Es n es).length (Es n es).length),(11,.slice (some ⟨D,0,none⟩) (Es n es).length (Es n es).length),(71,ev),(72,.int .i64 es.length),(73,.int .i64 (0:Nat))] fD
  ⟨0,rfl,vZ _,rfl,W,oA,bx,O,I⟩ ?_
 clear bx oC O oA W I cp H;clear r;rintro k fr r H ⟨j,rfl,U,rfl,W,oA,oC,O,I⟩;refine Uy ?_;refine Kl.intro (fun Q=>?_) (fun hf=>?_)
 .have d : j < es.length := CC Q
  clear Q;have aT:=CA d;have cr:=cq es[j] (EP d);have T:es.take (j+1)=es.take j++[es[j]]:=EL d;generalize es[j]=p at aT T cr;have bh:=hp.addr (k:=.i64) j d;have dr:=(hp.le (b4.trans I)).load aT;obtain⟨ej,h7,e7,dw,l7,w7,o7⟩:=Ut H p
  have nE:M.own r.next=none:=I.none ((Le.refl r).next H (Ny _))
  generalize r.next=E at*
  have m0:=lK o7;obtain⟨x1,x2⟩:=p;obtain⟨v,rfl⟩:=HV cr.1;have ag:v<n:=pw;obtain⟨q,J,bB,dx⟩:=HP.get hR ag;have aJ:=l7.own _ _ W;have bo:=l7.own _ _ oA;have Z:=l7.own _ _ oC;have br:=l7.own _ _ O;have ad:=Kx s n .i64 v ag;have bF:=XP aJ bB;have aj:=Kx C (Es n es).length .i64 q J;have al:=XP Z (Y0 (f:=fun a=>((Gn es (es.take j) a:Nat):Int)) J);have hle:Gn es (es.take j) (Es n es)[q]<=40000:=Tn (ZD _ _ _) pw;have K:=El hle;have cx:=M0 Z (i:=q) pw (((Gn es (es.take j) (Es n es)[q]:Nat):Int)+1);have aq:=PI hR (l:=es.take j) (e:=((v:Int),x2)) J pw;rw[<-T]at aq;rw[<-aq]at cx;have Y:=Tw j NH;refine Sk (aNd15 bh dr e7 dw @Dh @Ip.eq_1 @XJ m0 ad bF aj al K cx Y) ?_;exact tn (es.length-(j+1)) [(5,S),(7,pv),(8,.slice (some ⟨s,0,none⟩) n n),(9,.slice (some ⟨A,0,none⟩) (Es n es).length (Es n es).length),(10,.slice (some ⟨C,0,none⟩) (Es n es).length (Es n es).length),(11,.slice (some ⟨D,0,none⟩) (Es n es).length (Es n es).length),(71,ev),(72,.int .i64 es.length),(73,.int .i64 (j+1:Nat))] (JS d) fD
   ⟨j+1,rfl,d,rfl,by grind [AHeap.By],by grind [AHeap.By],AHeap.Y3 _ _ _,by grind [AHeap.By],(I.trans l7).put _ nC⟩
 have y:es.length<=j:=vp hf;rw[AE y]at oC;clear y hf U;have lF:=fun g=>aX.fy g;have ek:=ED (n:=n) (es:=es) (rs:=rs) aW;have bH:=O;rw[faK_nil n es es]at bH;have dz:=fun f (hf:f∈IN n rs)=>Uj hR hA G hf;refine Sk lF ?_;refine gU.intro (fun k fr o=>∃(j:Nat),k=(IN n rs).length-j/\j<=(IN n rs).length/\fr=mkF [(7,pv),(8,.slice (some ⟨s,0,none⟩) n n),(9,.slice (some ⟨A,0,none⟩) (Es n es).length (Es n es).length),(10,.slice (some ⟨C,0,none⟩) (Es n es).length (Es n es).length),(11,.slice (some ⟨D,0,none⟩) (Es n es).length (Es n es).length),(88,S),(89,.int .i64 (IN n rs).length),(90,.int .i64 j)]/\
   o.own s=some (.cells (Bp L))/\o.own A=some (.cells (Bp V))/\o.own C=some (.cells (Bp ((Es n es).map fun a=>((Gn es es a:Nat):Int))))/\o.own D=some (.cells (Bp ((Es n es).map fun a=>((sA es ((IN n rs).take j) a:Nat):Int))))/\Le M o)
  (IN n rs).length [(7,pv),(8,.slice (some ⟨s,0,none⟩) n n),(9,.slice (some ⟨A,0,none⟩) (Es n es).length (Es n es).length),(10,.slice (some ⟨C,0,none⟩) (Es n es).length (Es n es).length),(11,.slice (some ⟨D,0,none⟩) (Es n es).length (Es n es).length),(88,S),(89,.int .i64 (IN n rs).length),(90,.int .i64 (0:Nat))] fD
  ⟨0,rfl,vZ _,rfl,W,oA,oC,bH,I⟩ ?_
 clear bH oC O oA W I H;clear r j;rintro k fr r H ⟨j,rfl,U,rfl,W,oA,oC,O,I⟩;refine Uy ?_;refine Kl.intro (fun Q=>?_) (fun hf=>?_)
 .have d : j < (IN n rs).length := CC Q
  clear Q;have dA:=aX.Wm j d;obtain⟨u,X,hu⟩:=aX.NS j d;have aD:=X r I;obtain⟨bI,v,ag,dB⟩:=dz (IN n rs)[j] (EP d);have T:(IN n rs).take (j+1)=(IN n rs).take j++[(IN n rs)[j]]:=EL d;generalize (IN n rs)[j]=f at*;have cz:=hu.TA 0 bI;have cC:=(hu.le Nn.RP I).DH 0 bI;rw[Q6 bI,dB]at cC;simp only[Int.cast_ofNat_Int]at cz;obtain⟨q,J,bB,dx⟩:=HP.get hR ag;have ad:=Kx s n .i64 v ag;have bF:=XP W bB;have ar:=Kx D (Es n es).length .i64 q J;have av:=XP O (Y0 (f:=fun a=>((sA es ((IN n rs).take j) a:Nat):Int)) J);have hle:sA es ((IN n rs).take j) (Es n es)[q]<=40000:=Tn (pU _ _ _) pw;have K:=El hle;have cE:=M0 O (i:=q) pw (((sA es ((IN n rs).take j) (Es n es)[q]:Nat):Int)+1);have aq:=bQ hR (l:=(IN n rs).take j) (e:=f) J pw;rw[<-T]at aq;rw[<-aq]at cE;have Y:=Tw j NH;refine Sk (rk dA aD cz cC ad bF ar av K cE Y) ?_;exact tn ((IN n rs).length-(j+1)) [(7,pv),(8,.slice (some ⟨s,0,none⟩) n n),(9,.slice (some ⟨A,0,none⟩) (Es n es).length (Es n es).length),(10,.slice (some ⟨C,0,none⟩) (Es n es).length (Es n es).length),(11,.slice (some ⟨D,0,none⟩) (Es n es).length (Es n es).length),(88,S),(89,.int .i64 (IN n rs).length),(90,.int .i64 (j+1:Nat))] (JS d) fD
   ⟨j+1,rfl,d,rfl,by grind [AHeap.By],by grind [AHeap.By],by grind [AHeap.By],AHeap.Y3 _ _ _,I.put _ nD⟩
 have y:(IN n rs).length<=j:=vp hf;rw[AE y]at O;clear y hf U;refine Sk lp ?_;refine gU.intro (fun k fr o=>∃(i:Nat),k=(Es n es).length-i/\i<=(Es n es).length/\fr=mkF [(9,.slice (some ⟨A,0,none⟩) (Es n es).length (Es n es).length),(10,.slice (some ⟨C,0,none⟩) (Es n es).length (Es n es).length),(11,.slice (some ⟨D,0,none⟩) (Es n es).length (Es n es).length),(107,.int .i64 (Es n es).length),(108,.int .i64 i)]/\
   (∀j (U:j<(Es n es).length),j<i->0<Gn es es (Es n es)[j]->(Ic n es (Es n es)[j]).length+sA es (IN n rs) (Es n es)[j]=Gn es es (Es n es)[j]+2)/\o=r)
  (Es n es).length [(9,.slice (some ⟨A,0,none⟩) (Es n es).length (Es n es).length),(10,.slice (some ⟨C,0,none⟩) (Es n es).length (Es n es).length),(11,.slice (some ⟨D,0,none⟩) (Es n es).length (Es n es).length),(107,.int .i64 (Es n es).length),(108,.int .i64 (0:Nat))] fD
  ⟨0,rfl,vZ _,rfl,fun j _ h=>absurd h (y5 _),rfl⟩ ?_
 rintro k fr o-⟨i,rfl,hi,rfl,dM,rfl⟩;refine Uy ?_;refine Kl.intro (fun Q=>?_) (fun hf=>?_)
 .have m : i < (Es n es).length := CC Q
  clear Q;have bW:=Kx A (Es n es).length .i64 i m;have aj:=Kx C (Es n es).length .i64 i m;have ar:=Kx D (Es n es).length .i64 i m;have b0:=XP oA (cc i m m);have al:=XP oC (Y0 (f:=fun a=>((Gn es es a:Nat):Int)) m);have av:=XP O (Y0 (f:=fun a=>((sA es (IN n rs) a:Nat):Int)) m);have hle:Gn es es (Es n es)[i]<=40000:=Tn (ZD _ _ _) NH;have dE:sA es (IN n rs) (Es n es)[i]<=40000:=Tn (pU _ _ _) NH;have dF:(Ic n es (Es n es)[i]).length<=40000:=Tn (jH _ _ _) NH;have K:=cnt_ok2 hle;have b2:=cnt_ok3 dF dE;have aP:=Tw i NH;by_cases c1:0<Gn es es (Es n es)[i]
  .have d1 : decide (((Gn es es (Es n es)[i] : Nat) : Int) > 0) = true := decide_eq_true (cP.2 c1)
   by_cases c2:(Ic n es (Es n es)[i]).length+sA es (IN n rs) (Es n es)[i]=Gn es es (Es n es)[i]+2
   .have d2 : decide ((((Ic n es (Es n es)[i]).length : Nat) : Int) + ((sA es (IN n rs) (Es n es)[i] : Nat) : Int) = ((Gn es es (Es n es)[i] : Nat) : Int) + 2) = true := decide_eq_true (GJ.2 c2)
    refine Uy ?_;refine gh (tA [0,1,2,3,4,5,6,7,8,9,10,11,12,13,14,15,16,17,18,19,20,21] .done) ?_;refine CO (xu bW aj ar b0 al av K b2 d1 @d2 @bne.eq_1.{0} aP) ?_
    refine tn ((Es n es).length-(i+1)) [(9,.slice (some ⟨A,0,none⟩) (Es n es).length (Es n es).length),(10,.slice (some ⟨C,0,none⟩) (Es n es).length (Es n es).length),(11,.slice (some ⟨D,0,none⟩) (Es n es).length (Es n es).length),(107,.int .i64 (Es n es).length),(108,.int .i64 (i+1:Nat))] (JS m) fD
     ⟨i+1,rfl,m,rfl,fun j U aH hp=>?_,rfl⟩
    grind
   .have d2 : decide ((((Ic n es (Es n es)[i]).length : Nat) : Int) + ((sA es (IN n rs) (Es n es)[i] : Nat) : Int) = ((Gn es es (Es n es)[i] : Nat) : Int) + 2) = false := decide_eq_false (fun e => c2 (GJ.1 e))
    refine Uy ?_;refine gh (tA [0,1,2,3,4,5,6,7,8,9,10,11,12,13,14,15,16,17,18,19,20,21] .done) ?_;refine CO (rk bW aj ar b0 al av K b2 d1 @d2 @bne.eq_1.{0}) ?_
    grind [z8.not,Le.trans]
  .have d1 : decide (((Gn es es (Es n es)[i] : Nat) : Int) > 0) = false := decide_eq_false (fun e => c1 (cP.1 e))
   refine Uy ?_;refine gh (tA [0,1,2,3,4,5,6,7,8,9,10,11,12,13,14,15,16,17,18,19,20,21] .done) ?_;refine CO (rk bW aj ar b0 al av K b2 d1 @bne.eq_1.{0} aP) ?_
   refine tn ((Es n es).length-(i+1)) [(9,.slice (some ⟨A,0,none⟩) (Es n es).length (Es n es).length),(10,.slice (some ⟨C,0,none⟩) (Es n es).length (Es n es).length),(11,.slice (some ⟨D,0,none⟩) (Es n es).length (Es n es).length),(107,.int .i64 (Es n es).length),(108,.int .i64 (i+1:Nat))] (JS m) fD
    ⟨i+1,rfl,m,rfl,fun j U aH hp=>?_,rfl⟩
   grind
 have y:(Es n es).length<=i:=vp hf;refine Uy ?_;refine fin true ⟨fun _ a ha hp=>?_,fun _=>rfl⟩ _ (b4.trans I);obtain⟨q,en⟩:=qy.1 ha
 grind
end
section
attribute [local instance] Classical.propDecidable
attribute [local irreducible] Kp MQ lU rS KO KN KX KE VK Kl ZJ TC gU
open Go.Proofs
variable {b0 h:AHeap} {i w:Nat} {rows:AM} {us:List Value}
theorem Rows.put {L:Nat} (R:Rows b0 h L us rows) (k:WF h) {u:Value} {r:RZ} (j:us[w]?=some u) (l:rows[w]?=some r) (hi:i<r.length) (x:Int):
  ∃h',aStore Tryz.prog h 3 (.pointer (some (elemAddr u i))) (.int .i64 x)=some h'/\Rows b0 h' L us (rows.set w (r.set i x))/\WF h'/\(∀f,Le f h->Z2 f u->Le f h')/\(∀b o,h.own b=some o->blk u≠some b->h'.own b=some o):=by
 obtain⟨h',e,g,wf,m,keep⟩:=GI.store (show GI h u r from R.gs w u r j l) k hi x;refine⟨h',e,⟨keep _ _ R.oL (R.nL w u j),by grind [Rows.len],fun v a q ha d=>?_,R.nL,R.TE,R.ap,m _ R.le (R.ap w u j),R.bL⟩,wf,m,keep⟩;rw[vg]at d;by_cases c:w=v
 .subst c
  rw[if_pos rfl,if_pos (vT.1 l).1]at d;injection d with d;subst d;rw[j]at ha;injection ha with ha;subst ha;exact g
 .rw [if_neg c] at d
  refine(R.gs v a q ha d).kept fun b o hb n=>keep b o n fun sZ=>R.TE w v u a b c j ha sZ hb
theorem OS (m:LA) (v:Value) (xs:RZ) (y:Int) (h:AHeap) (d:RL RP h v xs) (t:xs.length<=100000):AC Tryz.prog m 141 [v,.int .i64 y] h fun x h'=>((x=.int .i64 (-1)/\y∉xs)\/∃i,∃hi:i<xs.length,x=.int .i64 (i:Nat)/\xs[i]=y/\∀j (b:j<i),xs[j]≠y)/\h'=h:=by
 refine AC.vE ⟨XV,rfl,WY⟩ Tryz.ntmps141 Tryz.results141 fun n=>?_;simp only[Br,Nat.reduceAdd];have o:=fun g=>d.Uc g;refine Sk o ?_;refine gU.intro (fun k fr e=>∃i,k=xs.length-i/\i<=xs.length/\fr=mkF [(0,v),(1,.int .i64 y),(7,.int .i64 xs.length),(8,.int .i64 i)]/\e=h/\∀j (b:j<xs.length),j<i->xs[j]≠y)
  xs.length [(0,v),(1,.int .i64 y),(7,.int .i64 xs.length),(8,.int .i64 (0:Nat))] fD ⟨0,rfl,vZ _,rfl,rfl,fun j _ b=>absurd b (y5 _)⟩ ?_
 rintro k fr e p ⟨i,rfl,hi,rfl,rfl,q⟩;refine Uy ?_;refine Kl.intro (fun f=>?_) (fun hf=>?_)
 .have a : i < xs.length := CC f
  clear f;have l:=d.TA i a;have ld:=d.DH i a;have hw:=Tw i NH;by_cases c:y=xs[i]
  .simp only [HO, Nat.reduceLT, ↓reduceIte, Nat.reduceEqDiff, reduceCtorEq, l, ld, decide_eq_true c]
   grind
  .simp only [HO, Nat.reduceLT, ↓reduceIte, Nat.reduceEqDiff, reduceCtorEq, l, ld, decide_eq_false c, hw]
   refine tn (xs.length-(i+1)) [(0,v),(1,.int .i64 y),(7,.int .i64 xs.length),(8,.int .i64 (i+1:Nat))] (JS a) fD ⟨i+1,rfl,a,rfl,rfl,fun j b r=>?_⟩
   grind
 .have s : xs.length <= i := vp hf
  refine Uy ?_
  grind [List.mem_iff_getElem]
theorem W3 (b:LA) (v:Value) (xs:RZ) (y:Int) (h:AHeap) (c:RL RP h v xs) (e:xs.length<=100000):AC Tryz.prog b 101 [v,.int .i64 y] h fun x h'=>x=.bool (decide (y∈xs))/\h'=h:=by
 refine AC.vE ⟨Tryz.func101,rfl,WY⟩ Tryz.ntmps101 Tryz.results101 fun f=>?_;simp only[Br,Nat.reduceAdd];refine Uy ?_;refine TC.intro PJ ⟨XV,rfl,WY⟩ (OS b v xs y h c e) ?_;rintro x h2 j ⟨⟨rfl,a⟩|⟨i,hi,rfl,a,-⟩,rfl⟩
 .have d : decide ((-1 : Int) >= 0) = false := by decide
  simp only[HO,Nat.reduceLT,↓reduceIte,Nat.reduceEqDiff,reduceCtorEq,d,decide_eq_false a]
  grind
 .have d : decide ((i : Int) >= 0) = true := by simp
  have g:y∈xs:=a▸EP hi;simp only[HO,Nat.reduceLT,↓reduceIte,Nat.reduceEqDiff,reduceCtorEq,d,decide_eq_true g]
  grind
end
section
open Go.Proofs
variable {es:List Pr} {n:Nat} {rs:AM}
attribute [local instance] Classical.propDecidable in
theorem vS {n:Nat} {es:List Pr} {rs:AM} (c:aV n es) (ha:D3 es) (G:Av n es rs) (j:0<n) (g:∀v,v<n->Pu es 0 v):
  z8 n es rs↔(0<es.length->n+(IN n rs).length=es.length+2):=by
 have all:∀a,a<n->Gn es es a=es.length/\(Ic n es a).length=n/\sA es (IN n rs) a=(IN n rs).length:=fun a d=>by
  have k:∀v,v<n->Pu es a v:=fun v i=>(g a d).symm.trans (g v i);refine⟨?_,?_,?_⟩
  .unfold Gn VF
   rw[KG.2];intro e l;have h:=c e l
   grind
  .grind [Ic,List.filter_eq_self]
  .unfold sA VF
   rw[KG.2];intro f hf;obtain⟨_,v,i,e⟩:=Uj c ha G hf
   grind
 constructor
 .intro H m
  obtain⟨a,b,_⟩:=B6 c 0 j;obtain⟨o,p,q⟩:=all a (QO.1 b).1;have:=H a b pw
  grind
 .intro H a b
  grind [QO]
def N9 (h:rs.length=n) (d:(List.range n).all (fun v=>(rs.getD v []).isPerm ((Zh n es).getD v []))=true):Av n es rs:=
 ⟨h,fun v a=>List.isPerm_iff.1 (mJ.1 d v (Og.2 a))⟩
theorem X9 (a:bX ⟨(n:Int),es⟩) (G:Av n es rs) {hs:List (H8×Nat)} (C:Cert n (Xl rs) hs):IN n rs=hs.map fun p=>(List.range p.2).map fun j=>(((it (Nv (Xl rs)) j p.1).1:Nat):Int):=by
 rw[IN,Fs (G.jD a.GD a.q9) C,Q4]
 grind [List.map_congr_left,kz]
instance (n:Nat) (r:Nat->II) (hs:List (H8×Nat)):Decidable (Cert n r hs):=by unfold Cert;infer_instance
end
section
attribute [local irreducible] IN z8
open Go.Proofs
def mkP6 (h:AHeap) (a b c d e f:Pr):aBuildSlice Tryz.prog h 22 6 [(0,UI a),(1,UI b),(2,UI c),(3,UI d),(4,UI e),(5,UI f)]=some (.slice (some ⟨h.next,0,none⟩) 6 6,h.alloc (.cells (Iu [a,b,c,d,e,f]))):=Ji
end
end Go.Fw
namespace Go.Fw
attribute [local instance] Classical.propDecidable
theorem Td {α:Type} {p q:α->Bool}:∀(l:List α),(∀v∈l,p v=true\/q v=true)->(l.filter p).length+(l.filter q).length=l.length+(l.filter fun v=>p v&&q v).length
 |[],_=>rfl
 |x::l,h=>by
  have c:=Td l fun v b=>h v (kc _ b)
  grind
theorem FP {P:Nat->Nat->Prop} {r:Nat->II} {v:Nat} (h:∀w∈r v,P v w):Om P r v=r v:=by grind [Om.eq_1,List.filter_eq_self]
theorem Ud {n:Nat} {s:Nat->II} (S:V7 n s) {l:List Pr} (nd:l.Nodup) (c:aV n l) (h:∀v w,w∈s v↔Jp l v w):(dl n s).length=2*l.length:=by
 have key:∀l:List Pr,(l.flatMap fun p=>[(p.1.toNat,p.2.toNat),(p.2.toNat,p.1.toNat)]).length=2*l.length:=by
  intro l
  induction l<;>grind
 rw[<-key l];refine(yR (J8 S) ?_ fun d=>?_).length_eq
 .rw [EU, KV]
  refine⟨fun p b=>?_,?_⟩
  .have := c p b
   grind
  .rw [EU] at nd
   refine AQ (fun{p q} b e f=>?_) nd;have g:=c p b;have h2:=c q e
   grind
 .rw [IP S, h, BR]
  obtain⟨v,w⟩:=d;simp only[Jp,WA,Db,or_false,yM];constructor
  .grind
  .rintro ⟨p, b, ⟨rfl, rfl⟩ | ⟨rfl, rfl⟩⟩
   .have := c p b
    grind
   .have := c p b
    grind
section
variable {n : Nat} {es : List Pr} {rs : List (List Int)} {a : Nat}
theorem T8 (u:aV n es) (ha:D3 es) (G:Av n es rs) (H:a∈Es n es) (D:0<Gn es es a):∃g,(Ic n es a).length+sA es (IN n rs) a+2*g=Gn es es a+2:=by
 obtain⟨I,J⟩:=QO.1 H;have R:=G.jD u ha;generalize m:Xl rs=r at R;have j:∀v w,w∈r v↔Jp es v w:=fun v w=>by rw[<-m];exact G.mem u
 have S:V7 n (Om (fun v w=>Pu es a v/\Pu es a w) r):=OG R fun v w h=>⟨h.2,h.1⟩;generalize hs:Om (fun v w=>Pu es a v/\Pu es a w) r=s at S;have i:∀v w,w∈s v↔Jp es v w/\Pu es a v:=fun v w=>by
  rw[<-hs,EM,j];exact⟨fun h=>⟨h.1,h.2.1⟩,fun h=>⟨h.1,h.2,h.2.step h.1 rfl⟩⟩
 have row:∀v,Pu es a v->s v=r v:=fun v z=>by
  rw[<-hs];exact FP fun w hw=>⟨z,z.step ((j v w).1 hw) rfl⟩
 have K:∀v y,Cr s v y->v=y\/(Pu es a v/\Pu es a y):=fun v y h=>by
  induction h with
  |refl=>grind
  |@step b c _ L A=>
   obtain⟨f,h2⟩:=(i _ _).1 L;right;rcases A with rfl|⟨h3,_⟩
   .exact⟨h2,h2.step f rfl⟩
   .exact⟨h3,h2.step f rfl⟩
 have M:∀y,Pu es a y->Cr s a y:=fun y h=>by
  induction h with
  |refl=>exact .refl _
  |step f h2 _ A=>exact A.step ((i _ _).2 ⟨h2,f⟩)
 have N:iJ n s+(Ic n es a).length=n+1:=by
  have E:iJ n s=((List.range n).filter fun v=>decide (v=a\/¬Pu es a v)).length:=by
   rw[iJ,Yy (Cj _).symm (Cr.eqv S _),zE (lt:=fun a b=>a<b) (fun a b h g=>absurd h (Nat.lt_asymm g)) _ _ rfl (uA n)]
   grind [Cr.symm,Cn.symm]
  have O:=Td (p:=fun v=>decide (v=a\/¬Pu es a v)) (q:=fun v=>decide (Pu es a v)) (List.range n) fun v _=>by grind
  have P:((List.range n).filter fun v=>decide (v=a\/¬Pu es a v)&&decide (Pu es a v)).length=1:=by
   refine Cq ?_ (x:=a) ?_ ?_
   all_goals grind [List.nodup_range,Pu.refl]
  grind [Ic]
 have nb:∀v,Pu es a v->∃w,Jp es v w:=fun v z=>by
  unfold Gn VF at D;obtain⟨e,l⟩:=gX D;rw[jz,decide_eq_true_eq]at l;have Q:=u e l.1;by_cases c:v=e.1.toNat
  .refine ⟨e.2.toNat, .inl ?_⟩
   grind
  .exact(FV (z.symm.trans l.2) c).1
 have F:((List.range n).filter fun v=>decide (s v=[])).length+(Ic n es a).length=n:=by
  have O:=Td (p:=fun v=>decide (s v=[])) (q:=fun v=>decide (Pu es a v)) (List.range n) fun v _=>by
   simp only[decide_eq_true_eq];by_cases c:Pu es a v
   .exact .inr c
   .left
    rw[j3]
    grind
  have P:((List.range n).filter fun v=>decide (s v=[])&&decide (Pu es a v))=[]:=by
   rw[zx]
   grind
  grind [Ic]
 have B:(dl n s).length=2*Gn es es a:=by
  unfold Gn VF;refine Ud S (ha.nodup.sublist ZT) (fun p T=>u p (jz.1 T).1) fun v w=>?_;rw[i];simp only[Jp,jz,decide_eq_true_eq,yY];constructor
  .rintro ⟨f | f, h2⟩
   .grind
   .exact .inr ⟨f,h2.step (.inr f) rfl⟩
  .rintro (⟨f, h2⟩ | ⟨f, h2⟩)
   .grind
   .exact⟨.inr f,h2.step (.inl f) rfl⟩
 have p:=TG R;have q:=TG S;have U:∀d:H8,Pu es a d.2->Nv s d=Nv r d:=fun d o=>by
  show(d.2,nx (s d.2) d.1)=(d.2,nx (r d.2) d.1);rw[row _ o]
 have V:∀d:H8,d.2∈s d.1->Pu es a d.2:=fun d o=>by
  obtain⟨f,h2⟩:=(i _ _).1 o;exact h2.step f rfl
 have t:∀(k:Nat) (d:H8),d.2∈s d.1->it (Nv s) k d=it (Nv r) k d:=fun k d o=>by
  induction k with
  |zero=>rfl
  |succ k A=>
   show Nv s (it (Nv s) k d)=Nv r (it (Nv r) k d);have W:=q.uN ((IP S).2 o) k
   grind [IP]
 have C:sA es (IN n rs) a=(L3 n s).length:=by
  have E:L3 n s=(L3 n r).filter fun d=>decide (Pu es a d.1):=by
   refine sx JN (fun _ _ _=>Nd) _ _ ((pI n s).filter _) (((pI n r).filter _).filter _) fun d=>?_;rw[jz,decide_eq_true_eq];show d∈L3 n s↔d∈L3 n r/\_;rw[gQ S,gQ R,i,j];constructor
   .rintro ⟨⟨f, h2⟩, h3⟩
    refine⟨⟨f,?_⟩,h2⟩;rintro e ⟨k,rfl⟩;rw[<-t k d ((i _ _).2 ⟨f,h2⟩)];exact h3 _ ⟨k,rfl⟩
   .rintro ⟨⟨f, h3⟩, h2⟩
    refine⟨⟨f,h2⟩,?_⟩;rintro e ⟨k,rfl⟩;rw[t k d ((i _ _).2 ⟨f,h2⟩)];exact h3 _ ⟨k,rfl⟩
  rw[E,sA,VF,IN,m,vf,Q4,List.filter_map,im];congr 1
  grind [List.filter_congr,gQ,JE,IP,Int.toNat_natCast]
 obtain⟨g,hg⟩:=Z4 S;rw[mj,<-yp S,<-C,B]at hg;exact⟨g,NH⟩
end
end Go.Fw
namespace Go.Fw
attribute [local instance] Classical.propDecidable
theorem yB {P:Nat->Prop}:∀(hs:II),hs.Nodup->(∃a∈hs,P a)->(∀a∈hs,∀b∈hs,P a->P b->a=b)->(hs.map fun a=>if P a then 1 else 0).sum=1
 |[],_,h,_=>by obtain⟨a,ha,_⟩:=h;cases ha
 |x::hs,nd,h,u=>by
  rw[xD]at nd;rw[QD,C4];by_cases c:P x
  .have z : ∀ a ∈ hs, ¬ P a := fun a ha d => nd.1 pw
   have:∀l:II,(∀a∈l,¬P a)->(l.map fun a=>if P a then 1 else 0).sum=0:=by
    intro l
    induction l<;>grind
   grind
  .rw [if_neg c, yB hs nd.2 ?_ fun a ha b hb => u a (kc _ ha) b (kc _ hb)]
   grind
def aS (f g:Nat->Nat):∀l:II,(l.map fun a=>f a+g a).sum=(l.map f).sum+(l.map g).sum
 |[]=>rfl
 |x::l=>by simp only[QD,C4,aS f g l];omega
theorem fH {α:Type} {P:Nat->α->Prop} {hs:II} (nd:hs.Nodup):∀(l:List α),(∀e∈l,∃a∈hs,P a e)->(∀e∈l,∀a∈hs,∀b∈hs,P a e->P b e->a=b)->(hs.map fun a=>VF P l a).sum=l.length
 |[],_,_=>by
  have:∀l:II,(l.map fun a=>VF P ([]:List α) a).sum=0:=by
   intro l
   induction l with
   |nil=>rfl
   |cons x l c=>rw[QD,C4,c];rfl
  exact this hs
 |e::l,h,u=>by
  have c:=fH nd l (fun x d=>h x (kc _ d)) fun x d=>u x (kc _ d)
  have f:∀a,VF P (e::l) a=(if P a e then 1 else 0)+VF P l a:=fun a=>by grind [VF]
  simp only[f];rw[aS,c,yB (P:=fun a=>P a e) hs nd (h e iy) (u e iy),Ry];omega
theorem Qs (l:II) (p:Nat->Prop) [DecidablePred p]:(l.map fun a=>if p a then 1 else 0).sum=(l.filter fun a=>decide (p a)).length:=by
 induction l<;>grind
section
variable {n : Nat} {es : List Pr} {rs : List (List Int)}
theorem kn (c:aV n es) {v:Nat} (d:v<n):(∃a∈Es n es,Pu es a v)/\∀a∈Es n es,∀b∈Es n es,Pu es a v->Pu es b v->a=b:=
 ⟨B6 c v d,fun _ ha _ hb e h2=>rf ha hb (e.trans h2.symm)⟩
theorem yr (c:aV n es):((Es n es).map fun a=>(Ic n es a).length).sum=n:=by
 have:=fH (P:=fun a v=>Pu es a v) (qD n es) (List.range n) (fun v b=>(kn c (Og.1 b)).1) fun v b=>(kn c (Og.1 b)).2
 grind [VF,Ic]
theorem Rr (b:aV n es):((Es n es).map fun a=>Gn es es a).sum=es.length:=by
 have d:∀e∈es,e.1.toNat<n:=fun e c=>by have:=b e c;omega
 unfold Gn
 grind [fH,qD,kn]
theorem lJ (b:aV n es) (ha:D3 es) (G:Av n es rs):((Es n es).map fun a=>sA es (IN n rs) a).sum=(IN n rs).length:=by
 have c:∀f∈IN n rs,(f.headD 0).toNat<n:=fun f hf=>by obtain⟨_,v,c,e⟩:=Uj b ha G hf;grind
 unfold sA
 grind [fH,qD,kn]
theorem MP (j:aV n es) {a:Nat} (d:a<n):0<Gn es es a↔1<(Ic n es a).length:=by
 have nd:(Ic n es a).Nodup:=by grind [Ic,List.filter_sublist]
 constructor
 .intro h
  unfold Gn VF at h;obtain⟨e,b⟩:=gX h;rw[jz,decide_eq_true_eq]at b;have k:=j e b.1;have h2:Pu es a e.2.toNat:=b.2.step (.inl pw) rfl;have:=tf (A:=[e.1.toNat,e.2.toNat]) (B:=Ic n es a) (by simp;omega) fun x l=>by grind [mY]
  grind
 .intro h
  have:∃v∈Ic n es a,v≠a:=fR fun i=>by
   have c:∀v∈Ic n es a,v=a:=fun v f=>fR fun q=>i ⟨v,f,q⟩;have:=Cq nd (mY.2 ⟨d,Pu.refl es a⟩) c;omega
  obtain⟨v,f,g⟩:=this;obtain⟨w,hw⟩:=(FV (mY.1 f).2 (uV g)).1;unfold Gn VF;have:∃e∈es,Pu es a e.1.toNat:=by
   rcases hw with hw|hw
   .exact⟨_,hw,by simpa using Pu.refl es a⟩
   .exact⟨_,hw,by simpa using vm (.inr hw)⟩
  obtain⟨e,b,i⟩:=this;exact cJ (jz.2 ⟨b,pw⟩)
end
end Go.Fw
namespace Go.Fw
section
attribute [local instance] Classical.propDecidable
attribute [local irreducible] Kp MQ lU rS KO KN KX KE VK Kl ZJ TC gU
open Go.Proofs
theorem QY (g:LA) (v:Value) (xs:RZ) (h:AHeap) (e:RL RP h v xs) (p:xs.length<=100000):AC Tryz.prog g 93 [v] h fun x h'=>GI h' x xs/\Le h h'/\Z2 h x:=by
 obtain⟨a,c,rfl,hs⟩:=e.sl;refine AC.vE ⟨TX,rfl,WY⟩ Tryz.ntmps93 Tryz.results93 fun d=>?_;simp only[Br,Nat.reduceAdd];cases a with
 |none=>
  have i:xs=[]:=by
   cases xs<;>grind
  subst i;simp only[HO,Nat.reduceLT,↓reduceIte,Nat.reduceEqDiff,reduceCtorEq,aEq,Mb,Option.isNone_none];exact⟨GI.nil _,Le.refl _,fun b hb=>by grind [blk]⟩
 |some a=>
  obtain⟨f,j,l1,w1,k⟩:=Tt d []
  have mk:aBuildSlice Tryz.prog h 49 0 []=some (.slice (some ⟨h.next,0,none⟩) 0 0,f):=by rw[<-j];rfl
  have q:h.own h.next=none:=(Le.refl h).next d (Ny _)
  have l:GI f (.slice (some ⟨h.next,0,none⟩) 0 0) []:=GS.full k rfl WY
  have m:Z2 h (.slice (some ⟨h.next,0,none⟩) 0 0):=fun b hb=>by injection hb with hb;grind
  obtain⟨r,s,n,t,u,o,-⟩:=GI.join l w1 (e.le Nn.RP l1) (by simp;omega);obtain⟨l6,w⟩:=o h l1 m;simp only[HO,Nat.reduceLT,↓reduceIte,Nat.reduceEqDiff,reduceCtorEq,aEq,Mb,fE,mk,n]
  grind
end
section
attribute [local instance] Classical.propDecidable
open Go.Proofs
variable {i:Nat} {xs ys:RZ}
def eD (xs ys:RZ) (i:Nat):Prop:=ys.length=xs.length/\∀p,p<xs.length->ys[p]?=if p<i\/xs.length-i<=p then xs[xs.length-1-p]? else xs[p]?
theorem eD.zero (xs:RZ):eD xs xs 0:=⟨rfl,fun p a=>by grind⟩
theorem eD.fin (R:eD xs ys i) (h:xs.length<=2*i+1):ys=xs.reverse:=by
 apply K4;intro p;by_cases a:p<xs.length
 .rw [R.2 p a, Dk a]
  grind
 .rw[mn (by rw[R.1];omega),mn pw]
theorem eD.step {xs ys:RZ} {i:Nat} (R:eD xs ys i) (h:2*i+1<xs.length) (a:i<ys.length) (h2:xs.length-1-i<ys.length):
  eD xs ((ys.set i ys[xs.length-1-i]).set (xs.length-1-i) ys[i]) (i+1):=by
 refine⟨by simp[R.1],fun p b=>?_⟩;have c:ys[xs.length-1-i]?=xs[xs.length-1-i]?:=by rw[R.2 _ NH,if_neg NH]
 have d:ys[i]?=xs[i]?:=by rw[R.2 _ NH,if_neg NH]
 rw[BS h2]at c;rw[BS a]at d;by_cases c1:p=xs.length-1-i
 .grind
 .rw [ti (uV c1)]
  by_cases c2:p=i
  .grind
  .rw [ti (uV c2), R.2 p b]
   grind
end
section
attribute [local instance] Classical.propDecidable
attribute [local irreducible] Kp MQ lU rS KO KN KX KE VK Kl ZJ TC gU
open Go.Proofs
theorem Wk (w:LA) (u:Value) (xs:RZ) (h:AHeap) (g:GI h u xs) (L:xs.length<=100000):
  AC Tryz.prog w 94 [u] h fun _ h'=>GI h' u xs.reverse/\(∀f,Le f h->Z2 f u->Le f h')/\∀b o,h.own b=some o->blk u≠some b->h'.own b=some o:=by
 refine AC.vE ⟨Gm,rfl,WY⟩ Tryz.ntmps94 Tryz.results94 fun x=>?_;simp only[Br,Nat.reduceAdd];have lu:=fun y=>(GI.rl g).Uc y;have z:awrap .i64 ((xs.length:Int)-1)=(xs.length:Int)-1-((0:Nat):Int):=by grind [ie]
 simp only[HO,Nat.reduceLT,↓reduceIte,Nat.reduceEqDiff,reduceCtorEq,lu,z];refine gU.intro (fun k fr j=>∃(i:Nat) (ys:RZ),k=xs.length-i/\2*i<=xs.length/\fr=mkF [(0,u),(2,.int .i64 i),(3,.int .i64 ((xs.length:Int)-1-(i:Int)))]/\eD xs ys i/\GI j u ys/\(∀f,Le f h->Z2 f u->Le f j)/\∀b o,h.own b=some o->blk u≠some b->j.own b=some o)
  xs.length [(0,u),(2,.int .i64 (0:Nat)),(3,.int .i64 ((xs.length:Int)-1-((0:Nat):Int)))] fD
  ⟨0,xs,rfl,vZ _,rfl,eD.zero xs,g,fun f n _=>n,fun b o hb _=>hb⟩ ?_
 rintro k fr j p ⟨i,ys,rfl,hi,rfl,R,v,A,B⟩;by_cases c:2*i+1<xs.length
 .have d : decide ((i : Int) < (xs.length : Int) - 1 - (i : Int)) = true := decide_eq_true NH
  have C:(xs.length:Int)-1-(i:Int)=((xs.length-1-i:Nat):Int):=NH;have l:i<ys.length:=by rw[R.1];omega
  have h2:xs.length-1-i<ys.length:=by rw[R.1];omega
  have m:=GI.rl v;have q:=m.TA i l;have e:=m.TA _ h2;have ld1:=m.DH i l;have r:=m.DH _ h2;obtain⟨M,D,E,F,l5,G⟩:=GI.store v p l ys[xs.length-1-i];obtain⟨N,H,I,O,l6,J⟩:=GI.store E F (i:=xs.length-1-i) pw ys[i];have K:=R.step c l h2;have s:=Tw i NH;have t:awrap .i64 ((xs.length:Int)-1-(i:Int)-1)=(xs.length:Int)-1-((i+1:Nat):Int):=by grind [ie]
  rw[<-C]at e;refine Sk d ?_;refine gh (tA [0,1,2,3,4,5,6,7,8,9,10,11,12] (JQ 13 [0,1,4,5,6,7,11,12] (tA [14] (JQ 15 [0,1,2,3,4,5,6,7,8,9,10,11,12,13,14] .done)))) ?_;simp only[HO,Nat.reduceLT,↓reduceIte,Nat.reduceEqDiff,reduceCtorEq,Nat.reduceBEq,Qg,q,e,ld1,r,D,H,s,t];exact tn (xs.length-(i+1)) [(0,u),(2,.int .i64 (i+1:Nat)),(3,.int .i64 ((xs.length:Int)-1-((i+1:Nat):Int)))] (JS NH) fD
   ⟨i+1,_,rfl,NH,rfl,K,I,fun f n af=>l6 f (l5 f (A f n af) af) af,fun b o hb a=>J b o (G b o (B b o hb a) a) a⟩
 .have d : decide ((i : Int) < (xs.length : Int) - 1 - (i : Int)) = false := decide_eq_false NH
  refine Sk d ?_
  grind [eD.fin]
end
end Go.Fw
