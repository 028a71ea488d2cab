/- A text. -/
import Derived.Test.YtkccdnmaaelbiaaGreatFwLF6
set_option linter.all false
set_option maxRecDepth 99999
set_option maxHeartbeats 9999999
namespace Go.Fw
section
attribute [local instance] Classical.propDecidable
attribute [local irreducible] Kp MQ lU rS KO KN KX KE VK Kl ZJ TC gU
attribute [local irreducible] IN Gn sA Es Ic Gx
open Go.Proofs
variable {a b c i n q:Nat} {es:List Pr} {l:II} {rs:AM}
def El (h:a<=40000):awrap .i64 ((a:Int)+1)=(a:Int)+1:=ie _ NH NH
def cnt_ok2 (h:a<=40000):awrap .i64 ((a:Int)+2)=(a:Int)+2:=ie _ NH NH
def cnt_ok3 (h:a<=40000) (g:b<=40000):awrap .i64 ((a:Int)+(b:Int))=(a:Int)+(b:Int):=ie _ NH NH
def GJ:((a:Int)+(b:Int)=(c:Int)+2)↔a+b=c+2:=NH
def cP:((c:Int)>0)↔0<c:=NH
def rep_map (n:Nat):List.replicate n (Value.int .i64 0)=Bp (List.replicate n 0):=by simp[Bp]
theorem Bt (n:Nat) (es:List Pr) (k:Nat):(Gx n es k).length=(Es k es).length:=by grind [Gx]
theorem vM (n:Nat) (es:List Pr) (k i:Nat) (h:i<(Es k es).length):(Gx n es k)[i]'(by grind [Bt])=Ic n es (Es k es)[i]:=by grind [Gx]
def edK_nil (n:Nat) (es b:List Pr):(List.replicate (Es n b).length (0:Int))=(Es n b).map fun a=>((Gn es ([]:List Pr) a:Nat):Int):=by
 apply dU<;>simp[Gn,VF]
def faK_nil (n:Nat) (es b:List Pr):(List.replicate (Es n b).length (0:Int))=(Es n b).map fun a=>((sA es ([]:AM) a:Nat):Int):=by
 apply dU<;>simp[sA,VF]
def PI (d:aV n es) {l:List Pr} {e:Pr} (b:q<(Es n es).length) (c:Pu es (Es n es)[q] e.1.toNat):
  ((Es n es).map fun a=>((Gn es (l++[e]) a:Nat):Int))=((Es n es).map fun a=>((Gn es l a:Nat):Int)).set q (((Gn es l (Es n es)[q]:Nat):Int)+1):=by
 unfold Gn;exact QA b c (wT d b c)
def bQ (d:aV n es) {l:AM} {e:RZ} (b:q<(Es n es).length) (c:Pu es (Es n es)[q] (e.headD 0).toNat):
  ((Es n es).map fun a=>((sA es (l++[e]) a:Nat):Int))=((Es n es).map fun a=>((sA es l a:Nat):Int)).set q (((sA es l (Es n es)[q]:Nat):Int)+1):=by
 unfold sA;exact QA b c (wT d b c)
theorem ZD (es l:List Pr) (a:Nat):Gn es l a<=l.length:=by grind [Gn,xV]
theorem aaZ (es:List Pr) (l:AM) (a:Nat):sA es l a<=l.length:=by grind [sA,xV]
theorem jH (n:Nat) (es:List Pr) (a:Nat):(Ic n es a).length<=n:=by grind [Ic]
def Y0 {f:Nat->Int} (h:i<l.length):(l.map f)[i]?=some (f l[i]):=by simp[h]
theorem Q6 {l:RZ} (h:0<l.length):l[0]=l.headD 0:=by
 cases l<;>grind
theorem z8.not (h:i<(Es n es).length) (a:0<Gn es es (Es n es)[i]) (h2:¬(Ic n es (Es n es)[i]).length+sA es (IN n rs) (Es n es)[i]=Gn es es (Es n es)[i]+2):¬z8 n es rs:=fun H=>h2 (H _ (eR h) a)
theorem VS (W0:LA) (v rv:Value) (G:GM) (rs:AM) (h:AHeap) (hg:GR h v G) (hv:RL (RL RP) h rv rs):
  AC Tryz.prog W0 27 [v,rv] h fun x h'=>RR (bX G/\Av G.n.toNat G.es rs/\z8 G.n.toNat G.es rs) x/\Le h h':=by
 have b3:=hg;obtain⟨gn,es⟩:=G
 obtain⟨ev,rfl,hp⟩:=hg.open
 refine AC.vE ⟨Tryz.func27,rfl,WY⟩ Tryz.ntmps27 Tryz.results27 fun cM=>?_;simp only[Br,Nat.reduceAdd];obtain⟨h1,b1,R,dQ,-,lA⟩:=r8 (n:=gn) cM hp
 generalize h.next=B at*
 have cN:=lA h1 (Le.refl _);refine Sk (XC b1 cN.1) ?_;refine TC.intro PJ ⟨Tryz.func26,rfl,WY⟩ (wX W0 _ rv ⟨gn,es⟩ rs h1 (b3.le R) (hv.le (Nn.RL Nn.RP) R)) ?_;rintro x h2 w2 ⟨⟨b,rfl,hb⟩,l2⟩;cases b
 .refine Uy ?_
  exact⟨⟨false,rfl,pw⟩,R.trans l2⟩
 obtain⟨hr,G⟩:=hb.1 rfl;have h0:0<=gn:=hr.n0;obtain⟨n,rfl⟩:=HV h0;simp only[yY]at G ⊢;have hR:=hr.GD;have hA:=hr.q9;have dI:(n:Int)<=200:=hr.n1;have dL:es.length<=594:=hr.len;have aW:n<=200:=NH;have fin:∀b,(b=true↔z8 n es rs)->∀o,Le h o->RR (bX ⟨(n:Int),es⟩/\Av n es rs/\z8 n es rs) (.bool b)/\Le h o:=fun b hb o lz=>⟨⟨b,rfl,hb.trans ⟨fun p=>⟨hr,G,p⟩,fun p=>p.2.2⟩⟩,lz⟩;have dS:=lA h2 l2;refine Uy ?_;refine TC.intro PJ ⟨Tryz.func68,rfl,WY⟩ (Zq W0 rv rs h2 (hv.le (Nn.RL Nn.RP) (R.trans l2))) ?_;rintro x h3 w3 ⟨l3,⟨rfl,cR⟩|⟨cU,S,c0,G',rfl,hf⟩⟩
 .exact absurd ⟨es,by grind [Av.len],by grind [Av.len]⟩ cR
 clear c0 G' cU;rw[G.len]at hf;have d0:decide ((0:Int)=0)=true:=by decide
 have fT:=lA h3 (l2.trans l3);simp only[HO,Nat.reduceLT,↓reduceIte,Nat.reduceEqDiff,reduceCtorEq,bne,d0,fT.1];refine TC.intro PJ ⟨Tryz.func64,rfl,WY⟩ (It W0 _ ⟨(n:Int),es⟩ h3 (b3.le ((R.trans l2).trans l3)) hr) ?_;rintro pv M w4 ⟨gp,l4,-⟩;simp only[yY]at gp;have rp:=gp.rl (Nn.RL Nn.RP);have lp:=fun g=>rp.fy g;have c3:((Gx n es n).map kz).length=(Es n es).length:=by grind [Bt]
 rw[c3]at lp;have dT:(Es n es).length<=n:=vH _ _;have aX:=hf.le (Nn.RL Nn.RP) l4;have a1:=(l2.trans l3).trans l4;have b4:=R.trans a1;have c4:=lA M a1;have c5:=fun g:AHeap=>Ye (P:=Tryz.prog) (t:=49) (z:=.int .i64 0) g Mb rfl rfl rfl rfl Ji Ac Ji n NH;have c9:=fun g:AHeap=>Ye (P:=Tryz.prog) (t:=49) (z:=.int .i64 0) g Mb rfl rfl rfl rfl Ji Ac Ji (Es n es).length NH;obtain⟨h5,e5,l5,w5,o5⟩:=Tt w4 (List.replicate n (.int .i64 0))
 have nH:M.own M.next=none:=(Le.refl M).next w4 (vT _)
 refine Sk (bG @Ii @Ip.eq_1 @BS c4.2.1 c5 e5) ?_
 generalize M.next=s at*
 apply Ya (F:=fun(fr:lC) (h':AHeap)=>∃A C D,Fj fr [(2,.pointer (some ⟨B,0,none⟩)),(5,S),(7,pv),(8,.slice (some ⟨s,0,none⟩) n n),(9,.slice (some ⟨A,0,none⟩) (Es n es).length (Es n es).length),(10,.slice (some ⟨C,0,none⟩) (Es n es).length (Es n es).length),(11,.slice (some ⟨D,0,none⟩) (Es n es).length (Es n es).length)]/\Yh h5 h' A C D (List.replicate (Es n es).length (.int .i64 0)))
 .intro cont
  refine gh (tA [0,1,3,4,6,7] (.ch 2 [1] (tA [9] (.ch 5 [4] (tA [10] (JQ 8 [7] (tA [11] .done))) (JQ 8 [7] (JQ 5 [4] (tA [10,11] .done))))) (.ch 5 [4] (.ch 2 [1] (tA [9,10] (JQ 8 [7] (tA [11] .done))) (JQ 8 [7] (JQ 2 [1] (tA [9,10,11] .done)))) (JQ 8 [7] (.ch 2 [1] (tA [9] (JQ 5 [4] (tA [10,11] .done))) (JQ 5 [4] (JQ 2 [1] (tA [9,10,11] .done)))))))) ?_;simp only[qj,Nat.reduceLT,↓reduceIte,Nat.reduceEqDiff,reduceCtorEq,Nat.reduceBEq,Qg,lp,c9,om];have N:=new3 w5 (List.replicate (Es n es).length (.int .i64 0));refine⟨⟨?_,?_⟩,⟨?_,?_⟩,?_,?_⟩
  all_goals
   refine KN.UJ fun fr' h' e1 e2=>cont fr' h' ?_;subst e1 e2
   first
    |(refine⟨_,_,_,?_,N⟩;simp only[Fj,HO,Nat.reduceLT,↓reduceIte,Nat.reduceEqDiff,reduceCtorEq];simp;done)
    |(refine⟨_,_,_,?_,N.s12⟩;simp only[Fj,HO,Nat.reduceLT,↓reduceIte,Nat.reduceEqDiff,reduceCtorEq];simp;done)
    |(refine⟨_,_,_,?_,N.s23⟩;simp only[Fj,HO,Nat.reduceLT,↓reduceIte,Nat.reduceEqDiff,reduceCtorEq];simp;done)
    |(refine⟨_,_,_,?_,N.s12.s23⟩;simp only[Fj,HO,Nat.reduceLT,↓reduceIte,Nat.reduceEqDiff,reduceCtorEq];simp;done)
    |(refine⟨_,_,_,?_,N.s23.s12⟩;simp only[Fj,HO,Nat.reduceLT,↓reduceIte,Nat.reduceEqDiff,reduceCtorEq];simp;done)
    |(refine⟨_,_,_,?_,N.s12.s23.s12⟩;simp only[Fj,HO,Nat.reduceLT,↓reduceIte,Nat.reduceEqDiff,reduceCtorEq];simp;done)
 rintro fr h6 ⟨A,C,D,b6,N⟩;simp only[Fj]at b6;obtain⟨f2,f5,f7,f8,f9,b8,b9,-⟩:=b6;refine Sk (XC f7 lp) ?_;have l6:=l5.trans N.le;have a6:=N.le.own _ _ o5;have a7:=N.oA;have a8:=N.oB;have bb:=N.oC;rw[rep_map]at a6 a7 a8 bb;have dV:s≠A:=fun e=>by grind [Yh.nA]
 have ec:s≠C:=fun e=>by grind [Yh.nB]
 have ed:s≠D:=fun e=>by grind [Yh.nC]
 have ee:=N.ab;have ef:=N.ac;have eg:=N.bc;have nA:M.own A=none:=l5.none N.nA;have nC:M.own C=none:=l5.none N.nB;have nD:M.own D=none:=l5.none N.nC;have w6:=N.wf;clear N o5 w5;refine gU.intro (fun k fr r=>∃(i:Nat) (L V:RZ),k=(Es n es).length-i/\i<=(Es n es).length/\fr=mkF [(2,.pointer (some ⟨B,0,none⟩)),(5,S),(7,pv),(8,.slice (some ⟨s,0,none⟩) n n),(9,.slice (some ⟨A,0,none⟩) (Es n es).length (Es n es).length),(10,.slice (some ⟨C,0,none⟩) (Es n es).length (Es n es).length),(11,.slice (some ⟨D,0,none⟩) (Es n es).length (Es n es).length),(46,pv),(47,.int .i64 (Es n es).length),(48,.int .i64 i)]/\
   r.own s=some (.cells (Bp L))/\G4 n es i L/\r.own A=some (.cells (Bp V))/\V.length=(Es n es).length/\(∀j (U:j<(Es n es).length),j<i->V[j]?=some (((Ic n es (Es n es)[j]).length:Nat):Int))/\r.own C=some (.cells (Bp (List.replicate (Es n es).length 0)))/\r.own D=some (.cells (Bp (List.replicate (Es n es).length 0)))/\Le M r)
  (Es n es).length [(2,.pointer (some ⟨B,0,none⟩)),(5,S),(7,pv),(8,.slice (some ⟨s,0,none⟩) n n),(9,.slice (some ⟨A,0,none⟩) (Es n es).length (Es n es).length),(10,.slice (some ⟨C,0,none⟩) (Es n es).length (Es n es).length),(11,.slice (some ⟨D,0,none⟩) (Es n es).length (Es n es).length),(46,pv),(47,.int .i64 (Es n es).length),(48,.int .i64 (0:Nat))] (by simp only[Fj,HO,Nat.reduceLT,↓reduceIte,Nat.reduceEqDiff,reduceCtorEq,f2,f5,f7,f8,f9,b8,b9];simp)
  ⟨0,_,_,rfl,yM _,rfl,a6,G4.zero,a7,Ma,fun j _ h=>absurd h (xP _),a8,bb,l6⟩ ?_
 clear a6 a7 a8 bb w6 f2 f5 f7 f8 f9 b8 b9 l6;clear l5 e5;clear h6;rintro k fr r H ⟨i,L,V,rfl,hi,rfl,W,HP,oA,hV,cc,oC,O,I⟩;refine Uy ?_;refine Kl.intro (fun Q=>?_) (fun hf=>?_)
 .have m : i < (Es n es).length := CC Q
  clear Q;have hm:i<((Gx n es n).map kz).length:=pw;have bh:=rp.Wm i hm;obtain⟨u,X,ay⟩:=rp.NS i hm;have aD:=X r I;have da:((Gx n es n).map kz)[i]=kz (Ic n es (Es n es)[i]):=by grind [vM]
  rw[da]at ay;have lu:=fun g=>ay.Uc g;rw[y6]at lu;have cd:=XJ m;have st:=M0 oA (i:=i) pw (((Ic n es (Es n es)[i]).length:Nat):Int);have db:=Kx A (Es n es).length .i64 i m;simp only[HO,Nat.reduceLT,↓reduceIte,Nat.reduceEqDiff,reduceCtorEq,bh,aD,lu,db,st];have Y:∀j,j<i+1->∀(U:j<(Es n es).length),(V.set i (((Ic n es (Es n es)[i]).length:Nat):Int))[j]?=some (((Ic n es (Es n es)[j]).length:Nat):Int):=fun j aH U=>by grind
  have dc:(V.set i (((Ic n es (Es n es)[i]).length:Nat):Int)).length=(Es n es).length:=pw;generalize V.set i (((Ic n es (Es n es)[i]).length:Nat):Int)=V2 at*;have w7:WF (r.put A (.cells (Bp V2))):=H.put _ (H.lt oA);have l7:Le M (r.put A (.cells (Bp V2))):=I.put _ nA;have bo:(r.put A (.cells (Bp V2))).own A=some (.cells (Bp V2)):=AHeap.Y3 _ _ _;have aJ:(r.put A (.cells (Bp V2))).own s=some (.cells (Bp L)):=by grind [AHeap.By]
  have Z:(r.put A (.cells (Bp V2))).own C=some (.cells (Bp (List.replicate (Es n es).length 0))):=by grind [AHeap.By]
  have br:(r.put A (.cells (Bp V2))).own D=some (.cells (Bp (List.replicate (Es n es).length 0))):=by grind [AHeap.By]
  generalize r.put A (.cells (Bp V2))=h7 at*;have dd:∀v∈Ic n es (Es n es)[i],v<n/\Pu es (Es n es)[i] v:=fun v hv=>mY.1 hv;generalize (Es n es)[i]=a at*;have eh:=jH n es a;generalize de:Ic n es a=cs at*;refine gU.intro (fun k fr o=>∃(j:Nat) (L:RZ),k=cs.length-j/\j<=cs.length/\fr=mkF [(2,.pointer (some ⟨B,0,none⟩)),(5,S),(7,pv),(8,.slice (some ⟨s,0,none⟩) n n),(9,.slice (some ⟨A,0,none⟩) (Es n es).length (Es n es).length),(10,.slice (some ⟨C,0,none⟩) (Es n es).length (Es n es).length),(11,.slice (some ⟨D,0,none⟩) (Es n es).length (Es n es).length),(12,.int .i64 i),(46,pv),(47,.int .i64 (Es n es).length),(48,.int .i64 i),(58,u),(59,.int .i64 cs.length),(60,.int .i64 j)]/\
    o.own s=some (.cells (Bp L))/\G4 n es i L/\(∀v∈cs.take j,L[v]?=some (i:Int))/\o.own A=some (.cells (Bp V2))/\o.own C=some (.cells (Bp (List.replicate (Es n es).length 0)))/\o.own D=some (.cells (Bp (List.replicate (Es n es).length 0)))/\Le M o)
   cs.length [(2,.pointer (some ⟨B,0,none⟩)),(5,S),(7,pv),(8,.slice (some ⟨s,0,none⟩) n n),(9,.slice (some ⟨A,0,none⟩) (Es n es).length (Es n es).length),(10,.slice (some ⟨C,0,none⟩) (Es n es).length (Es n es).length),(11,.slice (some ⟨D,0,none⟩) (Es n es).length (Es n es).length),(12,.int .i64 i),(46,pv),(47,.int .i64 (Es n es).length),(48,.int .i64 i),(58,u),(59,.int .i64 cs.length),(60,.int .i64 (0:Nat))] fD
   ⟨0,L,rfl,yM _,rfl,aJ,HP,fun v hv=>absurd hv jz,bo,Z,br,l7⟩ ?_
  clear aJ HP bo Z br l7 w7 oA W oC O I cc st H aD;clear h7 r L;rintro k fr o ei ⟨j,L,rfl,U,rfl,W,HP,cf,oA,oC,O,lz⟩;refine Uy ?_;refine Kl.intro (fun Q=>?_) (fun hf=>?_)
  .have d : j < cs.length := CC Q
   clear Q;have dj:=sY d;have cg:=ay.TA j (by rw[y6];exact d);have ck:=(ay.le Nn.RP lz).DH j (by rw[y6];exact d);rw[dj]at ck;have aK:=dd cs[j] (eR d);have T:cs.take (j+1)=cs.take j++[cs[j]]:=EL d;generalize cs[j]=v at*;have dk:=M0 W (i:=v) (by rw[HP.1];exact aK.1) (i:Int);have ad:=Kx s n .i64 v aK.1;have cm:=Tw j NH;refine Sk (IX cg ck ad dk cm) ?_;refine tn (cs.length-(j+1)) [(2,.pointer (some ⟨B,0,none⟩)),(5,S),(7,pv),(8,.slice (some ⟨s,0,none⟩) n n),(9,.slice (some ⟨A,0,none⟩) (Es n es).length (Es n es).length),(10,.slice (some ⟨C,0,none⟩) (Es n es).length (Es n es).length),(11,.slice (some ⟨D,0,none⟩) (Es n es).length (Es n es).length),(12,.int .i64 i),(46,pv),(47,.int .i64 (Es n es).length),(48,.int .i64 i),(58,u),(59,.int .i64 cs.length),(60,.int .i64 (j+1:Nat))] (JS d) fD
    ⟨j+1,L.set v (i:Int),rfl,d,rfl,AHeap.Y3 _ _ _,HP.put hR cd aK.2,fun w hw=>?_,by grind [AHeap.By],by grind [AHeap.By],by grind [AHeap.By],lz.put _ nH⟩
   rw[T,Sb,ZT]at hw;by_cases c:v=w
   .subst c;rw[List.getElem?_set_self (by rw[HP.1];exact aK.1)]
   grind
  .have y : cs.length <= j := vp hf
   rw[Og y,<-de]at cf;have aP:=Tw i NH;refine Sk aP ?_;exact tn ((Es n es).length-(i+1)) [(2,.pointer (some ⟨B,0,none⟩)),(5,S),(7,pv),(8,.slice (some ⟨s,0,none⟩) n n),(9,.slice (some ⟨A,0,none⟩) (Es n es).length (Es n es).length),(10,.slice (some ⟨C,0,none⟩) (Es n es).length (Es n es).length),(11,.slice (some ⟨D,0,none⟩) (Es n es).length (Es n es).length),(46,pv),(47,.int .i64 (Es n es).length),(48,.int .i64 (i+1:Nat))] (JS m) fD
    ⟨i+1,L,V2,rfl,m,rfl,W,HP.next cd cf,oA,dc,fun j U aH=>Y j aH U,oC,O,lz⟩
 have y:(Es n es).length<=i:=vp hf;obtain rfl:i=(Es n es).length:=NH;clear y hf hi;have cp:=lA r (a1.trans I);have dm:=fun g=>hp.len g;refine Sk (IX @Di @Ip.eq_1 @BS cp.2.2 dm) ?_;have bx:=oC;rw[edK_nil n es es]at bx;have cq:∀p∈es,0<=p.1/\p.1<p.2/\p.2<(n:Int):=fun p aT=>by
  obtain⟨i,hi⟩:=qy.1 aT;exact(hr.ok i (Ny.1 hi).1 p hi).1
 refine gU.intro (fun k fr o=>∃(j:Nat),k=es.length-j/\j<=es.length/\fr=mkF [(5,S),(7,pv),(8,.slice (some ⟨s,0,none⟩) n n),(9,.slice (some ⟨A,0,none⟩) (Es n es).length (Es n es).length),(10,.slice (some ⟨C,0,none⟩) (Es n es).length (Es n es).length),(11,.slice (some ⟨D,0,none⟩) (Es n es).length (Es n es).length),(71,ev),(72,.int .i64 es.length),(73,.int .i64 j)]/\
   o.own s=some (.cells (Bp L))/\o.own A=some (.cells (Bp V))/\o.own C=some (.cells (Bp ((Es n es).map fun a=>((Gn es (es.take j) a:Nat):Int))))/\o.own D=some (.cells (Bp (List.replicate (Es n es).length 0)))/\Le M o)
  es.length [(5,S),(7,pv),(8,.slice (some ⟨s,0,none⟩) n n),(9,.slice (some ⟨A,0,none⟩) (Es n es).length (Es n es).length),(10,.slice (some ⟨C,0,none⟩) (Es n es).length (Es n es).length),(11,.slice (some ⟨D,0,none⟩) (Es n es).length (Es n es).length),(71,ev),(72,.int .i64 es.length),(73,.int .i64 (0:Nat))] fD
  ⟨0,rfl,yM _,rfl,W,oA,bx,O,I⟩ ?_
 clear bx oC O oA W I cp H;clear r;rintro k fr r H ⟨j,rfl,U,rfl,W,oA,oC,O,I⟩;refine Uy ?_;refine Kl.intro (fun Q=>?_) (fun hf=>?_)
 .have d : j < es.length := CC Q
  clear Q;have aT:=CA d;have cr:=cq es[j] (eR d);have T:es.take (j+1)=es.take j++[es[j]]:=EL d;generalize es[j]=p at aT T cr;have bh:=hp.addr (k:=.i64) j d;have dq:=(hp.le (b4.trans I)).load aT;obtain⟨ej,h7,e7,dw,l7,w7,o7⟩:=Ut H p
  have nE:M.own r.next=none:=I.none ((Le.refl r).next H (vT _))
  generalize r.next=E at*
  have m0:=lK o7;obtain⟨x1,x2⟩:=p;obtain⟨v,rfl⟩:=HV cr.1;have ag:v<n:=pw;obtain⟨q,J,bB,dx⟩:=HP.get hR ag;have aJ:=l7.own _ _ W;have bo:=l7.own _ _ oA;have Z:=l7.own _ _ oC;have br:=l7.own _ _ O;have ad:=Kx s n .i64 v ag;have bF:=XP aJ bB;have aj:=Kx C (Es n es).length .i64 q J;have al:=XP Z (Y0 (f:=fun a=>((Gn es (es.take j) a:Nat):Int)) J);have hle:Gn es (es.take j) (Es n es)[q]<=40000:=Db (ZD _ _ _) pw;have K:=El hle;have cx:=M0 Z (i:=q) pw (((Gn es (es.take j) (Es n es)[q]:Nat):Int)+1);have aq:=PI hR (l:=es.take j) (e:=((v:Int),x2)) J pw;rw[<-T]at aq;rw[<-aq]at cx;have Y:=Tw j NH;refine Sk (aNd15 bh dq e7 dw @Dh @Ip.eq_1 @BS m0 ad bF aj al K cx Y) ?_;exact tn (es.length-(j+1)) [(5,S),(7,pv),(8,.slice (some ⟨s,0,none⟩) n n),(9,.slice (some ⟨A,0,none⟩) (Es n es).length (Es n es).length),(10,.slice (some ⟨C,0,none⟩) (Es n es).length (Es n es).length),(11,.slice (some ⟨D,0,none⟩) (Es n es).length (Es n es).length),(71,ev),(72,.int .i64 es.length),(73,.int .i64 (j+1:Nat))] (JS d) fD
   ⟨j+1,rfl,d,rfl,by grind [AHeap.By],by grind [AHeap.By],AHeap.Y3 _ _ _,by grind [AHeap.By],(I.trans l7).put _ nC⟩
 have y:es.length<=j:=vp hf;rw[Og y]at oC;clear y hf U;have lF:=fun g=>aX.fy g;have ek:=ED (n:=n) (es:=es) (rs:=rs) aW;have bH:=O;rw[faK_nil n es es]at bH;have dz:=fun f (hf:f∈IN n rs)=>Uj hR hA G hf;refine Sk lF ?_;refine gU.intro (fun k fr o=>∃(j:Nat),k=(IN n rs).length-j/\j<=(IN n rs).length/\fr=mkF [(7,pv),(8,.slice (some ⟨s,0,none⟩) n n),(9,.slice (some ⟨A,0,none⟩) (Es n es).length (Es n es).length),(10,.slice (some ⟨C,0,none⟩) (Es n es).length (Es n es).length),(11,.slice (some ⟨D,0,none⟩) (Es n es).length (Es n es).length),(88,S),(89,.int .i64 (IN n rs).length),(90,.int .i64 j)]/\
   o.own s=some (.cells (Bp L))/\o.own A=some (.cells (Bp V))/\o.own C=some (.cells (Bp ((Es n es).map fun a=>((Gn es es a:Nat):Int))))/\o.own D=some (.cells (Bp ((Es n es).map fun a=>((sA es ((IN n rs).take j) a:Nat):Int))))/\Le M o)
  (IN n rs).length [(7,pv),(8,.slice (some ⟨s,0,none⟩) n n),(9,.slice (some ⟨A,0,none⟩) (Es n es).length (Es n es).length),(10,.slice (some ⟨C,0,none⟩) (Es n es).length (Es n es).length),(11,.slice (some ⟨D,0,none⟩) (Es n es).length (Es n es).length),(88,S),(89,.int .i64 (IN n rs).length),(90,.int .i64 (0:Nat))] fD
  ⟨0,rfl,yM _,rfl,W,oA,oC,bH,I⟩ ?_
 clear bH oC O oA W I H;clear r j;rintro k fr r H ⟨j,rfl,U,rfl,W,oA,oC,O,I⟩;refine Uy ?_;refine Kl.intro (fun Q=>?_) (fun hf=>?_)
 .have d : j < (IN n rs).length := CC Q
  clear Q;have dA:=aX.Wm j d;obtain⟨u,X,hu⟩:=aX.NS j d;have aD:=X r I;obtain⟨bI,v,ag,dB⟩:=dz (IN n rs)[j] (eR d);have T:(IN n rs).take (j+1)=(IN n rs).take j++[(IN n rs)[j]]:=EL d;generalize (IN n rs)[j]=f at*;have cz:=hu.TA 0 bI;have cC:=(hu.le Nn.RP I).DH 0 bI;rw[Q6 bI,dB]at cC;simp only[Int.cast_ofNat_Int]at cz;obtain⟨q,J,bB,dx⟩:=HP.get hR ag;have ad:=Kx s n .i64 v ag;have bF:=XP W bB;have ar:=Kx D (Es n es).length .i64 q J;have av:=XP O (Y0 (f:=fun a=>((sA es ((IN n rs).take j) a:Nat):Int)) J);have hle:sA es ((IN n rs).take j) (Es n es)[q]<=40000:=Db (aaZ _ _ _) pw;have K:=El hle;have cE:=M0 O (i:=q) pw (((sA es ((IN n rs).take j) (Es n es)[q]:Nat):Int)+1);have aq:=bQ hR (l:=(IN n rs).take j) (e:=f) J pw;rw[<-T]at aq;rw[<-aq]at cE;have Y:=Tw j NH;refine Sk (rk dA aD cz cC ad bF ar av K cE Y) ?_;exact tn ((IN n rs).length-(j+1)) [(7,pv),(8,.slice (some ⟨s,0,none⟩) n n),(9,.slice (some ⟨A,0,none⟩) (Es n es).length (Es n es).length),(10,.slice (some ⟨C,0,none⟩) (Es n es).length (Es n es).length),(11,.slice (some ⟨D,0,none⟩) (Es n es).length (Es n es).length),(88,S),(89,.int .i64 (IN n rs).length),(90,.int .i64 (j+1:Nat))] (JS d) fD
   ⟨j+1,rfl,d,rfl,by grind [AHeap.By],by grind [AHeap.By],by grind [AHeap.By],AHeap.Y3 _ _ _,I.put _ nD⟩
 have y:(IN n rs).length<=j:=vp hf;rw[Og y]at O;clear y hf U;refine Sk lp ?_;refine gU.intro (fun k fr o=>∃(i:Nat),k=(Es n es).length-i/\i<=(Es n es).length/\fr=mkF [(9,.slice (some ⟨A,0,none⟩) (Es n es).length (Es n es).length),(10,.slice (some ⟨C,0,none⟩) (Es n es).length (Es n es).length),(11,.slice (some ⟨D,0,none⟩) (Es n es).length (Es n es).length),(107,.int .i64 (Es n es).length),(108,.int .i64 i)]/\
   (∀j (U:j<(Es n es).length),j<i->0<Gn es es (Es n es)[j]->(Ic n es (Es n es)[j]).length+sA es (IN n rs) (Es n es)[j]=Gn es es (Es n es)[j]+2)/\o=r)
  (Es n es).length [(9,.slice (some ⟨A,0,none⟩) (Es n es).length (Es n es).length),(10,.slice (some ⟨C,0,none⟩) (Es n es).length (Es n es).length),(11,.slice (some ⟨D,0,none⟩) (Es n es).length (Es n es).length),(107,.int .i64 (Es n es).length),(108,.int .i64 (0:Nat))] fD
  ⟨0,rfl,yM _,rfl,fun j _ h=>absurd h (xP _),rfl⟩ ?_
 rintro k fr o-⟨i,rfl,hi,rfl,dM,rfl⟩;refine Uy ?_;refine Kl.intro (fun Q=>?_) (fun hf=>?_)
 .have m : i < (Es n es).length := CC Q
  clear Q;have bW:=Kx A (Es n es).length .i64 i m;have aj:=Kx C (Es n es).length .i64 i m;have ar:=Kx D (Es n es).length .i64 i m;have b0:=XP oA (cc i m m);have al:=XP oC (Y0 (f:=fun a=>((Gn es es a:Nat):Int)) m);have av:=XP O (Y0 (f:=fun a=>((sA es (IN n rs) a:Nat):Int)) m);have hle:Gn es es (Es n es)[i]<=40000:=Db (ZD _ _ _) NH;have dE:sA es (IN n rs) (Es n es)[i]<=40000:=Db (aaZ _ _ _) NH;have dF:(Ic n es (Es n es)[i]).length<=40000:=Db (jH _ _ _) NH;have K:=cnt_ok2 hle;have b2:=cnt_ok3 dF dE;have aP:=Tw i NH;by_cases c1:0<Gn es es (Es n es)[i]
  .have d1 : decide (((Gn es es (Es n es)[i] : Nat) : Int) > 0) = true := decide_eq_true (cP.2 c1)
   by_cases c2:(Ic n es (Es n es)[i]).length+sA es (IN n rs) (Es n es)[i]=Gn es es (Es n es)[i]+2
   .have d2 : decide ((((Ic n es (Es n es)[i]).length : Nat) : Int) + ((sA es (IN n rs) (Es n es)[i] : Nat) : Int) = ((Gn es es (Es n es)[i] : Nat) : Int) + 2) = true := decide_eq_true (GJ.2 c2)
    refine Uy ?_;refine gh (tA [0,1,2,3,4,5,6,7,8,9,10,11,12,13,14,15,16,17,18,19,20,21] .done) ?_;refine CO (xu bW aj ar b0 al av K b2 d1 @d2 @bne.eq_1.{0} aP) ?_
    refine tn ((Es n es).length-(i+1)) [(9,.slice (some ⟨A,0,none⟩) (Es n es).length (Es n es).length),(10,.slice (some ⟨C,0,none⟩) (Es n es).length (Es n es).length),(11,.slice (some ⟨D,0,none⟩) (Es n es).length (Es n es).length),(107,.int .i64 (Es n es).length),(108,.int .i64 (i+1:Nat))] (JS m) fD
     ⟨i+1,rfl,m,rfl,fun j U aH hp=>?_,rfl⟩
    grind
   .have d2 : decide ((((Ic n es (Es n es)[i]).length : Nat) : Int) + ((sA es (IN n rs) (Es n es)[i] : Nat) : Int) = ((Gn es es (Es n es)[i] : Nat) : Int) + 2) = false := decide_eq_false (fun e => c2 (GJ.1 e))
    refine Uy ?_;refine gh (tA [0,1,2,3,4,5,6,7,8,9,10,11,12,13,14,15,16,17,18,19,20,21] .done) ?_;refine CO (rk bW aj ar b0 al av K b2 d1 @d2 @bne.eq_1.{0}) ?_
    grind [z8.not,Le.trans]
  .have d1 : decide (((Gn es es (Es n es)[i] : Nat) : Int) > 0) = false := decide_eq_false (fun e => c1 (cP.1 e))
   refine Uy ?_;refine gh (tA [0,1,2,3,4,5,6,7,8,9,10,11,12,13,14,15,16,17,18,19,20,21] .done) ?_;refine CO (rk bW aj ar b0 al av K b2 d1 @bne.eq_1.{0} aP) ?_
   refine tn ((Es n es).length-(i+1)) [(9,.slice (some ⟨A,0,none⟩) (Es n es).length (Es n es).length),(10,.slice (some ⟨C,0,none⟩) (Es n es).length (Es n es).length),(11,.slice (some ⟨D,0,none⟩) (Es n es).length (Es n es).length),(107,.int .i64 (Es n es).length),(108,.int .i64 (i+1:Nat))] (JS m) fD
    ⟨i+1,rfl,m,rfl,fun j U aH hp=>?_,rfl⟩
   grind
 have y:(Es n es).length<=i:=vp hf;refine Uy ?_;refine fin true ⟨fun _ a ha hp=>?_,fun _=>rfl⟩ _ (b4.trans I);obtain⟨q,en⟩:=qy.1 ha
 grind
end
end Go.Fw
