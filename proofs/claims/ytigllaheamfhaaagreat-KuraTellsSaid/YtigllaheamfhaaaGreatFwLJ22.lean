/- A text. -/
import Derived.Test.YtigllaheamfhaaaGreatFwLJ18
set_option linter.all false
set_option maxRecDepth 99999
set_option maxHeartbeats 9999999
open Go.Proofs
open Option renaming some→Z,none→Y
open Bool renaming true→tT,false→fF
open List renaming replicate→rP,range→rG
open Go.Value renaming slice→sL,pointer→pT
open Go renaming Value→vV
open Go.Proofs.Tryz renaming prog→pG
open Go.Proofs.Tryz
open List
namespace Go.Fw
section
attribute [local instance] Classical.propDecidable
attribute [local irreducible] Kp MQ lU KO1 KO KN KX KE VK Kl ZJ TC aab
variable {O i k m n:Nat} {bv:Value} {es:List Pr} {g h:aai} {l:II}
def box77(h:aai){n:Int}(hb:xO bv k):acB pG 98 [(0,n),(1,bv),(2,sL (Z O) m m)]=Z (.agg #[n,bv,sL (Z O) m m,rW,rW,rW])/\
  zF h (.agg #[n,bv,sL (Z O) m m,rW,rW,rW])=Z (pT (Z h.next),h.alloc (.cells [n,bv,sL (Z O) m m,rW,rW,rW])):=by
 obtain⟨_,_,rfl,_⟩:=hb;exact⟨by kernel_rfl,by kernel_rfl⟩
theorem ring_take(hi:i<l.length):(ZH l).take (i+1)=(ZH l).take i++[GW l[i] (l.getD ((i+1)%l.length) 0)]:=by grind[ZH,take_succ_eq_append_getElem]
theorem F9(l:II):(ZH l).length=l.length:=by simp[ZH]
theorem ring_bd(R:Ho n es l)(hR:InR n es)(d:n<=200):∀p∈ZH l,∃a b:Nat,p=((a:Int),(b:Int))/\a<1000/\b<1000:=fun p c=>by obtain⟨a,b,rfl,e,h2⟩:=jB hR (R.ik hR c);grind
theorem ring_len(R:Ho n es l)(hR:InR n es):l.length<=n:=by have:=acK R.nd (B:=rG n) fun v a=>j3.2 (R.lt hR a);grind
theorem rt_b(h:l.length<=n)(h2:(n:Int)<=200):((ZH l).take i).length+1<=100000:=by grind[F9]
theorem tk_b{a:List FM}(h:a.length<=m)(b:m<=594)(F:FM->wW):((a.take i).map F).length<=100000:=hGr
def build125{a b c:vV}(ha:xO a n)(hb:xO b m)(d:xO c k):acB pG 130 [(0,a),(1,b),(2,c)]=Z (.agg #[a,b,c]):=by obtain⟨_,_,rfl,_⟩:=ha;obtain⟨_,_,rfl,_⟩:=hb;obtain⟨_,_,rfl,_⟩:=d;kernel_rfl
def le_rem(X:II)(l:Le g h)(a:∀b∈X,g.own b=Y):Le g (rem X h):=l.iV a
theorem Si(J:abw)(ev:vV)(n:Nat)(es:xLP)(h:aai)(hp:PR h ev es)(hc:okc 2 ev)(hr:bX ⟨(n:Int),es⟩)(T2:zW n es):
  AC pG J 59 [.agg #[.int .i64 n,ev]] h fun x h'=>∃g' B O bv fv iv lv us ws cs,x=pT (Z ⟨B,0,Y⟩)/\Le h g'/\
   ShS g' h' B O n (Zh n es) bv fv iv lv us ws cs (ahf n es).on (ahf n es).Jv (ahf n es).Jv (ahf n es).left/\Ho n es (zl n es):=by
 have hR:=hr.GD;have hA:=hr.q9;have aV:(n:Int)<=200:=hr.n1;have cf:es.length<=594:=hr.len;have⟨p0,rest,aa⟩:=eR (T2.es_ne hR);obtain⟨a,b,rfl,fw,hb⟩:=jB hR (show p0∈es by grind);have dL:es.drop 1=rest:=by rw[aa];rfl
 have dM:bX ⟨(n:Int),rest⟩:=by grind[bX.tail]
 have ae:Pu rest b a:=T2.less hR NH hb NH fun x y dO fx=>by
  rcases dO with h|h
  .rw[aa]at h;rcases Og.1 h with e|h
   .grind
   .exact .inl h
  .rw[aa]at h;rcases Og.1 h with e|h
   .grind
   .exact .inr h
 have fy:rest.length<=594:=hGr;refine AC.vF func59 ntmps59 results59 fun dS=>?_;obtain⟨h1,b1,cg,dT,-,A⟩:=r8 (n:=(n:Int)) dS hp
 generalize h.next=B1 at*
 have cj:=A h1 (Le.refl _);have aE:=hp.le cg;have ck:=aE.addr (k:=.i64) 0 hGr;have dV:=aE.load (i:=0) (p:=((a:Int),(b:Int))) (by rw[aa];rfl);have⟨h2,h3,e2,e3,l3,w3,o3⟩:=Ut dT ((a:Int),(b:Int))
 generalize h1.next=E at*
 have fT:=A h3 l3;simp only[Gg]at ck;refine Sk (aoh b1 @Di @Ip.eq_1 @Gc cj.2.2 ck dV e2 e3) ?_;have dW:=aE.le l3;obtain⟨rv,K,G,-⟩:=dW.cut hc (i:=1) hGr;rw[dL]at G;simp only[qL223]at K;apply Ya (F:=fun(fr:aam)(h5:aai)=>∃(X:Nat)(cv:vV),Fj fr [(1,pT (Z B1)),(3,pT (Z E)),(4,pT (Z X))]/\Le h3 h5/\WF h5/\PR h5 cv rest/\∀g,Le h5 g->aaC pG g 24 ⟨X,0,Y⟩=Z (.agg #[.int .i64 n,cv]))
 .intro cont;refine gh (tA [0,1,2,3,4] (.ch 5 [4] (tA [6] (JQ 7 [] (JQ 8 [0,1,2,3,4,5,6,7] .done))) (JQ 7 [] (JQ 5 [4] (tA [6] (JQ 8 [0,1,2,3,4,5,6,7] .done)))))) ?_
  have dZ:∃g,h3.alloc (.cells [.int .i64 0,.slice Y 0 0])=g/\Le h3 g/\WF g/\g.own h3.next=Z (.cells [.int .i64 0,.slice Y 0 0]):=Tt w3 _
  have⟨q1,y1,m1,v1,u1⟩:=dZ
  have aF:abO pG h3 24=Z (pT (Z h3.next),q1):=by rw[Lo,y1]
  have Q1:=A q1 (l3.trans m1);simp only[kJJ,seval,Qg,Ii,Di,Ip,Gc,fT.2.1,fT.2.2,K,aF,Q1.2.1,Q1.2.2];refine⟨?_,?_⟩
  .refine kGi qS33 (DA J rv rest h3 G NH) ?_;rintro cv h4 w4 ⟨gc,l4,-⟩;have A4:=A h4 (l3.trans l4);have ag:=Wj (n:=(n:Int)) gc.pr.sl;have⟨h5,C,a5,s5,l6,w6,lG⟩:=newG (n:=(n:Int)) w4 gc.pr;have A5:Le h4 h5:=by grind[Lo,Le.refl,Le.alloc]
   have A5:=A h5 ((l3.trans l4).trans A5);have A6:=A C ((l3.trans l4).trans l6);simp only[kJJ,seval,Qg,Ii,Di,Ip,Gc,A4.2.1,A4.2.2,K,ag,a5,s5,A5.2.1,A5.2.2,A6.2.1,A6.2.2];refine KN.UJ fun fr' h' x y=>cont fr' h' ?_;subst x y;exact⟨_,cv,hAs,l4.trans l6,w6,gc.pr.le l6,fun g l=>(lG g l).1⟩
  .refine kGi qS33 (DA J rv rest q1 (G.le m1) NH) ?_;rintro cv h4 w4 ⟨gc,l4,ac⟩;have A4:=A h4 ((l3.trans m1).trans l4);have ag:=Wj (n:=(n:Int)) gc.pr.sl
   have nX:blk cv≠Z h3.next:=fun e=>by have:=ac _ e;rw[u1]at this;cases this
   have oX:=l4.own _ _ u1
   have n1:h3.own h3.next=Y:=(Le.refl h3).next w3 (qL0 _)
   have one:=gc.pr.sl.one;have aW:UA pG 24=2:=Ji;have ec:(vV.agg #[.int .i64 (n:Int),cv]).cells=#[.int .i64 (n:Int),cv]:=rfl;have ed:(vV.int IntKind.i64 (n:Int)).oneCell'=tT:=rfl
   have st:aaK pG h4 24 (pT (Z h3.next)) (.agg #[.int .i64 (n:Int),cv])=Z (h4.put h3.next (.cells [.int .i64 (n:Int),cv])):=by simp[aaK,oX,ec,aW,putCells,qS5,one,ed]
   have ho:(h4.put h3.next (.cells [.int .i64 (n:Int),cv])).own h3.next=Z (.cells [.int .i64 (n:Int),cv]):=aai.Y3 _ _ _
   have l5:Le h3 (h4.put h3.next (.cells [.int .i64 (n:Int),cv])):=(m1.trans l4).put _ n1
   have A5:=A _ (l3.trans l5);simp only[kJJ,seval,Qg,Ii,Di,Ip,Gc,A4.2.1,A4.2.2,K,ag,st,A5.2.1,A5.2.2];refine KN.UJ fun fr' h' x y=>cont fr' h' ?_;subst x y
   exact⟨h3.next,cv,hAs,l5,w4.put _ (w4.lt oX),GP.pr (GS.put gc _ nX),fun g l=>by rw[Wx qS5 rfl aW (l.own _ _ ho) Ma];rfl⟩
 rintro fr h5 ⟨X,cv,D,cm,w5,cp,lX⟩;simp only[Fj]at D;obtain⟨f1,f3,f4,-⟩:=D;have cq:=cm.own _ _ o3;refine Sk (Pj f1 f3 f4 (lX h5 (Le.refl _)) @Dh @Z0 @Ip.eq_1 @Gc (lK cq) (HY cq)) ?_;refine kCi func84 (Path_fun J _ ⟨(n:Int),rest⟩ (a:Int) (b:Int) h5 ⟨cv,rfl,cp⟩) ?_;rintro x C w6 ⟨l6,lv,er,rfl,fq,H⟩;simp only[yM]at H;have⟨k1,k2⟩:=H dM NH NH NH NH;have⟨gl,al,cx⟩:=k2 (k1.2 ae);have⟨ee,Rg⟩:=ringM_ok hr aa cx ae;rw[ee]at gl;have z:=(l3.trans cm).trans l6;have A6:=A C z;have bA:=aE.le z;have bB:GR C (.agg #[.int .i64 (n:Int),ev]) ⟨(n:Int),es⟩:=⟨ev,rfl,bA⟩;generalize bF:zl n es=l at*;have I:=ring_len Rg hR;have ef:er=0:=k1.2 ae;subst ef;refine Sk f1 ?_;clear H k1 k2 lX cp;apply Ya (F:=fun(fr:aam)(h9:aai)=>∃(B O:Nat)(bv:vV)(M:aai),Fj fr [(1,pT (Z B1)),(5,lv),(7,pT (Z ⟨B,0,Y⟩))]/\WF h9/\h9.own B=Z (.cells [.int .i64 (n:Int),bv,sL (Z ⟨O,0,Y⟩) n n,rW,rW,rW])/\h9.own O=Z (.cells (Bo (rP n fF)))/\B≠O/\Le C M/\M.own B=Y/\M.own O=Y/\Le M h9/\RL (RL RP) M bv (Zh n es))
 .intro cont;have bo:Bo (rP n fF)=rP n (.bool fF):=by simp[Bo]
  have⟨q1,y1,m1,v1,u1⟩:=Tt w6 (rP n (.bool fF));have aF:=mk100 C n NH;rw[y1]at aF;have Q1:=A q1 (z.trans m1);refine gh (tA [0,1,2,4,5] (.ch 3 [2] (JQ 6 [5] (tA [7] (JQ 8 [7] (tA [9] .done)))) (JQ 6 [5] (JQ 3 [2] (tA [7] (JQ 8 [7] (tA [9] .done))))))) ?_;simp only[kJJ,seval,Qg,f1,Ii,Ip,Gc,A6.1,A6.2.1,aF,Q1.1,Q1.2.1];refine⟨?_,?_⟩
  .refine kGi ap3 (oe J _ n es C bB hr) ?_;rintro bv h7 w7 ⟨r,l7⟩;have A7:=A h7 (z.trans l7);have⟨h8,y8,l8,w8,o8⟩:=Tt w7 (rP n (.bool fF));have cz:=mk100 h7 n NH;rw[y8]at cz;have A8:=A h8 ((z.trans l7).trans l8)
   have⟨bH,ai⟩:=box77 h8 (n:=(n:Int)) (O:=h7.next) (m:=n) r.sl
   have⟨h9,y9,l9,w9,o9⟩:=Tt w8 [.int .i64 (n:Int),bv,sL (Z h7.next) n n,rW,rW,rW]
   rw[y9]at ai;have A9:=A h9 (((z.trans l7).trans l8).trans l9);simp only[kJJ,seval,Qg,f1,Ii,Ip,Gc,A7.1,A7.2.1,A8.1,A8.2.1,A9.1,A9.2.1,cz,bH,ai];refine KN.UJ fun fr' h' x y=>cont fr' h' ?_;rw[x,y]
   exact⟨h8.next,h7.next,bv,h7,(by simp only[Fj,HO,seval,f1];simp),w9,o9,by rw[bo];exact l9.own _ _ o8,fun e=>by have:=w8.lt o8;omega,l7,l8.next w8 (qL0 _),(Le.refl h7).next w7 (qL0 _),l8.trans l9,r⟩
  .have hk:Le C (q1.kill C.next):=m1.aiY ((Le.refl C).next w6 (qL0 _))
   refine kGi ap3 (AC.frame u1 (oe J _ n es (q1.kill C.next) (bB.le hk) hr)) ?_
   rintro bv h7 w7 ⟨g7,⟨r,l7⟩,cC,rfl⟩;have bI:=hk.trans l7;have aH:=Le.Y5 cC (.cells (rP n (.bool fF)))
   have o7:(g7.put C.next (.cells (rP n (.bool fF)))).own C.next=Z (.cells (rP n (.bool fF))):=aai.Y3 _ _ _
   generalize g7.put C.next (.cells (rP n (.bool fF)))=h7 at*
   have A7:=A h7 ((z.trans bI).trans aH)
   have⟨bH,ai⟩:=box77 h7 (n:=(n:Int)) (O:=C.next) (m:=n) r.sl
   have⟨h9,y9,l9,w9,o9⟩:=Tt w7 [.int .i64 (n:Int),bv,sL (Z C.next) n n,rW,rW,rW]
   rw[y9]at ai;have A9:=A h9 (((z.trans bI).trans aH).trans l9);simp only[kJJ,seval,Qg,f1,Ii,Ip,Gc,A7.1,A7.2.1,A9.1,A9.2.1,bH,ai];refine KN.UJ fun fr' h' x y=>cont fr' h' ?_;rw[x,y]
   exact⟨h7.next,C.next,bv,g7,(by simp only[Fj,HO,seval,f1];simp),w9,o9,by rw[bo];exact l9.own _ _ o7,fun e=>by have:=w7.lt o7;omega,bI,aH.next w7 (qL0 _),cC,aH.trans l9,r⟩
 rintro fr h9 ⟨B,O,bv,M,D,w9,oB,oO,eg,aj,gB,gO,cE,r⟩;simp only[Fj]at D;obtain⟨f1,f5,f7,-⟩:=D;have aJ:=gl.le aj;have fB:=al;have lr:∀g,aeh pG g 47 lv=Z (.int .i64 (l.length:Nat)):=fun g=>by have:=gl.rl.TA g;grind[y6]
 have eh:=sB B 2 NH;simp only[HO,seval,f5,lr];refine aab.intro (fun k fr s=>∃(i:Nat)(wv:vV),k=l.length-i/\i<=l.length/\fr=mkF [(1,pT (Z B1)),(5,lv),(7,pT (Z ⟨B,0,Y⟩)),(8,wv),(45,lv),(46,(l.length:Nat)),(47,(i:Nat))]/\
   s.own B=Z (.cells [.int .i64 (n:Int),bv,sL (Z ⟨O,0,Y⟩) n n,rW,rW,rW])/\s.own O=Z (.cells (Bo (tV (rP n fF) (l.take i))))/\Le M s/\GP s wv ((ZH l).take i)/\Z2 M wv/\blk wv≠Z B/\blk wv≠Z O)
  l.length [(1,pT (Z B1)),(5,lv),(7,pT (Z ⟨B,0,Y⟩)),(8,rW),(45,lv),(46,(l.length:Nat)),(47,(0:Nat))] (by simp only[Fj,HO,seval,f1,f5,f7];simp)
  ⟨0,_,rfl,Z6 _,rfl,oB,oO,cE,GP.nil _,fun b hb=>by grind[blk],by simp[blk],by simp[blk]⟩ ?_
 clear f1 f5 f7 oB oO cE w9;clear h9;rintro k fr s aq ⟨i,wv,rfl,hi,rfl,oB,oO,ar,gw,bN,bQ,aK⟩;refine Uy ?_;refine Kl.intro (fun ht=>?_) (fun hf=>?_)
 .have d:i<l.length:=acb ht;clear ht;have ei:=aJ.le ar;have ad:∀q,q<l.length->aao pG 47 lv (.int .i64 (q:Int))=Z (pT (Z (aaq lv q))):=fun q T=>ei.rl.DH q (by rw[y6];exact T);have ld:∀g,Le M g->∀q (T:q<l.length),aaC pG g 3 (aaq lv q)=Z (.int .i64 ((l.getD q 0:Nat):Int)):=fun g lg q T=>by rw[(aJ.le lg).rl.Uc q (by rw[y6];exact T),sY T,D4 T]
  have cJ:(i+1)%l.length<l.length:=Q4 _ NH;have hv:l.getD i 0<n:=by rw[D4 d];exact Rg.lt hR (aaf d)
  have bT:l.take (i+1)=l.take i++[l[i]]:=XJ d;have cK:=ring_take d;have ej:l.getD i 0=l[i]:=D4 d;rw[<-ej]at cK bT;have ek:aao pG 94 (sL (Z ⟨O,0,Y⟩) n n) ((l.getD i 0:Nat):Int)=Z (pT (Z ⟨O,l.getD i 0,Y⟩)):=by rw[Wc Uh eY Ji _ hv];simp[Ip]
  have ZA:(tV (rP n fF) (l.take i)).length=n:=by
   have:∀(w:II)(o:List Bool),(tV o w).length=o.length:=fun w=>by
    induction w with
    |nil=>intro o;rfl
    |cons x w ih=>intro o;show(tV (o.set x tT) w).length=_;grind
   grind
  have en:(tV (rP n fF) (l.take i)).set (l.getD i 0) tT=tV (rP n fF) (l.take (i+1)):=by rw[bT];unfold tV;grind
  have st:aaK pG s 4 (pT (Z ⟨O,l.getD i 0,Y⟩)) (.bool tT)=Z (s.put O (.cells (Bo (tV (rP n fF) (l.take (i+1)))))):=by rw[QB (P:=pG) (t:=4) (x:=.bool tT) eY Ji oO (off:=l.getD i 0) (by rw[ahm,ZA];exact hv) rfl rfl,Tr,en]
  have eo:aaC pG s 94 ⟨B,2,Y⟩=Z (sL (Z ⟨O,0,Y⟩) n n):=by rw[Fq Uh rfl oB];rfl
  have w8:WF (s.put O (.cells (Bo (tV (rP n fF) (l.take (i+1)))))):=aq.put _ (aq.lt oO);have ep:(s.put O (.cells (Bo (tV (rP n fF) (l.take (i+1)))))).own O=Z (.cells (Bo (tV (rP n fF) (l.take (i+1))))):=aai.Y3 _ _ _;have et:(s.put O (.cells (Bo (tV (rP n fF) (l.take (i+1)))))).own B=Z (.cells [.int .i64 (n:Int),bv,sL (Z ⟨O,0,Y⟩) n n,rW,rW,rW]):=by grind[aai.By]
  have cM:Le M (s.put O (.cells (Bo (tV (rP n fF) (l.take (i+1)))))):=ar.put _ gO;have eu:GP (s.put O (.cells (Bo (tV (rP n fF) (l.take (i+1)))))) wv ((ZH l).take i):=GS.put gw _ aK;generalize s.put O (.cells (Bo (tV (rP n fF) (l.take (i+1)))))=h8 at*;have aw:=aaa i (Lb d (jz I NH));have nz:=nz_len d;have ew:=Wt d;have ey:=Y7 (a:=i+1) (FI d) (jz I NH);simp only[HO,seval,ad i d,ld s ar i d,eh,eo,ek,st,lr,aw,nz,ew,ey,ad _ cJ,ld h8 cM _ cJ];refine kCi func85 (pair_any J (l.getD i 0) (l.getD ((i+1)%l.length) 0) h8) ?_;rintro x h9 w9 ⟨rfl,aL⟩;have⟨eA,fC,fD,eB,eC,cN,fJ,fL,cP,aX⟩:=(eu.le aL).push w9 (GW (l.getD i 0) (l.getD ((i+1)%l.length) 0)) (rt_b I aV);have⟨cR,eD⟩:=cP M (cM.trans aL) bN;have⟨cU,cW⟩:=aX B _ (aL.own _ _ et) bQ;have⟨cZ,c0⟩:=aX O _ (aL.own _ _ ep) aK;rw[<-cK]at cN;simp only[HO,seval,eB,eC,aw];exact lgA (JS d) ⟨i+1,eA,rfl,d,rfl,cU,cZ,cR,cN,eD,cW,c0⟩
 have aN:l.length<=i:=vp hf;rw[HV aN]at oO;rw[HV (by grind[F9])]at gw;clear aN hf hi;refine Uy ?_;have bW:l.length<=100000:=jz I NH;refine kCi func86 (CH J gw (by rw[F9];exact bW) (ring_bd Rg hR NH)) ?_;rintro x aP eE ⟨rfl,gs,N⟩;have kw:∀b o,s.own b=Z o->blk wv≠Z b->aP.own b=Z o:=fun b o ho hb=>(N (rem (bl wv) s) (Sa _ _) fun c hc=>by grind[DC,Zr]).own _ _ (Th.2 ⟨ho,fun m=>hb (Zr.1 m)⟩);have a6:=kw B _ oB bQ;have a7:=kw O _ oO aK;have av:=N M ar bN;refine Uy ?_;refine kCi qS30 (QY J lv (kz l) aP (aJ.le av).rl (by rw[y6];exact bW)) ?_;rintro bY c3 eF ⟨c4,c5,bZ⟩;refine Uy ?_;refine kCi qS31 (Wk J bY (kz l) c3 c4 (by rw[y6];exact bW)) ?_;rintro x U fM ⟨b0,c6,eG⟩;have ay:=c6 aP c5 bZ;have eH:(kz l).reverse=kz l.reverse:=by simp[kz]
 rw[eH]at b0;have a8:=ay.own _ _ a6;have ba:=ay.own _ _ a7;have bb:=av.trans ay;have hX:∀b∈[B,O],M.own b=Y:=fun b hb=>by grind
 have V:Le M (rem [B,O] U):=le_rem _ bb hX;have c9:∀b,blk bY=Z b->b∉[B,O]:=fun b hb m=>by have:=bZ b hb;grind
 have da:∀b,blk wv=Z b->b∉[B,O]:=fun b hb m=>by grind
 have bg:GI (rem [B,O] U) bY (kz l.reverse):=GS.Fi b0 c9;have bh:GP (rem [B,O] U) wv (aa5 (ZH l)):=GS.Fi (GP.le gs ay) da;have bj:=aJ.le V;have ZA:(tV (rP n fF) l).length=n:=by
  have:∀(w:II)(o:List Bool),(tV o w).length=o.length:=fun w=>by
   induction w with
   |nil=>intro o;rfl
   |cons x w ih=>grind[tV,List.length_set]
  grind
 have S0:ShS (rem [B,O] U) U B O n (Zh n es) bv rW rW rW [] [] [] (tV (rP n fF) l) [] [] []:={
  f:=⟨a8⟩
  oO:=ba
  ZA:=ZA
  gF:=GS.nil _ _
  uL:=rfl
  u1:=rfl
  gI:=GS.nil _ _
  wL:=rfl
  w1:=rfl
  gL:=GS.nil _ _
  cuL:=.inl rfl
  c1:=rfl
  sep:=⟨fun i j u w b fN hu hw hb=>by
    have:u=rW:=by have:=BS hu;grind
    grind[blk],fun i u b hu hb=>by
    grind[blk],fun i u hu b hb=>by grind[blk],Sa _ _⟩
  gB:=by grind[DC]
  gO:=by grind[DC]
  bO:=eg
  nb:=fun u hu=>by grind[blk]
  cF:=fun i u f hu=>by simp at hu
  cI:=fun i u f hu=>by simp at hu
  cL:=fun i p hp=>by simp at hp
  cB:=r.le (Nn.RL Nn.RP) V}
 generalize rem [B,O] U=db at*;have dc:Le h db:=((cg.trans z).trans aj).trans V;have gA:=A db ((z.trans aj).trans V);clear oB oO ar gw bN bQ aK gs N kw c4 c5 bZ b0 c6 eG a8 ba a6 a7 ay bb av c9 da hX eE eF aq;clear aP c3 s;refine Uy ?_;have dd:∀x∈l,x<n:=fun x hx=>Rg.lt hR hx;refine kCi func90 (IU J S0 bj.rl dd NH (jz I NH) Ma) ?_;rintro x fP fQ ⟨fR,fS,fU,fV,fW,S1,de⟩;refine Uy ?_;refine kCi func90 (IU J S1 ((bg.le de).rl) (f:=l.reverse) (fun x hx=>dd x (Yq.1 hx)) NH (by rw[Dl];exact jz I NH) Ma) ?_;rintro x eI fY ⟨fZ,az,aA,eL,eM,S2,eO⟩;have R:=de.trans eO;simp only[Cj,qL183]at S2;have df:=A eI ((((z.trans aj).trans V).trans R).trans S2.le);have bk:=bh.le R;have bm:=(bA.le (aj.trans V)).le R;have⟨eP,b2⟩:=S2.reg;refine Sk df.1 ?_;refine kCi func91 (S2.side (iN J _ wv ⟨(n:Int),es⟩ (aa5 (ZH l)) _ ⟨ev,rfl,bm.le b2⟩ (bk.le b2).pr (by rw[ZS,F9];exact jz I NH))) ?_;rintro x eQ eS ⟨b3,⟨eT,e2,rfl,D⟩,S3,b4,dg,eU⟩;have dj:=Rg.web hR;simp only[yM]at D;rcases D with⟨q,-⟩|⟨-,q,-⟩|⟨-,-,rfl,L,hT,aT⟩
 .exact absurd hr q
 .exact absurd dj q
 rw[frag_tog hR hA.nodup hT (uY (n:=n) (on:=Qw n (aa5 (ZH l))) (es:=es))]at aT;have I0:=Rg.start hR hA (L:=MF n (Qw n (aa5 (ZH l))) es) uY;have dk:ahf n es=Mw n es l (MF n (Qw n (aa5 (ZH l))) es):=by unfold ahf;rw[bF]
 rw[dk];have dm:=I0.Vw;have br:(Mw n es l (MF n (Qw n (aa5 (ZH l))) es)).on=tV (rP n fF) l:=rfl;have bx:(Mw n es l (MF n (Qw n (aa5 (ZH l))) es)).Jv=[l,l.reverse]:=rfl;have aB:(Mw n es l (MF n (Qw n (aa5 (ZH l))) es)).left=(LJ n es (aa5 (ZH l)) (MF n (Qw n (aa5 (ZH l))) es)).map fun f=>⟨f.zp,f.Fm,zh [l,l.reverse] f.Fm [0,1]⟩:=rfl;have b5:∀f∈LJ n es (aa5 (ZH l)) (MF n (Qw n (aa5 (ZH l))) es),(∀x∈f.Fm,∃v:Nat,x=(v:Int)/\v<n)/\f.Fm.length<=n:=fun f hf=>by have hm:(⟨f.zp,f.Fm,zh [l,l.reverse] f.Fm [0,1]⟩:wW)∈(Mw n es l (MF n (Qw n (aa5 (ZH l))) es)).left:=hGr;exact⟨I0.abJ hR hm,I0.UO hR hm⟩
 rw[aB,wI]at dm;rw[br,bx,aB];generalize LJ n es (aa5 (ZH l)) (MF n (Qw n (aa5 (ZH l))) es)=N at*;have eV:=aT.len;have dp:=sB B 5 NH;have ft:Le h b3:=(dc.trans R).trans (b2.trans dg);clear br bx aB dk I0 hT S2 eP S1 S0 A A6 df fT cj bk bm gA bh bg bA bB bj;refine Sk eV ?_;refine lIn (fun k fr s=>∃(i:Nat)(g:aai)(cs:xLV)(W:vV),k=N.length-i/\i<=N.length/\fr=mkF [(7,pT (Z ⟨B,0,Y⟩)),(90,eT),(91,(N.length:Nat)),(92,(i:Nat))]/\
   ShS g s B O n (Zh n es) bv az aA W eL eM cs (tV (rP n fF) l) [l,l.reverse] [l,l.reverse] ((N.take i).map fun f=>⟨f.zp,f.Fm,zh [l,l.reverse] f.Fm [0,1]⟩)/\Le b3 g) ⟨0,b3,[],rW,rfl,Z6 _,rfl,S3,Le.refl _⟩ ?_
 clear S3 eS b4 eU;clear eQ;rintro k fr s aq ⟨i,g,cs,W,rfl,hi,rfl,S,lg⟩;refine Uy ?_;refine Kl.intro (fun ht=>?_) (fun hf=>?_)
 .have d:i<N.length:=acb ht;clear ht;have eW:=qL7 d;have⟨a',b',b6,ra,rb⟩:=aT.load eW;have eX:=aT.addr (k:=.i64) i d;have⟨eZ,dq⟩:=b5 _ (aaf d);have bT:N.take (i+1)=N.take i++[N[i]]:=XJ d;generalize N[i]=f at*;have b6:=b6 s (lg.trans S.le);have ra:=ra.le lg;have rb:=rb.le Nn.RP lg;have⟨ga,b8,e0,e1,e5,e6,nQ,oQ⟩:=new41' aq ra.sl rb.sl
  have dQ:s.next∉B::O::(bl az++bl aA++bl W):=fun m=>(S.own (HX.1 m)).2 nQ
  have dr:=S.up e5
  generalize s.next=Q at*
  have⟨dv,e7,b9,gf,e8⟩:=Tt e6 [.int .i64 0,.int .i64 1];have mk:=mk2 b8 0 1;rw[e7]at mk;have aC:=dr.up b9
  have e9:RL RP dv (sL (Z b8.next) 2 2) (kz [0,1]):=RL.Wh (RS.whole e8 rfl)
  have dw:=ld41 (b9.own _ _ oQ);have dy:=ld41 oQ;have dz:=aC.f;have aw:=aaa i (Lb d (QJ NH));refine Sk (xU eX b6 e0 e1) ?_;refine gh (fRn 0 12 (JQ 12 [] (JQ 13 [9,11,12] (tA [14] (JQ 15 [14] (JQ 16 [4,13,15] (tA [17,18] (JQ 19 [0,1,2,3,4,5,6,7,8,9,10,11,12,13,14,15,16,18] .done)))))))) ?_;simp only[HO,seval,Qg,dp,ff0,ff1,Ip,Gc,dr.f.l5,dz.l5,dy.2.1,dy.2.2,dw.2.1,dw.2.2,mk]
  refine kGi qS32 (NR J B n bv _ az aA W b' (sL (Z b8.next) 2 2) [l,l.reverse] f.Fm [0,1] dv dz aC.rlI ((rb.le Nn.RP aC.le)) e9 eZ Ma (sr dq aV) Ma) ?_
  rintro y cc fb ⟨dA,dB,fc⟩;have bz:=dB.own _ _ (b9.own _ _ oQ);have dE:=ld41 bz;have fe:(Hg cc B O az aA W).own Q=Z (.cells [a',b']):=by grind[Hg,DC]
  have⟨cd,aD⟩:=(aC.up dB).reg;have gy:GI (Hg cc B O az aA W) y (kz (zh [l,l.reverse] f.Fm [0,1])):=Pv (h:=cc) aC dA fc;have⟨fg,gg,gi,gj,fh,fi,fk,gk,gn,dF,fm,dH⟩:=cd.pushL fb (a:=a') (b:=b') (c:=y) (p:=⟨f.zp,f.Fm,zh [l,l.reverse] f.Fm [0,1]⟩) (ra.le aD) (rb.le Nn.RP aD) gy.rl (tk_b dm cf _);have dI:=ld41 (dF.own _ _ bz);have dJ:=ld41 (dH.own _ _ fe);have fp:=cd.f.le dF;have ag:=build125 ra.sl rb.sl dA.rl.sl;simp only[HO,seval,Qg,dp,ff0,ff1,Ip,Gc,cd.f.l5,fp.l5,fm.l5,dE.2.1,dE.2.2,dI.2.1,dI.2.2,dJ.2.1,dJ.2.2,ag,fh,fi,fk,aw];refine lgA (JS d) ⟨i+1,_,cs++[a',b',y],fg,rfl,d,rfl,?_,lg.trans aD⟩;grind
 have aN:N.length<=i:=vp hf;rw[HV aN]at S;refine Uy ?_;grind[Le.trans]
variable {B v:Nat} {F:Cs} {S:ShM} {cs us ws:List Value} {fv iv lv:Value} {left:List wW} {rows:AM}
theorem Nb(d:abw)(v:vV)(n:Nat)(es:xLP)(h:aai)(hg:GR h v ⟨(n:Int),es⟩)(e:bX ⟨(n:Int),es⟩):
  AC pG d 58 [v] h fun x h'=>adP (zW n es) x/\Le h h':=by
 have c:=hg
 obtain⟨ev,rfl,u⟩:=hg.open
 refine AC.vF func58 ntmps58 results58 fun i=>?_;obtain⟨o,p,a,w,-,q⟩:=r8 (n:=(n:Int)) i u
 generalize h.next=B at*
 have b:=q o (Le.refl _);by_cases r:(n:Int)<3
 .have j:decide ((n:Int)<3)=tT:=EL r;refine Sk (bG p @Ii @Ip.eq_1 @Gc b.2.1 j) ?_;exact⟨adP.f fun T=>by have:=T.n3;omega,a⟩
 have j:decide ((n:Int)<3)=fF:=Sb r;have h3:3<=n:=NH;refine Sk (rE p @Ii @Ip.eq_1 @Gc b.2.1 b.1 j) ?_;refine kCi func83 (Parts_any d _ ⟨(n:Int),es⟩ o (c.le a) e) ?_;rintro pv s D ⟨gp,l4,-⟩;simp only[yM]at gp;have y:=gp.rl (Nn.RL Nn.RP);have k:=fun g=>y.qP5 g;have l:((Gx n es n).map kz).length=(Es n es).length:=by simp[Gx]
 rw[l]at k;have m:=q s l4;by_cases c1:((Es n es).length:Int)=1
 rotate_left
 .have d1:decide (((Es n es).length:Int)=1)=fF:=Sb c1;refine Sk (Yb k @bne.eq_1.{0} d1) ?_
  grind[adP.f,zW.one,Le.trans]
 have d1:decide (((Es n es).length:Int)=1)=tT:=EL c1;have z:(Es n es).length=1:=NH;refine Sk (xU k @bne.eq_1.{0} d1 m.1) ?_
 refine kCi func21 (Cw d _ ⟨(n:Int),es⟩ s (c.le (a.trans l4))) ?_;rintro x E F ⟨l5,⟨A,_⟩|⟨_,G,rfl,t⟩⟩
 .exact absurd e A
 simp only[yM]at t;have C:=fun g=>t.len (P:=pG) sU g;have H:=Uv e h3 z;refine Sk C ?_;refine⟨⟨_,rfl,?_⟩,(a.trans l4).trans l5⟩;grind
noncomputable def embX(n:Nat)(es:xLP):Option AM:=if 3*n<es.length+6 then Y else embM n es
theorem left_nil{H:Nat->Nat->Prop}(hR:InR n es)(hA:D3 es)(D:QG (eN n es))(I:Z8 n es H S)(h:OW es H=0):S.left=[]:=by
 rcases run_ok hR hA D 0 H S I NH with⟨a,-⟩|⟨b,c,a,-,h3⟩
 all_goals grind[runM]
theorem run_nil(h:S.left=[]):∀k,runM n rows k S=Z S
 |0=>rfl
 |k+1=>by grind[runM.eq_2]
theorem ShS.rlF{on:List Bool}{b d:Cs}(S:ShS g h B O n rows bv fv iv lv us ws cs on b d left):RL (RL RP) h fv (b.map kz):=
 ⟨us,(GS.cs S.gF).rs,by grind[ShS.uL],fun i x u a e=>by
  rw[aiq]at a;cases c:b[i]? with
  |none=>grind
  |some f=>rw[c]at a;simp at a;subst a;exact(S.cF i u f e c).le Nn.RP S.le⟩
theorem face_bd{r:Nat->II}(G:abK n r F):∀f∈F,(∀x∈f,x<n)/\f.length<=n:=fun f hf=>by have a:∀x∈f,x<n:=fun x b=>G.Rl.lt _ _ (G.O.akH G.Rl hf b);refine⟨a,?_⟩;have:=acK (G.O.nd f hf) (B:=rG n) fun v c=>j3.2 (a v c);grind
theorem row_pos(a:zW n es)(hR:InR n es)(b:v<n):0<((Zh n es).getD v []).length:=by have⟨w,hw⟩:=a.ne hR b;have⟨u,c,e⟩:=eR ((aU hR).2 ⟨w,hw⟩);grind[qG,Av.back]
theorem row_le(b:v<n):((Zh n es).getD v []).length<=2*es.length:=by
 have a:v<(Zh n es).length:=by grind[Xq]
 rw[D4 a];exact bV n es _ (aaf a)
def GRc(h:aai)(v:vV)(G:GM):Prop:=∃ev,v=.agg #[G.n,ev]/\PR h ev G.es/\okc 2 ev
def GRc.gr{v:vV}{G:GM}(g:GRc h v G):GR h v G:=by obtain⟨ev,a,h2,-⟩:=g;exact⟨ev,a,h2⟩
def ao6(G:GM)(h':aai)(a:vV)(e:Int):Prop:=
 (¬bX G/\e=20/\a=rW)\/(bX G/\¬zW G.n.toNat G.es/\e=60/\a=rW)\/
 (bX G/\zW G.n.toNat G.es/\embX G.n.toNat G.es=Y/\¬XU G.n.toNat (eN G.n.toNat G.es)/\e=90/\a=rW)\/
 (bX G/\zW G.n.toNat G.es/\∃rs,embX G.n.toNat G.es=Z rs/\Av G.n.toNat G.es rs/\Flat G.n.toNat (Xl rs)/\e=0/\RL (RL RP) h' a rs)
theorem Embed_any(t:abw)(v:vV)(G:GM)(h:aai)(hg:GRc h v G):
  AC pG t 40 [v] h fun x h'=>Le h h'/\∃rv e,x=.tuple #[rv,.int .i64 e]/\ao6 G h' rv e:=by
 have z:=hg.gr;obtain⟨ev,rfl,N,hc⟩:=hg;have⟨gn,es⟩:=G;simp only at N;refine AC.vF func40 ntmps40 results40 fun Q=>?_;obtain⟨h1,b1,p,az,-,R⟩:=r8 (n:=gn) Q N
 generalize h.next=B1 at*
 have T:=R h1 (Le.refl _);refine Sk (XC b1 T.1) ?_;refine kCi UP (ak t _ _ h1 (z.le p)) ?_;rintro x h2 aA ⟨⟨U,rfl,i⟩,m⟩;cases U with
 |false=>refine Uy ?_;exact⟨p.trans m,_,_,rfl,.inl ⟨(fun d=>by grind),rfl,rfl⟩⟩
 |true=>
 have d:=i.1 rfl;clear i;have h0:0<=gn:=d.n0;obtain⟨n,rfl⟩:=WA h0;have av:(n:Int)<=200:=d.n1;have ay:es.length<=594:=d.len;have hR:=d.GD;have hA:D3 es:=d.q9;have a:=p.trans m;refine Sk ((R h2 m).1) ?_;refine kCi func58 (Nb t _ n es h2 (z.le a) d) ?_;rintro x h3 aB ⟨⟨U,rfl,i⟩,j⟩;have fT:=R h3 (m.trans j);cases U with
 |false=>refine Uy ?_;exact⟨a.trans j,_,_,rfl,.inr (.inl ⟨d,(fun q=>by cases i.2 q),rfl,rfl⟩)⟩
 |true=>
 have l:=i.1 rfl;clear i;have aC:=l.n3;have lP:=fun g=>N.len g;have A:aaY .i64 (3*(n:Int))=3*(n:Int):=ie _ NH NH;have C:aaY .i64 (3*(n:Int)-6)=3*(n:Int)-6:=ie _ NH NH;by_cases c1:3*n<es.length+6
 .have d1:decide ((es.length:Int)>3*(n:Int)-6)=tT:=EL NH;simp only[HO,seval,Ii,Di,Ip,Gc,fT.2.1,fT.2.2,lP,A,C,d1];exact⟨a.trans j,_,_,rfl,.inr (.inr (.inl ⟨d,l,abe c1,many_no d l c1,rfl,rfl⟩))⟩
 have d1:decide ((es.length:Int)>3*(n:Int)-6)=fF:=Sb NH;simp only[HO,seval,Ii,Di,Ip,Gc,fT.2.1,fT.2.2,fT.1,lP,A,C,d1];refine kCi func59 (Si t ev n es h3 (N.le (a.trans j)) hc d l) ?_;rintro x h4 w4 ⟨g4,B,O,bv,u,w,y,us,ws,cs,rfl,V,S4,Rg⟩;have I0:=Rg.start hR hA (L:=MF n (Qw n (aa5 (ZH (zl n es)))) es) uY;have hX:embX n es=(runM n (Zh n es) es.length (ahf n es)).map fun S=>xY n (Zh n es) S.Jv:=abE c1;have D:=l.Z7 hR;have E:OW es (Ei (zl n es))<=es.length:=abZ _ _;have F:=(a.trans j).trans V;refine Uy ?_;refine lIn (fun k fr W=>∃(S:ShM)(H:Nat->Nat->Prop)(g:aai)(u w y:vV)(us ws cs:xLV),fr=mkF [(4,pT (Z B))]/\Z8 n es H S/\runM n (Zh n es) es.length (ahf n es)=runM n (Zh n es) k S/\OW es H<=k/\
   ShS g W B O n (Zh n es) bv u w y us ws cs S.on S.Jv S.Jv S.left/\Le g4 g) ⟨ahf n es,_,g4,u,w,y,us,ws,cs,rfl,I0,rfl,E,S4,Le.refl _⟩ ?_
 clear S4 I0 E w4;clear h4 u w y us ws cs;rintro k fr W aD ⟨S,H,g,u,w,y,us,ws,cs,rfl,I,b,hu,o,X⟩;have J:=sB B 5 NH;have lL:=o.lenL;by_cases c:S.left=[]
 .have dL:decide ((S.left.length:Int)>0)=fF:=by rw[c];rfl
  refine Sk (xU J o.f.l5 lL dL) ?_;rw[run_nil c]at b;have⟨r,Gd,fl,hm⟩:=I.done c;have⟨k1,k2⟩:=circ_ok d l Gd fl hm;have K:=face_bd Gd;have aE:=I.My;refine kCi func61 (pY t B n bv _ u w y (Zh n es) S.Jv W o.f (o.cB.le (Nn.RL Nn.RP) o.le) o.rlF (Xq n es) (fun v hv=>⟨row_pos l hR hv,by have:=row_le (es:=es) hv;omega⟩) (fun f hf=>⟨(K f hf).1,by have:=(K f hf).2;omega⟩) NH NH NH (circ_hit d l Gd hm)) ?_;rintro x h9 w9 ⟨hx,l9⟩;refine Uy ?_;refine⟨((F.trans X).trans o.le).trans l9,x,_,rfl,.inr (.inr (.inr ⟨d,l,_,?_,k1,k2,rfl,hx⟩))⟩;grind
 .have dL:decide ((S.left.length:Int)>0)=tT:=by grind[length_pos_iff]
  obtain⟨k',rfl⟩:∃k',k=k'+1:=by
   cases k<;>grind[left_nil]
  refine Sk (xU J o.f.l5 lL dL) ?_;refine kCi func60 (lay_any t o d D I c) ?_;rintro x h9 w9 ⟨g9,M,l9,s⟩;rw[runM,abE c]at b;rcases s with⟨q1,rfl⟩|⟨S',aa,ae,ag,ai,aj,al,q1,rfl,aq⟩
  .rw[q1]at b;refine Uy ?_;have ar:¬XU n (eN n es):=by grind[Z8.lay]
   refine⟨((F.trans X).trans M).trans l9,_,_,rfl,.inr (.inr (.inl ⟨d,l,?_,ar,rfl,rfl⟩))⟩;grind
  .rw[q1]at b;refine Uy ?_;obtain⟨P,I',aF⟩:∃P,Z8 n es P S'/\OW es P<OW es H:=by grind[Z8.lay]
   exact lgA (afC _) ⟨S',P,g9,aa,ae,ag,ai,aj,al,rfl,I',b,NH,aq,X.trans M⟩
def ao7{p:Pr}(h:p.1<p.2):lZ p=p:=by have⟨a,b⟩:=p;simp only[lZ,jf]at*;omega
def bX.newOK{n:Nat}{L:xLP}(h:bX ⟨(n:Int),L⟩):YG (n:Int) L:=by
 have e:L.map lZ=L:=by have:L.map lZ=L.map id:=Qn fun p c=>ao7 (h.GD p c).2.1;rw[this,alZ]
 exact⟨h.n0,h.n1,h.len,fun p c=>by rw[ao7 (h.GD p c).2.1];have:=h.GD p c;omega,by rw[e];exact(show D3 L from h.q9).nodup⟩
section
variable{n a b:Nat}{L1 L2:List Pr}
end
end
section
attribute [local irreducible] Jz JL vq cQ
def okB(n:Int)(es:xLP)(i:Nat):Bool:=match es[i]? with
 |some p=>decide (0<=p.1)&&decide (p.1<p.2)&&decide (p.2<n)&&(i==0||match es[i-1]? with|some q=>decide (Nz q p<0)|none=>tT)
 |none=>tT
theorem V5{n:Int}{es:xLP}(a:0<=n)(b:n<=200)(c:es.length<=594)(hd:(rG es.length).all (okB n es)=tT):bX ⟨n,es⟩:=by refine⟨a,b,c,fun i hi p d=>?_⟩;have:=fj.1 hd i (j3.2 hi);grind[okB]
attribute [local instance] Classical.propDecidable in
theorem ajG{n:Nat}{es:xLP}{rs:AM}(a:bX ⟨(n:Int),es⟩)(G:Av n es rs)(b:0<n)(c:∀v,v<n->Pu es 0 v)(hf:n+(IN n rs).length=es.length+2):XU n (eN n es):=Vg a.GD a.q9 G ((En a.GD a.q9 G).1 ((vS a.GD a.q9 G b c).2 fun _=>hf))
attribute [local instance] Classical.propDecidable in
theorem two_of{n:Nat}{es:xLP}(b:bX ⟨(n:Int),es⟩)(h3:3<=n)(a:es≠[])(c:∀v,v<n->Pu es 0 v)(hb:(vq n es).length=1):zW n es:=(Uv b h3 (join_of b.GD NH a c).2).1 hb
def c4E:xLP:=[(0,1),(0,3),(1,2),(2,3)]
def m5E:xLP:=[(0,2),(0,3),(0,4),(1,2),(1,3),(1,4),(2,3),(2,4),(3,4)]
def k5L:xLP:=(0,1)::m5E
def akF:xLP:=[(0,3),(0,4),(0,5),(1,3),(1,4),(1,5),(2,3),(2,4),(2,5)]
def c4R:bX ⟨((4:Nat):Int),c4E⟩:=V5 WY WY WY iw
def m5R:bX ⟨((5:Nat):Int),m5E⟩:=V5 WY WY WY iw
def k5R:bX ⟨((5:Nat):Int),k5L⟩:=V5 WY WY WY iw
def k33R:bX ⟨((6:Nat):Int),akF⟩:=V5 WY WY WY iw
theorem ao8{n:Nat}{es:xLP}{E:Nat->II}(hR:InR n es)(a:∀v w,w∈E v->v<n/\w<n)(h:∀v,v<n->∀w,w<n->(w∈eN n es v↔w∈E v)):∀v w,w∈eN n es v↔w∈E v:=by grind[vD,Jp.lt]
theorem k5N:¬XU 5 (eN 5 k5L):=fun h=>k5_no (qL0 5) ((XU.an5 (ao8 k5R.GD (by grind[pZ]) iw)).1 h)
theorem k33N:¬XU 6 (eN 6 akF):=fun h=>k33_no (qL0 6) ((XU.an5 (ao8 k33R.GD (fun v w q=>by grind[agU]) iw)).1 h)
section
variable{G:GM}{h:aai}{rv:vV}{e:Int}
theorem ao6.XK(I:ao6 G h rv e)(b:bX G)(c:zW G.n.toNat G.es)(d:XU G.n.toNat (eN G.n.toNat G.es)):∃rs,embX G.n.toNat G.es=Z rs/\Av G.n.toNat G.es rs/\Flat G.n.toNat (Xl rs)/\e=0/\RL (RL RP) h rv rs:=by
 rcases I with⟨a,_⟩|⟨_,a,_⟩|⟨_,_,_,h2,_⟩|⟨_,_,h2⟩
 all_goals grind
end
variable {h:aai}
def allocG(hw:WF h):∃a,abO pG h 24=Z (pT (Z h.next),a)/\Le h a/\WF a/\a.own h.next=Z (.cells [.int .i64 0,.slice Y 0 0]):=by have⟨a,b,l1,w1,c⟩:=Tt hw [.int .i64 0,.slice Y 0 0];exact⟨a,by rw[Lo,b],l1,w1,c⟩
variable {b l:List Pr} {n v:Nat}
def aag(n:Nat)(b:xLP):II:=(rG n).filter fun v=>b.any fun p=>aO p (v:Int)
def abD(n:Nat)(b:xLP)(x:Int):Nat:=(aag n b).countP fun(v:Nat)=>decide ((v:Int)<x)
def aat(n:Nat)(b:xLP):xLP:=b.map fun p=>((abD n b p.1:Int),(abD n b p.2:Int))
def adJ(b:xLP):RZ:=b.flatMap fun p=>[p.1,p.2]
theorem aeS(b:xLP)(x:Int):x∈adJ b↔∃p∈b,aO p x=tT:=by grind[adJ,aO]
theorem aeT:v∈aag n b↔v<n/\∃p∈b,aO p (v:Int)=tT:=by simp[aag]
theorem adX(hR:InR n b):Lib.compact (qC (adJ b))=kz (aag n b):=by
 refine afY _ _ (amV (aQ _)) ?_ fun x=>?_
 .unfold kz;rw[Vn];exact(Ki.filter _).imp fun h=>by omega
 .rw[jn,Wv,aeS];simp only[kz,aev,aeT];constructor
  .rintro⟨p,a,h⟩;have⟨c,h2,h3⟩:=hR p a;have h':=h;simp only[aO,Dj,vg]at h';refine⟨x.toNat,⟨NH,p,a,?_⟩,NH⟩;grind
  grind
def aaV(n:Nat)(b:xLP):Prop:=b.length<9\/(bX ⟨((aag n b).length:Int),aat n b⟩/\zW (aag n b).length (aat n b)/\XU (aag n b).length (eN (aag n b).length (aat n b)))
def aak(n:Nat)(es:xLP):Prop:=bX ⟨(n:Int),es⟩/\∀b∈vq n es,aaV n b
attribute [local instance] Classical.propDecidable in
noncomputable def aeH(n:Nat):Nat->Nat->xLP->xLP
 |0,_,l=>l
 |f+1,i,l=>if i<l.length then(if aak n (l.eraseIdx i)then aeH n f (i+1) l else aeH n f i (l.eraseIdx i))else l
attribute [local instance] Classical.propDecidable in
noncomputable def abv(G:GM):xLP:=if aak G.n.toNat G.es then[]else aeH G.n.toNat G.es.length 0 G.es
def abQ{n:Nat}{l:xLP}(h:∀i,i<l.length->aak n (l.eraseIdx i)):∀f i,aeH n f i l=l
 |0,i=>rfl
 |f+1,i=>by
  rw[aeH];split
  .rename_i hi;rw[abe (h i hi)];exact abQ h f (i+1)
  .rfl
def akf{f i:Nat}(hi:i<l.length)(h:¬aak n (l.eraseIdx i)):aeH n (f+1) i l=aeH n f i (l.eraseIdx i):=by rw[aeH,abe hi,abE h]
variable {c es:List Pr} {m:Nat}
def aco(es:xLP)(n:Nat)(a:II):II:=(rG n).filter fun v=>a.contains v||a.any fun p=>hasB es ((p:Int),(v:Int))||hasB es ((v:Int),(p:Int))
def conB(n:Nat)(es:xLP):Bool:=(rG n).all fun v=>(it (aco es n) n [0]).contains v
def con_chk(h:conB n es=tT):∀v,v<n->Pu es 0 v:=by
 have:∀k,∀v∈it (aco es n) k [0],Pu es 0 v:=by
  intro k
  induction k with
  |zero=>
   intro v a;have:v=0:=by simpa[it]using a
   subst this;exact Pu.refl _ _
  |succ k c=>
   intro v a;have a:v∈aco es n (it (aco es n) k [0]):=a;simp only[aco,K4,qL186,Dj,agN,anV]at a;rcases a.2 with b|⟨p,d,b⟩
   .exact c v b
   .exact tM (c p d) b
 intro v a;exact this n v (qL186.1 (fj.1 h v (j3.2 a)))
theorem abX{rs:AM}{hs:List (H8×Nat)}(d1:(rG es.length).all (okB 5 es)=tT)(d2:conB 5 es=tT)(d3:(vq 5 es).length=1)(d4:(rG 5).all (fun v=>(rs.getD v []).isPerm ((Zh 5 es).getD v []))=tT)(d5:Cert 5 (Xl rs) hs)(c:es.length=9)(d:rs.length=5)(e:hs.length=6:=by rfl):
  bX ⟨((5:Nat):Int),es⟩/\zW 5 es/\XU 5 (eN 5 es):=by
 have a:bX ⟨((5:Nat):Int),es⟩:=by grind[V5]
 have b:=con_chk d2;have G:Av 5 es rs:=rotG_of d d4;refine⟨a,two_of a WY hGr b d3,ajG a G WY b ?_⟩;rw[X9 a G d5,wI,e,c]
def m5_all:∀i,i<10->bX ⟨((5:Nat):Int),k5L.eraseIdx i⟩/\zW 5 (k5L.eraseIdx i)/\XU 5 (eN 5 (k5L.eraseIdx i)):=fun i hi=>by
 match i,hi with
 |0,_=>exact abX (rs:=[[2,3,4],[4,3,2],[3,0,4,1],[4,0,2,1],[2,0,3,1]]) (hs:=[((0,2),3),((0,3),3),((0,4),3),((1,2),3),((1,3),3),((1,4),3)]) iw iw iw iw iw rfl rfl
 |1,_=>exact abX (rs:=[[1,3,4],[3,0,4,2],[4,3,1],[4,0,1,2],[1,0,3,2]]) (hs:=[((0,1),3),((0,3),3),((0,4),3),((1,2),3),((1,3),3),((2,3),3)]) iw iw iw iw iw rfl rfl
 |2,_=>exact abX (rs:=[[1,2,4],[2,0,4,3],[4,0,1,3],[4,2,1],[1,0,2,3]]) (hs:=[((0,1),3),((0,2),3),((0,4),3),((1,2),3),((1,3),3),((2,4),3)]) iw iw iw iw iw rfl rfl
 |3,_=>exact abX (rs:=[[1,2,3],[2,0,3,4],[3,0,1,4],[1,0,2,4],[3,2,1]]) (hs:=[((0,1),3),((0,2),3),((0,3),3),((1,2),3),((1,4),3),((2,3),3)]) iw iw iw iw iw rfl rfl
 |4,_=>exact abX (rs:=[[3,1,4,2],[0,3,4],[4,3,0],[4,1,0,2],[0,1,3,2]]) (hs:=[((0,1),3),((0,2),3),((0,3),3),((0,4),3),((1,4),3),((2,3),3)]) iw iw iw iw iw rfl rfl
 |5,_=>exact abX (rs:=[[2,1,4,3],[0,2,4],[4,1,0,3],[4,2,0],[0,1,2,3]]) (hs:=[((0,1),3),((0,2),3),((0,3),3),((0,4),3),((1,4),3),((2,4),3)]) iw iw iw iw iw rfl rfl
 |6,_=>exact abX (rs:=[[2,1,3,4],[0,2,3],[3,1,0,4],[0,1,2,4],[3,2,0]]) (hs:=[((0,1),3),((0,2),3),((0,3),3),((0,4),3),((1,3),3),((2,3),3)]) iw iw iw iw iw rfl rfl
 |7,_=>exact abX (rs:=[[1,2,4,3],[4,2,0,3],[0,1,4],[4,1,0],[0,2,1,3]]) (hs:=[((0,1),3),((0,2),3),((0,3),3),((0,4),3),((1,2),3),((1,4),3)]) iw iw iw iw iw rfl rfl
 |8,_=>exact abX (rs:=[[1,2,3,4],[3,2,0,4],[0,1,3],[0,2,1,4],[3,1,0]]) (hs:=[((0,1),3),((0,2),3),((0,3),3),((0,4),3),((1,2),3),((1,3),3)]) iw iw iw iw iw rfl rfl
 |9,_=>exact abX (rs:=[[1,3,2,4],[2,3,0,4],[0,3,1,4],[0,1,2],[2,1,0]]) (hs:=[((0,1),3),((0,2),3),((0,3),3),((0,4),3),((1,2),3),((1,3),3)]) iw iw iw iw iw rfl rfl
def k5U:xLP:=[(1,2),(1,3),(1,4),(1,5),(2,3),(2,4),(2,5),(3,4),(3,5),(4,5)]
def k6L:xLP:=[(0,1),(0,2),(0,3),(0,4),(0,5)]++k5U
def k6R:bX ⟨((6:Nat):Int),k6L⟩:=V5 WY WY WY iw
def k5UR:bX ⟨((6:Nat):Int),k5U⟩:=V5 WY WY WY iw
def dnV(v:Nat):Nat:=(v+5)%6
def upV(v:Nat):Nat:=(v+1)%6
def k5U_no:¬XU 6 (eN 6 k5U):=fun a=>by
 have N:Ren 6 dnV upV:=⟨WY,WY,WY,WY⟩;have K:∀v,v<6->∀w,w<6->(w∈k5E v↔upV w∈eN 6 k5U (upV v)):=by decide+kernel
 refine k5_no (n:=6) WY (a.ren N fun v w=>?_);constructor
 .intro h;have h':=pZ.1 h;exact⟨NH,NH,(K v NH w NH).1 h⟩
 .rintro⟨b,hw,h⟩;exact(K v b w hw).2 h
def more_no(hR:InR 6 es)(hs:∀p∈k5U,p∈es):¬XU 6 (eN 6 es):=fun a=>by
 refine k5U_no (a.less (fun v w h=>?_) (fun v w h=>?_))
 .rw[vD hR];exact((vD k5UR.GD).1 h).imp (hs _) (hs _)
 .exact(vD k5UR.GD).2 ((vD k5UR.GD).1 h).symm
theorem acG(a:bX ⟨(n:Int),es⟩)(h:es.length<9):aak n es:=⟨a,fun b hb=>by have⟨i,hi⟩:=vZ.1 hb;obtain⟨k,-,rfl⟩:=Jh hi;exact .inl (by grind[length_filter_le])⟩
def aa4(a:bX ⟨(n:Int),es⟩)(hb:vq n es=[b]):aak n es↔aaV n b:=by unfold aak;rw[hb];simp[a]
def ao9(a:(aag n b).length=m)(h2:aat n b=c)(h:bX ⟨(m:Int),c⟩/\zW m c/\XU m (eN m c)):aaV n b:=by subst a h2;exact .inr h
def akL(a:(aag n b).length=m)(h2:aat n b=c)(d:9<=b.length)(h:¬XU m (eN m c)):¬aaV n b:=by
 subst a h2;rintro(h3|h3)
 .omega
 .exact h h3.2.2
def apa:∀i,i<10->aak 5 (k5L.eraseIdx i):=fun i hi=>by
 have h:=m5_all i hi;have hb:∀i,i<10->vq 5 (k5L.eraseIdx i)=[k5L.eraseIdx i]/\(aag 5 (k5L.eraseIdx i)).length=5/\aat 5 (k5L.eraseIdx i)=k5L.eraseIdx i:=by decide+kernel
 have⟨a,b,c⟩:=hb i hi;exact(aa4 h.1 a).2 (ao9 b c h)
def k5U_plan:∀i,i<10->aak 6 (k5U.eraseIdx i):=fun i hi=>by
 have h:=m5_all i hi;have hb:∀i,i<10->vq 6 (k5U.eraseIdx i)=[k5U.eraseIdx i]/\(aag 6 (k5U.eraseIdx i)).length=5/\aat 6 (k5U.eraseIdx i)=k5L.eraseIdx i:=by decide+kernel
 have⟨a,b,c⟩:=hb i hi;exact(aa4 (k5UR.sub (gK ..)) a).2 (ao9 b c h)
def k5_np:¬aak 5 k5L:=fun h=>akL (n:=5) (b:=k5L) (m:=5) (c:=k5L) iw iw WY k5N ((aa4 (b:=k5L) k5R iw).1 h)
def k5U_np:¬aak 6 k5U:=fun h=>akL (n:=6) (b:=k5U) (m:=5) (c:=k5L) iw iw WY k5N ((aa4 (b:=k5U) k5UR iw).1 h)
def ans:∀j,j<6->¬aak 6 (k6L.drop j):=fun j l h=>by
 have hb:∀j,j<4->vq 6 (k6L.drop j)=[k6L.drop j]/\(aag 6 (k6L.drop j)).length=6/\aat 6 (k6L.drop j)=k6L.drop j/\9<=(k6L.drop j).length/\(k5U.all fun p=>hasB (k6L.drop j) p)=tT:=by decide+kernel
 by_cases c:j<4
 .obtain⟨a,d,e,f,g⟩:=hb j c;exact akL d e f (more_no (k6R.sub (drop_sublist ..)).GD fun p i=>(anV _ _).1 (fj.1 g p i)) ((aa4 (k6R.sub (drop_sublist ..)) a).1 h)
 .have k:(vq 6 (k6L.drop 4)).contains k5U=tT:=by decide+kernel
  obtain rfl|rfl:j=4\/j=5:=NH
  .exact akL (n:=6) (b:=k5U) (m:=5) (c:=k5L) iw iw WY k5N (h.2 k5U (qL186.1 k))
  .exact k5U_np h
def k33_np:¬aak 6 akF:=fun h=>akL (m:=6) (c:=akF) iw iw WY k33N ((aa4 (b:=akF) k33R iw).1 h)
def k33_plan:∀i,i<9->aak 6 (akF.eraseIdx i):=fun i hi=>acG (k33R.sub (gK ..)) ((by decide:∀i,i<9->(akF.eraseIdx i).length<9) i hi)
def apb:aak 4 c4E:=acG c4R WY
def m5_plan:aak 5 m5E:=apa 0 WY
def fnd_k5:abv ⟨((5:Nat):Int),k5L⟩=k5L:=(abE k5_np).trans (abQ (l:=k5L) (fun i hi=>apa i hi) _ _)
def fnd_k33:abv ⟨((6:Nat):Int),akF⟩=akF:=(abE k33_np).trans (abQ (l:=akF) (fun i hi=>k33_plan i hi) _ _)
def fnd_c4:abv ⟨((4:Nat):Int),c4E⟩=[]:=abe apb
def fnd_k6:abv ⟨((6:Nat):Int),k6L⟩=k5U:=by refine(abE (ans 0 WY)).trans ?_;show aeH 6 15 0 (k6L.drop 0)=_;rw[akf WY (ans 1 WY)];show aeH 6 14 0 (k6L.drop 1)=_;rw[akf WY (ans 2 WY)];show aeH 6 13 0 (k6L.drop 2)=_;rw[akf WY (ans 3 WY)];show aeH 6 12 0 (k6L.drop 3)=_;rw[akf WY (ans 4 WY)];show aeH 6 11 0 (k6L.drop 4)=_;rw[akf WY (ans 5 WY)];exact abQ (l:=k5U) (fun i hi=>k5U_plan i hi) _ _
theorem alf{k:Int}(a:es.length<=594)(h:(rG es.length).all (okB 200 es)=tT)(e:aaN es=k):aaz es=k:=by rw[aaz,abe (by grind[V5])];exact e
def apd:aaz k5L=5:=alf WY iw iw
def kind_m5:aaz m5E=0:=alf WY iw iw
def kind_k5U:aaz k5U=5:=alf WY iw iw
def an8:aaz akF=33:=alf WY iw iw
def kind_c4:aaz c4E=0:=alf WY iw iw
end
end Go.Fw
