/- A text. -/
import Derived.Test.YtnakkbhjoiheoaaGreatFwLJ18
set_option linter.all false
set_option maxRecDepth 99999
set_option maxHeartbeats 9999999
open Go.Proofs
open Option renaming some→Z,none→Y
open Bool renaming true→tT,false→fF
open List renaming replicate→rP,range→rG
open Go.Value renaming slice→sL,pointer→pT
open Go renaming Value→vV
open Go.Proofs.Tryz renaming prog→pG
open Go.Proofs.Tryz
open List
namespace Go.Fw
section
attribute [local instance] Classical.propDecidable
attribute [local irreducible] Kp MQ lU KO1 KO KN KX KE VK Kl ZJ TC aab
variable {O i k m n:Nat} {bv:Value} {es:List Pr} {g h:aai} {l:II}
def box77(h:aai){n:Int}(hb:xO bv k):acB pG 129 [(0,n),(1,bv),(2,sL (Z O) m m)]=Z (.agg #[n,bv,sL (Z O) m m,rW,rW,rW])/\
  zF h (.agg #[n,bv,sL (Z O) m m,rW,rW,rW])=Z (pT (Z h.next),h.alloc (.cells [n,bv,sL (Z O) m m,rW,rW,rW])):=by
 obtain⟨_,_,rfl,_⟩:=hb;exact⟨by kernel_rfl,by kernel_rfl⟩
theorem ring_take(hi:i<l.length):(ZH l).take (i+1)=(ZH l).take i++[GW l[i] (l.getD ((i+1)%l.length) 0)]:=by grind[ZH,take_succ_eq_append_getElem]
theorem F9(l:II):(ZH l).length=l.length:=by simp[ZH]
theorem ring_bd(R:Ho n es l)(hR:aV n es)(d:n<=200):∀p∈ZH l,∃a b:Nat,p=((a:Int),(b:Int))/\a<1000/\b<1000:=fun p c=>by obtain⟨a,b,rfl,e,h2⟩:=jB hR (R.ik hR c);grind
theorem ring_len(R:Ho n es l)(hR:aV n es):l.length<=n:=by have:=tf R.nd (B:=rG n) fun v a=>Db.2 (R.lt hR a);grind
theorem rt_b(h:l.length<=n)(h2:(n:Int)<=200):((ZH l).take i).length+1<=100000:=by grind[F9]
theorem tk_b{a:List FM}(h:a.length<=m)(b:m<=594)(F:FM->wW):((a.take i).map F).length<=100000:=hGr
def build125{a b c:vV}(ha:xO a n)(hb:xO b m)(d:xO c k):acB pG 168 [(0,a),(1,b),(2,c)]=Z (.agg #[a,b,c]):=by obtain⟨_,_,rfl,_⟩:=ha;obtain⟨_,_,rfl,_⟩:=hb;obtain⟨_,_,rfl,_⟩:=d;kernel_rfl
def le_rem(X:II)(l:Le g h)(a:∀b∈X,g.own b=Y):Le g (rem X h):=l.iV a
theorem Si(J:LA)(ev:vV)(n:Nat)(es:xLP)(h:aai)(hp:PR h ev es)(hc:okc 2 ev)(hr:bX ⟨(n:Int),es⟩)(T2:zW n es):
  AC pG J 87 [.agg #[.int .i64 n,ev]] h fun x h'=>∃g' B O bv fv iv lv us ws cs,x=pT (Z ⟨B,0,Y⟩)/\Le h g'/\
   ShS g' h' B O n (Zh n es) bv fv iv lv us ws cs (ahf n es).on (ahf n es).Jv (ahf n es).Jv (ahf n es).left/\Ho n es (zl n es):=by
 have hR:=hr.GD;have hA:=hr.q9;have a8:(n:Int)<=200:=hr.n1;have cJ:es.length<=594:=hr.len;have⟨p0,rest,aa⟩:=N8 (T2.es_ne hR);obtain⟨a,b,rfl,fU,hb⟩:=jB hR (show p0∈es by grind);have eg:es.drop 1=rest:=by rw[aa];rfl
 have eh:bX ⟨(n:Int),rest⟩:=by grind[bX.tail]
 have ae:Pu rest b a:=T2.less hR NH hb NH fun x y ei fV=>by
  rcases ei with h|h
  .rw[aa]at h;rcases HV.1 h with e|h
   .grind
   .exact .inl h
  .rw[aa]at h;rcases HV.1 h with e|h
   .grind
   .exact .inr h
 have fW:rest.length<=594:=hGr;refine AC.vF func87 ntmps87 results87 fun ej=>?_;obtain⟨h1,b1,cK,ek,-,A⟩:=r8 (n:=(n:Int)) ej hp
 generalize h.next=B1 at*
 have cM:=A h1 (Le.refl _);have aK:=hp.le cK;have cN:=aK.addr (k:=.i64) 0 hGr;have en:=aK.load (i:=0) (p:=((a:Int),(b:Int))) (by rw[aa];rfl);have⟨h2,h3,e2,e3,l3,w3,o3⟩:=Ut ek ((a:Int),(b:Int))
 generalize h1.next=E at*
 have fT:=A h3 l3;simp only[af9]at cN;refine Sk (aNd9 b1 @Di @Ip.eq_1 @EL cM.2.2 cN en e2 e3) ?_;have eo:=aK.le l3;obtain⟨rv,K,G,-⟩:=eo.cut hc (i:=1) hGr;rw[eg]at G;simp only[Int.natCast_one]at K;apply Ya (F:=fun(fr:aam)(h5:aai)=>∃(X:Nat)(cv:vV),Fj fr [(1,pT (Z B1)),(3,pT (Z E)),(4,pT (Z X))]/\Le h3 h5/\WF h5/\PR h5 cv rest/\∀g,Le h5 g->aaC pG g 24 ⟨X,0,Y⟩=Z (.agg #[.int .i64 n,cv]))
 .intro cont;refine gh (tA [0,1,2,3,4] (.ch 5 [4] (tA [6] (JQ 7 [] (JQ 8 [0,1,2,3,4,5,6,7] .done))) (JQ 7 [] (JQ 5 [4] (tA [6] (JQ 8 [0,1,2,3,4,5,6,7] .done)))))) ?_
  have ep:∃g,h3.alloc (.cells [.int .i64 0,.slice Y 0 0])=g/\Le h3 g/\WF g/\g.own h3.next=Z (.cells [.int .i64 0,.slice Y 0 0]):=Tt w3 _
  have⟨q1,y1,m1,v1,u1⟩:=ep
  have aL:abO pG h3 24=Z (pT (Z h3.next),q1):=by rw[Lo,y1]
  have Q1:=A q1 (l3.trans m1);simp only[kJJ,seval,Qg,Ii,Di,Ip,EL,fT.2.1,fT.2.2,K,aL,Q1.2.1,Q1.2.2];refine⟨?_,?_⟩
  .refine kGi qS32 (DA J rv rest h3 G NH) ?_;rintro cv h4 w4 ⟨gc,l4,-⟩;have A4:=A h4 (l3.trans l4);have ai:=Wj (n:=(n:Int)) gc.pr.sl;have⟨h5,C,a5,s5,l6,w6,lG⟩:=akX (n:=(n:Int)) w4 gc.pr;have A5:Le h4 h5:=by grind[Lo,Le.refl,Le.alloc]
   have A5:=A h5 ((l3.trans l4).trans A5);have A6:=A C ((l3.trans l4).trans l6);simp only[kJJ,seval,Qg,Ii,Di,Ip,EL,A4.2.1,A4.2.2,K,ai,a5,s5,A5.2.1,A5.2.2,A6.2.1,A6.2.2];refine KN.UJ fun fr' h' x y=>cont fr' h' ?_;subst x y;exact⟨_,cv,fD,l4.trans l6,w6,gc.pr.le l6,fun g l=>(lG g l).1⟩
  .refine kGi qS32 (DA J rv rest q1 (G.le m1) NH) ?_;rintro cv h4 w4 ⟨gc,l4,ac⟩;have A4:=A h4 ((l3.trans m1).trans l4);have ai:=Wj (n:=(n:Int)) gc.pr.sl
   have nX:blk cv≠Z h3.next:=fun e=>by have:=ac _ e;rw[u1]at this;cases this
   have oX:=l4.own _ _ u1
   have n1:h3.own h3.next=Y:=(Le.refl h3).next w3 (qL0 _)
   have one:=gc.pr.sl.one;have bb:UA pG 24=2:=Ji;have et:(vV.agg #[.int .i64 (n:Int),cv]).cells=#[.int .i64 (n:Int),cv]:=rfl;have eu:(vV.int IntKind.i64 (n:Int)).oneCell'=tT:=rfl
   have st:aaK pG h4 24 (pT (Z h3.next)) (.agg #[.int .i64 (n:Int),cv])=Z (h4.put h3.next (.cells [.int .i64 (n:Int),cv])):=by simp[aaK,oX,et,bb,putCells,qS7,one,eu]
   have ho:(h4.put h3.next (.cells [.int .i64 (n:Int),cv])).own h3.next=Z (.cells [.int .i64 (n:Int),cv]):=aai.Y3 _ _ _
   have l5:Le h3 (h4.put h3.next (.cells [.int .i64 (n:Int),cv])):=(m1.trans l4).put _ n1
   have A5:=A _ (l3.trans l5);simp only[kJJ,seval,Qg,Ii,Di,Ip,EL,A4.2.1,A4.2.2,K,ai,st,A5.2.1,A5.2.2];refine KN.UJ fun fr' h' x y=>cont fr' h' ?_;subst x y
   exact⟨h3.next,cv,fD,l5,w4.put _ (w4.lt oX),GP.pr (GS.put gc _ nX),fun g l=>by rw[Wx qS7 rfl bb (l.own _ _ ho) Ma];rfl⟩
 rintro fr h5 ⟨X,cv,D,cP,w5,cR,lX⟩;simp only[Fj]at D;obtain⟨f1,f3,f4,-⟩:=D;have cU:=cP.own _ _ o3;refine Sk (Pj f1 f3 f4 (lX h5 (Le.refl _)) @Dh @Z0 @Ip.eq_1 @EL (lK cU) (HY cU)) ?_;refine kCi func124 (Path_fun J _ ⟨(n:Int),rest⟩ (a:Int) (b:Int) h5 ⟨cv,rfl,cR⟩) ?_;rintro x C w6 ⟨l6,lv,er,rfl,fR,H⟩;simp only[yM]at H;have⟨k1,k2⟩:=H eh NH NH NH NH;have⟨gl,al,cW⟩:=k2 (k1.2 ae);have⟨ew,Rg⟩:=ringM_ok hr aa cW ae;rw[ew]at gl;have z:=(l3.trans cP).trans l6;have A6:=A C z;have bZ:=aK.le z;have b0:GR C (.agg #[.int .i64 (n:Int),ev]) ⟨(n:Int),es⟩:=⟨ev,rfl,bZ⟩;generalize b2:zl n es=l at*;have I:=ring_len Rg hR;have ey:er=0:=k1.2 ae;subst ey;refine Sk f1 ?_;clear H k1 k2 lX cR;apply Ya (F:=fun(fr:aam)(h9:aai)=>∃(B O:Nat)(bv:vV)(M:aai),Fj fr [(1,pT (Z B1)),(5,lv),(7,pT (Z ⟨B,0,Y⟩))]/\WF h9/\h9.own B=Z (.cells [.int .i64 (n:Int),bv,sL (Z ⟨O,0,Y⟩) n n,rW,rW,rW])/\h9.own O=Z (.cells (Bo (rP n fF)))/\B≠O/\Le C M/\M.own B=Y/\M.own O=Y/\Le M h9/\RL (RL RP) M bv (Zh n es))
 .intro cont;have bo:Bo (rP n fF)=rP n (.bool fF):=by simp[Bo]
  have⟨q1,y1,m1,v1,u1⟩:=Tt w6 (rP n (.bool fF));have aL:=mk100 C n NH;rw[y1]at aL;have Q1:=A q1 (z.trans m1);refine gh (tA [0,1,2,4,5] (.ch 3 [2] (JQ 6 [5] (tA [7] (JQ 8 [7] (tA [9] .done)))) (JQ 6 [5] (JQ 3 [2] (tA [7] (JQ 8 [7] (tA [9] .done))))))) ?_;simp only[kJJ,seval,Qg,f1,Ii,Ip,EL,A6.1,A6.2.1,aL,Q1.1,Q1.2.1];refine⟨?_,?_⟩
  .refine kGi akP (oe J _ n es C b0 hr) ?_;rintro bv h7 w7 ⟨r,l7⟩;have A7:=A h7 (z.trans l7);have⟨h8,y8,l8,w8,o8⟩:=Tt w7 (rP n (.bool fF));have cZ:=mk100 h7 n NH;rw[y8]at cZ;have A8:=A h8 ((z.trans l7).trans l8)
   have⟨b3,aj⟩:=box77 h8 (n:=(n:Int)) (O:=h7.next) (m:=n) r.sl
   have⟨h9,y9,l9,w9,o9⟩:=Tt w8 [.int .i64 (n:Int),bv,sL (Z h7.next) n n,rW,rW,rW]
   rw[y9]at aj;have A9:=A h9 (((z.trans l7).trans l8).trans l9);simp only[kJJ,seval,Qg,f1,Ii,Ip,EL,A7.1,A7.2.1,A8.1,A8.2.1,A9.1,A9.2.1,cZ,b3,aj];refine KN.UJ fun fr' h' x y=>cont fr' h' ?_;rw[x,y]
   exact⟨h8.next,h7.next,bv,h7,(by simp only[Fj,HO,seval,f1];simp),w9,o9,by rw[bo];exact l9.own _ _ o8,fun e=>by have:=w8.lt o8;omega,l7,l8.next w8 (qL0 _),(Le.refl h7).next w7 (qL0 _),l8.trans l9,r⟩
  .have hk:Le C (q1.kill C.next):=m1.aiY ((Le.refl C).next w6 (qL0 _))
   refine kGi akP (AC.frame u1 (oe J _ n es (q1.kill C.next) (b0.le hk) hr)) ?_
   rintro bv h7 w7 ⟨g7,⟨r,l7⟩,c0,rfl⟩;have b4:=hk.trans l7;have aN:=Le.Y5 c0 (.cells (rP n (.bool fF)))
   have o7:(g7.put C.next (.cells (rP n (.bool fF)))).own C.next=Z (.cells (rP n (.bool fF))):=aai.Y3 _ _ _
   generalize g7.put C.next (.cells (rP n (.bool fF)))=h7 at*
   have A7:=A h7 ((z.trans b4).trans aN)
   have⟨b3,aj⟩:=box77 h7 (n:=(n:Int)) (O:=C.next) (m:=n) r.sl
   have⟨h9,y9,l9,w9,o9⟩:=Tt w7 [.int .i64 (n:Int),bv,sL (Z C.next) n n,rW,rW,rW]
   rw[y9]at aj;have A9:=A h9 (((z.trans b4).trans aN).trans l9);simp only[kJJ,seval,Qg,f1,Ii,Ip,EL,A7.1,A7.2.1,A9.1,A9.2.1,b3,aj];refine KN.UJ fun fr' h' x y=>cont fr' h' ?_;rw[x,y]
   exact⟨h7.next,C.next,bv,g7,(by simp only[Fj,HO,seval,f1];simp),w9,o9,by rw[bo];exact l9.own _ _ o7,fun e=>by have:=w7.lt o7;omega,b4,aN.next w7 (qL0 _),c0,aN.trans l9,r⟩
 rintro fr h9 ⟨B,O,bv,M,D,w9,oB,oO,eA,aq,gB,gO,c3,r⟩;simp only[Fj]at D;obtain⟨f1,f5,f7,-⟩:=D;have aP:=gl.le aq;have fY:=al;have lr:∀g,aeh pG g 28 lv=Z (.int .i64 (l.length:Nat)):=fun g=>by have:=gl.rl.TA g;grind[y6]
 have eB:=sB B 2 NH;simp only[HO,seval,f5,lr];refine aab.intro (fun k fr s=>∃(i:Nat)(wv:vV),k=l.length-i/\i<=l.length/\fr=mkF [(1,pT (Z B1)),(5,lv),(7,pT (Z ⟨B,0,Y⟩)),(8,wv),(45,lv),(46,(l.length:Nat)),(47,(i:Nat))]/\
   s.own B=Z (.cells [.int .i64 (n:Int),bv,sL (Z ⟨O,0,Y⟩) n n,rW,rW,rW])/\s.own O=Z (.cells (Bo (tV (rP n fF) (l.take i))))/\Le M s/\GP s wv ((ZH l).take i)/\Z2 M wv/\blk wv≠Z B/\blk wv≠Z O)
  l.length [(1,pT (Z B1)),(5,lv),(7,pT (Z ⟨B,0,Y⟩)),(8,rW),(45,lv),(46,(l.length:Nat)),(47,(0:Nat))] (by simp only[Fj,HO,seval,f1,f5,f7];simp)
  ⟨0,_,rfl,aax _,rfl,oB,oO,c3,GP.nil _,fun b hb=>by grind[blk],by simp[blk],by simp[blk]⟩ ?_
 clear f1 f5 f7 oB oO c3 w9;clear h9;rintro k fr s ar ⟨i,wv,rfl,hi,rfl,oB,oO,av,gw,b5,b6,aT⟩;refine Uy ?_;refine Kl.intro (fun ht=>?_) (fun hf=>?_)
 .have d:i<l.length:=acb ht;clear ht;have eC:=aP.le av;have ad:∀q,q<l.length->aao pG 28 lv (.int .i64 (q:Int))=Z (pT (Z (aaq lv q))):=fun q T=>eC.rl.DH q (by rw[y6];exact T);have ld:∀g,Le M g->∀q (T:q<l.length),aaC pG g 3 (aaq lv q)=Z (.int .i64 ((l.getD q 0:Nat):Int)):=fun g lg q T=>by rw[(aP.le lg).rl.Uc q (by rw[y6];exact T),sY T,D4 T]
  have c4:(i+1)%l.length<l.length:=aj3 _ NH;have hv:l.getD i 0<n:=by rw[D4 d];exact Rg.lt hR (aev d)
  have b8:l.take (i+1)=l.take i++[l[i]]:=XJ d;have c5:=ring_take d;have eD:l.getD i 0=l[i]:=D4 d;rw[<-eD]at c5 b8;have eE:aao pG 41 (sL (Z ⟨O,0,Y⟩) n n) ((l.getD i 0:Nat):Int)=Z (pT (Z ⟨O,l.getD i 0,Y⟩)):=by rw[Wc Uh AV Ji _ hv];simp[Ip]
  have ZA:(tV (rP n fF) (l.take i)).length=n:=by
   have:∀(w:II)(o:List Bool),(tV o w).length=o.length:=fun w=>by
    induction w with
    |nil=>intro o;rfl
    |cons x w ih=>intro o;show(tV (o.set x tT) w).length=_;grind
   grind
  have eF:(tV (rP n fF) (l.take i)).set (l.getD i 0) tT=tV (rP n fF) (l.take (i+1)):=by rw[b8];unfold tV;grind
  have st:aaK pG s 4 (pT (Z ⟨O,l.getD i 0,Y⟩)) (.bool tT)=Z (s.put O (.cells (Bo (tV (rP n fF) (l.take (i+1)))))):=by rw[QB (P:=pG) (t:=4) (x:=.bool tT) AV Ji oO (off:=l.getD i 0) (by rw[O2,ZA];exact hv) rfl rfl,Tr,eF]
  have eG:aaC pG s 41 ⟨B,2,Y⟩=Z (sL (Z ⟨O,0,Y⟩) n n):=by rw[Fq Uh rfl oB];rfl
  have w8:WF (s.put O (.cells (Bo (tV (rP n fF) (l.take (i+1)))))):=ar.put _ (ar.lt oO);have eH:(s.put O (.cells (Bo (tV (rP n fF) (l.take (i+1)))))).own O=Z (.cells (Bo (tV (rP n fF) (l.take (i+1))))):=aai.Y3 _ _ _;have eI:(s.put O (.cells (Bo (tV (rP n fF) (l.take (i+1)))))).own B=Z (.cells [.int .i64 (n:Int),bv,sL (Z ⟨O,0,Y⟩) n n,rW,rW,rW]):=by grind[aai.By]
  have c6:Le M (s.put O (.cells (Bo (tV (rP n fF) (l.take (i+1)))))):=av.put _ gO;have eL:GP (s.put O (.cells (Bo (tV (rP n fF) (l.take (i+1)))))) wv ((ZH l).take i):=GS.put gw _ aT;generalize s.put O (.cells (Bo (tV (rP n fF) (l.take (i+1)))))=h8 at*;have aw:=aaa i (Lb d (ff I NH));have nz:=nz_len d;have eM:=Wt d;have eO:=Y7 (a:=i+1) (FI d) (ff I NH);simp only[HO,seval,ad i d,ld s av i d,eB,eG,eE,st,lr,aw,nz,eM,eO,ad _ c4,ld h8 c6 _ c4];refine kCi func125 (pair_any J (l.getD i 0) (l.getD ((i+1)%l.length) 0) h8) ?_;rintro x h9 w9 ⟨rfl,aW⟩;have⟨eP,fZ,ga,eQ,eS,c9,gf,gg,da,bg⟩:=(eL.le aW).push w9 (GW (l.getD i 0) (l.getD ((i+1)%l.length) 0)) (rt_b I a8);have⟨db,eT⟩:=da M (c6.trans aW) b5;have⟨dc,dd⟩:=bg B _ (aW.own _ _ eI) b6;have⟨de,dg⟩:=bg O _ (aW.own _ _ eH) aT;rw[<-c5]at c9;simp only[HO,seval,eQ,eS,aw];exact lgA (JS d) ⟨i+1,eP,rfl,d,rfl,dc,de,db,c9,eT,dd,dg⟩
 have aX:l.length<=i:=vp hf;rw[abe aX]at oO;rw[abe (by grind[F9])]at gw;clear aX hf hi;refine Uy ?_;have b9:l.length<=100000:=ff I NH;refine kCi func49 (CH J gw (by rw[F9];exact b9) (ring_bd Rg hR NH)) ?_;rintro x a6 eU ⟨rfl,gs,N⟩;have kw:∀b o,s.own b=Z o->blk wv≠Z b->a6.own b=Z o:=fun b o ho hb=>(N (rem (bl wv) s) (Sa _ _) fun c hc=>by grind[DC,Zr]).own _ _ (Th.2 ⟨ho,fun m=>hb (Zr.1 m)⟩);have bh:=kw B _ oB b6;have bk:=kw O _ oO aT;have ay:=N M av b5;refine Uy ?_;refine kCi qS27 (QY J lv (kz l) a6 (aP.le ay).rl (by rw[y6];exact b9)) ?_;rintro cc dj eV ⟨dk,dm,cd⟩;refine Uy ?_;refine kCi qS28 (Wk J cc (kz l) dj dk (by rw[y6];exact b9)) ?_;rintro x U gi ⟨cf,dp,eW⟩;have az:=dp a6 dm cd;have eX:(kz l).reverse=kz l.reverse:=by simp[kz]
 rw[eX]at cf;have bm:=az.own _ _ bh;have br:=az.own _ _ bk;have bx:=ay.trans az;have hX:∀b∈[B,O],M.own b=Y:=fun b hb=>by grind
 have V:Le M (rem [B,O] U):=le_rem _ bx hX;have dq:∀b,blk cc=Z b->b∉[B,O]:=fun b hb m=>by have:=cd b hb;grind
 have dr:∀b,blk wv=Z b->b∉[B,O]:=fun b hb m=>by grind
 have bB:GI (rem [B,O] U) cc (kz l.reverse):=GS.Fi cf dq;have bF:GP (rem [B,O] U) wv (aa5 (ZH l)):=GS.Fi (GP.le gs az) dr;have bH:=aP.le V;have ZA:(tV (rP n fF) l).length=n:=by
  have:∀(w:II)(o:List Bool),(tV o w).length=o.length:=fun w=>by
   induction w with
   |nil=>intro o;rfl
   |cons x w ih=>grind[tV,List.length_set]
  grind
 have S0:ShS (rem [B,O] U) U B O n (Zh n es) bv rW rW rW [] [] [] (tV (rP n fF) l) [] [] []:={
  f:=⟨bm⟩
  oO:=br
  ZA:=ZA
  gF:=GS.nil _ _
  uL:=rfl
  u1:=rfl
  gI:=GS.nil _ _
  wL:=rfl
  w1:=rfl
  gL:=GS.nil _ _
  cuL:=.inl rfl
  c1:=rfl
  sep:=⟨fun i j u w b gj hu hw hb=>by
    have:u=rW:=by have:=BS hu;grind
    grind[blk],fun i u b hu hb=>by
    grind[blk],fun i u hu b hb=>by grind[blk],Sa _ _⟩
  gB:=by grind[DC]
  gO:=by grind[DC]
  bO:=eA
  nb:=fun u hu=>by grind[blk]
  cF:=fun i u f hu=>by simp at hu
  cI:=fun i u f hu=>by simp at hu
  cL:=fun i p hp=>by simp at hp
  cB:=r.le (Nn.RL Nn.RP) V}
 generalize rem [B,O] U=dv at*;have dw:Le h dv:=((cK.trans z).trans aq).trans V;have gA:=A dv ((z.trans aq).trans V);clear oB oO av gw b5 b6 aT gs N kw dk dm cd cf dp eW bm br bh bk az bx ay dq dr hX eU eV ar;clear a6 dj s;refine Uy ?_;have dy:∀x∈l,x<n:=fun x hx=>Rg.lt hR hx;refine kCi qS36 (IU J S0 bH.rl dy NH (ff I NH) Ma) ?_;rintro x gk gn ⟨gq,gu,gv,gC,gE,S1,dz⟩;refine Uy ?_;refine kCi qS36 (IU J S1 ((bB.le dz).rl) (f:=l.reverse) (fun x hx=>dy x (alw.1 hx)) NH (by rw[alK];exact ff I NH) Ma) ?_;rintro x eZ gG ⟨gJ,aC,aD,e0,e1,S2,e5⟩;have R:=dz.trans e5;simp only[aiM,qL204]at S2;have dA:=A eZ ((((z.trans aq).trans V).trans R).trans S2.le);have bI:=bF.le R;have bN:=(bZ.le (aq.trans V)).le R;have⟨e6,cg⟩:=S2.reg;refine Sk dA.1 ?_;refine kCi func130 (S2.side (iN J _ wv ⟨(n:Int),es⟩ (aa5 (ZH l)) _ ⟨ev,rfl,bN.le cg⟩ (bI.le cg).pr (by rw[ZS,F9];exact ff I NH))) ?_;rintro x e7 e8 ⟨ck,⟨e9,e2,rfl,D⟩,S3,cm,dB,fb⟩;have dE:=Rg.web hR;simp only[yM]at D;rcases D with⟨q,-⟩|⟨-,q,-⟩|⟨-,-,rfl,L,hT,a7⟩
 .exact absurd hr q
 .exact absurd dE q
 rw[frag_tog hR hA.nodup hT (uY (n:=n) (on:=Qw n (aa5 (ZH l))) (es:=es))]at a7;have I0:=Rg.start hR hA (L:=MF n (Qw n (aa5 (ZH l))) es) uY;have dF:ahf n es=Mw n es l (MF n (Qw n (aa5 (ZH l))) es):=by unfold ahf;rw[b2]
 rw[dF];have dH:=I0.Vw;have bQ:(Mw n es l (MF n (Qw n (aa5 (ZH l))) es)).on=tV (rP n fF) l:=rfl;have bW:(Mw n es l (MF n (Qw n (aa5 (ZH l))) es)).Jv=[l,l.reverse]:=rfl;have aF:(Mw n es l (MF n (Qw n (aa5 (ZH l))) es)).left=(LJ n es (aa5 (ZH l)) (MF n (Qw n (aa5 (ZH l))) es)).map fun f=>⟨f.zp,f.Fm,zh [l,l.reverse] f.Fm [0,1]⟩:=rfl;have cp:∀f∈LJ n es (aa5 (ZH l)) (MF n (Qw n (aa5 (ZH l))) es),(∀x∈f.Fm,∃v:Nat,x=(v:Int)/\v<n)/\f.Fm.length<=n:=fun f hf=>by have hm:(⟨f.zp,f.Fm,zh [l,l.reverse] f.Fm [0,1]⟩:wW)∈(Mw n es l (MF n (Qw n (aa5 (ZH l))) es)).left:=hGr;exact⟨I0.abJ hR hm,I0.UO hR hm⟩
 rw[aF,vg]at dH;rw[bQ,bW,aF];generalize LJ n es (aa5 (ZH l)) (MF n (Qw n (aa5 (ZH l))) es)=N at*;have fc:=a7.len;have dI:=sB B 5 NH;have fS:Le h ck:=(dw.trans R).trans (cg.trans dB);clear bQ bW aF dF I0 hT S2 e6 S1 S0 A A6 dA fT cM bI bN gA bF bB bZ b0 bH;refine Sk fc ?_;refine lIn (fun k fr s=>∃(i:Nat)(g:aai)(cs:xLV)(W:vV),k=N.length-i/\i<=N.length/\fr=mkF [(7,pT (Z ⟨B,0,Y⟩)),(90,e9),(91,(N.length:Nat)),(92,(i:Nat))]/\
   ShS g s B O n (Zh n es) bv aC aD W e0 e1 cs (tV (rP n fF) l) [l,l.reverse] [l,l.reverse] ((N.take i).map fun f=>⟨f.zp,f.Fm,zh [l,l.reverse] f.Fm [0,1]⟩)/\Le ck g) ⟨0,ck,[],rW,rfl,aax _,rfl,S3,Le.refl _⟩ ?_
 clear S3 e8 cm fb;clear e7;rintro k fr s ar ⟨i,g,cs,W,rfl,hi,rfl,S,lg⟩;refine Uy ?_;refine Kl.intro (fun ht=>?_) (fun hf=>?_)
 .have d:i<N.length:=acb ht;clear ht;have fe:=Gc d;have⟨a',b',cq,ra,rb⟩:=a7.load fe;have fg:=a7.addr (k:=.i64) i d;have⟨fh,dJ⟩:=cp _ (aev d);have b8:N.take (i+1)=N.take i++[N[i]]:=XJ d;generalize N[i]=f at*;have cq:=cq s (lg.trans S.le);have ra:=ra.le lg;have rb:=rb.le Nn.RP lg;have⟨gM,cx,fi,fk,fm,fp,nQ,oQ⟩:=new41' ar ra.sl rb.sl
  have dQ:s.next∉B::O::(bl aC++bl aD++bl W):=fun m=>(S.own (HX.1 m)).2 nQ
  have dL:=S.up fm
  generalize s.next=Q at*
  have⟨dM,fq,cz,gN,ft⟩:=Tt fp [.int .i64 0,.int .i64 1];have mk:=mk2 cx 0 1;rw[fq]at mk;have aH:=dL.up cz
  have fw:RL RP dM (sL (Z cx.next) 2 2) (kz [0,1]):=RL.Wh (RS.whole ft rfl)
  have dO:=ld41 (cz.own _ _ oQ);have dS:=ld41 oQ;have dT:=aH.f;have aw:=aaa i (Lb d (QJ NH));refine Sk (xU fg cq fi fk) ?_;refine gh (fRn 0 12 (JQ 12 [] (JQ 13 [9,11,12] (tA [14] (JQ 15 [14] (JQ 16 [4,13,15] (tA [17,18] (JQ 19 [0,1,2,3,4,5,6,7,8,9,10,11,12,13,14,15,16,18] .done)))))))) ?_;simp only[HO,seval,Qg,dI,ff0,ff1,Ip,EL,dL.f.l5,dT.l5,dS.2.1,dS.2.2,dO.2.1,dO.2.2,mk]
  refine kGi qS29 (NR J B n bv _ aC aD W b' (sL (Z cx.next) 2 2) [l,l.reverse] f.Fm [0,1] dM dT aH.rlI ((rb.le Nn.RP aH.le)) fw fh Ma (sr dJ a8) Ma) ?_
  rintro y cC fx ⟨dV,dW,fy⟩;have bY:=dW.own _ _ (cz.own _ _ oQ);have dZ:=ld41 bY;have fC:(Hg cC B O aC aD W).own Q=Z (.cells [a',b']):=by grind[Hg,DC]
  have⟨cE,aJ⟩:=(aH.up dW).reg;have gy:GI (Hg cC B O aC aD W) y (kz (zh [l,l.reverse] f.Fm [0,1])):=Pv (h:=cC) aH dV fy;have⟨fJ,gP,gR,gS,fL,fM,fN,gT,gU,ec,fP,ed⟩:=cE.pushL fx (a:=a') (b:=b') (c:=y) (p:=⟨f.zp,f.Fm,zh [l,l.reverse] f.Fm [0,1]⟩) (ra.le aJ) (rb.le Nn.RP aJ) gy.rl (tk_b dH cJ _);have ee:=ld41 (ec.own _ _ bY);have ef:=ld41 (ed.own _ _ fC);have fQ:=cE.f.le ec;have ai:=build125 ra.sl rb.sl dV.rl.sl;simp only[HO,seval,Qg,dI,ff0,ff1,Ip,EL,cE.f.l5,fQ.l5,fP.l5,dZ.2.1,dZ.2.2,ee.2.1,ee.2.2,ef.2.1,ef.2.2,ai,fL,fM,fN,aw];refine lgA (JS d) ⟨i+1,_,cs++[a',b',y],fJ,rfl,d,rfl,?_,lg.trans aJ⟩;grind
 have aX:N.length<=i:=vp hf;rw[abe aX]at S;refine Uy ?_;grind[Le.trans]
variable {B v:Nat} {G:GM} {S:ShM} {cs us ws:List Value} {fv iv lv:Value} {left:List wW} {r:Nat->II} {rows:AM}
theorem Nb(d:LA)(v:vV)(n:Nat)(es:xLP)(h:aai)(hg:GR h v ⟨(n:Int),es⟩)(e:bX ⟨(n:Int),es⟩):
  AC pG d 86 [v] h fun x h'=>RR (zW n es) x/\Le h h':=by
 have c:=hg
 obtain⟨ev,rfl,u⟩:=hg.open
 refine AC.vF func86 ntmps86 results86 fun i=>?_;obtain⟨o,p,a,w,-,q⟩:=r8 (n:=(n:Int)) i u
 generalize h.next=B at*
 have b:=q o (Le.refl _);by_cases r:(n:Int)<3
 .have j:decide ((n:Int)<3)=tT:=Z6 r;refine Sk (bG p @Ii @Ip.eq_1 @EL b.2.1 j) ?_;exact⟨RR.f fun T=>by have:=T.n3;omega,a⟩
 have j:decide ((n:Int)<3)=fF:=IE r;have h3:3<=n:=NH;refine Sk (rE p @Ii @Ip.eq_1 @EL b.2.1 b.1 j) ?_;refine kCi func30 (It d _ ⟨(n:Int),es⟩ o (c.le a) e) ?_;rintro pv s D ⟨gp,l4,-⟩;simp only[yM]at gp;have y:=gp.rl (Nn.RL Nn.RP);have k:=fun g=>y.qP5 g;have l:((Gx n es n).map kz).length=(Es n es).length:=by simp[Gx]
 rw[l]at k;have m:=q s l4;by_cases c1:((Es n es).length:Int)=1
 rotate_left
 .have d1:decide (((Es n es).length:Int)=1)=fF:=IE c1;refine Sk (Yb k @bne.eq_1.{0} d1) ?_
  grind[RR.f,zW.one,Le.trans]
 have d1:decide (((Es n es).length:Int)=1)=tT:=Z6 c1;have z:(Es n es).length=1:=NH;refine Sk (xU k @bne.eq_1.{0} d1 m.1) ?_
 refine kCi func34 (Cw d _ ⟨(n:Int),es⟩ s (c.le (a.trans l4))) ?_;rintro x E F ⟨l5,⟨A,_⟩|⟨_,G,rfl,t⟩⟩
 .exact absurd e A
 simp only[yM]at t;have C:=fun g=>t.len (P:=pG) alD g;have H:=Uv e h3 z;refine Sk C ?_;refine⟨⟨_,rfl,?_⟩,(a.trans l4).trans l5⟩;grind
noncomputable def ajk(n:Nat)(es:xLP):Option AM:=if 3*n<es.length+6 then Y else embM n es
theorem left_nil{H:Nat->Nat->Prop}(hR:aV n es)(hA:D3 es)(D:QG (eN n es))(I:Z8 n es H S)(h:OW es H=0):S.left=[]:=by
 rcases run_ok hR hA D 0 H S I NH with⟨a,-⟩|⟨b,c,a,-,h3⟩
 all_goals grind[runM]
theorem run_nil(h:S.left=[]):∀k,runM n rows k S=Z S
 |0=>rfl
 |k+1=>by grind[runM.eq_2]
theorem ShS.rlF{on:List Bool}{b d:Cs}(S:ShS g h B O n rows bv fv iv lv us ws cs on b d left):RL (RL RP) h fv (b.map kz):=
 ⟨us,(GS.cs S.gF).rs,by grind[ShS.uL],fun i x u a e=>by
  rw[Q4]at a;cases c:b[i]? with
  |none=>grind
  |some f=>rw[c]at a;simp at a;subst a;exact(S.cF i u f e c).le Nn.RP S.le⟩
theorem face_bd{F:Cs}(G:abK n r F):∀f∈F,(∀x∈f,x<n)/\f.length<=n:=fun f hf=>by have a:∀x∈f,x<n:=fun x b=>G.Rl.lt _ _ (G.O.df G.Rl hf b);refine⟨a,?_⟩;have:=tf (G.O.nd f hf) (B:=rG n) fun v c=>Db.2 (a v c);grind
theorem row_pos(a:zW n es)(hR:aV n es)(b:v<n):0<((Zh n es).getD v []).length:=by have⟨w,hw⟩:=a.ne hR b;have⟨u,c,e⟩:=N8 ((aU hR).2 ⟨w,hw⟩);grind[qG,Av.back]
theorem row_le(b:v<n):((Zh n es).getD v []).length<=2*es.length:=by
 have a:v<(Zh n es).length:=by grind[Xq]
 rw[D4 a];exact bV n es _ (aev a)
def GRc(h:aai)(v:vV)(G:GM):Prop:=∃ev,v=.agg #[G.n,ev]/\PR h ev G.es/\okc 2 ev
def GRc.gr{v:vV}(g:GRc h v G):GR h v G:=by obtain⟨ev,a,h2,-⟩:=g;exact⟨ev,a,h2⟩
def EmbIs(G:GM)(h':aai)(a:vV)(e:Int):Prop:=
 (¬bX G/\e=20/\a=rW)\/(bX G/\¬zW G.n.toNat G.es/\e=60/\a=rW)\/
 (bX G/\zW G.n.toNat G.es/\ajk G.n.toNat G.es=Y/\¬XU G.n.toNat (eN G.n.toNat G.es)/\e=90/\a=rW)\/
 (bX G/\zW G.n.toNat G.es/\∃rs,ajk G.n.toNat G.es=Z rs/\Av G.n.toNat G.es rs/\Flat G.n.toNat (Xl rs)/\e=0/\RL (RL RP) h' a rs)
theorem Im(t:LA)(v:vV)(G:GM)(h:aai)(hg:GRc h v G):
  AC pG t 59 [v] h fun x h'=>Le h h'/\∃rv e,x=.tuple #[rv,.int .i64 e]/\EmbIs G h' rv e:=by
 have z:=hg.gr;obtain⟨ev,rfl,N,hc⟩:=hg;have⟨gn,es⟩:=G;simp only at N;refine AC.vF func59 ntmps59 results59 fun Q=>?_;obtain⟨h1,b1,p,aD,-,R⟩:=r8 (n:=gn) Q N
 generalize h.next=B1 at*
 have T:=R h1 (Le.refl _);refine Sk (XC b1 T.1) ?_;refine kCi qS6 (ak t _ _ h1 (z.le p)) ?_;rintro x h2 aF ⟨⟨U,rfl,i⟩,m⟩;cases U with
 |false=>refine Uy ?_;exact⟨p.trans m,_,_,rfl,.inl ⟨(fun d=>by grind),rfl,rfl⟩⟩
 |true=>
 have d:=i.1 rfl;clear i;have h0:0<=gn:=d.n0;obtain⟨n,rfl⟩:=qL7 h0;have az:(n:Int)<=200:=d.n1;have aC:es.length<=594:=d.len;have hR:=d.GD;have hA:D3 es:=d.q9;have a:=p.trans m;refine Sk ((R h2 m).1) ?_;refine kCi func86 (Nb t _ n es h2 (z.le a) d) ?_;rintro x h3 aH ⟨⟨U,rfl,i⟩,j⟩;have fT:=R h3 (m.trans j);cases U with
 |false=>refine Uy ?_;exact⟨a.trans j,_,_,rfl,.inr (.inl ⟨d,(fun q=>by cases i.2 q),rfl,rfl⟩)⟩
 |true=>
 have l:=i.1 rfl;clear i;have aJ:=l.n3;have lP:=fun g=>N.len g;have A:aaY .i64 (3*(n:Int))=3*(n:Int):=ie _ NH NH;have C:aaY .i64 (3*(n:Int)-6)=3*(n:Int)-6:=ie _ NH NH;by_cases c1:3*n<es.length+6
 .have d1:decide ((es.length:Int)>3*(n:Int)-6)=tT:=Z6 NH;simp only[HO,seval,Ii,Di,Ip,EL,fT.2.1,fT.2.2,lP,A,C,d1];exact⟨a.trans j,_,_,rfl,.inr (.inr (.inl ⟨d,l,Sb c1,many_no d l c1,rfl,rfl⟩))⟩
 have d1:decide ((es.length:Int)>3*(n:Int)-6)=fF:=IE NH;simp only[HO,seval,Ii,Di,Ip,EL,fT.2.1,fT.2.2,fT.1,lP,A,C,d1];refine kCi func87 (Si t ev n es h3 (N.le (a.trans j)) hc d l) ?_;rintro x h4 w4 ⟨g4,B,O,bv,u,w,y,us,ws,cs,rfl,V,S4,Rg⟩;have I0:=Rg.start hR hA (L:=MF n (Qw n (aa5 (ZH (zl n es)))) es) uY;have hX:ajk n es=(runM n (Zh n es) es.length (ahf n es)).map fun S=>xY n (Zh n es) S.Jv:=WA c1;have D:=l.Z7 hR;have E:OW es (Ei (zl n es))<=es.length:=OM _ _;have F:=(a.trans j).trans V;refine Uy ?_;refine lIn (fun k fr W=>∃(S:ShM)(H:Nat->Nat->Prop)(g:aai)(u w y:vV)(us ws cs:xLV),fr=mkF [(4,pT (Z B))]/\Z8 n es H S/\runM n (Zh n es) es.length (ahf n es)=runM n (Zh n es) k S/\OW es H<=k/\
   ShS g W B O n (Zh n es) bv u w y us ws cs S.on S.Jv S.Jv S.left/\Le g4 g) ⟨ahf n es,_,g4,u,w,y,us,ws,cs,rfl,I0,rfl,E,S4,Le.refl _⟩ ?_
 clear S4 I0 E w4;clear h4 u w y us ws cs;rintro k fr W aK ⟨S,H,g,u,w,y,us,ws,cs,rfl,I,b,hu,o,X⟩;have J:=sB B 5 NH;have lL:=o.lenL;by_cases c:S.left=[]
 .have dL:decide ((S.left.length:Int)>0)=fF:=by rw[c];rfl
  refine Sk (xU J o.f.l5 lL dL) ?_;rw[run_nil c]at b;have⟨r,Gd,fl,hm⟩:=I.done c;have⟨k1,k2⟩:=circ_ok d l Gd fl hm;have K:=face_bd Gd;have aL:=I.My;refine kCi func89 (pY t B n bv _ u w y (Zh n es) S.Jv W o.f (o.cB.le (Nn.RL Nn.RP) o.le) o.rlF (Xq n es) (fun v hv=>⟨row_pos l hR hv,by have:=row_le (es:=es) hv;omega⟩) (fun f hf=>⟨(K f hf).1,by have:=(K f hf).2;omega⟩) NH NH NH (circ_hit d l Gd hm)) ?_;rintro x h9 w9 ⟨hx,l9⟩;refine Uy ?_;refine⟨((F.trans X).trans o.le).trans l9,x,_,rfl,.inr (.inr (.inr ⟨d,l,_,?_,k1,k2,rfl,hx⟩))⟩;grind
 .have dL:decide ((S.left.length:Int)>0)=tT:=by grind[length_pos_iff]
  obtain⟨k',rfl⟩:∃k',k=k'+1:=by
   cases k<;>grind[left_nil]
  refine Sk (xU J o.f.l5 lL dL) ?_;refine kCi func88 (lay_any t o d D I c) ?_;rintro x h9 w9 ⟨g9,M,l9,s⟩;rw[runM,WA c]at b;rcases s with⟨q1,rfl⟩|⟨S',aa,ae,ai,aj,aq,ar,q1,rfl,av⟩
  .rw[q1]at b;refine Uy ?_;have ay:¬XU n (eN n es):=by grind[Z8.lay]
   refine⟨((F.trans X).trans M).trans l9,_,_,rfl,.inr (.inr (.inl ⟨d,l,?_,ay,rfl,rfl⟩))⟩;grind
  .rw[q1]at b;refine Uy ?_;obtain⟨P,I',aN⟩:∃P,Z8 n es P S'/\OW es P<OW es H:=by grind[Z8.lay]
   exact lgA (agh _) ⟨S',P,g9,aa,ae,ai,aj,aq,ar,rfl,I',b,NH,av,X.trans M⟩
section
variable{n a b:Nat}{L1 L2:List Pr}
theorem less_adj(h:bX ⟨(n:Int),L1++((a:Int),(b:Int))::L2⟩)(x y:Nat):Jp (L1++L2) x y↔Jp (L1++((a:Int),(b:Int))::L2) x y/\¬(x=a/\y=b)/\¬(x=b/\y=a):=by
 have hR:=h.GD;have nd:=(show D3 (L1++((a:Int),(b:Int))::L2)from h.q9).nodup;have e:=hR _ (show((a:Int),(b:Int))∈L1++((a:Int),(b:Int))::L2 by simp);simp only at e;have no:((a:Int),(b:Int))∉L1++L2:=(eR.1 (perm_middle.nodup_iff.1 nd)).1;have c:((b:Int),(a:Int))∉L1++L2:=fun q=>by have:=hR ((b:Int),(a:Int)) hGr;simp only at this;omega
 unfold Jp;simp only[vZ,HV,Gw]at no c ⊢;constructor
 .intro q;refine⟨by rcases q with q|q<;>grind,fun w=>?_,fun w=>?_⟩
  .obtain⟨rfl,rfl⟩:=w;exact q.elim no c
  .obtain⟨rfl,rfl⟩:=w;exact q.elim c no
 .rintro⟨q,d,h2⟩;grind
end
end
section
attribute [local irreducible] Jz JL vq cQ
def okB(n:Int)(es:xLP)(i:Nat):Bool:=match es[i]? with
 |some p=>decide (0<=p.1)&&decide (p.1<p.2)&&decide (p.2<n)&&(i==0||match es[i-1]? with|some q=>decide (Nz q p<0)|none=>tT)
 |none=>tT
theorem V5{n:Int}{es:xLP}(a:0<=n)(b:n<=200)(c:es.length<=594)(hd:(rG es.length).all (okB n es)=tT):bX ⟨n,es⟩:=by refine⟨a,b,c,fun i hi p d=>?_⟩;have:=QD.1 hd i (Db.2 hi);grind[okB]
attribute [local instance] Classical.propDecidable in
theorem ajG{n:Nat}{es:xLP}{rs:AM}(a:bX ⟨(n:Int),es⟩)(G:Av n es rs)(b:0<n)(c:∀v,v<n->Pu es 0 v)(hf:n+(IN n rs).length=es.length+2):XU n (eN n es):=Vg a.GD a.q9 G ((En a.GD a.q9 G).1 ((vS a.GD a.q9 G b c).2 fun _=>hf))
attribute [local instance] Classical.propDecidable in
theorem two_of{n:Nat}{es:xLP}(b:bX ⟨(n:Int),es⟩)(h3:3<=n)(a:es≠[])(c:∀v,v<n->Pu es 0 v)(hb:(vq n es).length=1):zW n es:=(Uv b h3 (join_of b.GD NH a c).2).1 hb
def m5E:xLP:=[(0,2),(0,3),(0,4),(1,2),(1,3),(1,4),(2,3),(2,4),(3,4)]
def k5L:xLP:=(0,1)::m5E
def akF:xLP:=[(0,3),(0,4),(0,5),(1,3),(1,4),(1,5),(2,3),(2,4),(2,5)]
def ajl:xLP:=[(0,1),(0,2),(1,2),(2,3),(2,4),(3,4)]
def k5R:bX ⟨((5:Nat):Int),k5L⟩:=V5 WY WY WY iw
def k33R:bX ⟨((6:Nat):Int),akF⟩:=V5 WY WY WY iw
def bowR:bX ⟨((5:Nat):Int),ajl⟩:=V5 WY WY WY iw
theorem eN_like{n:Nat}{es:xLP}{E:Nat->II}(hR:aV n es)(a:∀v w,w∈E v->v<n/\w<n)(h:∀v,v<n->∀w,w<n->(w∈eN n es v↔w∈E v)):∀v w,w∈eN n es v↔w∈E v:=by grind[vD,Jp.lt]
theorem k5N:¬XU 5 (eN 5 k5L):=fun h=>k5_no (qL0 5) ((XU.eN_congr (eN_like k5R.GD (by grind[pZ]) iw)).1 h)
section
variable{G:GM}{h:aai}{rv:vV}{e:Int}
theorem EmbIs.XK(I:EmbIs G h rv e)(b:bX G)(c:zW G.n.toNat G.es)(d:XU G.n.toNat (eN G.n.toNat G.es)):∃rs,ajk G.n.toNat G.es=Z rs/\Av G.n.toNat G.es rs/\Flat G.n.toNat (Xl rs)/\e=0/\RL (RL RP) h rv rs:=by
 rcases I with⟨a,_⟩|⟨_,a,_⟩|⟨_,_,_,h2,_⟩|⟨_,_,h2⟩
 all_goals grind
end
variable {b:List Pr} {n v:Nat}
def aag(n:Nat)(b:xLP):II:=(rG n).filter fun v=>b.any fun p=>aO p (v:Int)
def abD(n:Nat)(b:xLP)(x:Int):Nat:=(aag n b).countP fun(v:Nat)=>decide ((v:Int)<x)
def aat(n:Nat)(b:xLP):xLP:=b.map fun p=>((abD n b p.1:Int),(abD n b p.2:Int))
def adJ(b:xLP):RZ:=b.flatMap fun p=>[p.1,p.2]
theorem aeS(b:xLP)(x:Int):x∈adJ b↔∃p∈b,aO p x=tT:=by
 simp only[adJ,KG,aO,HV,fj,or_false,ai4,abV];constructor
 .rintro⟨p,a,h⟩;exact hGr
 .rintro⟨p,a,h⟩;exact hGr
def aeT:v∈aag n b↔v<n/\∃p∈b,aO p (v:Int)=tT:=by simp[aag]
theorem adX(hR:aV n b):Lib.compact (qC (adJ b))=kz (aag n b):=by
 refine afY _ _ (bT (aQ _)) ?_ fun x=>?_
 .unfold kz;rw[V3];exact(b7.filter _).imp fun h=>by omega
 .rw[jn,Wv,aeS];simp only[kz,si,aeT];constructor
  .rintro⟨p,a,h⟩;have⟨c,h2,h3⟩:=hR p a;have h':=h;simp only[aO,ai4,abV]at h';refine⟨x.toNat,⟨NH,p,a,?_⟩,NH⟩;rwa[Int.toNat_of_nonneg NH]
  .rintro⟨v,⟨d,p,a,h⟩,rfl⟩;exact⟨p,a,h⟩
def aaV(n:Nat)(b:xLP):Prop:=b.length<9\/(bX ⟨((aag n b).length:Int),aat n b⟩/\zW (aag n b).length (aat n b)/\XU (aag n b).length (eN (aag n b).length (aat n b)))
def aak(n:Nat)(es:xLP):Prop:=bX ⟨(n:Int),es⟩/\∀b∈vq n es,aaV n b
attribute [local instance] Classical.propDecidable in
noncomputable def aeH(n:Nat):Nat->Nat->xLP->xLP
 |0,_,l=>l
 |f+1,i,l=>if i<l.length then(if aak n (l.eraseIdx i)then aeH n f (i+1) l else aeH n f i (l.eraseIdx i))else l
attribute [local instance] Classical.propDecidable in
noncomputable def abv(G:GM):xLP:=if aak G.n.toNat G.es then[]else aeH G.n.toNat G.es.length 0 G.es
def abQ{n:Nat}{l:xLP}(h:∀i,i<l.length->aak n (l.eraseIdx i)):∀f i,aeH n f i l=l
 |0,i=>rfl
 |f+1,i=>by
  rw[aeH];split
  .rename_i hi;rw[Sb (h i hi)];exact abQ h f (i+1)
  .rfl
variable {c es:List Pr} {m:Nat} {rs:AM}
def aco(es:xLP)(n:Nat)(a:II):II:=(rG n).filter fun v=>a.contains v||a.any fun p=>hasB es ((p:Int),(v:Int))||hasB es ((v:Int),(p:Int))
def conB(n:Nat)(es:xLP):Bool:=(rG n).all fun v=>(it (aco es n) n [0]).contains v
def con_chk(h:conB n es=tT):∀v,v<n->Pu es 0 v:=by
 have:∀k,∀v∈it (aco es n) k [0],Pu es 0 v:=by
  intro k
  induction k with
  |zero=>
   intro v a;have:v=0:=by simpa[it]using a
   subst this;exact Pu.refl _ _
  |succ k c=>
   intro v a;have a:v∈aco es n (it (aco es n) k [0]):=a;simp only[aco,xD,Dl,ai4,uu,hasB_iff]at a;rcases a.2 with b|⟨p,d,b⟩
   .exact c v b
   .exact tM (c p d) b
 intro v a;exact this n v (Dl.1 (QD.1 h v (Db.2 a)))
theorem abX{hs:List (H8×Nat)}(d1:(rG es.length).all (okB 5 es)=tT)(d2:conB 5 es=tT)(d3:(vq 5 es).length=1)(d4:(rG 5).all (fun v=>(rs.getD v []).isPerm ((Zh 5 es).getD v []))=tT)(d5:Cert 5 (Xl rs) hs)(c:es.length=9)(d:rs.length=5)(e:hs.length=6:=by rfl):
  bX ⟨((5:Nat):Int),es⟩/\zW 5 es/\XU 5 (eN 5 es):=by
 have a:bX ⟨((5:Nat):Int),es⟩:=by grind[V5]
 have b:=con_chk d2;have G:Av 5 es rs:=rotG_of d d4;refine⟨a,two_of a WY hGr b d3,ajG a G WY b ?_⟩;rw[X9 a G d5,vg,e,c]
def m5_all:∀i,i<10->bX ⟨((5:Nat):Int),k5L.eraseIdx i⟩/\zW 5 (k5L.eraseIdx i)/\XU 5 (eN 5 (k5L.eraseIdx i)):=fun i hi=>by
 match i,hi with
 |0,_=>exact abX (rs:=[[2,3,4],[4,3,2],[3,0,4,1],[4,0,2,1],[2,0,3,1]]) (hs:=[((0,2),3),((0,3),3),((0,4),3),((1,2),3),((1,3),3),((1,4),3)]) iw iw iw iw iw rfl rfl
 |1,_=>exact abX (rs:=[[1,3,4],[3,0,4,2],[4,3,1],[4,0,1,2],[1,0,3,2]]) (hs:=[((0,1),3),((0,3),3),((0,4),3),((1,2),3),((1,3),3),((2,3),3)]) iw iw iw iw iw rfl rfl
 |2,_=>exact abX (rs:=[[1,2,4],[2,0,4,3],[4,0,1,3],[4,2,1],[1,0,2,3]]) (hs:=[((0,1),3),((0,2),3),((0,4),3),((1,2),3),((1,3),3),((2,4),3)]) iw iw iw iw iw rfl rfl
 |3,_=>exact abX (rs:=[[1,2,3],[2,0,3,4],[3,0,1,4],[1,0,2,4],[3,2,1]]) (hs:=[((0,1),3),((0,2),3),((0,3),3),((1,2),3),((1,4),3),((2,3),3)]) iw iw iw iw iw rfl rfl
 |4,_=>exact abX (rs:=[[3,1,4,2],[0,3,4],[4,3,0],[4,1,0,2],[0,1,3,2]]) (hs:=[((0,1),3),((0,2),3),((0,3),3),((0,4),3),((1,4),3),((2,3),3)]) iw iw iw iw iw rfl rfl
 |5,_=>exact abX (rs:=[[2,1,4,3],[0,2,4],[4,1,0,3],[4,2,0],[0,1,2,3]]) (hs:=[((0,1),3),((0,2),3),((0,3),3),((0,4),3),((1,4),3),((2,4),3)]) iw iw iw iw iw rfl rfl
 |6,_=>exact abX (rs:=[[2,1,3,4],[0,2,3],[3,1,0,4],[0,1,2,4],[3,2,0]]) (hs:=[((0,1),3),((0,2),3),((0,3),3),((0,4),3),((1,3),3),((2,3),3)]) iw iw iw iw iw rfl rfl
 |7,_=>exact abX (rs:=[[1,2,4,3],[4,2,0,3],[0,1,4],[4,1,0],[0,2,1,3]]) (hs:=[((0,1),3),((0,2),3),((0,3),3),((0,4),3),((1,2),3),((1,4),3)]) iw iw iw iw iw rfl rfl
 |8,_=>exact abX (rs:=[[1,2,3,4],[3,2,0,4],[0,1,3],[0,2,1,4],[3,1,0]]) (hs:=[((0,1),3),((0,2),3),((0,3),3),((0,4),3),((1,2),3),((1,3),3)]) iw iw iw iw iw rfl rfl
 |9,_=>exact abX (rs:=[[1,3,2,4],[2,3,0,4],[0,3,1,4],[0,1,2],[2,1,0]]) (hs:=[((0,1),3),((0,2),3),((0,3),3),((0,4),3),((1,2),3),((1,3),3)]) iw iw iw iw iw rfl rfl
theorem acG(a:bX ⟨(n:Int),es⟩)(h:es.length<9):aak n es:=⟨a,fun b hb=>by have⟨i,hi⟩:=Og.1 hb;obtain⟨k,-,rfl⟩:=Jh hi;exact .inl (by grind[length_filter_le])⟩
def aa4(a:bX ⟨(n:Int),es⟩)(hb:vq n es=[b]):aak n es↔aaV n b:=by unfold aak;rw[hb];simp[a]
def flat_is(a:(aag n b).length=m)(h2:aat n b=c)(h:bX ⟨(m:Int),c⟩/\zW m c/\XU m (eN m c)):aaV n b:=by subst a h2;exact .inr h
def flatB_no(a:(aag n b).length=m)(h2:aat n b=c)(d:9<=b.length)(h:¬XU m (eN m c)):¬aaV n b:=by
 subst a h2;rintro(h3|h3)
 .omega
 .exact h h3.2.2
def k5_plan:∀i,i<10->aak 5 (k5L.eraseIdx i):=fun i hi=>by
 have h:=m5_all i hi;have hb:∀i,i<10->vq 5 (k5L.eraseIdx i)=[k5L.eraseIdx i]/\(aag 5 (k5L.eraseIdx i)).length=5/\aat 5 (k5L.eraseIdx i)=k5L.eraseIdx i:=by decide+kernel
 have⟨a,b,c⟩:=hb i hi;exact(aa4 h.1 a).2 (flat_is b c h)
def k5_np:¬aak 5 k5L:=fun h=>flatB_no (n:=5) (b:=k5L) (m:=5) (c:=k5L) iw iw WY k5N ((aa4 (b:=k5L) k5R iw).1 h)
def fnd_k5:abv ⟨((5:Nat):Int),k5L⟩=k5L:=(WA k5_np).trans (abQ (l:=k5L) (fun i hi=>k5_plan i hi) _ _)
theorem alf{k:Int}(a:es.length<=594)(h:(rG es.length).all (okB 200 es)=tT)(e:aaN es=k):aaz es=k:=by rw[aaz,Sb (by grind[V5])];exact e
def kind_k5:aaz k5L=5:=alf WY iw iw
def kind_k33:aaz akF=33:=alf WY iw iw
end
end Go.Fw
