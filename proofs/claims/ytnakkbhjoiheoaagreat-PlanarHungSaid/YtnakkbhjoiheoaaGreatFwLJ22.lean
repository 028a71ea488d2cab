/- A text. -/
import Derived.Test.YtnakkbhjoiheoaaGreatFwLJ18
set_option linter.all false
set_option maxRecDepth 99999
set_option maxHeartbeats 9999999
open Go.Proofs
open Option renaming some→Z,none→Y
open Bool renaming true→tT,false→fF
open List renaming replicate→rP,range→rG
open Go.Value renaming slice→sL,pointer→pT
open Go renaming Value→vV
open Go.Proofs.Tryz renaming prog→pG
open Go.Proofs.Tryz
open List
namespace Go.Fw
section
attribute [local instance] Classical.propDecidable
attribute [local irreducible] Kp MQ lU KO1 KO KN KX KE VK Kl ZJ TC aab
variable {O i k m n:Nat} {bv:Value} {es:List Pr} {g h:aai} {l:II}
def box77(h:aai){n:Int}(hb:xO bv k):acB pG 129 [(0,n),(1,bv),(2,sL (Z O) m m)]=Z (.agg #[n,bv,sL (Z O) m m,rW,rW,rW])/\
  zF h (.agg #[n,bv,sL (Z O) m m,rW,rW,rW])=Z (pT (Z h.next),h.alloc (.cells [n,bv,sL (Z O) m m,rW,rW,rW])):=by
 obtain⟨_,_,rfl,_⟩:=hb;exact⟨by kernel_rfl,by kernel_rfl⟩
theorem ring_take(hi:i<l.length):(ZH l).take (i+1)=(ZH l).take i++[GW l[i] (l.getD ((i+1)%l.length) 0)]:=by grind[ZH,take_succ_eq_append_getElem]
theorem F9(l:II):(ZH l).length=l.length:=by simp[ZH]
theorem ring_bd(R:Ho n es l)(hR:aV n es)(d:n<=200):∀p∈ZH l,∃a b:Nat,p=((a:Int),(b:Int))/\a<1000/\b<1000:=fun p c=>by obtain⟨a,b,rfl,e,h2⟩:=jB hR (R.ik hR c);grind
theorem ring_len(R:Ho n es l)(hR:aV n es):l.length<=n:=by have:=tf R.nd (B:=rG n) fun v a=>abV.2 (R.lt hR a);grind
theorem rt_b(h:l.length<=n)(h2:(n:Int)<=200):((ZH l).take i).length+1<=100000:=by grind[F9]
theorem tk_b{a:List FM}(h:a.length<=m)(b:m<=594)(F:FM->wW):((a.take i).map F).length<=100000:=hGr
def build125{a b c:vV}(ha:xO a n)(hb:xO b m)(d:xO c k):acB pG 168 [(0,a),(1,b),(2,c)]=Z (.agg #[a,b,c]):=by obtain⟨_,_,rfl,_⟩:=ha;obtain⟨_,_,rfl,_⟩:=hb;obtain⟨_,_,rfl,_⟩:=d;kernel_rfl
def le_rem(X:II)(l:Le g h)(a:∀b∈X,g.own b=Y):Le g (rem X h):=l.iV a
theorem Si(J:LA)(ev:vV)(n:Nat)(es:xLP)(h:aai)(hp:PR h ev es)(hc:okc 2 ev)(hr:bX ⟨(n:Int),es⟩)(T2:zW n es):
  AC pG J 87 [.agg #[.int .i64 n,ev]] h fun x h'=>∃g' B O bv fv iv lv us ws cs,x=pT (Z ⟨B,0,Y⟩)/\Le h g'/\
   ShS g' h' B O n (Zh n es) bv fv iv lv us ws cs (ahf n es).on (ahf n es).Jv (ahf n es).Jv (ahf n es).left/\Ho n es (zl n es):=by
 have hR:=hr.GD;have hA:=hr.q9;have a8:(n:Int)<=200:=hr.n1;have cJ:es.length<=594:=hr.len;have⟨p0,rest,aa⟩:=N8 (T2.es_ne hR);obtain⟨a,b,rfl,fV,hb⟩:=jB hR (show p0∈es by grind);have eh:es.drop 1=rest:=by rw[aa];rfl
 have ei:bX ⟨(n:Int),rest⟩:=by grind[bX.tail]
 have ae:Pu rest b a:=T2.less hR NH hb NH fun x y ej fW=>by
  rcases ej with h|h
  .rw[aa]at h;rcases qL7.1 h with e|h
   .grind
   .exact .inl h
  .rw[aa]at h;rcases qL7.1 h with e|h
   .grind
   .exact .inr h
 have fY:rest.length<=594:=hGr;refine AC.vF func87 ntmps87 results87 fun ek=>?_;obtain⟨h1,b1,cK,en,-,A⟩:=r8 (n:=(n:Int)) ek hp
 generalize h.next=B1 at*
 have cM:=A h1 (Le.refl _);have aK:=hp.le cK;have cN:=aK.addr (k:=.i64) 0 hGr;have eo:=aK.load (i:=0) (p:=((a:Int),(b:Int))) (by rw[aa];rfl);have⟨h2,h3,e2,e3,l3,w3,o3⟩:=Ut en ((a:Int),(b:Int))
 generalize h1.next=E at*
 have fT:=A h3 l3;simp only[ai8]at cN;refine Sk (aNd9 b1 @Di @Ip.eq_1 @BS cM.2.2 cN eo e2 e3) ?_;have ep:=aK.le l3;obtain⟨rv,K,G,-⟩:=ep.cut hc (i:=1) hGr;rw[eh]at G;simp only[Int.natCast_one]at K;apply Ya (F:=fun(fr:aam)(h5:aai)=>∃(X:Nat)(cv:vV),Fj fr [(1,pT (Z B1)),(3,pT (Z E)),(4,pT (Z X))]/\Le h3 h5/\WF h5/\PR h5 cv rest/\∀g,Le h5 g->aaC pG g 24 ⟨X,0,Y⟩=Z (.agg #[.int .i64 n,cv]))
 .intro cont;refine gh (tA [0,1,2,3,4] (.ch 5 [4] (tA [6] (JQ 7 [] (JQ 8 [0,1,2,3,4,5,6,7] .done))) (JQ 7 [] (JQ 5 [4] (tA [6] (JQ 8 [0,1,2,3,4,5,6,7] .done)))))) ?_
  have et:∃g,h3.alloc (.cells [.int .i64 0,.slice Y 0 0])=g/\Le h3 g/\WF g/\g.own h3.next=Z (.cells [.int .i64 0,.slice Y 0 0]):=Tt w3 _
  have⟨q1,y1,m1,v1,u1⟩:=et
  have aL:abO pG h3 24=Z (pT (Z h3.next),q1):=by rw[Lo,y1]
  have Q1:=A q1 (l3.trans m1);simp only[kJJ,seval,Qg,Ii,Di,Ip,BS,fT.2.1,fT.2.2,K,aL,Q1.2.1,Q1.2.2];refine⟨?_,?_⟩
  .refine kGi qS34 (DA J rv rest h3 G NH) ?_;rintro cv h4 w4 ⟨gc,l4,-⟩;have A4:=A h4 (l3.trans l4);have ai:=Wj (n:=(n:Int)) gc.pr.sl;have⟨h5,C,a5,s5,l6,w6,lG⟩:=newG (n:=(n:Int)) w4 gc.pr;have A5:Le h4 h5:=by grind[Lo,Le.refl,Le.alloc]
   have A5:=A h5 ((l3.trans l4).trans A5);have A6:=A C ((l3.trans l4).trans l6);simp only[kJJ,seval,Qg,Ii,Di,Ip,BS,A4.2.1,A4.2.2,K,ai,a5,s5,A5.2.1,A5.2.2,A6.2.1,A6.2.2];refine KN.UJ fun fr' h' x y=>cont fr' h' ?_;subst x y;exact⟨_,cv,fD,l4.trans l6,w6,gc.pr.le l6,fun g l=>(lG g l).1⟩
  .refine kGi qS34 (DA J rv rest q1 (G.le m1) NH) ?_;rintro cv h4 w4 ⟨gc,l4,ac⟩;have A4:=A h4 ((l3.trans m1).trans l4);have ai:=Wj (n:=(n:Int)) gc.pr.sl
   have nX:blk cv≠Z h3.next:=fun e=>by have:=ac _ e;rw[u1]at this;cases this
   have oX:=l4.own _ _ u1
   have n1:h3.own h3.next=Y:=(Le.refl h3).next w3 (qL0 _)
   have one:=gc.pr.sl.one;have bb:UA pG 24=2:=Ji;have eu:(vV.agg #[.int .i64 (n:Int),cv]).cells=#[.int .i64 (n:Int),cv]:=rfl;have ew:(vV.int IntKind.i64 (n:Int)).oneCell'=tT:=rfl
   have st:aaK pG h4 24 (pT (Z h3.next)) (.agg #[.int .i64 (n:Int),cv])=Z (h4.put h3.next (.cells [.int .i64 (n:Int),cv])):=by simp[aaK,oX,eu,bb,putCells,qS8,one,ew]
   have ho:(h4.put h3.next (.cells [.int .i64 (n:Int),cv])).own h3.next=Z (.cells [.int .i64 (n:Int),cv]):=aai.Y3 _ _ _
   have l5:Le h3 (h4.put h3.next (.cells [.int .i64 (n:Int),cv])):=(m1.trans l4).put _ n1
   have A5:=A _ (l3.trans l5);simp only[kJJ,seval,Qg,Ii,Di,Ip,BS,A4.2.1,A4.2.2,K,ai,st,A5.2.1,A5.2.2];refine KN.UJ fun fr' h' x y=>cont fr' h' ?_;subst x y
   exact⟨h3.next,cv,fD,l5,w4.put _ (w4.lt oX),GP.pr (GS.put gc _ nX),fun g l=>by rw[Wx qS8 rfl bb (l.own _ _ ho) Ma];rfl⟩
 rintro fr h5 ⟨X,cv,D,cP,w5,cR,lX⟩;simp only[Fj]at D;obtain⟨f1,f3,f4,-⟩:=D;have cU:=cP.own _ _ o3;refine Sk (Pj f1 f3 f4 (lX h5 (Le.refl _)) @Dh @Z0 @Ip.eq_1 @BS (lK cU) (HY cU)) ?_;refine kCi func124 (Path_fun J _ ⟨(n:Int),rest⟩ (a:Int) (b:Int) h5 ⟨cv,rfl,cR⟩) ?_;rintro x C w6 ⟨l6,lv,er,rfl,fS,H⟩;simp only[vZ]at H;have⟨k1,k2⟩:=H ei NH NH NH NH;have⟨gl,al,cW⟩:=k2 (k1.2 ae);have⟨ey,Rg⟩:=ringM_ok hr aa cW ae;rw[ey]at gl;have z:=(l3.trans cP).trans l6;have A6:=A C z;have bZ:=aK.le z;have b0:GR C (.agg #[.int .i64 (n:Int),ev]) ⟨(n:Int),es⟩:=⟨ev,rfl,bZ⟩;generalize b2:zl n es=l at*;have I:=ring_len Rg hR;have eA:er=0:=k1.2 ae;subst eA;refine Sk f1 ?_;clear H k1 k2 lX cR;apply Ya (F:=fun(fr:aam)(h9:aai)=>∃(B O:Nat)(bv:vV)(M:aai),Fj fr [(1,pT (Z B1)),(5,lv),(7,pT (Z ⟨B,0,Y⟩))]/\WF h9/\h9.own B=Z (.cells [.int .i64 (n:Int),bv,sL (Z ⟨O,0,Y⟩) n n,rW,rW,rW])/\h9.own O=Z (.cells (Bo (rP n fF)))/\B≠O/\Le C M/\M.own B=Y/\M.own O=Y/\Le M h9/\RL (RL RP) M bv (Zh n es))
 .intro cont;have bo:Bo (rP n fF)=rP n (.bool fF):=by simp[Bo]
  have⟨q1,y1,m1,v1,u1⟩:=Tt w6 (rP n (.bool fF));have aL:=mk100 C n NH;rw[y1]at aL;have Q1:=A q1 (z.trans m1);refine gh (tA [0,1,2,4,5] (.ch 3 [2] (JQ 6 [5] (tA [7] (JQ 8 [7] (tA [9] .done)))) (JQ 6 [5] (JQ 3 [2] (tA [7] (JQ 8 [7] (tA [9] .done))))))) ?_;simp only[kJJ,seval,Qg,f1,Ii,Ip,BS,A6.1,A6.2.1,aL,Q1.1,Q1.2.1];refine⟨?_,?_⟩
  .refine kGi zj (oe J _ n es C b0 hr) ?_;rintro bv h7 w7 ⟨r,l7⟩;have A7:=A h7 (z.trans l7);have⟨h8,y8,l8,w8,o8⟩:=Tt w7 (rP n (.bool fF));have cZ:=mk100 h7 n NH;rw[y8]at cZ;have A8:=A h8 ((z.trans l7).trans l8)
   have⟨b3,aj⟩:=box77 h8 (n:=(n:Int)) (O:=h7.next) (m:=n) r.sl
   have⟨h9,y9,l9,w9,o9⟩:=Tt w8 [.int .i64 (n:Int),bv,sL (Z h7.next) n n,rW,rW,rW]
   rw[y9]at aj;have A9:=A h9 (((z.trans l7).trans l8).trans l9);simp only[kJJ,seval,Qg,f1,Ii,Ip,BS,A7.1,A7.2.1,A8.1,A8.2.1,A9.1,A9.2.1,cZ,b3,aj];refine KN.UJ fun fr' h' x y=>cont fr' h' ?_;rw[x,y]
   exact⟨h8.next,h7.next,bv,h7,(by simp only[Fj,HO,seval,f1];simp),w9,o9,by rw[bo];exact l9.own _ _ o8,fun e=>by have:=w8.lt o8;omega,l7,l8.next w8 (qL0 _),(Le.refl h7).next w7 (qL0 _),l8.trans l9,r⟩
  .have hk:Le C (q1.kill C.next):=m1.aiY ((Le.refl C).next w6 (qL0 _))
   refine kGi zj (AC.frame u1 (oe J _ n es (q1.kill C.next) (b0.le hk) hr)) ?_
   rintro bv h7 w7 ⟨g7,⟨r,l7⟩,c0,rfl⟩;have b4:=hk.trans l7;have aN:=Le.Y5 c0 (.cells (rP n (.bool fF)))
   have o7:(g7.put C.next (.cells (rP n (.bool fF)))).own C.next=Z (.cells (rP n (.bool fF))):=aai.Y3 _ _ _
   generalize g7.put C.next (.cells (rP n (.bool fF)))=h7 at*
   have A7:=A h7 ((z.trans b4).trans aN)
   have⟨b3,aj⟩:=box77 h7 (n:=(n:Int)) (O:=C.next) (m:=n) r.sl
   have⟨h9,y9,l9,w9,o9⟩:=Tt w7 [.int .i64 (n:Int),bv,sL (Z C.next) n n,rW,rW,rW]
   rw[y9]at aj;have A9:=A h9 (((z.trans b4).trans aN).trans l9);simp only[kJJ,seval,Qg,f1,Ii,Ip,BS,A7.1,A7.2.1,A9.1,A9.2.1,b3,aj];refine KN.UJ fun fr' h' x y=>cont fr' h' ?_;rw[x,y]
   exact⟨h7.next,C.next,bv,g7,(by simp only[Fj,HO,seval,f1];simp),w9,o9,by rw[bo];exact l9.own _ _ o7,fun e=>by have:=w7.lt o7;omega,b4,aN.next w7 (qL0 _),c0,aN.trans l9,r⟩
 rintro fr h9 ⟨B,O,bv,M,D,w9,oB,oO,eB,aq,gB,gO,c3,r⟩;simp only[Fj]at D;obtain⟨f1,f5,f7,-⟩:=D;have aP:=gl.le aq;have fZ:=al;have lr:∀g,aeh pG g 28 lv=Z (.int .i64 (l.length:Nat)):=fun g=>by have:=gl.rl.DH g;grind[y6]
 have eC:=sB B 2 NH;simp only[HO,seval,f5,lr];refine aab.intro (fun k fr s=>∃(i:Nat)(wv:vV),k=l.length-i/\i<=l.length/\fr=mkF [(1,pT (Z B1)),(5,lv),(7,pT (Z ⟨B,0,Y⟩)),(8,wv),(45,lv),(46,(l.length:Nat)),(47,(i:Nat))]/\
   s.own B=Z (.cells [.int .i64 (n:Int),bv,sL (Z ⟨O,0,Y⟩) n n,rW,rW,rW])/\s.own O=Z (.cells (Bo (tV (rP n fF) (l.take i))))/\Le M s/\GP s wv ((ZH l).take i)/\Z2 M wv/\blk wv≠Z B/\blk wv≠Z O)
  l.length [(1,pT (Z B1)),(5,lv),(7,pT (Z ⟨B,0,Y⟩)),(8,rW),(45,lv),(46,(l.length:Nat)),(47,(0:Nat))] (by simp only[Fj,HO,seval,f1,f5,f7];simp)
  ⟨0,_,rfl,Og _,rfl,oB,oO,c3,GP.nil _,fun b hb=>by grind[blk],by simp[blk],by simp[blk]⟩ ?_
 clear f1 f5 f7 oB oO c3 w9;clear h9;rintro k fr s ar ⟨i,wv,rfl,hi,rfl,oB,oO,av,gw,b5,b6,aT⟩;refine Uy ?_;refine Kl.intro (fun ht=>?_) (fun hf=>?_)
 .have d:i<l.length:=acb ht;clear ht;have eD:=aP.le av;have ad:∀q,q<l.length->aao pG 28 lv (.int .i64 (q:Int))=Z (pT (Z (aaq lv q))):=fun q T=>eD.rl.TA q (by rw[y6];exact T);have ld:∀g,Le M g->∀q (T:q<l.length),aaC pG g 3 (aaq lv q)=Z (.int .i64 ((l.getD q 0:Nat):Int)):=fun g lg q T=>by rw[(aP.le lg).rl.Uc q (by rw[y6];exact T),sY T,D4 T]
  have c4:(i+1)%l.length<l.length:=akp _ NH;have hv:l.getD i 0<n:=by rw[D4 d];exact Rg.lt hR (AE d)
  have b8:l.take (i+1)=l.take i++[l[i]]:=EL d;have c5:=ring_take d;have eE:l.getD i 0=l[i]:=D4 d;rw[<-eE]at c5 b8;have eF:aao pG 41 (sL (Z ⟨O,0,Y⟩) n n) ((l.getD i 0:Nat):Int)=Z (pT (Z ⟨O,l.getD i 0,Y⟩)):=by rw[Wc Uh AV Ji _ hv];simp[Ip]
  have ZA:(tV (rP n fF) (l.take i)).length=n:=by
   have:∀(w:II)(o:List Bool),(tV o w).length=o.length:=fun w=>by
    induction w with
    |nil=>intro o;rfl
    |cons x w ih=>intro o;show(tV (o.set x tT) w).length=_;grind
   grind
  have eG:(tV (rP n fF) (l.take i)).set (l.getD i 0) tT=tV (rP n fF) (l.take (i+1)):=by rw[b8];unfold tV;grind
  have st:aaK pG s 4 (pT (Z ⟨O,l.getD i 0,Y⟩)) (.bool tT)=Z (s.put O (.cells (Bo (tV (rP n fF) (l.take (i+1)))))):=by rw[QB (P:=pG) (t:=4) (x:=.bool tT) AV Ji oO (off:=l.getD i 0) (by rw[O2,ZA];exact hv) rfl rfl,Tr,eG]
  have eH:aaC pG s 41 ⟨B,2,Y⟩=Z (sL (Z ⟨O,0,Y⟩) n n):=by rw[Fq Uh rfl oB];rfl
  have w8:WF (s.put O (.cells (Bo (tV (rP n fF) (l.take (i+1)))))):=ar.put _ (ar.lt oO);have eI:(s.put O (.cells (Bo (tV (rP n fF) (l.take (i+1)))))).own O=Z (.cells (Bo (tV (rP n fF) (l.take (i+1))))):=aai.Y3 _ _ _;have eL:(s.put O (.cells (Bo (tV (rP n fF) (l.take (i+1)))))).own B=Z (.cells [.int .i64 (n:Int),bv,sL (Z ⟨O,0,Y⟩) n n,rW,rW,rW]):=by grind[aai.By]
  have c6:Le M (s.put O (.cells (Bo (tV (rP n fF) (l.take (i+1)))))):=av.put _ gO;have eM:GP (s.put O (.cells (Bo (tV (rP n fF) (l.take (i+1)))))) wv ((ZH l).take i):=GS.put gw _ aT;generalize s.put O (.cells (Bo (tV (rP n fF) (l.take (i+1)))))=h8 at*;have aw:=aaa i (Lb d (ff I NH));have nz:=nz_len d;have eO:=Wt d;have eP:=Y7 (a:=i+1) (FI d) (ff I NH);simp only[HO,seval,ad i d,ld s av i d,eC,eH,eF,st,lr,aw,nz,eO,eP,ad _ c4,ld h8 c6 _ c4];refine kCi func125 (pair_any J (l.getD i 0) (l.getD ((i+1)%l.length) 0) h8) ?_;rintro x h9 w9 ⟨rfl,aW⟩;have⟨eQ,ga,gf,eS,eT,c9,gg,gi,da,bg⟩:=(eM.le aW).push w9 (GW (l.getD i 0) (l.getD ((i+1)%l.length) 0)) (rt_b I a8);have⟨db,eU⟩:=da M (c6.trans aW) b5;have⟨dc,dd⟩:=bg B _ (aW.own _ _ eL) b6;have⟨de,dg⟩:=bg O _ (aW.own _ _ eI) aT;rw[<-c5]at c9;simp only[HO,seval,eS,eT,aw];exact lgA (JS d) ⟨i+1,eQ,rfl,d,rfl,dc,de,db,c9,eU,dd,dg⟩
 have aX:l.length<=i:=vp hf;rw[abe aX]at oO;rw[abe (by grind[F9])]at gw;clear aX hf hi;refine Uy ?_;have b9:l.length<=100000:=ff I NH;refine kCi func49 (CH J gw (by rw[F9];exact b9) (ring_bd Rg hR NH)) ?_;rintro x a6 eV ⟨rfl,gs,N⟩;have kw:∀b o,s.own b=Z o->blk wv≠Z b->a6.own b=Z o:=fun b o ho hb=>(N (rem (bl wv) s) (Sa _ _) fun c hc=>by grind[DC,Zr]).own _ _ (Th.2 ⟨ho,fun m=>hb (Zr.1 m)⟩);have bh:=kw B _ oB b6;have bk:=kw O _ oO aT;have ay:=N M av b5;refine Uy ?_;refine kCi qS29 (QY J lv (kz l) a6 (aP.le ay).rl (by rw[y6];exact b9)) ?_;rintro cc dj eW ⟨dk,dm,cd⟩;refine Uy ?_;refine kCi qS30 (Wk J cc (kz l) dj dk (by rw[y6];exact b9)) ?_;rintro x U gj ⟨cf,dp,eX⟩;have az:=dp a6 dm cd;have eZ:(kz l).reverse=kz l.reverse:=by simp[kz]
 rw[eZ]at cf;have bm:=az.own _ _ bh;have br:=az.own _ _ bk;have bx:=ay.trans az;have hX:∀b∈[B,O],M.own b=Y:=fun b hb=>by grind
 have V:Le M (rem [B,O] U):=le_rem _ bx hX;have dq:∀b,blk cc=Z b->b∉[B,O]:=fun b hb m=>by have:=cd b hb;grind
 have dr:∀b,blk wv=Z b->b∉[B,O]:=fun b hb m=>by grind
 have bB:GI (rem [B,O] U) cc (kz l.reverse):=GS.Fi cf dq;have bF:GP (rem [B,O] U) wv (aa5 (ZH l)):=GS.Fi (GP.le gs az) dr;have bH:=aP.le V;have ZA:(tV (rP n fF) l).length=n:=by
  have:∀(w:II)(o:List Bool),(tV o w).length=o.length:=fun w=>by
   induction w with
   |nil=>intro o;rfl
   |cons x w ih=>grind[tV,List.length_set]
  grind
 have S0:ShS (rem [B,O] U) U B O n (Zh n es) bv rW rW rW [] [] [] (tV (rP n fF) l) [] [] []:={
  f:=⟨bm⟩
  oO:=br
  ZA:=ZA
  gF:=GS.nil _ _
  uL:=rfl
  u1:=rfl
  gI:=GS.nil _ _
  wL:=rfl
  w1:=rfl
  gL:=GS.nil _ _
  cuL:=.inl rfl
  c1:=rfl
  sep:=⟨fun i j u w b gk hu hw hb=>by
    have:u=rW:=by have:=XJ hu;grind
    grind[blk],fun i u b hu hb=>by
    grind[blk],fun i u hu b hb=>by grind[blk],Sa _ _⟩
  gB:=by grind[DC]
  gO:=by grind[DC]
  bO:=eB
  nb:=fun u hu=>by grind[blk]
  cF:=fun i u f hu=>by simp at hu
  cI:=fun i u f hu=>by simp at hu
  cL:=fun i p hp=>by simp at hp
  cB:=r.le (Nn.RL Nn.RP) V}
 generalize rem [B,O] U=dv at*;have dw:Le h dv:=((cK.trans z).trans aq).trans V;have gA:=A dv ((z.trans aq).trans V);clear oB oO av gw b5 b6 aT gs N kw dk dm cd cf dp eX bm br bh bk az bx ay dq dr hX eV eW ar;clear a6 dj s;refine Uy ?_;have dy:∀x∈l,x<n:=fun x hx=>Rg.lt hR hx;refine kCi qS37 (IU J S0 bH.rl dy NH (ff I NH) Ma) ?_;rintro x gn gq ⟨gu,gv,gC,gE,gG,S1,dz⟩;refine Uy ?_;refine kCi qS37 (IU J S1 ((bB.le dz).rl) (f:=l.reverse) (fun x hx=>dy x (agd.1 hx)) NH (by rw[af9];exact ff I NH) Ma) ?_;rintro x e0 gJ ⟨gM,aC,aD,e1,e5,S2,e6⟩;have R:=dz.trans e6;simp only[JR,qL200]at S2;have dA:=A e0 ((((z.trans aq).trans V).trans R).trans S2.le);have bI:=bF.le R;have bN:=(bZ.le (aq.trans V)).le R;have⟨e7,cg⟩:=S2.reg;refine Sk dA.1 ?_;refine kCi func130 (S2.side (iN J _ wv ⟨(n:Int),es⟩ (aa5 (ZH l)) _ ⟨ev,rfl,bN.le cg⟩ (bI.le cg).pr (by rw[ZS,F9];exact ff I NH))) ?_;rintro x e8 e9 ⟨ck,⟨fb,e2,rfl,D⟩,S3,cm,dB,fc⟩;have dE:=Rg.web hR;simp only[vZ]at D;rcases D with⟨q,-⟩|⟨-,q,-⟩|⟨-,-,rfl,L,hT,a7⟩
 .exact absurd hr q
 .exact absurd dE q
 rw[frag_tog hR hA.nodup hT (uY (n:=n) (on:=Qw n (aa5 (ZH l))) (es:=es))]at a7;have I0:=Rg.start hR hA (L:=MF n (Qw n (aa5 (ZH l))) es) uY;have dF:ahf n es=Mw n es l (MF n (Qw n (aa5 (ZH l))) es):=by unfold ahf;rw[b2]
 rw[dF];have dH:=I0.Vw;have bQ:(Mw n es l (MF n (Qw n (aa5 (ZH l))) es)).on=tV (rP n fF) l:=rfl;have bW:(Mw n es l (MF n (Qw n (aa5 (ZH l))) es)).Jv=[l,l.reverse]:=rfl;have aF:(Mw n es l (MF n (Qw n (aa5 (ZH l))) es)).left=(LJ n es (aa5 (ZH l)) (MF n (Qw n (aa5 (ZH l))) es)).map fun f=>⟨f.zp,f.Fm,zh [l,l.reverse] f.Fm [0,1]⟩:=rfl;have cp:∀f∈LJ n es (aa5 (ZH l)) (MF n (Qw n (aa5 (ZH l))) es),(∀x∈f.Fm,∃v:Nat,x=(v:Int)/\v<n)/\f.Fm.length<=n:=fun f hf=>by have hm:(⟨f.zp,f.Fm,zh [l,l.reverse] f.Fm [0,1]⟩:wW)∈(Mw n es l (MF n (Qw n (aa5 (ZH l))) es)).left:=hGr;exact⟨I0.abJ hR hm,I0.UO hR hm⟩
 rw[aF,wI]at dH;rw[bQ,bW,aF];generalize LJ n es (aa5 (ZH l)) (MF n (Qw n (aa5 (ZH l))) es)=N at*;have fe:=a7.len;have dI:=sB B 5 NH;have fU:Le h ck:=(dw.trans R).trans (cg.trans dB);clear bQ bW aF dF I0 hT S2 e7 S1 S0 A A6 dA fT cM bI bN gA bF bB bZ b0 bH;refine Sk fe ?_;refine lIn (fun k fr s=>∃(i:Nat)(g:aai)(cs:xLV)(W:vV),k=N.length-i/\i<=N.length/\fr=mkF [(7,pT (Z ⟨B,0,Y⟩)),(90,fb),(91,(N.length:Nat)),(92,(i:Nat))]/\
   ShS g s B O n (Zh n es) bv aC aD W e1 e5 cs (tV (rP n fF) l) [l,l.reverse] [l,l.reverse] ((N.take i).map fun f=>⟨f.zp,f.Fm,zh [l,l.reverse] f.Fm [0,1]⟩)/\Le ck g) ⟨0,ck,[],rW,rfl,Og _,rfl,S3,Le.refl _⟩ ?_
 clear S3 e9 cm fc;clear e8;rintro k fr s ar ⟨i,g,cs,W,rfl,hi,rfl,S,lg⟩;refine Uy ?_;refine Kl.intro (fun ht=>?_) (fun hf=>?_)
 .have d:i<N.length:=acb ht;clear ht;have fg:=Gc d;have⟨a',b',cq,ra,rb⟩:=a7.load fg;have fh:=a7.addr (k:=.i64) i d;have⟨fi,dJ⟩:=cp _ (AE d);have b8:N.take (i+1)=N.take i++[N[i]]:=EL d;generalize N[i]=f at*;have cq:=cq s (lg.trans S.le);have ra:=ra.le lg;have rb:=rb.le Nn.RP lg;have⟨gN,cx,fk,fm,fp,fq,nQ,oQ⟩:=new41' ar ra.sl rb.sl
  have dQ:s.next∉B::O::(bl aC++bl aD++bl W):=fun m=>(S.own (HX.1 m)).2 nQ
  have dL:=S.up fp
  generalize s.next=Q at*
  have⟨dM,ft,cz,gP,fw⟩:=Tt fq [.int .i64 0,.int .i64 1];have mk:=mk2 cx 0 1;rw[ft]at mk;have aH:=dL.up cz
  have fx:RL RP dM (sL (Z cx.next) 2 2) (kz [0,1]):=RL.Wh (RS.whole fw rfl)
  have dO:=ld41 (cz.own _ _ oQ);have dS:=ld41 oQ;have dT:=aH.f;have aw:=aaa i (Lb d (QJ NH));refine Sk (xU fh cq fk fm) ?_;refine gh (fRn 0 12 (JQ 12 [] (JQ 13 [9,11,12] (tA [14] (JQ 15 [14] (JQ 16 [4,13,15] (tA [17,18] (JQ 19 [0,1,2,3,4,5,6,7,8,9,10,11,12,13,14,15,16,18] .done)))))))) ?_;simp only[HO,seval,Qg,dI,ff0,ff1,Ip,BS,dL.f.l5,dT.l5,dS.2.1,dS.2.2,dO.2.1,dO.2.2,mk]
  refine kGi qS31 (NR J B n bv _ aC aD W b' (sL (Z cx.next) 2 2) [l,l.reverse] f.Fm [0,1] dM dT aH.rlI ((rb.le Nn.RP aH.le)) fx fi Ma (sr dJ a8) Ma) ?_
  rintro y cC fy ⟨dV,dW,fC⟩;have bY:=dW.own _ _ (cz.own _ _ oQ);have ec:=ld41 bY;have fJ:(Hg cC B O aC aD W).own Q=Z (.cells [a',b']):=by grind[Hg,DC]
  have⟨cE,aJ⟩:=(aH.up dW).reg;have gy:GI (Hg cC B O aC aD W) y (kz (zh [l,l.reverse] f.Fm [0,1])):=Pv (h:=cC) aH dV fC;have⟨fL,gR,gS,gT,fM,fN,fP,gU,gV,ed,fQ,ee⟩:=cE.pushL fy (a:=a') (b:=b') (c:=y) (p:=⟨f.zp,f.Fm,zh [l,l.reverse] f.Fm [0,1]⟩) (ra.le aJ) (rb.le Nn.RP aJ) gy.rl (tk_b dH cJ _);have ef:=ld41 (ed.own _ _ bY);have eg:=ld41 (ee.own _ _ fJ);have fR:=cE.f.le ed;have ai:=build125 ra.sl rb.sl dV.rl.sl;simp only[HO,seval,Qg,dI,ff0,ff1,Ip,BS,cE.f.l5,fR.l5,fQ.l5,ec.2.1,ec.2.2,ef.2.1,ef.2.2,eg.2.1,eg.2.2,ai,fM,fN,fP,aw];refine lgA (JS d) ⟨i+1,_,cs++[a',b',y],fL,rfl,d,rfl,?_,lg.trans aJ⟩;grind
 have aX:N.length<=i:=vp hf;rw[abe aX]at S;refine Uy ?_;grind[Le.trans]
variable {B v:Nat} {G:GM} {S:ShM} {cs us ws:List Value} {fv iv lv:Value} {left:List wW} {r:Nat->II} {rows:AM}
theorem Nb(d:LA)(v:vV)(n:Nat)(es:xLP)(h:aai)(hg:GR h v ⟨(n:Int),es⟩)(e:bX ⟨(n:Int),es⟩):
  AC pG d 86 [v] h fun x h'=>RR (zW n es) x/\Le h h':=by
 have c:=hg
 obtain⟨ev,rfl,u⟩:=hg.open
 refine AC.vF func86 ntmps86 results86 fun i=>?_;obtain⟨o,p,a,w,-,q⟩:=r8 (n:=(n:Int)) i u
 generalize h.next=B at*
 have b:=q o (Le.refl _);by_cases r:(n:Int)<3
 .have j:decide ((n:Int)<3)=tT:=HV r;refine Sk (bG p @Ii @Ip.eq_1 @BS b.2.1 j) ?_;exact⟨RR.f fun T=>by have:=T.n3;omega,a⟩
 have j:decide ((n:Int)<3)=fF:=Z6 r;have h3:3<=n:=NH;refine Sk (rE p @Ii @Ip.eq_1 @BS b.2.1 b.1 j) ?_;refine kCi func30 (It d _ ⟨(n:Int),es⟩ o (c.le a) e) ?_;rintro pv s D ⟨gp,l4,-⟩;simp only[vZ]at gp;have y:=gp.rl (Nn.RL Nn.RP);have k:=fun g=>y.qP5 g;have l:((Gx n es n).map kz).length=(Es n es).length:=by simp[Gx]
 rw[l]at k;have m:=q s l4;by_cases c1:((Es n es).length:Int)=1
 rotate_left
 .have d1:decide (((Es n es).length:Int)=1)=fF:=Z6 c1;refine Sk (Yb k @bne.eq_1.{0} d1) ?_
  grind[RR.f,zW.one,Le.trans]
 have d1:decide (((Es n es).length:Int)=1)=tT:=HV c1;have z:(Es n es).length=1:=NH;refine Sk (xU k @bne.eq_1.{0} d1 m.1) ?_
 refine kCi func34 (Cw d _ ⟨(n:Int),es⟩ s (c.le (a.trans l4))) ?_;rintro x E F ⟨l5,⟨A,_⟩|⟨_,G,rfl,t⟩⟩
 .exact absurd e A
 simp only[vZ]at t;have C:=fun g=>t.len (P:=pG) akq g;have H:=Uv e h3 z;refine Sk C ?_;refine⟨⟨_,rfl,?_⟩,(a.trans l4).trans l5⟩;grind
noncomputable def ajk(n:Nat)(es:xLP):Option AM:=if 3*n<es.length+6 then Y else embM n es
theorem left_nil{H:Nat->Nat->Prop}(hR:aV n es)(hA:D3 es)(D:QG (eN n es))(I:Z8 n es H S)(h:OW es H=0):S.left=[]:=by
 rcases run_ok hR hA D 0 H S I NH with⟨a,-⟩|⟨b,c,a,-,h3⟩
 all_goals grind[runM]
theorem run_nil(h:S.left=[]):∀k,runM n rows k S=Z S
 |0=>rfl
 |k+1=>by grind[runM.eq_2]
theorem ShS.rlF{on:List Bool}{b d:Cs}(S:ShS g h B O n rows bv fv iv lv us ws cs on b d left):RL (RL RP) h fv (b.map kz):=
 ⟨us,(GS.cs S.gF).rs,by grind[ShS.uL],fun i x u a e=>by
  rw[Q4]at a;cases c:b[i]? with
  |none=>grind
  |some f=>rw[c]at a;simp at a;subst a;exact(S.cF i u f e c).le Nn.RP S.le⟩
theorem face_bd{F:Cs}(G:abK n r F):∀f∈F,(∀x∈f,x<n)/\f.length<=n:=fun f hf=>by have a:∀x∈f,x<n:=fun x b=>G.Rl.lt _ _ (G.O.df G.Rl hf b);refine⟨a,?_⟩;have:=tf (G.O.nd f hf) (B:=rG n) fun v c=>abV.2 (a v c);grind
theorem row_pos(a:zW n es)(hR:aV n es)(b:v<n):0<((Zh n es).getD v []).length:=by have⟨w,hw⟩:=a.ne hR b;have⟨u,c,e⟩:=N8 ((aU hR).2 ⟨w,hw⟩);grind[qG,Av.back]
theorem row_le(b:v<n):((Zh n es).getD v []).length<=2*es.length:=by
 have a:v<(Zh n es).length:=by grind[Xq]
 rw[D4 a];exact bV n es _ (AE a)
def GRc(h:aai)(v:vV)(G:GM):Prop:=∃ev,v=.agg #[G.n,ev]/\PR h ev G.es/\okc 2 ev
def GRc.gr{v:vV}(g:GRc h v G):GR h v G:=by obtain⟨ev,a,h2,-⟩:=g;exact⟨ev,a,h2⟩
def EmbIs(G:GM)(h':aai)(a:vV)(e:Int):Prop:=
 (¬bX G/\e=20/\a=rW)\/(bX G/\¬zW G.n.toNat G.es/\e=60/\a=rW)\/
 (bX G/\zW G.n.toNat G.es/\ajk G.n.toNat G.es=Y/\¬XU G.n.toNat (eN G.n.toNat G.es)/\e=90/\a=rW)\/
 (bX G/\zW G.n.toNat G.es/\∃rs,ajk G.n.toNat G.es=Z rs/\Av G.n.toNat G.es rs/\Flat G.n.toNat (Xl rs)/\e=0/\RL (RL RP) h' a rs)
theorem Im(t:LA)(v:vV)(G:GM)(h:aai)(hg:GRc h v G):
  AC pG t 59 [v] h fun x h'=>Le h h'/\∃rv e,x=.tuple #[rv,.int .i64 e]/\EmbIs G h' rv e:=by
 have z:=hg.gr;obtain⟨ev,rfl,N,hc⟩:=hg;have⟨gn,es⟩:=G;simp only at N;refine AC.vF func59 ntmps59 results59 fun Q=>?_;obtain⟨h1,b1,p,aD,-,R⟩:=r8 (n:=gn) Q N
 generalize h.next=B1 at*
 have T:=R h1 (Le.refl _);refine Sk (XC b1 T.1) ?_;refine kCi qS6 (ak t _ _ h1 (z.le p)) ?_;rintro x h2 aF ⟨⟨U,rfl,i⟩,m⟩;cases U with
 |false=>refine Uy ?_;exact⟨p.trans m,_,_,rfl,.inl ⟨(fun d=>by grind),rfl,rfl⟩⟩
 |true=>
 have d:=i.1 rfl;clear i;have h0:0<=gn:=d.n0;obtain⟨n,rfl⟩:=Sb h0;have az:(n:Int)<=200:=d.n1;have aC:es.length<=594:=d.len;have hR:=d.GD;have hA:D3 es:=d.q9;have a:=p.trans m;refine Sk ((R h2 m).1) ?_;refine kCi func86 (Nb t _ n es h2 (z.le a) d) ?_;rintro x h3 aH ⟨⟨U,rfl,i⟩,j⟩;have fT:=R h3 (m.trans j);cases U with
 |false=>refine Uy ?_;exact⟨a.trans j,_,_,rfl,.inr (.inl ⟨d,(fun q=>by cases i.2 q),rfl,rfl⟩)⟩
 |true=>
 have l:=i.1 rfl;clear i;have aJ:=l.n3;have lP:=fun g=>N.len g;have A:aaY .i64 (3*(n:Int))=3*(n:Int):=ie _ NH NH;have C:aaY .i64 (3*(n:Int)-6)=3*(n:Int)-6:=ie _ NH NH;by_cases c1:3*n<es.length+6
 .have d1:decide ((es.length:Int)>3*(n:Int)-6)=tT:=HV NH;simp only[HO,seval,Ii,Di,Ip,BS,fT.2.1,fT.2.2,lP,A,C,d1];exact⟨a.trans j,_,_,rfl,.inr (.inr (.inl ⟨d,l,WA c1,many_no d l c1,rfl,rfl⟩))⟩
 have d1:decide ((es.length:Int)>3*(n:Int)-6)=fF:=Z6 NH;simp only[HO,seval,Ii,Di,Ip,BS,fT.2.1,fT.2.2,fT.1,lP,A,C,d1];refine kCi func87 (Si t ev n es h3 (N.le (a.trans j)) hc d l) ?_;rintro x h4 w4 ⟨g4,B,O,bv,u,w,y,us,ws,cs,rfl,V,S4,Rg⟩;have I0:=Rg.start hR hA (L:=MF n (Qw n (aa5 (ZH (zl n es)))) es) uY;have hX:ajk n es=(runM n (Zh n es) es.length (ahf n es)).map fun S=>xY n (Zh n es) S.Jv:=IE c1;have D:=l.Z7 hR;have E:OW es (Ei (zl n es))<=es.length:=OM _ _;have F:=(a.trans j).trans V;refine Uy ?_;refine lIn (fun k fr W=>∃(S:ShM)(H:Nat->Nat->Prop)(g:aai)(u w y:vV)(us ws cs:xLV),fr=mkF [(4,pT (Z B))]/\Z8 n es H S/\runM n (Zh n es) es.length (ahf n es)=runM n (Zh n es) k S/\OW es H<=k/\
   ShS g W B O n (Zh n es) bv u w y us ws cs S.on S.Jv S.Jv S.left/\Le g4 g) ⟨ahf n es,_,g4,u,w,y,us,ws,cs,rfl,I0,rfl,E,S4,Le.refl _⟩ ?_
 clear S4 I0 E w4;clear h4 u w y us ws cs;rintro k fr W aK ⟨S,H,g,u,w,y,us,ws,cs,rfl,I,b,hu,o,X⟩;have J:=sB B 5 NH;have lL:=o.lenL;by_cases c:S.left=[]
 .have dL:decide ((S.left.length:Int)>0)=fF:=by rw[c];rfl
  refine Sk (xU J o.f.l5 lL dL) ?_;rw[run_nil c]at b;have⟨r,Gd,fl,hm⟩:=I.done c;have⟨k1,k2⟩:=circ_ok d l Gd fl hm;have K:=face_bd Gd;have aL:=I.My;refine kCi func89 (pY t B n bv _ u w y (Zh n es) S.Jv W o.f (o.cB.le (Nn.RL Nn.RP) o.le) o.rlF (Xq n es) (fun v hv=>⟨row_pos l hR hv,by have:=row_le (es:=es) hv;omega⟩) (fun f hf=>⟨(K f hf).1,by have:=(K f hf).2;omega⟩) NH NH NH (circ_hit d l Gd hm)) ?_;rintro x h9 w9 ⟨hx,l9⟩;refine Uy ?_;refine⟨((F.trans X).trans o.le).trans l9,x,_,rfl,.inr (.inr (.inr ⟨d,l,_,?_,k1,k2,rfl,hx⟩))⟩;grind
 .have dL:decide ((S.left.length:Int)>0)=tT:=by grind[length_pos_iff]
  obtain⟨k',rfl⟩:∃k',k=k'+1:=by
   cases k<;>grind[left_nil]
  refine Sk (xU J o.f.l5 lL dL) ?_;refine kCi func88 (lay_any t o d D I c) ?_;rintro x h9 w9 ⟨g9,M,l9,s⟩;rw[runM,IE c]at b;rcases s with⟨q1,rfl⟩|⟨S',aa,ae,ai,aj,aq,ar,q1,rfl,av⟩
  .rw[q1]at b;refine Uy ?_;have ay:¬XU n (eN n es):=by grind[Z8.lay]
   refine⟨((F.trans X).trans M).trans l9,_,_,rfl,.inr (.inr (.inl ⟨d,l,?_,ay,rfl,rfl⟩))⟩;grind
  .rw[q1]at b;refine Uy ?_;obtain⟨P,I',aN⟩:∃P,Z8 n es P S'/\OW es P<OW es H:=by grind[Z8.lay]
   exact lgA (adN _) ⟨S',P,g9,aa,ae,ai,aj,aq,ar,rfl,I',b,NH,av,X.trans M⟩
def norm_id{p:Pr}(h:p.1<p.2):lZ p=p:=by have⟨a,b⟩:=p;simp only[lZ,abW]at*;omega
def bX.newOK{n:Nat}{L:xLP}(h:bX ⟨(n:Int),L⟩):YG (n:Int) L:=by
 have e:L.map lZ=L:=by have:L.map lZ=L.map id:=V3 fun p c=>norm_id (h.GD p c).2.1;rw[this,QU]
 exact⟨h.n0,h.n1,h.len,fun p c=>by rw[norm_id (h.GD p c).2.1];have:=h.GD p c;omega,by rw[e];exact(show D3 L from h.q9).nodup⟩
section
variable{n a b:Nat}{L1 L2:List Pr}
theorem less_adj(h:bX ⟨(n:Int),L1++((a:Int),(b:Int))::L2⟩)(x y:Nat):Jp (L1++L2) x y↔Jp (L1++((a:Int),(b:Int))::L2) x y/\¬(x=a/\y=b)/\¬(x=b/\y=a):=by
 have hR:=h.GD;have nd:=(show D3 (L1++((a:Int),(b:Int))::L2)from h.q9).nodup;have e:=hR _ (show((a:Int),(b:Int))∈L1++((a:Int),(b:Int))::L2 by simp);simp only at e;have no:((a:Int),(b:Int))∉L1++L2:=(xD.1 (perm_middle.nodup_iff.1 nd)).1;have c:((b:Int),(a:Int))∉L1++L2:=fun q=>by have:=hR ((b:Int),(a:Int)) hGr;simp only at this;omega
 unfold Jp;simp only[yM,qL7,abW]at no c ⊢;constructor
 .intro q;refine⟨by rcases q with q|q<;>grind,fun w=>?_,fun w=>?_⟩
  .obtain⟨rfl,rfl⟩:=w;exact q.elim no c
  .obtain⟨rfl,rfl⟩:=w;exact q.elim c no
 .rintro⟨q,d,h2⟩;grind
end
end
section
attribute [local irreducible] Jz JL vq cQ
def okB(n:Int)(es:xLP)(i:Nat):Bool:=match es[i]? with
 |some p=>decide (0<=p.1)&&decide (p.1<p.2)&&decide (p.2<n)&&(i==0||match es[i-1]? with|some q=>decide (Nz q p<0)|none=>tT)
 |none=>tT
theorem V5{n:Int}{es:xLP}(a:0<=n)(b:n<=200)(c:es.length<=594)(hd:(rG es.length).all (okB n es)=tT):bX ⟨n,es⟩:=by refine⟨a,b,c,fun i hi p d=>?_⟩;have:=vY.1 hd i (abV.2 hi);grind[okB]
attribute [local instance] Classical.propDecidable in
theorem ajG{n:Nat}{es:xLP}{rs:AM}(a:bX ⟨(n:Int),es⟩)(G:Av n es rs)(b:0<n)(c:∀v,v<n->Pu es 0 v)(hf:n+(IN n rs).length=es.length+2):XU n (eN n es):=Vg a.GD a.q9 G ((En a.GD a.q9 G).1 ((vS a.GD a.q9 G b c).2 fun _=>hf))
attribute [local instance] Classical.propDecidable in
theorem two_of{n:Nat}{es:xLP}(b:bX ⟨(n:Int),es⟩)(h3:3<=n)(a:es≠[])(c:∀v,v<n->Pu es 0 v)(hb:(vq n es).length=1):zW n es:=(Uv b h3 (join_of b.GD NH a c).2).1 hb
def m5E:xLP:=[(0,2),(0,3),(0,4),(1,2),(1,3),(1,4),(2,3),(2,4),(3,4)]
def k5L:xLP:=(0,1)::m5E
def akF:xLP:=[(0,3),(0,4),(0,5),(1,3),(1,4),(1,5),(2,3),(2,4),(2,5)]
def ajl:xLP:=[(0,1),(0,2),(1,2),(2,3),(2,4),(3,4)]
def k5R:bX ⟨((5:Nat):Int),k5L⟩:=V5 WY WY WY iw
def k33R:bX ⟨((6:Nat):Int),akF⟩:=V5 WY WY WY iw
def bowR:bX ⟨((5:Nat):Int),ajl⟩:=V5 WY WY WY iw
theorem eN_like{n:Nat}{es:xLP}{E:Nat->II}(hR:aV n es)(a:∀v w,w∈E v->v<n/\w<n)(h:∀v,v<n->∀w,w<n->(w∈eN n es v↔w∈E v)):∀v w,w∈eN n es v↔w∈E v:=by grind[vD,Jp.lt]
theorem k5N:¬XU 5 (eN 5 k5L):=fun h=>k5_no (qL0 5) ((XU.eN_congr (eN_like k5R.GD (by grind[pZ]) iw)).1 h)
section
variable{G:GM}{h:aai}{rv:vV}{e:Int}
theorem EmbIs.XK(I:EmbIs G h rv e)(b:bX G)(c:zW G.n.toNat G.es)(d:XU G.n.toNat (eN G.n.toNat G.es)):∃rs,ajk G.n.toNat G.es=Z rs/\Av G.n.toNat G.es rs/\Flat G.n.toNat (Xl rs)/\e=0/\RL (RL RP) h rv rs:=by
 rcases I with⟨a,_⟩|⟨_,a,_⟩|⟨_,_,_,h2,_⟩|⟨_,_,h2⟩
 all_goals grind
end
variable {b:List Pr} {n v:Nat}
def aag(n:Nat)(b:xLP):II:=(rG n).filter fun v=>b.any fun p=>aO p (v:Int)
def abD(n:Nat)(b:xLP)(x:Int):Nat:=(aag n b).countP fun(v:Nat)=>decide ((v:Int)<x)
def aat(n:Nat)(b:xLP):xLP:=b.map fun p=>((abD n b p.1:Int),(abD n b p.2:Int))
def adJ(b:xLP):RZ:=b.flatMap fun p=>[p.1,p.2]
theorem aeS(b:xLP)(x:Int):x∈adJ b↔∃p∈b,aO p x=tT:=by
 simp only[adJ,abZ,aO,qL7,fj,or_false,ah7,uV];constructor
 .rintro⟨p,a,h⟩;exact hGr
 .rintro⟨p,a,h⟩;exact hGr
def aeT:v∈aag n b↔v<n/\∃p∈b,aO p (v:Int)=tT:=by simp[aag]
theorem adX(hR:aV n b):Lib.compact (qC (adJ b))=kz (aag n b):=by
 refine afY _ _ (bT (aQ _)) ?_ fun x=>?_
 .unfold kz;rw[Uz];exact(b7.filter _).imp fun h=>by omega
 .rw[jn,Wv,aeS];simp only[kz,aev,aeT];constructor
  .rintro⟨p,a,h⟩;have⟨c,h2,h3⟩:=hR p a;have h':=h;simp only[aO,ah7,uV]at h';refine⟨x.toNat,⟨NH,p,a,?_⟩,NH⟩;rwa[alu NH]
  .rintro⟨v,⟨d,p,a,h⟩,rfl⟩;exact⟨p,a,h⟩
def aaV(n:Nat)(b:xLP):Prop:=b.length<9\/(bX ⟨((aag n b).length:Int),aat n b⟩/\zW (aag n b).length (aat n b)/\XU (aag n b).length (eN (aag n b).length (aat n b)))
def aak(n:Nat)(es:xLP):Prop:=bX ⟨(n:Int),es⟩/\∀b∈vq n es,aaV n b
attribute [local instance] Classical.propDecidable in
noncomputable def aeH(n:Nat):Nat->Nat->xLP->xLP
 |0,_,l=>l
 |f+1,i,l=>if i<l.length then(if aak n (l.eraseIdx i)then aeH n f (i+1) l else aeH n f i (l.eraseIdx i))else l
attribute [local instance] Classical.propDecidable in
noncomputable def abv(G:GM):xLP:=if aak G.n.toNat G.es then[]else aeH G.n.toNat G.es.length 0 G.es
def abQ{n:Nat}{l:xLP}(h:∀i,i<l.length->aak n (l.eraseIdx i)):∀f i,aeH n f i l=l
 |0,i=>rfl
 |f+1,i=>by
  rw[aeH];split
  .rename_i hi;rw[WA (h i hi)];exact abQ h f (i+1)
  .rfl
variable {c es:List Pr} {m:Nat} {rs:AM}
def aco(es:xLP)(n:Nat)(a:II):II:=(rG n).filter fun v=>a.contains v||a.any fun p=>hasB es ((p:Int),(v:Int))||hasB es ((v:Int),(p:Int))
def conB(n:Nat)(es:xLP):Bool:=(rG n).all fun v=>(it (aco es n) n [0]).contains v
def con_chk(h:conB n es=tT):∀v,v<n->Pu es 0 v:=by
 have:∀k,∀v∈it (aco es n) k [0],Pu es 0 v:=by
  intro k
  induction k with
  |zero=>
   intro v a;have:v=0:=by simpa[it]using a
   subst this;exact Pu.refl _ _
  |succ k c=>
   intro v a;have a:v∈aco es n (it (aco es n) k [0]):=a;simp only[aco,iy,air,ah7,ah6,hasB_iff]at a;rcases a.2 with b|⟨p,d,b⟩
   .exact c v b
   .exact tM (c p d) b
 intro v a;exact this n v (air.1 (vY.1 h v (abV.2 a)))
theorem abX{hs:List (H8×Nat)}(d1:(rG es.length).all (okB 5 es)=tT)(d2:conB 5 es=tT)(d3:(vq 5 es).length=1)(d4:(rG 5).all (fun v=>(rs.getD v []).isPerm ((Zh 5 es).getD v []))=tT)(d5:Cert 5 (Xl rs) hs)(c:es.length=9)(d:rs.length=5)(e:hs.length=6:=by rfl):
  bX ⟨((5:Nat):Int),es⟩/\zW 5 es/\XU 5 (eN 5 es):=by
 have a:bX ⟨((5:Nat):Int),es⟩:=by grind[V5]
 have b:=con_chk d2;have G:Av 5 es rs:=rotG_of d d4;refine⟨a,two_of a WY hGr b d3,ajG a G WY b ?_⟩;rw[X9 a G d5,wI,e,c]
def m5_all:∀i,i<10->bX ⟨((5:Nat):Int),k5L.eraseIdx i⟩/\zW 5 (k5L.eraseIdx i)/\XU 5 (eN 5 (k5L.eraseIdx i)):=fun i hi=>by
 match i,hi with
 |0,_=>exact abX (rs:=[[2,3,4],[4,3,2],[3,0,4,1],[4,0,2,1],[2,0,3,1]]) (hs:=[((0,2),3),((0,3),3),((0,4),3),((1,2),3),((1,3),3),((1,4),3)]) iw iw iw iw iw rfl rfl
 |1,_=>exact abX (rs:=[[1,3,4],[3,0,4,2],[4,3,1],[4,0,1,2],[1,0,3,2]]) (hs:=[((0,1),3),((0,3),3),((0,4),3),((1,2),3),((1,3),3),((2,3),3)]) iw iw iw iw iw rfl rfl
 |2,_=>exact abX (rs:=[[1,2,4],[2,0,4,3],[4,0,1,3],[4,2,1],[1,0,2,3]]) (hs:=[((0,1),3),((0,2),3),((0,4),3),((1,2),3),((1,3),3),((2,4),3)]) iw iw iw iw iw rfl rfl
 |3,_=>exact abX (rs:=[[1,2,3],[2,0,3,4],[3,0,1,4],[1,0,2,4],[3,2,1]]) (hs:=[((0,1),3),((0,2),3),((0,3),3),((1,2),3),((1,4),3),((2,3),3)]) iw iw iw iw iw rfl rfl
 |4,_=>exact abX (rs:=[[3,1,4,2],[0,3,4],[4,3,0],[4,1,0,2],[0,1,3,2]]) (hs:=[((0,1),3),((0,2),3),((0,3),3),((0,4),3),((1,4),3),((2,3),3)]) iw iw iw iw iw rfl rfl
 |5,_=>exact abX (rs:=[[2,1,4,3],[0,2,4],[4,1,0,3],[4,2,0],[0,1,2,3]]) (hs:=[((0,1),3),((0,2),3),((0,3),3),((0,4),3),((1,4),3),((2,4),3)]) iw iw iw iw iw rfl rfl
 |6,_=>exact abX (rs:=[[2,1,3,4],[0,2,3],[3,1,0,4],[0,1,2,4],[3,2,0]]) (hs:=[((0,1),3),((0,2),3),((0,3),3),((0,4),3),((1,3),3),((2,3),3)]) iw iw iw iw iw rfl rfl
 |7,_=>exact abX (rs:=[[1,2,4,3],[4,2,0,3],[0,1,4],[4,1,0],[0,2,1,3]]) (hs:=[((0,1),3),((0,2),3),((0,3),3),((0,4),3),((1,2),3),((1,4),3)]) iw iw iw iw iw rfl rfl
 |8,_=>exact abX (rs:=[[1,2,3,4],[3,2,0,4],[0,1,3],[0,2,1,4],[3,1,0]]) (hs:=[((0,1),3),((0,2),3),((0,3),3),((0,4),3),((1,2),3),((1,3),3)]) iw iw iw iw iw rfl rfl
 |9,_=>exact abX (rs:=[[1,3,2,4],[2,3,0,4],[0,3,1,4],[0,1,2],[2,1,0]]) (hs:=[((0,1),3),((0,2),3),((0,3),3),((0,4),3),((1,2),3),((1,3),3)]) iw iw iw iw iw rfl rfl
theorem acG(a:bX ⟨(n:Int),es⟩)(h:es.length<9):aak n es:=⟨a,fun b hb=>by have⟨i,hi⟩:=aax.1 hb;obtain⟨k,-,rfl⟩:=Jh hi;exact .inl (by grind[length_filter_le])⟩
def aa4(a:bX ⟨(n:Int),es⟩)(hb:vq n es=[b]):aak n es↔aaV n b:=by unfold aak;rw[hb];simp[a]
def flat_is(a:(aag n b).length=m)(h2:aat n b=c)(h:bX ⟨(m:Int),c⟩/\zW m c/\XU m (eN m c)):aaV n b:=by subst a h2;exact .inr h
def flatB_no(a:(aag n b).length=m)(h2:aat n b=c)(d:9<=b.length)(h:¬XU m (eN m c)):¬aaV n b:=by
 subst a h2;rintro(h3|h3)
 .omega
 .exact h h3.2.2
def k5_plan:∀i,i<10->aak 5 (k5L.eraseIdx i):=fun i hi=>by
 have h:=m5_all i hi;have hb:∀i,i<10->vq 5 (k5L.eraseIdx i)=[k5L.eraseIdx i]/\(aag 5 (k5L.eraseIdx i)).length=5/\aat 5 (k5L.eraseIdx i)=k5L.eraseIdx i:=by decide+kernel
 have⟨a,b,c⟩:=hb i hi;exact(aa4 h.1 a).2 (flat_is b c h)
def k5_np:¬aak 5 k5L:=fun h=>flatB_no (n:=5) (b:=k5L) (m:=5) (c:=k5L) iw iw WY k5N ((aa4 (b:=k5L) k5R iw).1 h)
def fnd_k5:abv ⟨((5:Nat):Int),k5L⟩=k5L:=(IE k5_np).trans (abQ (l:=k5L) (fun i hi=>k5_plan i hi) _ _)
theorem alf{k:Int}(a:es.length<=594)(h:(rG es.length).all (okB 200 es)=tT)(e:aaN es=k):aaz es=k:=by rw[aaz,WA (by grind[V5])];exact e
def kind_k5:aaz k5L=5:=alf WY iw iw
def kind_k33:aaz akF=33:=alf WY iw iw
attribute [local irreducible] Kp MQ lU KO1 KO KN KX KE VK Kl ZJ TC aab
variable {h:aai} {i:Nat} {ps:List Pr}
theorem aeW(J:LA)(id n i cap:Nat)(c:xLV)(h:aai)(K:h.own id=Z (.cells c))(hl:n*2<=c.length)(D:(c.take (n*2)).all (·.oneCell')=tT)(hi:i<n)(hn:n<=100000)(w:n<=cap)(E:cap<UNK):
  AC pG J 62 [sL (Z id) n cap,i,((i+1:Nat):Int)] h fun x h'=>
   ∃n',n'<=cap/\x=sL (Z id) n' cap/\n'=n-1/\∃c',(h'.own id=Z (.cells c')/\(∀f,Le f h->f.own id=Y->Le f h')/\∀b o,b≠id->h.own b=Z o->h'.own b=Z o)/\c'.take ((n-1)*2)=c.take (i*2)++((c.drop ((i+1)*2)).take ((n-(i+1))*2)):=by
 have k:¬UNK<=cap:=TN.2 E;have d:=eY;have j:=qS7;have L:(0:Int)<=(i:Int):=NH;have M:(i:Int)<=((i+1:Nat):Int):=NH;have e3:((i+1:Nat):Int)<=(n:Int):=NH;have e4:(0:Int)<=((i+1:Nat):Int):=NH;have F:(0:Int)<=(n:Int):=NH;have G:(n:Int)<=(cap:Int):=NH;have e7:(i:Int)<=(cap:Int):=NH;have y:∃v,abf pG 22 (sL (Z id) n cap) (Z (.int .i64 (i:Int))) (Z (.int .i64 ((i+1:Nat):Int))) (Z (.int .i64 (n:Int)))=Z v:=by
  refine⟨vV.slice (if n=i then Z id else Z ⟨id,i*2,Y⟩) (i+1-i) (n-i),?_⟩
  .simp only[abf,d,k,if_false,w,j,ah9,and_self,if_true,abm,abL,L,M,e3,e4,F,G,vZ,ahD,Ip,WE,BS]
 have⟨v1,y⟩:=y;have N:abf pG 22 (sL (Z id) n cap) Y (Z (.int .i64 (i:Int))) Y=Z (sL (Z id) i cap):=pn d j i NH w E
 have O:abf pG 22 (sL (Z id) n cap) (Z (.int .i64 ((i+1:Nat):Int))) Y Y=Z (.slice (if cap=i+1 then Z id else Z ⟨id,(i+1)*2,Y⟩) (n-(i+1)) (cap-(i+1))):=by have Q:((i+1:Nat):Int)<=(n:Int):=e3;simp only[abf,d,k,if_false,w,j,ah9,and_self,if_true,abm,abL,e4,Q,vZ,ahD,Ip,WE,BS]
 have rd:∀e,UA pG e=2->aby pG h e (.slice (if cap=i+1 then Z id else Z ⟨id,(i+1)*2,Y⟩) (n-(i+1)) (cap-(i+1)))=Z (n-(i+1),(c.drop ((i+1)*2)).take ((n-(i+1))*2)):=fun e he=>by
  by_cases q:cap=i+1
  .have z:n-(i+1)=0:=NH;rw[WA q,z];simp[aby,abN]
  grind[qF,aby]
 have nl:((c.drop ((i+1)*2)).take ((n-(i+1))*2)).length=(n-(i+1))*2:=hGr;have n1:((c.drop ((i+1)*2)).take ((n-(i+1))*2)).all (·.oneCell')=tT:=by
  rw[vY]at D ⊢;intro x R;refine D x ?_;have⟨q,A⟩:=aax.1 R;rw[afC]at A;split at A
  .refine XJ (i:=(i+1)*2+q) ?_;grind
  .cases A
 have app:∃c1 l,(l.own id=Z (.cells c1)/\(∀f,Le f h->f.own id=Y->Le f l)/\∀b o,b≠id->h.own b=Z o->l.own b=Z o)/\aaR pG h 22 22 (sL (Z id) i cap) (.slice (if cap=i+1 then Z id else Z ⟨id,(i+1)*2,Y⟩) (n-(i+1)) (cap-(i+1)))=Z (sL (Z id) (n-1) cap,l)/\c1.length=c.length/\
   c1.take ((n-1)*2)=c.take (i*2)++((c.drop ((i+1)*2)).take ((n-(i+1))*2)):=by
  have u:acd pG 49=Z (.agg #[vV.int .i64 0,vV.int .i64 0]):=Ji;have H:(vV.agg #[vV.int .i64 0,vV.int .i64 0]).cells.size=UA pG 49/\(vV.agg #[vV.int .i64 0,vV.int .i64 0]).cells.toList.all (·.oneCell')=tT:=⟨by kernel_rfl,by kernel_rfl⟩;have hs:=rd 49 WE;have S:pG.bytesOf 49<=1000:=by decide
  have T:(i+(n-(i+1)))*pG.bytesOf 49<=140737488355328:=ff (WS (show i+(n-(i+1))<=100000 by omega) S) WY;have U:i+(n-(i+1))<=140737488355328:=NH;have I:(vV.agg #[vV.int .i64 0,vV.int .i64 0]).cells.size=UA pG 49/\(vV.agg #[vV.int .i64 0,vV.int .i64 0]).cells.toList.all (·.oneCell')/\(pG.underlying 49).isSome/\acL (.slice 49)/\((c.drop ((i+1)*2)).take ((n-(i+1))*2)).all (·.oneCell')/\(i+(n-(i+1)))*pG.bytesOf 49<=140737488355328/\i+(n-(i+1))<=140737488355328/\((c.drop ((i+1)*2)).take ((n-(i+1))*2)).length=(n-(i+1))*UA pG 49:=⟨H.1,H.2,by rfl,rfl,n1,T,U,by grind[WE]⟩;by_cases V:n-(i+1)=0
  .refine⟨c,h,hGr,?_,rfl,?_⟩
   .simp only[aaR,d,u,hs];grind
   .rw[V];grind
  .have room:i*2+((c.drop ((i+1)*2)).take ((n-(i+1))*2)).length<=c.length:=hGr;refine⟨putCells c (i*2) ((c.drop ((i+1)*2)).take ((n-(i+1))*2)),_,⟨aai.Y3 _ _ _,fun f W hf=>W.put _ hf,fun b o hb K=>by grind[aai.By]⟩,?_,O7 _ _ _,?_⟩
   .simp only[aaR,d,u,hs];grind[WE]
   .rw[IW _ _ _ room,oZ hGr,abe hGr]
 have⟨c1,l,⟨X,aa,ae⟩,app,ai,B⟩:=app;have S4:abf pG 22 (sL (Z id) (n-1) cap) (Z (.int .i64 ((n-1:Nat):Int))) (Z (.int .i64 (n:Int))) Y=Z (sL (Z ⟨id,(n-1)*2,Y⟩) 1 (cap-(n-1))):=by have a1:((n-1:Nat):Int)<=(n:Int):=NH;have a2:(0:Int)<=((n-1:Nat):Int):=NH;have a3:n-1<=cap:=NH;have a4:¬cap=n-1:=NH;have a5:n-(n-1)=1:=NH;simp only[abf,d,k,if_false,a3,j,ah9,and_self,if_true,abm,abL,F,G,a1,a2,vZ,a4,a5,ahD,Ip,WE,BS]
 have p:∃c2,ae9 pG l 22 (sL (Z ⟨id,(n-1)*2,Y⟩) 1 (cap-(n-1)))=Z (.tuple #[],l.put id (.cells c2))/\c2.take ((n-1)*2)=c1.take ((n-1)*2):=by
  have u:acd pG 49=Z (.agg #[vV.int .i64 0,vV.int .i64 0]):=Ji;have aj:(vV.agg #[vV.int .i64 0,vV.int .i64 0]).cells=#[vV.int .i64 0,vV.int .i64 0]:=Ji;have zr:acY (vV.agg #[vV.int .i64 0,vV.int .i64 0]).cells.toList 1=[vV.int .i64 0,vV.int .i64 0]:=Ji;refine⟨putCells c1 ((n-1)*2) [vV.int .i64 0,vV.int .i64 0],?_,?_⟩
  .have r:(n-1)*2+1*(vV.agg #[vV.int .i64 0,vV.int .i64 0]).cells.size<=c1.length:=hGr;have fl:(vV.agg #[vV.int .i64 0,vV.int .i64 0]).cells.toList.all flat=tT:=Ji;simp only[ae9,d,u,X,fl,r,decide_true,Bool.and_self,cond_true,zr];rfl
  grind[IW]
 have⟨c2,p,C⟩:=p;refine AC.vF func62 ntmps62 results62 fun aq=>?_;have s:=fun m g=>Jg (P:=pG) (t:=22) (a:=Z id) (n:=m) (cap:=cap) d g;have d1:decide ((i:Int)=((i+1:Nat):Int))=fF:=Z6 NH;refine Sk (xU s y @ag6 d1) ?_;refine gh (fRn 0 6 (JQ 6 [2,5] (JQ 7 [0,1,2,3,4,5,6] .done))) ?_;simp only[HO,seval,Qg,N,O,app,s,S4,p];exact⟨n-1,NH,rfl,rfl,c2,(by grind[aai.Y3,Le.put,aai.By]),by rw[C,B]⟩
theorem aeX:∀(l:xLP)(i:Nat),i<l.length->(Iu l).take (i*2)++((Iu l).drop ((i+1)*2)).take ((l.length-(i+1))*2)=Iu (l.eraseIdx i):=by grind[afq,za,Ta,mZ,eraseIdx_eq_take_drop_succ]
theorem aeY(q:LA){v:vV}(g:GP h v ps)(hi:i<ps.length)(s:ps.length<=100000):
  AC pG q 62 [v,i,((i+1:Nat):Int)] h fun x h'=>PR h' x (ps.eraseIdx i)/\Ct x (ps.eraseIdx i).length/\∀f,Le f h->Z2 f v->Le f h':=by
 have a:(ps.eraseIdx i).length=ps.length-1:=by rw[ahl,WA hi]
 have hP:=aeX ps i hi;have d:=WI ps;obtain⟨w,⟨rfl,C⟩|⟨id,c,cap,rfl,t,p,y⟩⟩:=g
 .omega
 have e:ps.length*2<=c.length:=by have:=congrArg List.length p;rw[uu,w]at this;omega
 have z:c.take (i*2)=(Iu ps).take (i*2):=by rw[<-p,take_take];congr 1;omega
 have A:(c.drop ((i+1)*2)).take ((ps.length-(i+1))*2)=((Iu ps).drop ((i+1)*2)).take ((ps.length-(i+1))*2):=by rw[<-p,qL248,take_take];congr 1;omega
 have u:(c.take (ps.length*2)).all (·.oneCell')=tT:=by rw[p];exact d
 have fin:∀(cap':Nat)(h':aai)(c':xLV),h'.own id=Z (.cells c')->c'.take ((ps.length-1)*2)=c.take (i*2)++((c.drop ((i+1)*2)).take ((ps.length-(i+1))*2))->PR h' (sL (Z id) (ps.length-1) cap') (ps.eraseIdx i):=fun cap' h' c' j ct=>by
  rw[z,A,hP]at ct;have l:(ps.eraseIdx i).length=ps.length-1:=by rw[ahl,WA hi]
  have hlen:(ps.length-1)*2<=c'.length:=by have:=congrArg List.length ct;rw[uu,Ta,l]at this;omega
  have:=CS.own (k:=2) (off:=0) (n:=ps.length-1) (cap:=cap') j NH;rw[ajP,ct]at this;unfold PR;rw[l];exact this
 rcases y with rfl|⟨rfl,m⟩
 .refine(AC.exact (Q:=fun n' h'=>n'=ps.length-1/\∃c',(h'.own id=Z (.cells c')/\(∀f,Le f h->f.own id=Y->Le f h')/\∀b o,b≠id->h.own b=Z o->h'.own b=Z o)/\c'.take ((ps.length-1)*2)=c.take (i*2)++((c.drop ((i+1)*2)).take ((ps.length-(i+1))*2))) NH fun cap h2 h3=>aeW q id ps.length i cap c h t e u hi s h2 h3).mono ?_;rintro x h' ⟨n',rfl,rfl,c',⟨j,fr,B⟩,ct⟩;exact⟨fin _ h' c' j ct,by rw[a];exact⟨_,_,rfl,hGr⟩,fun f r af=>fr f r (af id rfl)⟩
 .refine(aeW q id ps.length i ps.length c h t e u hi s (qL0 _) (Nat.lt_trans m WY)).mono ?_;rintro x h' ⟨n',-,rfl,rfl,c',⟨j,fr,B⟩,ct⟩;exact⟨fin _ h' c' j ct,by rw[a];exact⟨_,_,rfl,.inl ⟨Nat.lt_trans m WY,NH⟩⟩,fun f r af=>fr f r (af id rfl)⟩
def LessI_any(d:LA)(a b:Int)(h:aai):AC pG d 120 [a,b] h fun x h'=>x=.bool (decide (a<b))/\h'=h:=by
 refine AC.vF func120 ntmps120 results120 fun e=>?_;refine Uy ?_;refine kCi qS28 (Pd d a h) ?_;rintro x f w1 ⟨rfl,rfl⟩;by_cases c:a<b
 .simp only[HO,seval,c];exact⟨Ma,trivial⟩
 .simp only[HO,seval,c];exact⟨Ma,trivial⟩
theorem acI(u:LA)(v:vV)(xs:RZ)(x:Int)(h:aai)(l:RL RP h v xs)(M:xs.length<=1000)(ha:xs.Pairwise (·<·))(A:x∈xs):
  AC pG u 137 [v,x] h fun y h'=>(∃i:Nat,y=.tuple #[.int .i64 i,.bool tT]/\xs[i]?=Z x)/\h'=h:=by
 have lt:∀(i j:Nat) a b,i<j->xs[i]?=Z a->xs[j]?=Z b->a<b:=fun i j a b B hi C=>by obtain⟨N,rfl⟩:=Ny.1 hi;obtain⟨h2,rfl⟩:=Ny.1 C;exact(by grind[pairwise_iff_getElem])
 have⟨q,f⟩:=aax.1 A;have n:=(Ny.1 f).1;refine AC.vF func137 ntmps137 results137 fun D=>?_;have E:=fun g=>l.DH g;refine Sk E ?_;refine lIn (fun k fr hh=>∃lo hi:Nat,k=hi-lo/\lo<=q/\q<=hi/\hi<=xs.length/\fr=mkF [(0,v),(1,x),(6,xs.length),(7,lo),(8,.int .i64 hi)]/\hh=h) ⟨0,xs.length,rfl,Og _,NH,qL0 _,rfl,rfl⟩ ?_;rintro k fr hh F ⟨lo,hi,rfl,p,s,t,rfl,rfl⟩;refine Uy ?_;refine Kl.intro (fun w=>?_) (fun hf=>?_)
 .have G:lo<hi:=acb w;clear w;have a1:aaY .i64 ((lo:Int)+(hi:Int))=((lo+hi:Nat):Int):=by grind[cT]
  have a2:=aw_u64 (lo+hi) NH;have H:=Tq (lo+hi) NH;have I:aaY .i64 (((lo+hi) / 2:Nat):Int)=(((lo+hi) / 2:Nat):Int):=cT _ NH NH;have O:(lo+hi) / 2<hi:=NH;have J:lo<=(lo+hi) / 2:=NH;refine Sk (bG a1 @cv3u a2 H @cvu3 I) ?_;generalize (lo+hi) / 2=m at*;have d:m<xs.length:=NH;have ad:=l.TA m d;have ld:=l.Uc m d;have o:=CA d;generalize xs[m]=y at*;simp only[HO,seval,ad,ld];refine kCi func120 (LessI_any u y x hh) ?_;rintro z h3 P ⟨rfl,rfl⟩;by_cases c:y<x
  .have dc:decide (y<x)=tT:=HV c;have e:m<q:=by
    rcases af8 m q with r|r|r
    .exact r
    .subst r;rw[o]at f;injection f with f;omega
    .have:=lt q m x y r f o;omega
   refine Sk (XC dc (aaa m NH)) ?_;exact lgA NH ⟨m+1,hi,rfl,e,s,t,rfl,rfl⟩
  .have dc:decide (y<x)=fF:=Z6 c;have e:q<=m:=by
    rcases afg m q with r|r
    .exact hGr
    .exact r
   refine Sk dc ?_;exact lgA NH ⟨lo,m,rfl,p,e,NH,rfl,rfl⟩
 have K:hi<=lo:=vp hf;obtain rfl:lo=q:=NH;have dl:decide ((lo:Int)<(xs.length:Int))=tT:=HV NH;have ad:=l.TA lo n;have ld:=l.Uc lo n;rw[(Ny.1 f).2]at ld;have dx:decide (x=x)=tT:=HV rfl;have L:((lo:Int)<(xs.length:Int))=True:=hGr;simp only[HO,seval,L,dl,ad,ld,dx];exact hGr
def idx_eq{b:xLP}{x:Int}(h:(kz (aag n b))[i]?=Z x):i=abD n b x:=by
 have f:(aag n b).Pairwise (·<·):=b7.filter _;unfold abD;generalize aag n b=l at*
 induction l generalizing i with
 |nil=>simp[kz]at h
 |cons a l g=>
  have⟨d,h2⟩:=ag1.1 f;cases i with
  |zero=>
   have e:x=(a:Int):=by simpa[kz]using h.symm
   subst e;rw[qL175.2];intro v j;rcases qL7.1 j with rfl|q
   .simp
   .have:=d v q;simp;omega
  |succ i=>
   have h':(kz l)[i]?=Z x:=by simpa[kz]using h
   have hi:=g h' h2;have⟨w,hw,e⟩:=aev.1 (XJ h');have c:(a:Int)<x:=by have:=d w hw;omega
   rw[alN,WA (by simpa using c),<-hi]
def mkKI2(h:aai)(a b:Int):aas pG h 28 2 [(0,a),(1,b)]=Z (sL (Z h.next) 2 2,h.alloc (.cells [a,b])):=Ji
def agH(l:xLP)(p:Pr):adJ (l++[p])=adJ l++[p.1,p.2]:=by simp[adJ]
def agu(l:xLP):(adJ l).length=2*l.length:=by
 induction l with
 |nil=>rfl
 |cons p l a=>simp only[adJ,aj3,aaf,Lm,aiM]at*;omega
theorem flat_any(m:LA)(bv:vV)(n:Nat)(b:xLP)(h:aai)(r:PR h bv b)(hR:aV n b)(hn:n<=200)(hl:b.length<=594):
  AC pG m 90 [bv] h fun x h'=>RR (aaV n b) x/\Le h h':=by
 have C:=fun g=>r.len g;refine AC.vF func90 ntmps90 results90 fun aa=>?_;by_cases W:b.length<9
 .have D:decide ((b.length:Int)<9)=tT:=HV NH;refine Sk (XC C D) ?_;exact⟨⟨tT,rfl,fun _=>.inl W,fun _=>rfl⟩,Le.refl _⟩
 have D:decide ((b.length:Int)<9)=fF:=Z6 NH;refine Sk (XC C D) ?_;refine lIn (fun k fr o=>∃(i:Nat)(z:vV),k=b.length-i/\i<=b.length/\fr=mkF [(0,bv),(3,z),(18,bv),(19,.int .i64 b.length),(20,i)]/\GI o z (adJ (b.take i))/\Le h o/\Z2 h z) ⟨0,_,rfl,Og _,rfl,GI.nil h,Le.refl _,fun b hb=>by simp[blk]at hb⟩ ?_;rintro k fr o E ⟨i,z,rfl,hi,rfl,g,F,ap⟩;refine Uy ?_;refine Kl.intro (fun s=>?_) (fun hf=>?_)
 .have d:i<b.length:=acb s;clear s;have f:=CA d;have l:b.take (i+1)=b.take i++[b[i]]:=EL d;have hle:(adJ (b.take i)).length<=2000:=by rw[agu,uu];omega
  generalize b[i]=p at f l;have ad:=r.addr (k:=.i64) i d;have ld:=(r.le F).load f;have⟨ae,h3,e2,e3,j,H,o3⟩:=Ut E p;have m0:=lK o3;have m1:=HY o3;have l3:=F.trans j;have⟨A,e4,l4,w4,o4⟩:=Tt H [p.1,p.2];have bs:=mkKI2 h3 p.1 p.2;rw[e4]at bs
  have r4:RL RP A (sL (Z h3.next) 2 2) [p.1,p.2]:=RL.Wh (RS.whole o4 rfl)
  obtain⟨jv,h6,J,K,w6,f6,-⟩:=GI.join ((g.le j).le l4) w4 r4 (by simp;omega);have⟨l6,aj⟩:=f6 h (l3.trans l4) ap;rw[<-agH,<-l]at K;simp only[HO,seval,ad,ld,e2,e3,Dh,Z0,Ip,BS,m0,m1,bs,J,aaa i NH];exact lgA (JS d) ⟨i+1,jv,rfl,d,rfl,K,l6,aj⟩
 have t:b.length<=i:=vp hf;rw[abe t]at g;refine Uy ?_;refine kCi qS23 (VQ m g (by rw[agu];omega)) ?_;rintro x h2 w2 ⟨rfl,g2,k2⟩;have L:=k2 h F ap;refine Uy ?_;refine kCi func58 (VY m g2 (by rw[OX,agu];omega)) ?_;rintro M h3 w3 ⟨N,-,k3⟩;have j:=k3 h L ap;rw[adX hR]at N;have lv:=fun g=>N.DH g;rw[y6]at lv;have⟨A,h5,e4,e5,l5,w5,nX,G0⟩:=GX.new w3 ((aag n b).length:Int);refine Sk (IX lv @ait e4 e5 C) ?_;have ai:(aag n b).length<=200:=ff (OM _ _) (by simp;omega);have u:(kz (aag n b)).Pairwise (·<·):=by unfold kz;rw[Uz];exact(b7.filter _).imp fun h=>by omega
 have O:h3.own h3.next=Y:=by grind[Le.next]
 generalize h3.next=X at*
 refine lIn (fun k fr o=>∃(i:Nat)(ev:vV),k=b.length-i/\i<=b.length/\fr=mkF [(3,M),(6,pT (Z X)),(39,bv),(40,.int .i64 b.length),(41,i)]/\GX o X (aag n b).length ev (aat n b|>.take i)/\Le h3 o/\Z2 h3 ev) ⟨0,_,rfl,Og _,rfl,G0,l5,fun b hb=>by simp[blk]at hb⟩ ?_;clear G0 w5 l5 e5 e4;rintro k fr hz P ⟨i,ev,rfl,hi,rfl,G,B,az⟩;refine Uy ?_;refine Kl.intro (fun s=>?_) (fun hf=>?_)
 .have d:i<b.length:=acb s;clear s;have f:=CA d;have Q:(aat n b)[i]?=Z ((abD n b b[i].1:Int),(abD n b b[i].2:Int)):=by rw[aat,Q4,f];rfl
  have l:(aat n b).take (i+1)=(aat n b).take i++[((abD n b b[i].1:Int),(abD n b b[i].2:Int))]:=by rw[dU,Q];rfl
  have v:((aat n b).take i).length+1<=100000:=by rw[uu];omega
  have aq:=XJ f;have hm:∀x,aO b[i] x=tT->x∈kz (aag n b):=by grind[adX,jn,Wv,aeS]
  have R:=hm b[i].1 (by simp[aO]);have S:=hm b[i].2 (by simp[aO]);generalize b[i]=p at*;have ad:=r.addr (k:=.i64) i d;have ld:=(r.le (j.trans B)).load f;have⟨ar,h6,J,s6,l6,w6,o6⟩:=Ut P p;have m0:=lK o6;have m1:=HY o6;have r6:=N.le Nn.RP (B.trans l6);have aw:=aaa i NH;simp only[HO,seval,ad,ld,J,s6,Dh,Z0,Ip,BS,m0];refine kCi func137 (acI m M _ p.1 h6 r6 (by rw[y6];omega) u R) ?_;rintro y h7 w7 ⟨⟨a,rfl,ha⟩,rfl⟩;refine Sk (IX @Dh @Z0 @Ip.eq_1 @BS m1) ?_;refine kCi func137 (acI m M _ p.2 h7 r6 (by rw[y6];omega) u S) ?_;rintro y h8 w8 ⟨⟨c,rfl,hc⟩,rfl⟩;obtain rfl:=idx_eq ha;obtain rfl:=idx_eq hc;have G6:=G.le l6;obtain⟨v',g4,g5,K,q4,q5,q6,G7,av,l7,f7,-⟩:=G6.push' w8 ((abD n b p.1:Int),(abD n b p.2:Int)) v;have⟨T,a7⟩:=f7 h3 (B.trans l6) O az;rw[<-l]at G7;have U:=xe (abD n b p.1:Int) (abD n b p.2:Int);simp only[HO,seval,Di,Ip,BS,G6.ld.2.2,U,q4,q5,q6,aw];exact lgA (JS d) ⟨i+1,v',rfl,d,rfl,G7,T,a7⟩
 have t:b.length<=i:=vp hf;have v:(aat n b).length=b.length:=by simp[aat]
 rw[abe NH]at G;refine Sk G.ld.1 ?_;refine kCi func59 (Im m _ ⟨((aag n b).length:Int),aat n b⟩ hz ⟨ev,rfl,G.gp.pr,GS.okc G.gp⟩) ?_;rintro x h9 w9 ⟨l9,rv,e,rfl,I⟩;have V:=(j.trans B).trans l9;have key:decide (e=0)=tT↔aaV n b:=by
  rw[uV];constructor
  .intro he;rcases I with⟨-,q,-⟩|⟨-,-,q,-⟩|⟨-,-,-,-,q,-⟩|⟨w,h2,rs,-,h3,A,-⟩
   .omega
   .omega
   .omega
   .exact .inr ⟨w,h2,Vg w.GD w.q9 h3 A⟩
  .rintro(q|⟨w,h2,h3⟩)
   .exact absurd q W
   .obtain⟨rs,-,-,-,q,-⟩:=I.XK w h2 h3;exact q
 refine Uy ?_;exact⟨⟨_,rfl,key⟩,V⟩
def fkM_len(key:Pr->Int)(es:xLP):(CY key es).length<=es.length:=by
 have:∀(es:xLP)(ks:RZ),(es.foldl (fkS key) ks).length<=ks.length+es.length:=by
  intro es
  induction es with
  |nil=>simp
  |cons p es a=>
   intro ks;have:=a (fkS key ks p);have h2:(fkS key ks p).length<=ks.length+1:=by unfold fkS;split<;>simp
   simp only[iU,Lm];omega
 have:=this es [];rw[aiM,BS]at this;exact this
def afx(n:Nat)(es:xLP):(vq n es).length<=es.length:=by rw[aaB,wI];exact fkM_len _ _
theorem aaO(o:LA)(v:vV)(G:GM)(h:aai)(hg:GR h v G):
  AC pG o 60 [v] h fun x h'=>RR (bX G/\aak G.n.toNat G.es) x/\Le h h':=by
 have j:=hg;have⟨D,es⟩:=G
 obtain⟨ev,rfl,E⟩:=hg.open
 refine AC.vF func60 ntmps60 results60 fun F=>?_;obtain⟨O,T,r,U,-,Q⟩:=r8 (n:=D) F E
 generalize h.next=B at*
 have H:=Q O (Le.refl _);refine Sk (XC T H.1) ?_;refine kCi func34 (Cw o _ ⟨D,es⟩ O (j.le r)) ?_;rintro x h2 w2 ⟨l2,V⟩;have s:=Q h2 l2;have l:=r.trans l2;rcases V with⟨W,rfl⟩|⟨m,X,rfl,z⟩
 .refine Sk s.1 ?_;refine kCi qS6 (ak o _ _ h2 (j.le l)) ?_;rintro x h3 w3 ⟨⟨t,rfl,a⟩,l3⟩;cases t with
  |true=>exact absurd (a.1 rfl) W
  |false=>refine Uy ?_;exact(by grind[RR.f,Le.trans])
 refine Sk s.1 ?_;refine kCi qS6 (ak o _ _ h2 (j.le l)) ?_;rintro x h3 w3 ⟨⟨t,rfl,a⟩,l3⟩;obtain rfl:t=tT:=a.2 m;clear a;have I:=l.trans l3;have h0:0<=D:=m.n0;obtain⟨n,rfl⟩:=Sb h0;simp only[vZ]at z ⊢;have lk:=fun g=>z.len (P:=pG) akq g;have aa:aak n es↔∀b∈vq n es,aaV n b:=⟨fun q=>q.2,fun q=>⟨m,q⟩⟩;have w:∀b∈vq n es,b.Sublist es:=by grind[mem_iff_getElem?,Jh,filter_sublist]
 have ae:(vq n es).length<=100000:=by have:=afx n es;have:es.length<=594:=m.len;omega
 generalize vq n es=bs at*;have d0:decide ((0:Int)=0)=tT:=by decide
 refine Sk (Yb @bne.eq_1.{0} d0 lk) ?_
 refine lIn (fun k fr A=>∃i:Nat,k=bs.length-i/\i<=bs.length/\fr=mkF [(19,X),(20,.int .i64 bs.length),(21,.int .i64 i)]/\Le h3 A/\∀b∈bs.take i,aaV n b) ⟨0,rfl,Og _,rfl,Le.refl _,fun b hb=>by simp at hb⟩ ?_;rintro k fr A ai ⟨i,rfl,hi,rfl,C,e⟩;refine Uy ?_;refine Kl.intro (fun R=>?_) (fun hf=>?_)
 rotate_left
 .have J:bs.length<=i:=vp hf;rw[abe J]at e;refine Uy ?_;exact⟨⟨tT,rfl,hGr,fun _=>rfl⟩,I.trans C⟩
 have d:i<bs.length:=acb R;clear R;have K:bs.take (i+1)=bs.take i++[bs[i]]:=EL d;have L:=AE d;have M:=z.addr (P:=pG) akq eY Ji (k:=.i64) i d;have⟨u,N,hu⟩:=z.load' (P:=pG) eY rfl i d;have lu:=N A (l3.trans C);generalize bs[i]=b at*;have hs:=w b L;have y:b.length<=594:=ff hs.length_le m.len;simp only[HO,seval,M,lu];refine kCi func90 (flat_any o u n b A (hu.le (l3.trans C)) (fun p E=>m.GD p (hs.subset E)) (by have:(n:Int)<=200:=m.n1;omega) y) ?_;rintro x h5 w5 ⟨⟨t,rfl,a⟩,l5⟩;cases t with
 |false=>refine Uy ?_;exact(by grind[RR.f,Le.trans])
 |true=>
  refine Sk (aaa i NH) ?_;exact lgA (JS d) ⟨i+1,rfl,d,rfl,C.trans l5,fun c S=>by
   rw[K]at S;rcases yM.1 S with q|q
   .exact e c q
   .rw[Gw.1 q];exact a.1 rfl⟩
attribute [local instance] Classical.propDecidable in
theorem KFind_any(e:LA)(v:vV)(G:GM)(h:aai)(hg:GR h v G):
  AC pG e 36 [v] h fun x h'=>Le h h'/\((¬bX G/\x=.tuple #[.slice Y 0 0,.int .i64 20])\/(bX G/\∃d,x=.tuple #[d,.int .i64 0]/\PR h' d (abv G)/\Ct d (abv G).length)):=by
 have m:=hg;have⟨Q,es⟩:=G
 obtain⟨ev,rfl,R⟩:=hg.open
 refine AC.vF func36 ntmps36 results36 fun A=>?_;obtain⟨C,V,f,W,-,z⟩:=r8 (n:=Q) A R
 generalize h.next=B at*
 have o:=z C (Le.refl _);refine Sk (XC V o.1) ?_;refine kCi qS6 (ak e _ _ C (m.le f)) ?_;rintro x h2 w2 ⟨⟨p,rfl,a⟩,l2⟩;have q:=z h2 l2;have r:=f.trans l2;cases p with
 |false=>refine Uy ?_;exact hGr
 |true=>
 have D:=a.1 rfl;clear a;have X:0<=Q:=D.n0;obtain⟨n,rfl⟩:=Sb X;refine Sk q.1 ?_;refine kCi func60 (aaO e _ ⟨(n:Int),es⟩ h2 (m.le r)) ?_;rintro x h3 w3 ⟨⟨p,rfl,a⟩,l3⟩;simp only[vZ]at a;have s:=r.trans l3
 have hf:∀F,F=abv ⟨(n:Int),es⟩->F=if aak n es then[]else aeH n es.length 0 es:=fun F b=>b
 cases p with
 |true=>have:=hf _ rfl;rw[WA (a.1 rfl).2]at this;refine Uy ?_;exact(by grind[GP.nil,GP.pr,GP.ct])
 |false=>
 have b:=hf _ rfl;rw[IE hGr]at b;generalize abv ⟨(n:Int),es⟩=F at*;clear hf a;have t:es.length<=594:=D.len;refine Sk (xU @Di @Ip.eq_1 @BS ((z h3 (l2.trans l3)).2.2)) ?_;refine kCi qS34 (DA e ev es h3 (R.le s) NH) ?_;rintro d h4 w4 ⟨E,l4,-⟩;have H:=s.trans l4;refine Uy ?_;refine lIn (fun k fr u=>∃(i:Nat)(l:xLP)(d:vV),k=l.length-i/\i<=l.length/\fr=mkF [(1,pT (Z B)),(4,d),(5,i)]/\PR u d l/\Ct d l.length/\Le C u/\aeH n (l.length-i) i l=F/\l.Sublist es) ⟨0,es,d,rfl,Og _,rfl,E.pr,E.ct,(by grind[Le.trans]),b.symm,ahm _⟩ ?_;clear E w4 l4 H b o q;clear d;rintro k fr u aa ⟨i,l,d,rfl,hi,rfl,pl,cl,I,b,hs⟩;have S:=fun g=>pl.len g;have ae:l.length<=594:=ff hs.length_le t;have ai:=f.trans I;by_cases c:i<l.length
 rotate_left
 .have dc:decide ((i:Int)<(l.length:Int))=fF:=Z6 NH;have J:((i:Int)<(l.length:Int))=False:=hGr;have K:l.length-i=0:=NH;rw[K]at b;have b:l=F:=b;refine Sk (Yb S dc J) ?_;exact hGr
 have dc:decide ((i:Int)<(l.length:Int))=tT:=HV NH;have J:((i:Int)<(l.length:Int))=True:=hGr;have hk:l.length-i=(l.length-(i+1))+1:=NH;rw[hk,aeH,WA c]at b;have aw:=aaa i NH;refine Sk (Yb S dc J) ?_;refine kCi qS34 (DA e d l u pl NH) ?_;rintro cv h5 w5 ⟨g5,l5,a5⟩;simp only[HO,seval,aw];refine kCi func62 (aeY e g5 c NH) ?_;rintro T U w6 ⟨L,c6,k6⟩;have j:=k6 u l5 a5;have M:=z U (I.trans j);have N:=Wj (n:=(n:Int)) L.sl;refine Sk (IX @Ii @Ip.eq_1 @BS M.2.1 N) ?_;refine kCi func60 (aaO e _ ⟨(n:Int),l.eraseIdx i⟩ U ⟨T,rfl,L⟩) ?_;rintro x h7 w7 ⟨⟨p,rfl,a⟩,O⟩;simp only[vZ]at a;have w:=(als l i).trans hs;have aj:bX ⟨(n:Int),l.eraseIdx i⟩:=D.sub w;have P:(l.eraseIdx i).length=l.length-1:=by rw[ahl,WA c]
 have y:=I.trans (j.trans O);cases p with
 |true=>rw[WA (a.1 rfl).2]at b;simp only[HO,seval,aw];exact lgA NH ⟨i+1,l,d,rfl,c,rfl,pl.le (j.trans O),cl,y,b,hs⟩
 |false=>rw[IE hGr]at b;refine Uy ?_;exact lgA NH ⟨i,l.eraseIdx i,T,rfl,NH,rfl,L.le O,c6,y,by rw[P,show l.length-1-i=l.length-(i+1) by omega];exact b,w⟩
variable {a j:Nat}
def acJ(a j:Nat):xLP:=(rG (j-(a+1))).map fun t=>((a:Int),((a+1+t:Nat):Int))
def afP(f n:Nat):Nat->xLP
 |0=>[]
 |k+1=>afP f n k++acJ (f+k) n
def afy(h:a+1<=j):acJ a (j+1)=acJ a j++[((a:Int),(j:Int))]:=by unfold acJ;rw[show j+1-(a+1)=(j-(a+1))+1 by omega,rY,KG];simp;omega
def ad4(a j:Nat):(acJ a j).length<=j:=by simp[acJ]
def ad5(f n:Nat):∀k,(afP f n k).length<=n*k
 |0=>qL0 _
 |k+1=>by have:=ad5 f n k;have:=ad4 (f+k) n;rw[afP,aaf,Nat.mul_add];omega
attribute [local instance] Classical.propDecidable
theorem agf{on on':Nat->Bool}(b:∀u,on u=fF->on' u=fF){es:xLP}{u w:Nat}(h:Cn on es u w):Cn on' es u w:=by
 induction h with
 |refl h=>exact .refl (b _ h)
 |step _ a o c=>exact .step c a (b _ o)
def agI{on:Nat->Bool}{es:xLP}{S:Nat->Prop}{x0 c:Nat}(h:Cn on es x0 c)(e:S x0)(b:¬S c):∃x y,S x/\¬S y/\Jp es x y/\Cn (fun u=>on u||decide (S u)) es y c:=by
 induction h with
 |refl _=>exact absurd e b
 |@step w x h a o f=>
  have d:(on x||decide (S x))=fF:=by rw[o,Z6 b];rfl
  by_cases hw:S w
  .exact⟨w,x,hw,b,a,.refl d⟩
  .obtain⟨p,q,g,h2,h3,i⟩:=f hw;exact⟨p,q,g,h2,h3,.step i a d⟩
theorem first_in{on:Nat->Bool}{es:xLP}{t a w:Nat}(ne:a≠t)(h:Cn on es a w):Cn (fun u=>on u||decide (u=t)) es a w\/∃z,Jp es z t/\Cn (fun u=>on u||decide (u=t)) es a z:=by
 induction h with
 |refl h=>exact .inl (.refl (by rw[h,Z6 ne];rfl))
 |@step w x h a o b=>
  rcases b with q|q
  .by_cases e:x=t
   .subst e;exact hGr
   .exact .inl (.step q a (by rw[o,Z6 e];rfl))
  .exact .inr q
def abb(n:Nat)(es:xLP)(k:Int):xLP:=es.filter fun p=>decide (cQ n es p=k)
section
variable{n:Nat}{es:List Pr}(hr:aV n es)
theorem aaw{k:Int}{p:Pr}:p∈abb n es k↔p∈es/\cQ n es p=k:=by simp[abb]
def ajm(k:Int):(abb n es k).Sublist es:=Db
include hr
def blkE_in(k:Int):aV n (abb n es k):=fun p a=>hr p (aaw.1 a).1
theorem abM{k:Int}{u w:Nat}:Jp (abb n es k) u w↔Jp es u w/\cQ n es (GW u w)=k:=by
 constructor
 .intro h;have a:=aaw.1 (H4 (blkE_in hr k) h);exact⟨h.imp (by grind[aaw]) (by grind[aaw]),a.2⟩
 .rintro⟨a,h2⟩;have b:=aaw.2 ⟨H4 hr a,h2⟩;have ne:u≠w:=fun e=>by subst e;exact Xa hr a
  rcases Bc ne with c|c
  .left;rwa[GW,qL236 NH,qL225 NH]at b
  .right;rwa[GW,Int.min_eq_right NH,Int.max_eq_left NH]at b
theorem blk_path{v a c:Nat}(ha:Jp es v a)(o:Jp es v c)(h:Cn (wo v) es a c):Cn (wo v) (abb n es (cQ n es (GW v a))) a c:=by
 generalize p:cQ n es (GW v a)=K;have nva:a≠v:=by grind[Xa]
 refine si fun r=>?_;have d:Cn (wo v) (abb n es K) a a:=.refl (iO nva);have⟨x,y,l,s,b,f⟩:=agI (S:=fun u=>Cn (wo v) (abb n es K) a u) h d r;have g:y≠v:=by grind[Cn.off1]
 have key:cQ n es (GW x y)=K:=by
  have off:∀u,(wo v u||decide (Cn (wo v) (abb n es K) a u))=fF->wo x u=fF:=by grind[of_decide_eq_false]
  have i:v≠x:=by grind[Cn.AB]
  have m:Cn (wo x) es y v:=.step (agf off f) o.symm (iO i);by_cases e:x=a
  .subst e;rw[(dR hr b ha.symm).2 m,so];exact p
  .rcases first_in (Hs e) l with q|⟨z,t,q⟩
   .have:=q.AB;simp at this
   .obtain⟨j,k⟩:=(abM hr).1 t;have w:Cn (wo x) es a z:=by
     have:Cn (wo x) (abb n es K) a z:=by grind[agf]
     exact(by grind[Cn.mono,aaw])
    have ya:Cn (wo x) es y z:=(Cn.step m ha hGr).trans w;rw[(dR hr b j.symm).2 ya,so];exact k
 exact s (.step l (by grind[abM]) (iO g))
theorem blk_one{k:Int}{p q:Pr}(b:p∈abb n es k)(d:q∈abb n es k):cQ n (abb n es k) p=cQ n (abb n es k) q:=by
 have hb:=blkE_in hr k
 have:=adg hr (fun r=>if r∈abb n es k then cQ n (abb n es k) r else-1) (fun v a c ha f h=>?_) (aaw.1 b).1 (aaw.1 d).1 (by grind[aaw])
 .rw[WA b,WA d]at this;exact this
 have e:=(dR hr ha f).2 h;have m1:GW v a∈abb n es k↔cQ n es (GW v a)=k:=by rw[aaw];exact(by grind[H4])
 have m2:GW v c∈abb n es k↔cQ n es (GW v c)=k:=by rw[aaw];exact(by grind[H4])
 by_cases c1:cQ n es (GW v a)=k
 .have c2:cQ n es (GW v c)=k:=e▸c1;rw[WA (m1.2 c1),WA (m2.2 c2)];refine(dR hb (by grind[abM]) (by grind[abM])).2 ?_;have:=blk_path hr ha f h;rwa[c1]at this
 .rw[IE (fun q=>c1 (m1.1 q)),IE (fun q=>c1 (by rw[e];exact m2.1 q))]
theorem key_mono{c:xLP}(hs:∀p∈c,p∈es){n':Nat}(d:aV n' c){p q:Pr}(e:p∈c)(f:q∈c)(h:cQ n' c p=cQ n' c q):cQ n es p=cQ n es q:=adg d (fun r=>cQ n es r) (fun v a b ha hb g=>(dR hr (ha.imp (hs _) (hs _)) (hb.imp (hs _) (hs _))).2 (g.mono hs)) e f h
end
theorem aaP{n:Nat}{es b:xLP}:b∈vq n es↔∃p∈es,b=abb n es (cQ n es p):=by
 rw[aaB,aev];constructor
 .rintro⟨k,c,rfl⟩;obtain⟨p,a,rfl⟩:=((ahE (cQ n es) _ es rfl).2 k).1 c;exact⟨p,a,rfl⟩
 .rintro⟨p,a,rfl⟩;exact⟨cQ n es p,((ahE (cQ n es) _ es rfl).2 _).2 ⟨p,a,rfl⟩,rfl⟩
theorem ae0{n:Nat}{es:xLP}(h:∀p∈es,∀q∈es,cQ n es p=cQ n es q){b:xLP}(hb:b∈vq n es):b=es:=by obtain⟨p,a,rfl⟩:=aaP.1 hb;exact Ki.2 (by grind[decide_eq_true])
theorem blocks_ne{n:Nat}{es:xLP}(h:∀p∈es,∀q∈es,cQ n es p=cQ n es q)(a:es≠[]):es∈vq n es:=by obtain⟨p,l,rfl⟩:=N8 a;exact aaP.2 ⟨p,Ma,(Ki.2 (by grind[decide_eq_true])).symm⟩
def aeo(n:Nat)(b:xLP):Prop:=bX ⟨(n:Int),b⟩/\b≠[]/\∀p∈b,∀q∈b,cQ n b p=cQ n b q
theorem aaQ{n:Nat}{es b:xLP}(hr:bX ⟨(n:Int),es⟩)(hb:b∈vq n es):aeo n b:=by obtain⟨p,d,rfl⟩:=aaP.1 hb;exact⟨hr.sub (ajm _),WL (aaw.2 ⟨d,rfl⟩),fun a ha c e=>blk_one hr.GD ha e⟩
theorem abc{n:Nat}{b:xLP}(h:aeo n b):aak n b↔aaV n b:=⟨fun q=>q.2 b (blocks_ne h.2.2 h.2.1),fun q=>⟨h.1,fun c a=>by rw[ae0 h.2.2 a];exact q⟩⟩
theorem acp{n:Nat}{es:xLP}(hr:bX ⟨(n:Int),es⟩):aak n es↔∀b∈vq n es,aak n b:=⟨fun q b hb=>(abc (aaQ hr hb)).2 (q.2 b hb),fun q=>⟨hr,(by grind[abc,aaQ])⟩⟩
section
variable{n:Nat}{b:List Pr}(hR:aV n b)
def acw(n:Nat)(b:xLP):II:=aag n b++(rG n).filter fun(v:Nat)=>!b.any fun p=>aO p (v:Int)
def toV(n:Nat)(b:xLP)(u:Nat):Nat:=(acw n b).idxOf u
def ofV(n:Nat)(b:xLP)(i:Nat):Nat:=(acw n b).getD i 0
theorem acx:(acw n b).Perm (rG n):=by exact qL192 _ _
def adn:(acw n b).length=n:=by rw[(acx (n:=n) (b:=b)).length_eq,y5]
theorem ordL_nd:(acw n b).Nodup:=by grind[acx]
def ads{u:Nat}:u∈acw n b↔u<n:=by rw[(acx (n:=n) (b:=b)).mem_iff,abV]
theorem toV_lt{u:Nat}(h:u<n):toV n b u<n:=by have:=aiL (ads (b:=b)|>.2 h);rwa[adn]at this
def afz{i:Nat}(h:i<n):ofV n b i<n:=by
 have a:i<(acw n b).length:=by rw[adn];exact h
 have:ofV n b i=(acw n b)[i]:=D4 a;rw[this];exact ads.1 (AE a)
theorem abk{u:Nat}(h:u<n):ofV n b (toV n b u)=u:=by have c:=ads (b:=b)|>.2 h;have a:=aiL c;unfold ofV toV;rw[D4 a];exact qL215 a
theorem toV_ofV{i:Nat}(h:i<n):toV n b (ofV n b i)=i:=by
 have a:i<(acw n b).length:=by rw[adn];exact h
 have e:ofV n b i=(acw n b)[i]:=D4 a;rw[e];exact qL228 ordL_nd i a
def ren_V(n:Nat)(b:xLP):Ren n (toV n b) (ofV n b):=⟨fun _ h=>toV_lt h,fun _ h=>afz h,fun _ h=>toV_ofV h,fun _ h=>abk h⟩
theorem toV_idx{u:Nat}(h:u∈aag n b):toV n b u=abD n b (u:Int)/\toV n b u<(aag n b).length:=by
 have a:=aiL h;have e:toV n b u=(aag n b).idxOf u:=by unfold toV acw;rw[idxOf_append,WA h]
 refine⟨?_,by rw[e];exact a⟩;rw[e];refine idx_eq (n:=n) (b:=b) ?_;rw[kz,Q4,CA a];simp[qL215 a]
include hR
theorem aaJ{u:Nat}:u∈aag n b↔∃w,Jp b u w:=by
 rw[aeT];constructor
 .rintro⟨f,p,e,h⟩;obtain⟨a,c,ha,g,d,rfl⟩:=aiu hR e;have h':u=a\/u=c:=by simp only[aO,bj,ah7,uV]at h;omega
  rcases h' with rfl|rfl
  .exact⟨c,d⟩
  .exact⟨a,d.symm⟩
 .rintro⟨w,h⟩;refine⟨(h.lt hR).1,GW u w,H4 hR h,?_⟩;simp only[aO,bj,ah7,uV];omega
theorem aep{x y:Int}:(x,y)∈aat n b↔∃u w:Nat,((u:Int),(w:Int))∈b/\x=(toV n b u:Int)/\y=(toV n b w:Int):=by
 unfold aat;rw[aev];constructor
 .rintro⟨p,a,e⟩;have⟨c,h2,h3⟩:=hR p a;have⟨f,d⟩:=p;obtain⟨u,rfl⟩:=Sb c;obtain⟨w,rfl⟩:=Sb (show 0<=d by omega);injection e with g h;have m1:=(toV_idx ((aaJ hR).2 ⟨w,.inl a⟩)).1;have m2:=(toV_idx ((aaJ hR).2 ⟨u,.inr a⟩)).1;exact hGr
 .rintro⟨u,w,a,rfl,rfl⟩;have m1:=(toV_idx ((aaJ hR).2 ⟨w,.inl a⟩)).1;have m2:=(toV_idx ((aaJ hR).2 ⟨u,.inr a⟩)).1;exact hGr
theorem abR{v w:Nat}:Jp (aat n b) v w↔v<n/\w<n/\Jp b (ofV n b v) (ofV n b w):=by
 have one:∀v w:Nat,((v:Int),(w:Int))∈aat n b->v<n/\w<n/\((ofV n b v:Int),(ofV n b w:Int))∈b:=fun v w h=>by have⟨u,x,c,a,h2⟩:=(aep hR).1 h;have l1:=(show Jp b u x from .inl c).lt hR;obtain rfl:v=toV n b u:=NH;obtain rfl:w=toV n b x:=NH;rw[abk l1.1,abk l1.2];exact⟨toV_lt l1.1,toV_lt l1.2,c⟩
 constructor
 .rintro(h|h)
  .obtain⟨a,h2,h3⟩:=one _ _ h;exact⟨a,h2,.inl h3⟩
  .obtain⟨a,h2,h3⟩:=one _ _ h;exact⟨h2,a,.inr h3⟩
 .rintro⟨a,h2,h3|h3⟩
  .exact .inl (by grind[aep,toV_ofV])
  .exact .inr (by grind[aep,toV_ofV])
theorem adj_to{u w:Nat}(h:Jp b u w):Jp (aat n b) (toV n b u) (toV n b w):=by have l:=h.lt hR;exact(by grind[abR,toV_lt,abk])
theorem vert_lt{u w:Nat}(h:Jp b u w):toV n b u<(aag n b).length:=by grind[toV_idx,aaJ]
omit hR in
theorem aeq{x y:Nat}(e:x∈aag n b)(d:x<y):abD n b (x:Int)<abD n b (y:Int):=by
 have f:∀l:II,x∈l->l.countP (fun(v:Nat)=>decide ((v:Int)<(x:Int)))<l.countP fun(v:Nat)=>decide ((v:Int)<(y:Int)):=by
  intro l
  induction l with
  |nil=>intro h;cases h
  |cons a l g=>
   intro h;have mono:l.countP (fun(v:Nat)=>decide ((v:Int)<(x:Int)))<=l.countP fun(v:Nat)=>decide ((v:Int)<(y:Int)):=List.countP_mono_left hGr;rw[alN,alN];rcases qL7.1 h with rfl|q
   .rw[IE Ma,WA (by simpa using d)];omega
   .have:=g q;by_cases c:(a:Int)<(x:Int)
    .rw[WA (by simpa using c),WA (by simp only[uV];omega)];omega
    .rw[IE (by simpa using c)];split<;>omega
 exact f _ e
omit hR in
theorem ad6(d:bX ⟨(n:Int),b⟩):bX ⟨((aag n b).length:Int),aat n b⟩:=by
 have hR:=d.GD;have e:(aag n b).length<=n:=ff (OM _ _) Ma;have f:∀p∈b,∃u w:Nat,p=((u:Int),(w:Int))/\u<w/\u∈aag n b/\w∈aag n b:=fun p a=>by have⟨k,h2,h3⟩:=hR p a;have⟨m,l⟩:=p;obtain⟨u,rfl⟩:=Sb k;obtain⟨w,rfl⟩:=Sb (show 0<=l by omega);exact⟨u,w,rfl,NH,(aaJ hR).2 ⟨w,.inl a⟩,(aaJ hR).2 ⟨u,.inr a⟩⟩
 refine bX.of (ff e (by have:(n:Int)<=200:=d.n1;omega)) (by rw[aat,wI];exact d.len) (fun q g=>?_) ?_
 .obtain⟨p,a,rfl⟩:=aev.1 g;obtain⟨u,w,rfl,i,j,hw⟩:=f p a;have k:=aeq j i;have h2:=toV_idx hw;rw[h2.1]at h2;exact hGr
 .have ha:D3 b:=d.q9;rw[Nl]at ha ⊢;unfold aat;rw[Uz];refine ha.imp_of_mem fun{p q} a g c=>?_;obtain⟨u,w,rfl,-,j,hw⟩:=f p a;obtain⟨x,y,rfl,-,o,r⟩:=f q g;simp only at c ⊢;rcases c with h|⟨h,h'⟩
  .left;have:=aeq j (show u<x by omega);omega
  .right;have:=aeq hw (show w<y by omega);obtain rfl:u=x:=NH;exact hGr
theorem afA:XU (aag n b).length (eN (aag n b).length (aat n b))↔XU n (eN n b):=by
 have g:(aag n b).length<=n:=ff (OM _ _) Ma;have d:∀v w,Jp (aat n b) v w->v<(aag n b).length:=fun v w h=>by have⟨c,h2,h3⟩:=(abR hR).1 h;have:=vert_lt hR h3;rwa[toV_ofV c]at this
 have GD:∀{m},(∀v w,Jp (aat n b) v w->v<m)->aV m (aat n b):=fun{m} h p i=>by obtain⟨q,e,rfl⟩:=aev.1 i;have⟨c,h2,h3⟩:=hR q e;have⟨o,j⟩:=q;obtain⟨u,rfl⟩:=Sb c;obtain⟨w,rfl⟩:=Sb (show 0<=j by omega);have k:=(aaJ hR).2 ⟨w,.inl e⟩;have:=aeq k (show u<w by omega);have ha:Jp (aat n b) (abD n b (w:Int)) (abD n b (u:Int)):=.inr hGr;have:=h _ _ ha;exact hGr
 have r:=GD d;have f:aV n (aat n b):=by grind[Nat.lt_of_lt_of_le]
 have l:XU (aag n b).length (eN (aag n b).length (aat n b))↔XU n (eN n (aat n b)):=by
  have c:XU (aag n b).length (eN (aag n b).length (aat n b))↔XU (aag n b).length (eN n (aat n b)):=(by grind[XU.congr,vD]);rw[c,<-XU.al0 (by grind[vD]) (n-(aag n b).length),show(aag n b).length+(n-(aag n b).length)=n by omega]
 rw[l];have N:=ren_V n b;constructor
 .intro h;refine h.ren (p:=ofV n b) (q:=toV n b) ⟨N.ql,N.pl,N.qp,N.pq⟩ fun v w=>?_;rw[vD hR,vD f];constructor
  .intro a;exact⟨(a.lt hR).1,(a.lt hR).2,adj_to hR a⟩
  .rintro⟨c,h2,h3⟩;have:=((abR hR).1 h3).2.2;rwa[abk c,abk h2]at this
 .intro h;refine h.ren N fun v w=>?_;rw[vD hR,vD f];exact abR hR
end
section
variable{n:Nat}{b:List Pr}(O:aeo n b)
include O
theorem aeo.bp{u w x y:Nat}(d:Jp b u w)(h2:Jp b x y):Pu b u x:=by
 have hR:=O.1.GD;have:=adg hR (fun p=>Pu b u p.1.toNat) (fun v a c ha e _=>?_) (H4 hR d) (H4 hR h2) (O.2.2 _ (H4 hR d) _ (H4 hR h2))
 .have c1:∀{v a},Jp b v a->Pu b v (GW v a).1.toNat:=fun{v a} h=>by
   rw[bj];rcases ajs v a with q|q
   .rw[alQ q];exact Pu.refl _ _
   .rw[qL224 q];exact abu h
  have:=this▸c1 d;exact this.trans (c1 h2).symm
 .have c1:∀{v a},Jp b v a->Pu b v (GW v a).1.toNat:=fun{v a} h=>by
   rw[bj];rcases ajs v a with q|q
   .rw[alQ q];exact Pu.refl _ _
   .rw[qL224 q];exact abu h
  exact(by grind[Cn.trans,Cn.symm])
theorem aeo.nocut{v a c:Nat}(ha:Jp b v a)(d:Jp b v c):Cn (wo v) b a c:=(dR O.1.GD ha d).1 (O.2.2 _ (H4 O.1.GD ha) _ (H4 O.1.GD d))
theorem aeo.two(A:2<=b.length):zW (aag n b).length (aat n b):=by
 have hR:=O.1.GD;have f:∀{v},v<(aag n b).length->v<n:=fun h=>aiq h (ff (OM _ _) Ma);have back:∀{v},v<(aag n b).length->ofV n b v∈aag n b:=fun{v} h=>by
  have:ofV n b v=(aag n b)[v]:=by unfold ofV acw;rw[VU,eR h,CA h];rfl
  rw[this];exact AE h
 have d:∀{on on':Nat->Bool}{u w},(∀x,x<n->on x=fF->on' (toV n b x)=fF)->u<n->Cn on b u w->Cn on' (aat n b) (toV n b u) (toV n b w):=fun{on on' u w} q g h=>by
  induction h with
  |refl o=>exact .refl (q _ g o)
  |step _ a o r=>exact .step r (adj_to hR a) (by grind[Jp.lt])
 have h3:3<=(aag n b).length:=by
  have j:=ad6 O.1;have B:(aat n b).length=b.length:=by rw[aat,wI]
  refine si fun k=>?_;have e:∀p∈aat n b,p=((0:Int),(1:Int)):=fun p s=>by have h:=j.GD p s;have⟨C,D⟩:=p;exact(by grind[Prod.ext])
  have l:0<(aat n b).length:=NH;have i:1<(aat n b).length:=NH;have:=Yi.1 (Nl.1 j.q9) 0 1 l i WY;rw[e _ (AE l),e _ (AE i)]at this;simp at this
 have bp:∀u v,u<(aag n b).length->v<(aag n b).length->Pu (aat n b) u v:=fun u v g m=>by have⟨w,hw⟩:=(aaJ hR).1 (back g);have⟨y,t⟩:=(aaJ hR).1 (back m);have:=d (on:=offA) (on':=offA) hGr (afz (f g)) (O.bp hw t);rwa[toV_ofV (f g),toV_ofV (f m)]at this
 refine⟨h3,(by grind[heads_all]),fun v ⟨a,c,ha,k,z⟩=>z ?_⟩;have⟨E,a1,i⟩:=(abR hR).1 ha;have⟨_,c1,h2⟩:=(abR hR).1 k;have:=d (on:=wo (ofV n b v)) (on':=wo v) (by grind[abk]) (afz a1) (O.nocut i h2);rwa[toV_ofV a1,toV_ofV c1]at this
theorem aeo.flat:aaV n b↔b.length<9\/XU n (eN n b):=by
 unfold aaV;rw[afA O.1.GD];by_cases c:b.length<9
 .exact hGr
 .constructor
  .rintro(h|h)
   .exact .inl h
   .exact .inr h.2.2
  .rintro(h|h)
   .exact .inl h
   .exact .inr ⟨ad6 O.1,O.two NH,h⟩
end
theorem ahs{n:Nat}{es a:xLP}(hs:a.Sublist es)(h:aak n es):aak n a:=by
 have f:=h.1;have d:=f.sub hs;have hR:=f.GD;have i:=d.GD;refine(acp d).2 fun b hb=>(abc (aaQ d hb)).2 ?_;have O:=aaQ d hb;obtain⟨p,j,rfl⟩:=aaP.1 hb;have hB:abb n es (cQ n es p)∈vq n es:=by grind[aaP]
 have g:=aaQ f hB;have sub:(abb n a (cQ n a p)).Sublist (abb n es (cQ n es p)):=by
  have e:abb n a (cQ n a p)=(a.filter fun q=>decide (cQ n es q=cQ n es p)).filter fun q=>decide (cQ n a q=cQ n a p):=by
   rw[aiI];refine DF fun q l=>?_;by_cases c:cQ n a q=cQ n a p
   .rw[HV c,HV (by grind[key_mono])];rfl
   .rw[Z6 c];rfl
  rw[e];exact Db.trans (hs.filter _)
 have hf:=(g.flat).1 (h.2 _ hB);refine O.flat.2 ?_;rcases hf with q|q
 .exact(by grind[List.Sublist.length_le])
 .refine .inr (q.less (fun v w k=>?_) (fun v w k=>?_))
  .rw[vD g.1.GD];exact((vD O.1.GD).1 k).imp (fun x=>sub.subset x) (fun x=>sub.subset x)
  .exact(vD O.1.GD).2 ((vD O.1.GD).1 k).symm
end
theorem agD{l m:II}(a:l.Nodup)(h2:m.Nodup)(h:∀x,x∈l↔x∈m):l.Perm m:=by grind[perm_ext_iff_of_nodup]
theorem alF{π:Nat->Nat}{l:II}(nd:l.Nodup)(hi:∀a∈l,∀b∈l,π a=π b->a=b):(l.map π).Nodup:=by rw[j9,Uz];exact(by grind[List.Pairwise.imp_of_mem])
def agX(rows:AM)(v:Nat):II:=(rows.getD v []).map (·.toNat)
section
variable{n:Nat}{es fs:List Pr}{π:Nat->Nat}
theorem acu(hR:aV n es){v w:Nat}:w∈agX (Zh n es) v↔Jp es v w:=by
 unfold agX;rw[aev];constructor
 .rintro⟨x,a,rfl⟩;obtain⟨w,rfl,_⟩:=Ru hR a;exact(by grind[EW])
 .intro h;exact⟨(w:Int),(EW hR v w).2 h,Ma⟩
theorem agE(hR:aV n es)(hA:D3 es)(v:Nat):(agX (Zh n es) v).Nodup:=by unfold agX;rw[j9,Uz];refine(KW es hR hA v).imp_of_mem fun{x y} b c h=>?_;obtain⟨a,rfl,_⟩:=Ru hR b;omega
def agb(rows:AM)(v:Nat):(agX rows v).length=(rows.getD v []).length:=by simp[agX]
variable(I:H9 n es fs π)(hA:D3 es)(hB:D3 fs)
include I hA hB
theorem alg{v:Nat}(b:v<n):(agX (Zh n fs) (π v)).Perm ((agX (Zh n es) v).map π):=by
 have lt:∀{w},w∈agX (Zh n es) v->w<n:=fun h=>(((acu I.r1).1 h).lt I.r1).2;refine agD (agE I.r2 hB _) (by grind[alF,agE,H9.r1,H9.inj]) fun x=>?_;rw[acu I.r2,aev];constructor
 .intro h;obtain⟨a,ha,rfl⟩:=I.surj x (h.lt I.r2).2;exact(by grind[acu,H9.r1,H9.Jp])
 .rintro⟨a,ha,rfl⟩;exact(by grind[H9.Jp,acu,H9.r1])
theorem agJ{v:Nat}(a:v<n):((Zh n fs).getD (π v) []).length=((Zh n es).getD v []).length:=by rw[<-agb,<-agb,(alg I hA hB a).length_eq,wI]
theorem alh:(aad (Zh n fs)).Perm ((aad (Zh n es)).map π):=by
 have nd:∀es:xLP,(aad (Zh n es)).Nodup:=fun es=>vg.filter _;have cb:∀v,v<n->aaA (Zh n fs) (π v)=aaA (Zh n es) v:=by grind[aaA.eq_1,agJ]
 have m1:=fun(es:xLP)(v:Nat)=>show v∈aad (Zh n es)↔v<n/\aaA (Zh n es) v=tT by rw[aad,iy,abV,Xq]
 refine agD (nd _) (alF (nd _) fun a ha b hb=>I.inj a b ((m1 _ _).1 ha).1 ((m1 _ _).1 hb).1) fun x=>?_;rw[m1,aev];constructor
 .rintro⟨c,h2⟩;obtain⟨a,ha,rfl⟩:=I.surj x c;exact hGr
 .rintro⟨a,ha,rfl⟩;have⟨c,h2⟩:=(m1 _ _).1 ha;exact(by grind[H9.lt])
theorem goS_iso{d:Nat×Nat}(v:Jp es d.1 d.2)(h2:((Zh n es).getD d.2 []).length=2):goS (Zh n fs) (π d.1,π d.2)=(π (goS (Zh n es) d).1,π (goS (Zh n es) d).2):=by
 have l1:=v.lt I.r1;have c:((Zh n fs).getD (π d.2) []).length=2:=by rw[agJ I hA hB l1.2];exact h2
 have⟨a,b,e,ne,k1,k2,f⟩:=abg I.r1 hA h2;have⟨a',l,e',ne',g,h,i⟩:=abg I.r2 hB c;have j:=(k1.lt I.r1).2;have k:=(k2.lt I.r1).2;have ia:=(I.Jp d.2 a l1.2 j).2 k1;have ib:=(I.Jp d.2 b l1.2 k).2 k2;have inj:=I.inj;have hd:=f d.1 v.symm;unfold goS;rw[e,e'];simp only[alv,alC];rcases hd with hd|hd
 .rw[WA (show((a:Int)=(d.1:Int)) by omega)];split<;>simp<;>grind
 .rw[IE (show¬((a:Int)=(d.1:Int)) by omega)];split<;>simp<;>grind
theorem oth_iso(b:n<=200){c v:Nat}(a:Jp es c v)(e:((Zh n es).getD c []).length≠2):aal (Zh n fs) (π c,π v)=(π (aal (Zh n es) (c,v)).1,(aal (Zh n es) (c,v)).2):=by
 have⟨K,j,h2,h3,f⟩:=ahL I.r1 hA b a e;have ha:=aa7 I.r1 hA (d:=(c,v)) a;have st:∀i,i<=K->it (goS (Zh n fs)) i (π c,π v)=(π (it (goS (Zh n es)) i (c,v)).1,π (it (goS (Zh n es)) i (c,v)).2):=by
  intro i
  induction i with
  |zero=>intro _;rfl
  |succ i g=>intro hi;show goS (Zh n fs) (it (goS (Zh n fs)) i (π c,π v))=_;rw[g NH];exact goS_iso I hA hB (ha i fun q k=>h2 q NH) (h2 i NH)
 have h:∀i,i<=K->(it (goS (Zh n es)) i (c,v)).2<n:=fun i hi=>((ha i hGr).lt I.r1).2;rw[f,aal,alE _ K 40001 _ _ NH (by grind[agJ]) (by rw[st K (qL0 _),agJ I hA hB hGr];exact h3),st K (qL0 _),BS]
omit I hA hB in
theorem afR(rows:AM)(cs:II):aaj rows cs=cs.flatMap fun c=>(agX rows c).map fun w=>(c,w):=by simp[aaj,agX,Function.comp_def]
omit I hA hB in
theorem akc{α β:Type}{f g:α->List β}{l:List α}(h:∀a∈l,(f a).Perm (g a)):(l.flatMap f).Perm (l.flatMap g):=by
 induction l with
 |nil=>exact .refl _
 |cons a l b=>exact(by grind[List.Perm.append])
def ali{cs a:II}(e:∀c∈cs,c<n)(f:a.Perm (cs.map π)):(aaj (Zh n fs) a).Perm ((aaj (Zh n es) cs).map fun d=>(π d.1,π d.2)):=by rw[afR,afR];refine(f.flatMap_right _).trans ?_;rw[qL230,qL231];refine akc fun c b=>?_;have:=(alg I hA hB (e c b)).map fun w=>(π c,w);rw[Vn]at this;rw[Vn];exact this
end
end Go.Fw
