/- A text. -/
import Derived.Test.YtkccdnmaaelbiaaGreatFwLJ18
set_option linter.all false
set_option maxRecDepth 99999
set_option maxHeartbeats 9999999
open Go.Proofs
namespace Go.Fw
section
attribute [local instance] Classical.propDecidable
attribute [local irreducible] Kp MQ lU rS KO KN KX KE VK Kl ZJ TC aab
variable {O i k m n:Nat} {bv:Value} {es:List Pr} {g h:aae} {l:II}
def box77(h:aae){n:Int}(hb:xO bv k):ag1 Tryz.prog 77 [(0,.int .i64 n),(1,bv),(2,.slice (some ⟨O,0,none⟩) m m)]=some (.agg #[.int .i64 n,bv,.slice (some ⟨O,0,none⟩) m m,rW,rW,rW])/\
  zF h (.agg #[.int .i64 n,bv,.slice (some ⟨O,0,none⟩) m m,rW,rW,rW])=some (.pointer (some ⟨h.next,0,none⟩),h.alloc (.cells [.int .i64 n,bv,.slice (some ⟨O,0,none⟩) m m,rW,rW,rW])):=by
 obtain⟨_,_,rfl,_⟩:=hb;exact⟨by kernel_rfl,by kernel_rfl⟩
theorem RO(hi:i<l.length):(ZH l).take (i+1)=(ZH l).take i++[GW l[i] (l.getD ((i+1)%l.length) 0)]:=by grind[ZH,List.take_succ_eq_append_getElem]
theorem F9(l:II):(ZH l).length=l.length:=by simp[ZH]
theorem ring_bd(R:Ho n es l)(hR:InR n es)(d:n<=200):∀p∈ZH l,∃a b:Nat,p=((a:Int),(b:Int))/\a<1000/\b<1000:=fun p c=>by obtain⟨a,b,rfl,e,h2⟩:=jB hR (R.ik hR c);grind
theorem ring_len(R:Ho n es l)(hR:InR n es):l.length<=n:=by have:=agO R.nd (B:=List.range n) fun v a=>j3.2 (R.lt hR a);grind
theorem rt_b(h:l.length<=n)(h2:(n:Int)<=200):((ZH l).take i).length+1<=100000:=by grind[F9]
theorem tk_b{a:List FM}(h:a.length<=m)(b:m<=594)(F:FM->wW):((a.take i).map F).length<=100000:=pw
def build125{a b c:Value}(ha:xO a n)(hb:xO b m)(d:xO c k):ag1 Tryz.prog 125 [(0,a),(1,b),(2,c)]=some (.agg #[a,b,c]):=by obtain⟨_,_,rfl,_⟩:=ha;obtain⟨_,_,rfl,_⟩:=hb;obtain⟨_,_,rfl,_⟩:=d;kernel_rfl
def le_rem(X:II)(l:Le g h)(a:∀b∈X,g.own b=none):Le g (rem X h):=l.iV a
theorem Si(J:LA)(ev:Value)(n:Nat)(es:List Pr)(h:aae)(hp:PR h ev es)(hc:okc 2 ev)(hr:bX ⟨(n:Int),es⟩)(T2:zW n es):
  AC Tryz.prog J 52 [.agg #[.int .i64 n,ev]] h fun x h'=>∃g' B O bv fv iv lv us ws cs,x=.pointer (some ⟨B,0,none⟩)/\Le h g'/\
   ShS g' h' B O n (Zh n es) bv fv iv lv us ws cs (RB n es).on (RB n es).Jv (RB n es).Jv (RB n es).left/\Ho n es (zl n es):=by
 have hR:=hr.GD;have hA:=hr.q9;have a6:(n:Int)<=200:=hr.n1;have cq:es.length<=594:=hr.len;obtain⟨p0,rest,aa⟩:=xD (T2.es_ne hR);obtain⟨a,b,rfl,fN,hb⟩:=jB hR (show p0∈es by grind);have ee:es.drop 1=rest:=by rw[aa];rfl
 have ef:bX ⟨(n:Int),rest⟩:=by grind[bX.tail]
 have ae:Pu rest b a:=T2.less hR NH hb NH fun x y eg fP=>by
  rcases eg with h|h
  .rw[aa]at h;rcases vZ.1 h with e|h
   .grind
   .exact .inl h
  .rw[aa]at h;rcases vZ.1 h with e|h
   .grind
   .exact .inr h
 have fQ:rest.length<=594:=pw;refine AC.vE ⟨Tryz.func52,rfl,WY⟩ Tryz.ntmps52 Tryz.results52 fun eh=>?_;simp only[Br,seval];obtain⟨h1,b1,cr,ei,-,A⟩:=r8 (n:=(n:Int)) eh hp
 generalize h.next=B1 at*
 have cx:=A h1 (Le.refl _);have aH:=hp.le cr;have cz:=aH.addr (k:=.i64) 0 pw;have ej:=aH.load (i:=0) (p:=((a:Int),(b:Int))) (by rw[aa];rfl);obtain⟨h2,h3,e2,e3,l3,w3,o3⟩:=Ut ei ((a:Int),(b:Int))
 generalize h1.next=E at*
 have fT:=A h3 l3;simp only[P2]at cz;refine Sk (amk b1 @Di @Ip.eq_1 @Gc cx.2.2 cz ej e2 e3) ?_;have ek:=aH.le l3;obtain⟨rv,K,G,-⟩:=ek.cut hc (i:=1) pw;rw[ee]at G;simp only[amr]at K;apply Ya (F:=fun(fr:aap)(h5:aae)=>∃(X:Nat)(cv:Value),Fj fr [(1,.pointer (some ⟨B1,0,none⟩)),(3,.pointer (some ⟨E,0,none⟩)),(4,.pointer (some ⟨X,0,none⟩))]/\Le h3 h5/\WF h5/\PR h5 cv rest/\∀g,Le h5 g->acd Tryz.prog g 24 ⟨X,0,none⟩=some (.agg #[.int .i64 n,cv]))
 .intro cont;refine gh (tA [0,1,2,3,4] (.ch 5 [4] (tA [6] (JQ 7 [] (JQ 8 [0,1,2,3,4,5,6,7] .done))) (JQ 7 [] (JQ 5 [4] (tA [6] (JQ 8 [0,1,2,3,4,5,6,7] .done)))))) ?_
  have en:∃g,h3.alloc (.cells [.int .i64 0,.slice none 0 0])=g/\Le h3 g/\WF g/\g.own h3.next=some (.cells [.int .i64 0,.slice none 0 0]):=Tt w3 _
  obtain⟨q1,y1,m1,v1,u1⟩:=en
  have aJ:agH Tryz.prog h3 24=some (.pointer (some ⟨h3.next,0,none⟩),q1):=by rw[Lo,y1]
  have Q1:=A q1 (l3.trans m1);simp only[qj,seval,Qg,Ii,Di,Ip,Gc,fT.2.1,fT.2.2,K,aJ,Q1.2.1,Q1.2.2];refine⟨?_,?_⟩
  .refine kGi Tryz.func72 (DA J rv rest h3 G NH) ?_;rintro cv h4 w4 ⟨gc,l4,-⟩;have A4:=A h4 (l3.trans l4);have ag:=Wj (n:=(n:Int)) gc.pr.sl;obtain⟨h5,C,a5,s5,l6,w6,lG⟩:=newG (n:=(n:Int)) w4 gc.pr;have A5:Le h4 h5:=by grind[Lo,Le.refl,Le.alloc]
   have A5:=A h5 ((l3.trans l4).trans A5);have A6:=A C ((l3.trans l4).trans l6);simp only[qj,seval,Qg,Ii,Di,Ip,Gc,A4.2.1,A4.2.2,K,ag,a5,s5,A5.2.1,A5.2.2,A6.2.1,A6.2.2];refine KN.UJ fun fr' h' x y=>cont fr' h' ?_;subst x y;exact⟨_,cv,hAs,l4.trans l6,w6,gc.pr.le l6,fun g l=>(lG g l).1⟩
  .refine kGi Tryz.func72 (DA J rv rest q1 (G.le m1) NH) ?_;rintro cv h4 w4 ⟨gc,l4,ac⟩;have A4:=A h4 ((l3.trans m1).trans l4);have ag:=Wj (n:=(n:Int)) gc.pr.sl
   have nX:blk cv≠some h3.next:=fun e=>by have:=ac _ e;rw[u1]at this;cases this
   have oX:=l4.own _ _ u1
   have n1:h3.own h3.next=none:=(Le.refl h3).next w3 (qL0 _)
   have one:=gc.pr.sl.one;have a7:UA Tryz.prog 24=2:=Ji;have eo:(Value.agg #[.int .i64 (n:Int),cv]).cells=#[.int .i64 (n:Int),cv]:=rfl;have ep:(Value.int IntKind.i64 (n:Int)).oneCell'=true:=rfl
   have st:acs Tryz.prog h4 24 (.pointer (some ⟨h3.next,0,none⟩)) (.agg #[.int .i64 (n:Int),cv])=some (h4.put h3.next (.cells [.int .i64 (n:Int),cv])):=by simp[acs,oX,eo,a7,putCells,yU,one,ep]
   have ho:(h4.put h3.next (.cells [.int .i64 (n:Int),cv])).own h3.next=some (.cells [.int .i64 (n:Int),cv]):=aae.Y3 _ _ _
   have l5:Le h3 (h4.put h3.next (.cells [.int .i64 (n:Int),cv])):=(m1.trans l4).put _ n1
   have A5:=A _ (l3.trans l5);simp only[qj,seval,Qg,Ii,Di,Ip,Gc,A4.2.1,A4.2.2,K,ag,st,A5.2.1,A5.2.2];refine KN.UJ fun fr' h' x y=>cont fr' h' ?_;subst x y
   exact⟨h3.next,cv,hAs,l5,w4.put _ (w4.lt oX),GP.pr (GS.put gc _ nX),fun g l=>by rw[Wx yU rfl a7 (l.own _ _ ho) Ma];rfl⟩
 rintro fr h5 ⟨X,cv,D,cC,w5,cE,lX⟩;simp only[Fj]at D;obtain⟨f1,f3,f4,-⟩:=D;have cM:=cC.own _ _ o3;refine Sk (Pj f1 f3 f4 (lX h5 (Le.refl _)) @Dh @Z0 @Ip.eq_1 @Gc (lK cM) (HY cM)) ?_;refine kCi Tryz.func90 (Path_fun J _ ⟨(n:Int),rest⟩ (a:Int) (b:Int) h5 ⟨cv,rfl,cE⟩) ?_;rintro x C w6 ⟨l6,lv,er,rfl,fJ,H⟩;simp only[af8]at H;obtain⟨k1,k2⟩:=H ef NH NH NH NH;obtain⟨gl,al,cN⟩:=k2 (k1.2 ae);obtain⟨et,Rg⟩:=ringM_ok hr aa cN ae;rw[et]at gl;have z:=(l3.trans cC).trans l6;have A6:=A C z;have bN:=aH.le z;have bQ:GR C (.agg #[.int .i64 (n:Int),ev]) ⟨(n:Int),es⟩:=⟨ev,rfl,bN⟩;generalize bT:zl n es=l at*;have I:=ring_len Rg hR;have eu:er=0:=k1.2 ae;subst eu;refine Sk f1 ?_;clear H k1 k2 lX cE;apply Ya (F:=fun(fr:aap)(h9:aae)=>∃(B O:Nat)(bv:Value)(M:aae),Fj fr [(1,.pointer (some ⟨B1,0,none⟩)),(5,lv),(7,.pointer (some ⟨B,0,none⟩))]/\WF h9/\h9.own B=some (.cells [.int .i64 (n:Int),bv,.slice (some ⟨O,0,none⟩) n n,rW,rW,rW])/\h9.own O=some (.cells (Bo (List.replicate n false)))/\B≠O/\Le C M/\M.own B=none/\M.own O=none/\Le M h9/\RL (RL RP) M bv (Zh n es))
 .intro cont;have bo:Bo (List.replicate n false)=List.replicate n (.bool false):=by simp[Bo]
  obtain⟨q1,y1,m1,v1,u1⟩:=Tt w6 (List.replicate n (.bool false));have aJ:=mk100 C n NH;rw[y1]at aJ;have Q1:=A q1 (z.trans m1);refine gh (tA [0,1,2,4,5] (.ch 3 [2] (JQ 6 [5] (tA [7] (JQ 8 [7] (tA [9] .done)))) (JQ 6 [5] (JQ 3 [2] (tA [7] (JQ 8 [7] (tA [9] .done))))))) ?_;simp only[qj,seval,Qg,f1,Ii,Ip,Gc,A6.1,A6.2.1,aJ,Q1.1,Q1.2.1];refine⟨?_,?_⟩
  .refine kGi zj (oe J _ n es C bQ hr) ?_;rintro bv h7 w7 ⟨r,l7⟩;have A7:=A h7 (z.trans l7);obtain⟨h8,y8,l8,w8,o8⟩:=Tt w7 (List.replicate n (.bool false));have cP:=mk100 h7 n NH;rw[y8]at cP;have A8:=A h8 ((z.trans l7).trans l8)
   obtain⟨bW,aj⟩:=box77 h8 (n:=(n:Int)) (O:=h7.next) (m:=n) r.sl
   obtain⟨h9,y9,l9,w9,o9⟩:=Tt w8 [.int .i64 (n:Int),bv,.slice (some ⟨h7.next,0,none⟩) n n,rW,rW,rW]
   rw[y9]at aj;have A9:=A h9 (((z.trans l7).trans l8).trans l9);simp only[qj,seval,Qg,f1,Ii,Ip,Gc,A7.1,A7.2.1,A8.1,A8.2.1,A9.1,A9.2.1,cP,bW,aj];refine KN.UJ fun fr' h' x y=>cont fr' h' ?_;rw[x,y]
   exact⟨h8.next,h7.next,bv,h7,(by simp only[Fj,HO,seval,f1];simp),w9,o9,by rw[bo];exact l9.own _ _ o8,fun e=>by have:=w8.lt o8;omega,l7,l8.next w8 (qL0 _),(Le.refl h7).next w7 (qL0 _),l8.trans l9,r⟩
  .have hk:Le C (q1.kill C.next):=m1.aii ((Le.refl C).next w6 (qL0 _))
   refine kGi zj (AC.frame u1 (oe J _ n es (q1.kill C.next) (bQ.le hk) hr)) ?_
   rintro bv h7 w7 ⟨g7,⟨r,l7⟩,cR,rfl⟩;have bY:=hk.trans l7;have aK:=Le.Y5 cR (.cells (List.replicate n (.bool false)))
   have o7:(g7.put C.next (.cells (List.replicate n (.bool false)))).own C.next=some (.cells (List.replicate n (.bool false))):=aae.Y3 _ _ _
   generalize g7.put C.next (.cells (List.replicate n (.bool false)))=h7 at*
   have A7:=A h7 ((z.trans bY).trans aK)
   obtain⟨bW,aj⟩:=box77 h7 (n:=(n:Int)) (O:=C.next) (m:=n) r.sl
   obtain⟨h9,y9,l9,w9,o9⟩:=Tt w7 [.int .i64 (n:Int),bv,.slice (some ⟨C.next,0,none⟩) n n,rW,rW,rW]
   rw[y9]at aj;have A9:=A h9 (((z.trans bY).trans aK).trans l9);simp only[qj,seval,Qg,f1,Ii,Ip,Gc,A7.1,A7.2.1,A9.1,A9.2.1,bW,aj];refine KN.UJ fun fr' h' x y=>cont fr' h' ?_;rw[x,y]
   exact⟨h7.next,C.next,bv,g7,(by simp only[Fj,HO,seval,f1];simp),w9,o9,by rw[bo];exact l9.own _ _ o7,fun e=>by have:=w7.lt o7;omega,bY,aK.next w7 (qL0 _),cR,aK.trans l9,r⟩
 rintro fr h9 ⟨B,O,bv,M,D,w9,oB,oO,ew,aq,gB,gO,cU,r⟩;simp only[Fj]at D;obtain⟨f1,f5,f7,-⟩:=D;have aP:=gl.le aq;have fU:=al;have lr:∀g,ahz Tryz.prog g 49 lv=some (.int .i64 (l.length:Nat)):=fun g=>by have:=gl.rl.DH g;grind[y6]
 have ey:=sB B 2 NH;simp only[HO,seval,f5,lr];refine aab.intro (fun k fr s=>∃(i:Nat)(wv:Value),k=l.length-i/\i<=l.length/\fr=mkF [(1,.pointer (some ⟨B1,0,none⟩)),(5,lv),(7,.pointer (some ⟨B,0,none⟩)),(8,wv),(45,lv),(46,.int .i64 (l.length:Nat)),(47,.int .i64 (i:Nat))]/\
   s.own B=some (.cells [.int .i64 (n:Int),bv,.slice (some ⟨O,0,none⟩) n n,rW,rW,rW])/\s.own O=some (.cells (Bo (tV (List.replicate n false) (l.take i))))/\Le M s/\GP s wv ((ZH l).take i)/\Z2 M wv/\blk wv≠some B/\blk wv≠some O)
  l.length [(1,.pointer (some ⟨B1,0,none⟩)),(5,lv),(7,.pointer (some ⟨B,0,none⟩)),(8,rW),(45,lv),(46,.int .i64 (l.length:Nat)),(47,.int .i64 (0:Nat))] (by simp only[Fj,HO,seval,f1,f5,f7];simp)
  ⟨0,_,rfl,WA _,rfl,oB,oO,cU,GP.nil _,fun b hb=>by grind[blk],by simp[blk],by simp[blk]⟩ ?_
 clear f1 f5 f7 oB oO cU w9;clear h9;rintro k fr s ar ⟨i,wv,rfl,hi,rfl,oB,oO,av,gw,bZ,b0,aT⟩;refine Uy ?_;refine Kl.intro (fun ht=>?_) (fun hf=>?_)
 .have d:i<l.length:=CC ht;clear ht;have eA:=aP.le av;have ad:∀q,q<l.length->abX Tryz.prog 49 lv (.int .i64 (q:Int))=some (.pointer (some (abv lv q))):=fun q T=>eA.rl.TA q (by rw[y6];exact T);have ld:∀g,Le M g->∀q (T:q<l.length),acd Tryz.prog g 3 (abv lv q)=some (.int .i64 ((l.getD q 0:Nat):Int)):=fun g lg q T=>by rw[(aP.le lg).rl.Uc q (by rw[y6];exact T),sY T,D4 T]
  have cW:(i+1)%l.length<l.length:=OM _ NH;have hv:l.getD i 0<n:=by rw[D4 d];exact Rg.lt hR (j9 d)
  have b2:l.take (i+1)=l.take i++[l[i]]:=EL d;have cZ:=RO d;have eB:l.getD i 0=l[i]:=D4 d;rw[<-eB]at cZ b2;have eC:abX Tryz.prog 59 (.slice (some ⟨O,0,none⟩) n n) (.int .i64 ((l.getD i 0:Nat):Int))=some (.pointer (some ⟨O,l.getD i 0,none⟩)):=by rw[Wc Uh AV Ji _ hv];simp[Ip]
  have ZA:(tV (List.replicate n false) (l.take i)).length=n:=by
   have:∀(w:II)(o:List Bool),(tV o w).length=o.length:=fun w=>by
    induction w with
    |nil=>intro o;rfl
    |cons x w ih=>intro o;show(tV (o.set x true) w).length=_;grind
   grind
  have eD:(tV (List.replicate n false) (l.take i)).set (l.getD i 0) true=tV (List.replicate n false) (l.take (i+1)):=by rw[b2];unfold tV;grind
  have st:acs Tryz.prog s 4 (.pointer (some ⟨O,l.getD i 0,none⟩)) (.bool true)=some (s.put O (.cells (Bo (tV (List.replicate n false) (l.take (i+1)))))):=by rw[QB (P:=Tryz.prog) (t:=4) (x:=.bool true) AV Ji oO (off:=l.getD i 0) (by rw[ahw,ZA];exact hv) rfl rfl,Tr,eD]
  have eE:acd Tryz.prog s 59 ⟨B,2,none⟩=some (.slice (some ⟨O,0,none⟩) n n):=by rw[Fq Uh rfl oB];rfl
  have w8:WF (s.put O (.cells (Bo (tV (List.replicate n false) (l.take (i+1)))))):=ar.put _ (ar.lt oO);have eF:(s.put O (.cells (Bo (tV (List.replicate n false) (l.take (i+1)))))).own O=some (.cells (Bo (tV (List.replicate n false) (l.take (i+1))))):=aae.Y3 _ _ _;have eG:(s.put O (.cells (Bo (tV (List.replicate n false) (l.take (i+1)))))).own B=some (.cells [.int .i64 (n:Int),bv,.slice (some ⟨O,0,none⟩) n n,rW,rW,rW]):=by grind[aae.By]
  have c0:Le M (s.put O (.cells (Bo (tV (List.replicate n false) (l.take (i+1)))))):=av.put _ gO;have eH:GP (s.put O (.cells (Bo (tV (List.replicate n false) (l.take (i+1)))))) wv ((ZH l).take i):=GS.put gw _ aT;generalize s.put O (.cells (Bo (tV (List.replicate n false) (l.take (i+1)))))=h8 at*;have aw:=Tw i (Lb d (Tn I NH));have nz:=nz_len d;have eI:=Wt d;have eL:=Y7 (a:=i+1) (FI d) (Tn I NH);simp only[HO,seval,ad i d,ld s av i d,ey,eE,eC,st,lr,aw,nz,eI,eL,ad _ cW,ld h8 c0 _ cW];refine kCi Tryz.func91 (pair_any J (l.getD i 0) (l.getD ((i+1)%l.length) 0) h8) ?_;rintro x h9 w9 ⟨rfl,aV⟩;obtain⟨eM,fV,fW,eO,eP,c3,fY,ga,c4,a8⟩:=(eH.le aV).push w9 (GW (l.getD i 0) (l.getD ((i+1)%l.length) 0)) (rt_b I a6);obtain⟨c5,eQ⟩:=c4 M (c0.trans aV) bZ;obtain⟨c6,c9⟩:=a8 B _ (aV.own _ _ eG) b0;obtain⟨da,db⟩:=a8 O _ (aV.own _ _ eF) aT;rw[<-cZ]at c3;simp only[HO,seval,eO,eP,aw];exact lgA (JS d) ⟨i+1,eM,rfl,d,rfl,c6,da,c5,c3,eQ,c9,db⟩
 have aW:l.length<=i:=vp hf;rw[HV aW]at oO;rw[HV (by grind[F9])]at gw;clear aW hf hi;refine Uy ?_;have b3:l.length<=100000:=Tn I NH;refine kCi Tryz.func69 (CH J gw (by rw[F9];exact b3) (ring_bd Rg hR NH)) ?_;rintro x aX eS ⟨rfl,gs,N⟩;have kw:∀b o,s.own b=some o->blk wv≠some b->aX.own b=some o:=fun b o ho hb=>(N (rem (bl wv) s) (Sa _ _) fun c hc=>by grind[DC,Zr]).own _ _ (Th.2 ⟨ho,fun m=>hb (Zr.1 m)⟩);have ba:=kw B _ oB b0;have bb:=kw O _ oO aT;have ay:=N M av bZ;refine Uy ?_;refine kCi qS28 (QY J lv (aaa l) aX (aP.le ay).rl (by rw[y6];exact b3)) ?_;rintro b4 dc eT ⟨dd,de,b5⟩;refine Uy ?_;refine kCi qS29 (Wk J b4 (aaa l) dc dd (by rw[y6];exact b3)) ?_;rintro x U gf ⟨b6,df,eU⟩;have az:=df aX de b5;have eV:(aaa l).reverse=aaa l.reverse:=by simp[aaa]
 rw[eV]at b6;have bg:=az.own _ _ ba;have bh:=az.own _ _ bb;have bj:=ay.trans az;have hX:∀b∈[B,O],M.own b=none:=fun b hb=>by grind
 have V:Le M (rem [B,O] U):=le_rem _ bj hX;have dj:∀b,blk b4=some b->b∉[B,O]:=fun b hb m=>by have:=b5 b hb;grind
 have dk:∀b,blk wv=some b->b∉[B,O]:=fun b hb m=>by grind
 have bk:GI (rem [B,O] U) b4 (aaa l.reverse):=GS.Fi b6 dj;have bm:GP (rem [B,O] U) wv (aej (ZH l)):=GS.Fi (GP.le gs az) dk;have br:=aP.le V;have ZA:(tV (List.replicate n false) l).length=n:=by
  have:∀(w:II)(o:List Bool),(tV o w).length=o.length:=fun w=>by
   induction w with
   |nil=>intro o;rfl
   |cons x w ih=>grind[tV,List.length_set]
  grind
 have S0:ShS (rem [B,O] U) U B O n (Zh n es) bv rW rW rW [] [] [] (tV (List.replicate n false) l) [] [] []:={
  f:=⟨bg⟩
  oO:=bh
  ZA:=ZA
  gF:=GS.nil _ _
  uL:=rfl
  u1:=rfl
  gI:=GS.nil _ _
  wL:=rfl
  w1:=rfl
  gL:=GS.nil _ _
  cuL:=.inl rfl
  c1:=rfl
  sep:=⟨fun i j u w b gg hu hw hb=>by
    have:u=rW:=by have:=BS hu;grind
    grind[blk],fun i u b hu hb=>by
    grind[blk],fun i u hu b hb=>by grind[blk],Sa _ _⟩
  gB:=by grind[DC]
  gO:=by grind[DC]
  bO:=ew
  nb:=fun u hu=>by grind[blk]
  cF:=fun i u f hu=>by simp at hu
  cI:=fun i u f hu=>by simp at hu
  cL:=fun i p hp=>by simp at hp
  cB:=r.le (Nn.RL Nn.RP) V}
 generalize rem [B,O] U=dm at*;have dp:Le h dm:=((cr.trans z).trans aq).trans V;have gA:=A dm ((z.trans aq).trans V);clear oB oO av gw bZ b0 aT gs N kw dd de b5 b6 df eU bg bh ba bb az bj ay dj dk hX eS eT ar;clear aX dc s;refine Uy ?_;have dq:∀x∈l,x<n:=fun x hx=>Rg.lt hR hx;refine kCi Tryz.func95 (IU J S0 br.rl dq NH (Tn I NH) Ma) ?_;rintro x gi gj ⟨gk,gn,gq,gu,gv,S1,dv⟩;refine Uy ?_;refine kCi Tryz.func95 (IU J S1 ((bk.le dv).rl) (f:=l.reverse) (fun x hx=>dq x (uu.1 hx)) NH (by rw[oZ];exact Tn I NH) Ma) ?_;rintro x eW gx ⟨gz,aB,aC,eX,eZ,S2,e0⟩;have R:=dv.trans e0;simp only[Ah,qL211]at S2;have dw:=A eW ((((z.trans aq).trans V).trans R).trans S2.le);have bx:=bm.le R;have bB:=(bN.le (aq.trans V)).le R;obtain⟨e1,b8⟩:=S2.pV;refine Sk dw.1 ?_;refine kCi Tryz.func96 (S2.side (iN J _ wv ⟨(n:Int),es⟩ (aej (ZH l)) _ ⟨ev,rfl,bB.le b8⟩ (bx.le b8).pr (by rw[ZS,F9];exact Tn I NH))) ?_;rintro x e4 e5 ⟨b9,⟨e6,e2,rfl,D⟩,S3,cc,dz,e7⟩;have dA:=Rg.web hR;simp only[af8]at D;rcases D with⟨q,-⟩|⟨-,q,-⟩|⟨-,-,rfl,L,hT,a1⟩
 .exact absurd hr q
 .exact absurd dA q
 rw[frag_tog hR hA.nodup hT (uY (n:=n) (on:=Qw n (aej (ZH l))) (es:=es))]at a1;have I0:=Rg.start hR hA (L:=MF n (Qw n (aej (ZH l))) es) uY;have dB:RB n es=Mw n es l (MF n (Qw n (aej (ZH l))) es):=by unfold RB;rw[bT]
 rw[dB];have dE:=I0.Vw;have bF:(Mw n es l (MF n (Qw n (aej (ZH l))) es)).on=tV (List.replicate n false) l:=rfl;have bH:(Mw n es l (MF n (Qw n (aej (ZH l))) es)).Jv=[l,l.reverse]:=rfl;have aD:(Mw n es l (MF n (Qw n (aej (ZH l))) es)).left=(LJ n es (aej (ZH l)) (MF n (Qw n (aej (ZH l))) es)).map fun f=>⟨f.zp,f.Fm,zh [l,l.reverse] f.Fm [0,1]⟩:=rfl;have cd:∀f∈LJ n es (aej (ZH l)) (MF n (Qw n (aej (ZH l))) es),(∀x∈f.Fm,∃v:Nat,x=(v:Int)/\v<n)/\f.Fm.length<=n:=fun f hf=>by have hm:(⟨f.zp,f.Fm,zh [l,l.reverse] f.Fm [0,1]⟩:wW)∈(Mw n es l (MF n (Qw n (aej (ZH l))) es)).left:=pw;exact⟨I0.fS hR hm,I0.UO hR hm⟩
 rw[aD,vY]at dE;rw[bF,bH,aD];generalize LJ n es (aej (ZH l)) (MF n (Qw n (aej (ZH l))) es)=N at*;have e8:=a1.len;have dF:=sB B 5 NH;have fL:Le h b9:=(dp.trans R).trans (b8.trans dz);clear bF bH aD dB I0 hT S2 e1 S1 S0 A A6 dw fT cx bx bB gA bm bk bN bQ br;refine Sk e8 ?_;refine lIn (fun k fr s=>∃(i:Nat)(g:aae)(cs:List Value)(W:Value),k=N.length-i/\i<=N.length/\fr=mkF [(7,.pointer (some ⟨B,0,none⟩)),(90,e6),(91,.int .i64 (N.length:Nat)),(92,.int .i64 (i:Nat))]/\
   ShS g s B O n (Zh n es) bv aB aC W eX eZ cs (tV (List.replicate n false) l) [l,l.reverse] [l,l.reverse] ((N.take i).map fun f=>⟨f.zp,f.Fm,zh [l,l.reverse] f.Fm [0,1]⟩)/\Le b9 g) ⟨0,b9,[],rW,rfl,WA _,rfl,S3,Le.refl _⟩ ?_
 clear S3 e5 cc e7;clear e4;rintro k fr s ar ⟨i,g,cs,W,rfl,hi,rfl,S,lg⟩;refine Uy ?_;refine Kl.intro (fun ht=>?_) (fun hf=>?_)
 .have d:i<N.length:=CC ht;clear ht;have e9:=yY d;obtain⟨a',b',cf,ra,rb⟩:=a1.load e9;have fb:=a1.addr (k:=.i64) i d;obtain⟨fc,dG⟩:=cd _ (j9 d);have b2:N.take (i+1)=N.take i++[N[i]]:=EL d;generalize N[i]=f at*;have cf:=cf s (lg.trans S.le);have ra:=ra.le lg;have rb:=rb.le Nn.RP lg;obtain⟨gC,cg,fe,fg,fh,fi,nQ,oQ⟩:=new41' ar ra.sl rb.sl
  have dQ:s.next∉B::O::(bl aB++bl aC++bl W):=fun m=>(S.own (HX.1 m)).2 nQ
  have dH:=S.up fh
  generalize s.next=Q at*
  obtain⟨dI,fm,ck,gD,fp⟩:=Tt fi [.int .i64 0,.int .i64 1];have mk:=mk2 cg 0 1;rw[fm]at mk;have aE:=dH.up ck
  have fq:RL RP dI (.slice (some ⟨cg.next,0,none⟩) 2 2) (aaa [0,1]):=RL.Wh (RS.whole fp rfl)
  have dK:=ld41 (ck.own _ _ oQ);have dL:=ld41 oQ;have dM:=aE.f;have aw:=Tw i (Lb d (QJ NH));refine Sk (xU fb cf fe fg) ?_;refine gh (tA [0,1,2,3,4,5,6,7,8,9,10,11] (JQ 12 [] (JQ 13 [9,11,12] (tA [14] (JQ 15 [14] (JQ 16 [4,13,15] (tA [17,18] (JQ 19 [0,1,2,3,4,5,6,7,8,9,10,11,12,13,14,15,16,18] .done)))))))) ?_;simp only[HO,seval,Qg,dF,ff0,ff1,Ip,Gc,dH.f.l5,dM.l5,dL.2.1,dL.2.2,dK.2.1,dK.2.2,mk]
  refine kGi qS30 (NR J B n bv _ aB aC W b' (.slice (some ⟨cg.next,0,none⟩) 2 2) [l,l.reverse] f.Fm [0,1] dI dM aE.rlI ((rb.le Nn.RP aE.le)) fq fc Ma (sr dG a6) Ma) ?_
  rintro y cm ft ⟨dO,dS,fu⟩;have bI:=dS.own _ _ (ck.own _ _ oQ);have dT:=ld41 bI;have fx:(Hg cm B O aB aC W).own Q=some (.cells [a',b']):=by grind[Hg,DC]
  obtain⟨cp,aF⟩:=(aE.up dS).pV;have gy:GI (Hg cm B O aB aC W) y (aaa (zh [l,l.reverse] f.Fm [0,1])):=Pv (h:=cm) aE dO fu;obtain⟨fy,gE,gJ,gM,fz,fB,fC,gP,gR,dV,fD,dZ⟩:=cp.pushL ft (a:=a') (b:=b') (c:=y) (p:=⟨f.zp,f.Fm,zh [l,l.reverse] f.Fm [0,1]⟩) (ra.le aF) (rb.le Nn.RP aF) gy.rl (tk_b dE cq _);have ec:=ld41 (dV.own _ _ bI);have ed:=ld41 (dZ.own _ _ fx);have fE:=cp.f.le dV;have ag:=build125 ra.sl rb.sl dO.rl.sl;simp only[HO,seval,Qg,dF,ff0,ff1,Ip,Gc,cp.f.l5,fE.l5,fD.l5,dT.2.1,dT.2.2,ec.2.1,ec.2.2,ed.2.1,ed.2.2,ag,fz,fB,fC,aw];refine lgA (JS d) ⟨i+1,_,cs++[a',b',y],fy,rfl,d,rfl,?_,lg.trans aF⟩;grind
 have aW:N.length<=i:=vp hf;rw[HV aW]at S;refine Uy ?_;grind[Le.trans]
variable {B:Nat} {F:Cs} {G:GM} {S:kR} {cs us ws:List Value} {fv iv lv v:Value} {left:List wW} {r:Nat->II} {rows:AM}
theorem Nb(d:LA)(v:Value)(n:Nat)(es:List Pr)(h:aae)(hg:GR h v ⟨(n:Int),es⟩)(e:bX ⟨(n:Int),es⟩):
  AC Tryz.prog d 51 [v] h fun x h'=>afK (zW n es) x/\Le h h':=by
 have c:=hg
 obtain⟨ev,rfl,u⟩:=hg.open
 refine AC.vE ⟨Tryz.func51,rfl,WY⟩ Tryz.ntmps51 Tryz.results51 fun i=>?_;simp only[Br,seval];obtain⟨o,p,a,w,-,q⟩:=r8 (n:=(n:Int)) i u
 generalize h.next=B at*
 have b:=q o (Le.refl _);by_cases r:(n:Int)<3
 .have j:decide ((n:Int)<3)=true:=XJ r;refine Sk (bG p @Ii @Ip.eq_1 @Gc b.2.1 j) ?_;exact⟨afK.f fun T=>by have:=T.n3;omega,a⟩
 have j:decide ((n:Int)<3)=false:=Sb r;have h3:3<=n:=NH;refine Sk (rE p @Ii @Ip.eq_1 @Gc b.2.1 b.1 j) ?_;refine kCi Tryz.func64 (It d _ ⟨(n:Int),es⟩ o (c.le a) e) ?_;rintro pv s D ⟨gp,l4,-⟩;simp only[af8]at gp;have y:=gp.rl (Nn.RL Nn.RP);have k:=fun g=>y.qP5 g;have l:((Gx n es n).map aaa).length=(Es n es).length:=by simp[Gx]
 rw[l]at k;have m:=q s l4;by_cases c1:((Es n es).length:Int)=1
 rotate_left
 .have d1:decide (((Es n es).length:Int)=1)=false:=Sb c1;refine Sk (Yb k @bne.eq_1.{0} d1) ?_
  grind[afK.f,zW.one,Le.trans]
 have d1:decide (((Es n es).length:Int)=1)=true:=XJ c1;have z:(Es n es).length=1:=NH;refine Sk (xU k @bne.eq_1.{0} d1 m.1) ?_
 refine kCi Tryz.func46 (Cw d _ ⟨(n:Int),es⟩ s (c.le (a.trans l4))) ?_;rintro x E F ⟨l5,⟨A,_⟩|⟨_,G,rfl,t⟩⟩
 .exact absurd e A
 simp only[af8]at t;have C:=fun g=>t.len (P:=Tryz.prog) qS41 g;have H:=Uv e h3 z;refine Sk C ?_;refine⟨⟨_,rfl,?_⟩,(a.trans l4).trans l5⟩;grind
noncomputable def embX(n:Nat)(es:List Pr):Option AM:=if 3*n<es.length+6 then none else embM n es
theorem left_nil{H:Nat->Nat->Prop}(hR:InR n es)(hA:D3 es)(D:QG (eN n es))(I:Z8 n es H S)(h:OW es H=0):S.left=[]:=by
 rcases run_ok hR hA D 0 H S I NH with⟨a,-⟩|⟨b,c,a,-,h3⟩
 all_goals grind[runM]
theorem run_nil(h:S.left=[]):∀k,runM n rows k S=some S
 |0=>rfl
 |k+1=>by grind[runM.eq_2]
theorem ShS.rlF{on:List Bool}{b d:Cs}(S:ShS g h B O n rows bv fv iv lv us ws cs on b d left):RL (RL RP) h fv (b.map aaa):=
 ⟨us,(GS.cs S.gF).rs,by grind[ShS.uL],fun i x u a e=>by
  rw[F3]at a;cases c:b[i]? with
  |none=>grind
  |some f=>rw[c]at a;simp at a;subst a;exact(S.cF i u f e c).le Nn.RP S.le⟩
theorem face_bd(G:vy n r F):∀f∈F,(∀x∈f,x<n)/\f.length<=n:=fun f hf=>by have a:∀x∈f,x<n:=fun x b=>G.Rl.lt _ _ (G.O.ah5 G.Rl hf b);refine⟨a,?_⟩;have:=agO (G.O.nd f hf) (B:=List.range n) fun v c=>j3.2 (a v c);grind
theorem row_pos(a:zW n es)(hR:InR n es){v:Nat}(b:v<n):0<((Zh n es).getD v []).length:=by obtain⟨w,hw⟩:=a.ne hR b;obtain⟨u,c,e⟩:=xD ((aU hR).2 ⟨w,hw⟩);grind[qG,Av.back]
theorem row_le{v:Nat}(b:v<n):((Zh n es).getD v []).length<=2*es.length:=by
 have a:v<(Zh n es).length:=by grind[Xq]
 rw[D4 a];exact bV n es _ (j9 a)
def GRc(h:aae)(v:Value)(G:GM):Prop:=∃ev,v=.agg #[.int .i64 G.n,ev]/\PR h ev G.es/\okc 2 ev
def GRc.gr(g:GRc h v G):GR h v G:=by obtain⟨ev,a,h2,-⟩:=g;exact⟨ev,a,h2⟩
theorem GRc.le{h h':aae}{v:Value}{G:GM}(g:GRc h v G)(l:Le h h'):GRc h' v G:=by obtain⟨ev,a,h2,h3⟩:=g;exact⟨ev,a,h2.le l,h3⟩
def aiI(G:GM)(h':aae)(a:Value)(e:Int):Prop:=
 (¬bX G/\e=20/\a=rW)\/(bX G/\¬zW G.n.toNat G.es/\e=60/\a=rW)\/
 (bX G/\zW G.n.toNat G.es/\embX G.n.toNat G.es=none/\¬XU G.n.toNat (eN G.n.toNat G.es)/\e=90/\a=rW)\/
 (bX G/\zW G.n.toNat G.es/\∃rs,embX G.n.toNat G.es=some rs/\Av G.n.toNat G.es rs/\Flat G.n.toNat (Xl rs)/\e=0/\RL (RL RP) h' a rs)
theorem Im(t:LA)(v:Value)(G:GM)(h:aae)(hg:GRc h v G):
  AC Tryz.prog t 19 [v] h fun x h'=>Le h h'/\∃rv e,x=.tuple #[rv,.int .i64 e]/\aiI G h' rv e:=by
 have z:=hg.gr;obtain⟨ev,rfl,N,hc⟩:=hg;obtain⟨gn,es⟩:=G;simp only at N;refine AC.vE ⟨yo,rfl,WY⟩ Tryz.ntmps19 Tryz.results19 fun Q=>?_;simp only[Br,seval];obtain⟨h1,b1,p,aB,-,R⟩:=r8 (n:=gn) Q N
 generalize h.next=B1 at*
 have T:=R h1 (Le.refl _);refine Sk (XC b1 T.1) ?_;refine kCi zL (ak t _ _ h1 (z.le p)) ?_;rintro x h2 aC ⟨⟨U,rfl,i⟩,m⟩;cases U with
 |false=>refine Uy ?_;exact⟨p.trans m,_,_,rfl,.inl ⟨(fun d=>by grind),rfl,rfl⟩⟩
 |true=>
 have d:=i.1 rfl;clear i;have h0:0<=gn:=d.n0;obtain⟨n,rfl⟩:=Z6 h0;have ay:(n:Int)<=200:=d.n1;have az:es.length<=594:=d.len;have hR:=d.GD;have hA:D3 es:=d.q9;have a:=p.trans m;refine Sk ((R h2 m).1) ?_;refine kCi Tryz.func51 (Nb t _ n es h2 (z.le a) d) ?_;rintro x h3 aD ⟨⟨U,rfl,i⟩,j⟩;have fT:=R h3 (m.trans j);cases U with
 |false=>refine Uy ?_;exact⟨a.trans j,_,_,rfl,.inr (.inl ⟨d,(fun q=>by cases i.2 q),rfl,rfl⟩)⟩
 |true=>
 have l:=i.1 rfl;clear i;have aE:=l.n3;have lP:=fun g=>N.len g;have A:adA .i64 (3*(n:Int))=3*(n:Int):=ie _ NH NH;have C:adA .i64 (3*(n:Int)-6)=3*(n:Int)-6:=ie _ NH NH;by_cases c1:3*n<es.length+6
 .have d1:decide ((es.length:Int)>3*(n:Int)-6)=true:=XJ NH;simp only[HO,seval,Ii,Di,Ip,Gc,fT.2.1,fT.2.2,lP,A,C,d1];exact⟨a.trans j,_,_,rfl,.inr (.inr (.inl ⟨d,l,AE c1,many_no d l c1,rfl,rfl⟩))⟩
 have d1:decide ((es.length:Int)>3*(n:Int)-6)=false:=Sb NH;simp only[HO,seval,Ii,Di,Ip,Gc,fT.2.1,fT.2.2,fT.1,lP,A,C,d1];refine kCi Tryz.func52 (Si t ev n es h3 (N.le (a.trans j)) hc d l) ?_;rintro x h4 w4 ⟨g4,B,O,bv,u,w,y,us,ws,cs,rfl,V,S4,Rg⟩;have I0:=Rg.start hR hA (L:=MF n (Qw n (aej (ZH (zl n es)))) es) uY;have hX:embX n es=(runM n (Zh n es) es.length (RB n es)).map fun S=>xY n (Zh n es) S.Jv:=aal c1;have D:=l.Z7 hR;have E:OW es (Ei (zl n es))<=es.length:=ajF _ _;have F:=(a.trans j).trans V;refine Uy ?_;refine lIn (fun k fr W=>∃(S:kR)(H:Nat->Nat->Prop)(g:aae)(u w y:Value)(us ws cs:List Value),fr=mkF [(4,.pointer (some ⟨B,0,none⟩))]/\Z8 n es H S/\runM n (Zh n es) es.length (RB n es)=runM n (Zh n es) k S/\OW es H<=k/\
   ShS g W B O n (Zh n es) bv u w y us ws cs S.on S.Jv S.Jv S.left/\Le g4 g) ⟨RB n es,_,g4,u,w,y,us,ws,cs,rfl,I0,rfl,E,S4,Le.refl _⟩ ?_
 clear S4 I0 E w4;clear h4 u w y us ws cs;rintro k fr W aF ⟨S,H,g,u,w,y,us,ws,cs,rfl,I,b,hu,o,X⟩;have J:=sB B 5 NH;have lL:=o.lenL;by_cases c:S.left=[]
 .have dL:decide ((S.left.length:Int)>0)=false:=by rw[c];rfl
  refine Sk (xU J o.f.l5 lL dL) ?_;rw[run_nil c]at b;obtain⟨r,Gd,fl,hm⟩:=I.done c;obtain⟨k1,k2⟩:=circ_ok d l Gd fl hm;have K:=face_bd Gd;have aH:=I.My;refine kCi Tryz.func54 (pY t B n bv _ u w y (Zh n es) S.Jv W o.f (o.cB.le (Nn.RL Nn.RP) o.le) o.rlF (Xq n es) (fun v hv=>⟨row_pos l hR hv,by have:=row_le (es:=es) hv;omega⟩) (fun f hf=>⟨(K f hf).1,by have:=(K f hf).2;omega⟩) NH NH NH (circ_hit d l Gd hm)) ?_;rintro x h9 w9 ⟨hx,l9⟩;refine Uy ?_;refine⟨((F.trans X).trans o.le).trans l9,x,_,rfl,.inr (.inr (.inr ⟨d,l,_,?_,k1,k2,rfl,hx⟩))⟩;grind
 .have dL:decide ((S.left.length:Int)>0)=true:=by grind[List.length_pos_iff]
  obtain⟨k',rfl⟩:∃k',k=k'+1:=by
   cases k<;>grind[left_nil]
  refine Sk (xU J o.f.l5 lL dL) ?_;refine kCi Tryz.func53 (lay_any t o d D I c) ?_;rintro x h9 w9 ⟨g9,M,l9,s⟩;rw[runM,aal c]at b;rcases s with⟨q1,rfl⟩|⟨S',aa,ae,ag,aj,al,aq,q1,rfl,ar⟩
  .rw[q1]at b;refine Uy ?_;have av:¬XU n (eN n es):=by grind[Z8.lay]
   refine⟨((F.trans X).trans M).trans l9,_,_,rfl,.inr (.inr (.inl ⟨d,l,?_,av,rfl,rfl⟩))⟩;grind
  .rw[q1]at b;refine Uy ?_;obtain⟨P,I',aJ⟩:∃P,Z8 n es P S'/\OW es P<OW es H:=by grind[Z8.lay]
   exact lgA (FD _) ⟨S',P,g9,aa,ae,ag,aj,al,aq,rfl,I',b,NH,ar,X.trans M⟩
end
section
attribute [local irreducible] Jz JL vq cQ
def okB(n:Int)(es:List Pr)(i:Nat):Bool:=match es[i]? with
 |some p=>decide (0<=p.1)&&decide (p.1<p.2)&&decide (p.2<n)&&(i==0||match es[i-1]? with|some q=>decide (Nz q p<0)|none=>true)
 |none=>true
theorem V5{n:Int}{es:List Pr}(a:0<=n)(b:n<=200)(c:es.length<=594)(hd:(List.range es.length).all (okB n es)=true):bX ⟨n,es⟩:=by refine⟨a,b,c,fun i hi p d=>?_⟩;have:=DF.1 hd i (j3.2 hi);grind[okB]
attribute [local instance] Classical.propDecidable in
theorem ajt{n:Nat}{es:List Pr}{rs:AM}(a:bX ⟨(n:Int),es⟩)(G:Av n es rs)(b:0<n)(c:∀v,v<n->Pu es 0 v)(hf:n+(IN n rs).length=es.length+2):XU n (eN n es):=Vg a.GD a.q9 G ((En a.GD a.q9 G).1 ((vS a.GD a.q9 G b c).2 fun _=>hf))
attribute [local instance] Classical.propDecidable in
theorem aj9{n:Nat}{es:List Pr}(b:bX ⟨(n:Int),es⟩)(h3:3<=n)(a:es≠[])(c:∀v,v<n->Pu es 0 v)(hb:(vq n es).length=1):zW n es:=(Uv b h3 (aly b.GD NH a c).2).1 hb
attribute [local instance] Classical.propDecidable in
theorem alI{n:Nat}{es:List Pr}(b:bX ⟨(n:Int),es⟩)(h3:3<=n)(a:es≠[])(c:∀v,v<n->Pu es 0 v)(hb:JL n es≠[]):¬zW n es:=fun T=>hb ((ajr b h3 (aly b.GD NH a c).2).2 T)
def c4E:List Pr:=[(0,1),(0,3),(1,2),(2,3)]
def m5E:List Pr:=[(0,2),(0,3),(0,4),(1,2),(1,3),(1,4),(2,3),(2,4),(3,4)]
def k5L:List Pr:=(0,1)::m5E
def E9:List Pr:=[(0,3),(0,4),(0,5),(1,3),(1,4),(1,5),(2,3),(2,4),(2,5)]
def p3E:List Pr:=[(0,1),(1,2)]
def akL:List Pr:=[(0,1),(0,2),(1,2),(2,3),(2,4),(3,4)]
def c4R:bX ⟨((4:Nat):Int),c4E⟩:=V5 WY WY WY iw
def m5R:bX ⟨((5:Nat):Int),m5E⟩:=V5 WY WY WY iw
def k5R:bX ⟨((5:Nat):Int),k5L⟩:=V5 WY WY WY iw
def k33R:bX ⟨((6:Nat):Int),E9⟩:=V5 WY WY WY iw
def p3R:bX ⟨((3:Nat):Int),p3E⟩:=V5 WY WY WY iw
def bowR:bX ⟨((5:Nat):Int),akL⟩:=V5 WY WY WY iw
theorem c4con:∀v,v<4->Pu c4E 0 v:=fun v a=>by
 have c1:Pu c4E 0 1:=abp (.inl WY)
 match v,a with
 |0,_=>grind[Pu.refl]
 |1,_=>exact c1
 |2,_=>exact tM c1 (.inl WY)
 |3,_=>exact abp (.inl WY)
theorem m5con:∀v,v<5->Pu m5E 0 v:=fun v a=>by
 have c2:Pu m5E 0 2:=abp (.inl WY)
 match v,a with
 |0,_=>grind[Pu.refl]
 |1,_=>exact tM c2 (.inr WY)
 |2,_=>exact c2
 |3,_=>exact abp (.inl WY)
 |4,_=>exact abp (.inl WY)
theorem k5con:∀v,v<5->Pu k5L 0 v:=fun v a=>by
 match v,a with
 |0,_=>grind[Pu.refl]
 |1,_=>exact abp (.inl WY)
 |2,_=>exact abp (.inl WY)
 |3,_=>exact abp (.inl WY)
 |4,_=>exact abp (.inl WY)
theorem k33con:∀v,v<6->Pu E9 0 v:=fun v b=>by
 have a:Pu E9 0 3:=abp (.inl WY)
 match v,b with
 |0,_=>grind[Pu.refl]
 |1,_=>exact tM a (.inr WY)
 |2,_=>exact tM a (.inr WY)
 |3,_=>exact a
 |4,_=>exact abp (.inl WY)
 |5,_=>exact abp (.inl WY)
theorem p3con:∀v,v<3->Pu p3E 0 v:=fun v a=>by
 have c1:Pu p3E 0 1:=abp (.inl WY)
 match v,a with
 |0,_=>grind[Pu.refl]
 |1,_=>exact c1
 |2,_=>exact tM c1 (.inl WY)
theorem bowcon:∀v,v<5->Pu akL 0 v:=fun v a=>by
 have c2:Pu akL 0 2:=abp (.inl WY)
 match v,a with
 |0,_=>grind[Pu.refl]
 |1,_=>exact abp (.inl WY)
 |2,_=>exact c2
 |3,_=>exact tM c2 (.inl WY)
 |4,_=>exact tM c2 (.inl WY)
def c4T:zW 4 c4E:=aj9 c4R WY WY c4con iw
def m5T:zW 5 m5E:=aj9 m5R WY WY m5con iw
def k5T:zW 5 k5L:=aj9 k5R WY WY k5con iw
def k33T:zW 6 E9:=aj9 k33R WY WY k33con iw
def p3T:¬zW 3 p3E:=alI p3R WY WY p3con iw
def bowT:¬zW 5 akL:=alI bowR WY WY bowcon iw
def c4Ro:AM:=[[1,3],[0,2],[1,3],[0,2]]
def m5Ro:AM:=[[2,3,4],[4,3,2],[0,4,1,3],[0,2,1,4],[0,3,1,2]]
def c4G:Av 4 c4E c4Ro:=N9 rfl iw
def m5G:Av 5 m5E m5Ro:=N9 rfl iw
theorem c4F:(IN 4 c4Ro).length=2:=by rw[X9 c4R c4G (hs:=[((0,1),4),((0,3),4)]) iw];grind
theorem m5F:(IN 5 m5Ro).length=6:=by rw[X9 m5R m5G (hs:=[((0,2),3),((0,3),3),((0,4),3),((1,2),3),((1,3),3),((1,4),3)]) iw];grind
def c4P:XU 4 (eN 4 c4E):=ajt c4R c4G WY c4con (by rw[c4F];decide)
def m5P:XU 5 (eN 5 m5E):=ajt m5R m5G WY m5con (by rw[m5F];decide)
theorem Jy{n:Nat}{es:List Pr}{E:Nat->II}(hR:InR n es)(a:∀v w,w∈E v->v<n/\w<n)(h:∀v,v<n->∀w,w<n->(w∈eN n es v↔w∈E v)):∀v w,w∈eN n es v↔w∈E v:=by grind[vD,Jp.lt]
theorem k5N:¬XU 5 (eN 5 k5L):=fun h=>k5_no (qL0 5) ((XU.qE (Jy k5R.GD (by grind[pZ]) iw)).1 h)
theorem k33N:¬XU 6 (eN 6 E9):=fun h=>k33_no (qL0 6) ((XU.qE (Jy k33R.GD (fun v w q=>by grind[Vb]) iw)).1 h)
section
variable{G:GM}{h:aae}{rv:Value}{e:Int}
theorem aiI.no(I:aiI G h rv e)(b:bX G)(c:¬zW G.n.toNat G.es):e=60/\rv=rW:=by
 rcases I with⟨a,_⟩|⟨_,_,h2⟩|⟨_,a,_⟩|⟨_,a,_⟩
 all_goals grind
theorem aiI.bad(I:aiI G h rv e)(a:bX G)(f:zW G.n.toNat G.es)(c:¬XU G.n.toNat (eN G.n.toNat G.es)):e=90/\rv=rW:=by
 rcases I with⟨b,_⟩|⟨_,b,_⟩|⟨_,_,_,_,h2⟩|⟨_,_,rs,_,b,h2,_⟩
 .grind
 .grind
 .exact h2
 .have d:0<=G.n:=a.n0;obtain⟨n,es⟩:=G;obtain⟨n,rfl⟩:=Z6 d;exact absurd (Vg a.GD a.q9 b h2) c
theorem aiI.XK(I:aiI G h rv e)(b:bX G)(c:zW G.n.toNat G.es)(d:XU G.n.toNat (eN G.n.toNat G.es)):∃rs,embX G.n.toNat G.es=some rs/\Av G.n.toNat G.es rs/\Flat G.n.toNat (Xl rs)/\e=0/\RL (RL RP) h rv rs:=by
 rcases I with⟨a,_⟩|⟨_,a,_⟩|⟨_,_,_,h2,_⟩|⟨_,_,h2⟩
 all_goals grind
end
attribute [local irreducible] Kp MQ lU rS KO KN KX KE VK Kl ZJ TC aab
variable {a i j:Nat}
def aiv(a j:Nat):List Pr:=(List.range (j-(a+1))).map fun t=>((a:Int),((a+1+t:Nat):Int))
def aiZ(i:Nat):List Pr:=(List.range i).flatMap fun a=>aiv a 5
def alb(h:a+1<=j):aiv a (j+1)=aiv a j++[((a:Int),(j:Int))]:=by unfold aiv;rw[show j+1-(a+1)=(j-(a+1))+1 by omega,V3,MY];simp;omega
theorem alc(i:Nat):aiZ (i+1)=aiZ i++aiv i 5:=by grind[aiZ,List.range_succ]
theorem al7(h:j<=5):(aiv a j).length<=5:=by grind[aiv]
theorem al9(h:i<=5):(aiZ i).length<=25:=by
 match i,h with
 |0,_=>decide
 |1,_=>decide
 |2,_=>decide
 |3,_=>decide
 |4,_=>decide
 |5,_=>decide
theorem five_b(h:i<=5)(a:j<=5):(aiZ i++aiv i j).length+1<=100000:=by grind[al7,al9]
theorem akM(O:LA)(h:aae):AC Tryz.prog O 30 [] h fun x h'=>GRc h' x ⟨5,k5L⟩/\Le h h':=by
 refine AC.vE ⟨Tryz.func30,rfl,WY⟩ Tryz.ntmps30 Tryz.results30 fun l=>?_;simp only[Br,seval];obtain⟨G,P,l1,w1,Q⟩:=Tt l [.int .i64 0,.slice none 0 0];have H:=Lo h;rw[P]at H
 have S:h.own h.next=none:=(Le.refl h).next l (qL0 _)
 obtain⟨h2,h3,T,I,l3,U,nX,J⟩:=GX.new w1 5
 have t:G.next≠h.next:=fun e=>by grind
 generalize h.next=R at*
 generalize G.next=X at*
 refine Sk (xU H @Zp T I) ?_;have m:=l1.trans l3;have o:=l3.own _ _ Q;have u:h.own X=none:=by
  cases c:h.own X<;>grind[Le.own]
 refine lIn (fun k fr g=>∃(i:Nat)(ev:Value),k=5-i/\i<=5/\fr=mkF [(0,.pointer (some ⟨R,0,none⟩)),(1,.pointer (some ⟨X,0,none⟩)),(5,.int .i64 (i:Nat))]/\GX g X 5 ev (aiZ i)/\Le h g/\Z2 h ev/\g.own R=some (.cells [.int .i64 0,.slice none 0 0])/\blk ev≠some R) ⟨0,_,rfl,WA _,rfl,J,m,fun b hb=>by simp[blk]at hb,o,by simp[blk]⟩ ?_;clear J U o l3 m I;clear h3;rintro k fr g v ⟨i,ev,rfl,hi,rfl,f,w,K,oR,d⟩;refine Uy ?_;refine Kl.intro (fun p=>?_) (fun hf=>?_)
 .have q:i<5:=CC (n:=5) p;clear p;have aw:=Tw i NH;simp only[HO,seval,aw];refine lIn (fun k fr s=>∃(j:Nat)(ev:Value),k=5-j/\i+1<=j/\j<=5/\fr=mkF [(0,.pointer (some ⟨R,0,none⟩)),(1,.pointer (some ⟨X,0,none⟩)),(2,.int .i64 (i:Nat)),(3,.int .i64 (j:Nat)),(5,.int .i64 (i:Nat))]/\GX s X 5 ev (aiZ i++aiv i j)/\Le h s/\Z2 h ev/\s.own R=some (.cells [.int .i64 0,.slice none 0 0])/\blk ev≠some R) ⟨i+1,ev,rfl,qL0 _,NH,rfl,by simpa[aiv]using f,w,K,oR,d⟩ ?_;clear f w K oR d v;clear g ev;rintro k fr s y ⟨j,ev,rfl,z,V,rfl,f,L,M,oR,d⟩;refine Uy ?_;refine Kl.intro (fun p=>?_) (fun hf=>?_)
  .have r:j<5:=CC (n:=5) p;clear p;obtain⟨v',h4,h5,h6,W,A,e6,N,w6,l4,f6,k6⟩:=f.push' y ((i:Int),(j:Int)) (five_b hi V);obtain⟨l6,a6⟩:=f6 h L u M;obtain⟨B,C⟩:=k6 R _ oR (Hs t) d;have D:=Tw j NH;have Gl:=f.ld;rw[bC,<-alb z]at N;have E:ag1 Tryz.prog 38 [(0,.int .i64 (i:Int)),(1,.int .i64 (j:Int))]=some (UI ((i:Int),(j:Int))):=rfl;refine Sk (amk @Di @Ip.eq_1 @Gc Gl.2.2 E W A e6 D) ?_;exact lgA (JS r) ⟨j+1,v',rfl,NH,r,rfl,N,l6,a6,B,C⟩
  .have F:5<=j:=vp (n:=5) hf;obtain rfl:j=5:=NH;rw[<-alc]at f;simp only[HO,seval,aw];exact lgA (JS q) ⟨i+1,ev,rfl,q,rfl,f,L,M,oR,d⟩
 have F:5<=i:=vp (n:=5) hf;obtain rfl:i=5:=NH;have A:aiZ 5=k5L:=by decide
 rw[A]at f;have sl:=f.gp.pr.sl;have st:=DG (n:=5) (ev:=ev) oR sl.one sl.cell;have ld:acd Tryz.prog (g.put R (.cells [.int .i64 5,ev])) 24 ⟨R,0,none⟩=some (.agg #[.int .i64 5,ev]):=tY (aae.Y3 _ _ _) (by obtain⟨a,c,e,_⟩:=sl;exact⟨a,_,c,e⟩);simp only[HO,seval,f.ld.1,st,ld];exact⟨⟨ev,rfl,(GS.put f.gp _ d).cs,GS.okc f.gp⟩,w.put _ S⟩
def ajD(a j:Nat):List Pr:=(List.range j).map fun(t:Nat)=>((a:Int),3+(t:Int))
def akN(i:Nat):List Pr:=(List.range i).flatMap fun a=>ajD a 3
theorem ama:ajD a (j+1)=ajD a j++[((a:Int),3+(j:Int))]:=by grind[ajD,List.range_succ]
theorem amb(i:Nat):akN (i+1)=akN i++ajD i 3:=by grind[akN,List.range_succ]
theorem six_b(h:i<=3)(a:j<=3):(akN i++ajD i j).length+1<=100000:=by
 have b:(ajD i j).length<=3:=by grind[ajD]
 have h2:(akN i).length<=9:=by
  match i,h with
  |0,_=>decide
  |1,_=>decide
  |2,_=>decide
  |3,_=>decide
 grind
theorem six_any(N:LA)(h:aae):AC Tryz.prog N 31 [] h fun x h'=>GRc h' x ⟨6,E9⟩/\Le h h':=by
 refine AC.vE ⟨Tryz.func31,rfl,WY⟩ Tryz.ntmps31 Tryz.results31 fun l=>?_;simp only[Br,seval];obtain⟨F,O,l1,w1,P⟩:=Tt l [.int .i64 0,.slice none 0 0];have G:=Lo h;rw[O]at G
 have Q:h.own h.next=none:=(Le.refl h).next l (qL0 _)
 obtain⟨h2,h3,S,H,l3,T,nX,I⟩:=GX.new w1 6
 have t:F.next≠h.next:=fun e=>by grind
 generalize h.next=R at*
 generalize F.next=X at*
 refine Sk (xU G @Zp S H) ?_;have m:=l1.trans l3;have o:=l3.own _ _ P;have u:h.own X=none:=by
  cases c:h.own X<;>grind[Le.own]
 refine lIn (fun k fr g=>∃(i:Nat)(ev:Value),k=3-i/\i<=3/\fr=mkF [(0,.pointer (some ⟨R,0,none⟩)),(1,.pointer (some ⟨X,0,none⟩)),(5,.int .i64 (i:Nat))]/\GX g X 6 ev (akN i)/\Le h g/\Z2 h ev/\g.own R=some (.cells [.int .i64 0,.slice none 0 0])/\blk ev≠some R) ⟨0,_,rfl,WA _,rfl,I,m,fun b hb=>by simp[blk]at hb,o,by simp[blk]⟩ ?_;clear I T o l3 m H;clear h3;rintro k fr g v ⟨i,ev,rfl,hi,rfl,f,w,J,oR,d⟩;refine Uy ?_;refine Kl.intro (fun p=>?_) (fun hf=>?_)
 .have q:i<3:=CC (n:=3) p;clear p;have aw:=Tw i NH;refine Uy ?_;refine lIn (fun k fr s=>∃(j:Nat)(ev:Value),k=3-j/\j<=3/\fr=mkF [(0,.pointer (some ⟨R,0,none⟩)),(1,.pointer (some ⟨X,0,none⟩)),(2,.int .i64 (i:Nat)),(5,.int .i64 (i:Nat)),(8,.int .i64 (j:Nat))]/\GX s X 6 ev (akN i++ajD i j)/\Le h s/\Z2 h ev/\s.own R=some (.cells [.int .i64 0,.slice none 0 0])/\blk ev≠some R) ⟨0,ev,rfl,WA _,rfl,by simpa[ajD]using f,w,J,oR,d⟩ ?_;clear f w J oR d v;clear g ev;rintro k fr s y ⟨j,ev,rfl,U,rfl,f,K,L,oR,d⟩;refine Uy ?_;refine Kl.intro (fun p=>?_) (fun hf=>?_)
  .have r:j<3:=CC (n:=3) p;clear p;obtain⟨v',h4,h5,h6,V,z,W,M,w6,l4,f6,k6⟩:=f.push' y ((i:Int),3+(j:Int)) (six_b hi U);obtain⟨l6,a6⟩:=f6 h K u L;obtain⟨A,B⟩:=k6 R _ oR (Hs t) d;have C:=Tw j NH;have Gl:=f.ld;rw[bC,<-ama]at M;have a3:adA .i64 (3+(j:Int))=3+(j:Int):=ie _ NH NH;have D:ag1 Tryz.prog 38 [(0,.int .i64 (i:Int)),(1,.int .i64 (3+(j:Int)))]=some (UI ((i:Int),3+(j:Int))):=rfl;refine Sk (Pj @Di @Ip.eq_1 @Gc Gl.2.2 a3 D V z W C) ?_;exact lgA (JS r) ⟨j+1,v',rfl,r,rfl,M,l6,a6,A,B⟩
  .have E:3<=j:=vp (n:=3) hf;obtain rfl:j=3:=NH;rw[<-amb]at f;simp only[HO,seval,aw];exact lgA (JS q) ⟨i+1,ev,rfl,q,rfl,f,K,L,oR,d⟩
 have E:3<=i:=vp (n:=3) hf;obtain rfl:i=3:=NH;have z:akN 3=E9:=by decide
 rw[z]at f;have sl:=f.gp.pr.sl;have st:=DG (n:=6) (ev:=ev) oR sl.one sl.cell;have ld:acd Tryz.prog (g.put R (.cells [.int .i64 6,ev])) 24 ⟨R,0,none⟩=some (.agg #[ .int .i64 6,ev]):=tY (aae.Y3 _ _ _) (by obtain⟨a,c,e,_⟩:=sl;exact⟨a,_,c,e⟩);simp only[HO,seval,f.ld.1,st,ld];exact⟨⟨ev,rfl,(GS.put f.gp _ d).cs,GS.okc f.gp⟩,w.put _ Q⟩
end
end Go.Fw
