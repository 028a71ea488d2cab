/- A text. -/
import Derived.Test.YtigllaheamfhaaaGreatFwZB
set_option linter.all false
set_option maxRecDepth 99999
set_option maxHeartbeats 9999999
open Go.Proofs
open Option renaming some→Z,none→Y
open Bool renaming true→tT,false→fF
open List renaming replicate→rP,range→rG
open Go.Value renaming slice→sL,pointer→pT
open Go renaming Value→vV
open Go.Proofs.Tryz renaming prog→pG
open Go.Proofs.Tryz
open List
namespace Go.Fw
section
attribute [local irreducible] Kp MQ lU KO1 KO KN KX KE VK Kl ZJ TC aab
variable {a b i n:Nat} {es web:List Pr} {h:aai} {p:Pr} {v:Value} {xs:List Bool}
def sJ(_:aai)(v:vV)(b:Bool):Prop:=v=.bool b
theorem Nn.sJ:Nn sJ:=fun _ _ _ _ h _=>h
def RL.ofBo(r:RS h v (xs.map vV.bool)):RL sJ h v xs:=⟨_,r,Ma,fun i x u b a=>by simp[b]at a;exact a.symm⟩
theorem RL.W7(r:RL sJ h v xs)(i:Nat)(hi:i<xs.length):aaC pG h 4 (aaq v i)=Z (.bool xs[i]):=by have⟨u,a,h2⟩:=r.load (P:=pG) eY rfl i hi;rw[a];exact congrArg Z h2
def RL.LB(r:RL sJ h v xs){k:IntKind}(i:Nat)(hi:i<xs.length):aao pG 94 v (.int k i)=Z (pT (Z (aaq v i))):=r.addr (P:=pG) Uh eY Ji i hi
def ofM(es web:xLP):List Bool:=es.map fun e=>decide (e∈web)
def onW(web:xLP)(v:Nat):Prop:=∃e∈web,e.1=(v:Int)\/e.2=(v:Int)
instance (web:xLP) (v:Nat):Decidable (onW web v):=inferInstanceAs (Decidable (∃e∈web,e.1=(v:Int)\/e.2=(v:Int)))
def Cb(n:Nat)(web:xLP):List Bool:=(rG n).map fun v=>decide (onW web v)
theorem ofM_push(a:D3 es)(hi:es[i]?=Z p):ofM es (web++[p])=(ofM es web).set i tT:=by apply mJ;intro j;rw[Tn];grind[ofM,D3.uniq]
theorem onW_snoc(web:xLP)(p:Pr)(v:Nat):onW (web++[p]) v↔onW web v\/(p.1=(v:Int)\/p.2=(v:Int)):=by simp only[onW,aax,xD];grind
theorem onM_push:Cb n (web++[((a:Int),(b:Int))])=((Cb n web).set a tT).set b tT:=by apply mJ;grind[Cb,onW_snoc]
def c8(es web:xLP):(ofM es web).length=es.length:=by simp[ofM]
def Qe(n:Nat)(web:xLP):(Cb n web).length=n:=by simp[Cb]
theorem ofM_nil(es:xLP):ofM es []=rP es.length fF:=by
 apply qL212
 all_goals grind[ofM]
theorem onM_nil(n:Nat):Cb n []=rP n fF:=by
 apply qL212
 all_goals grind[Cb,onW]
structure CU (es web:xLP):Prop where
 q9:∀(i:Nat) p q,web[i]?=Z p->web[i+1]?=Z q->Nz p q<0
 mem:∀p∈web,p∈es
structure New2 (h h':aai) (A B:Nat) (x y:xLV):Prop where
 le:Le h h'
 wf:WF h'
 oA:h'.own A=Z (.cells x)
 oB:h'.own B=Z (.cells y)
 nA:h.own A=Y
 nB:h.own B=Y
 ne:A≠B
def new2_a(hw:WF h)(x y:xLV):New2 h ((h.alloc (.cells x)).alloc (.cells y)) h.next (h.next+1) x y:=by
 have a:∀x,h.next<=x->h.own x=Y:=fun x b=>(Le.refl h).next hw b
 exact⟨((Le.refl h).alloc hw _).alloc (hw.alloc _) _,(hw.alloc _).alloc _,by simp[Mh,om],by simp[Mh,om],a _ (qL0 _),a _ NH,NH⟩
def new2_b(hw:WF h)(x y:xLV):New2 h ((h.alloc (.cells y)).alloc (.cells x)) (h.next+1) h.next x y:=by
 have a:∀x,h.next<=x->h.own x=Y:=fun x b=>(Le.refl h).next hw b
 exact⟨((Le.refl h).alloc hw _).alloc (hw.alloc _) _,(hw.alloc _).alloc _,by simp[Mh,om],by simp[Mh,om],a _ NH,a _ (qL0 _),NH⟩
def GR.open{n:Int}(r:GR h v ⟨n,es⟩):∃ev,v=.agg #[n,ev]/\PR h ev es:=r.ex
theorem split_any(W0:abw)(v r:vV)(G:GM)(web:xLP)(h:aai)(hg:GR h v G)(hw:PR h r web)(hr:bX G)(hn:web.length<=1000):
  AC pG W0 110 [v,r] h fun x h'=>(∃ov nv b,x=.tuple #[ov,nv,.bool b]/\(nv.cells=#[nv]/\nv.oneCell'=tT)/\(b=tT↔CU G.es web)/\(b=tT->RL sJ h' ov (ofM G.es web)/\RL sJ h' nv (Cb G.n.toNat web)))/\Le h h':=by
 have⟨gn,es⟩:=G;have h0:0<=gn:=hr.n0;obtain⟨n,rfl⟩:=WA h0
 obtain⟨ev,rfl,hp⟩:=hg.open
 have bN:(n:Int)<=200:=hr.n1;have bQ:es.length<=594:=hr.len;have S:D3 es:=hr.q9;have aq:∀p∈es,0<=p.1/\p.1<p.2/\p.2<(n:Int):=fun p K=>by have⟨i,hi⟩:=vZ.1 K;exact(hr.ok i (Ny.1 hi).1 p hi).1
 show AC pG W0 110 [.agg #[n,ev],r] h fun x h'=>(∃ov nv b,x=.tuple #[ov,nv,.bool b]/\(nv.cells=#[nv]/\nv.oneCell'=tT)/\(b=tT↔CU es web)/\(b=tT->RL sJ h' ov (ofM es web)/\RL sJ h' nv (Cb n web)))/\Le h h';refine AC.vF func110 ntmps110 results110 fun a7=>?_;obtain⟨T,b1,s,o,-,lA⟩:=r8 (n:=(n:Int)) a7 hp
 generalize h.next=B at*
 have ll:=fun g=>hp.len g;have ar:=lA T (Le.refl _);have a8:=fun g:aai=>Ye (P:=pG) (t:=94) (z:=.bool fF) g Uh rfl rfl rfl rfl Ji eY Ji es.length NH;have ba:=fun g:aai=>Ye (P:=pG) (t:=94) (z:=.bool fF) g Uh rfl rfl rfl rfl Ji eY Ji n NH;refine Sk b1 ?_;have aa:rP es.length (vV.bool fF)=(ofM es []).map vV.bool:=by rw[ofM_nil];simp
 have ae:rP n (vV.bool fF)=(Cb n []).map vV.bool:=by rw[onM_nil];simp
 apply Ya (F:=fun(fr:aam)(h':aai)=>∃A C,Fj fr [(1,r),(2,pT (Z B)),(7,sL (Z ⟨A,0,Y⟩) es.length es.length),(8,sL (Z ⟨C,0,Y⟩) n n)]/\New2 T h' A C (rP es.length (vV.bool fF)) (rP n (vV.bool fF)))
 .intro cont;have X1:=lA ((T.alloc (.cells (rP es.length (.bool fF))))) ((Le.refl T).alloc o _);have X2:=lA ((T.alloc (.cells (rP n (.bool fF))))) ((Le.refl T).alloc o _);have X3:=lA _ (new2_a o (rP es.length (.bool fF)) (rP n (.bool fF))).le;have X4:=lA _ (new2_b o (rP es.length (.bool fF)) (rP n (.bool fF))).le;refine gh (tA [0,1,2,4,5] (.ch 3 [2] (tA [7] (JQ 6 [5] (tA [8] .done))) (JQ 6 [5] (JQ 3 [2] (tA [7,8] .done))))) ?_;simp only[kJJ,seval,Qg,Ii,Di,Ip,Gc,ar.2.1,ar.2.2,ll,a8,ba,om,X1.2.1,X1.2.2,X2.2.1,X2.2.2,X3.2.1,X3.2.2,X4.2.1,X4.2.2];refine⟨?_,?_⟩
  .refine KN.UJ fun fr' h' e1 e2=>cont fr' h' ?_;subst e1 e2;exact⟨_,_,hAs,new2_a o _ _⟩
  .refine KN.UJ fun fr' h' e1 e2=>cont fr' h' ?_;subst e1 e2;exact⟨_,_,hAs,new2_b o _ _⟩
 rintro fr h2 ⟨A,C,u,N⟩;simp only[Fj]at u;obtain⟨f1,f2,f7,f8,-⟩:=u;have lw:=fun g=>hw.len g;simp only[HO,seval,f1,lw];have av:=N.oA;have ay:=N.oB;rw[aa]at av;rw[ae]at ay;have nA:=N.nA;have nC:=N.nB;have bT:=N.ne;refine aab.intro (fun k fr hh=>∃i:Nat,k=web.length-i/\i<=web.length/\fr=mkF [(1,r),(2,pT (Z B)),(7,sL (Z ⟨A,0,Y⟩) es.length es.length),(8,sL (Z ⟨C,0,Y⟩) n n),(20,r),(21,web.length),(22,i)]/\
   hh.own A=Z (.cells ((ofM es (web.take i)).map vV.bool))/\hh.own C=Z (.cells ((Cb n (web.take i)).map vV.bool))/\Le T hh/\(∀(j:Nat) p,j<i->web[j]?=Z p->p∈es)/\∀(j:Nat) p q,j+1<i->web[j]?=Z p->web[j+1]?=Z q->Nz p q<0)
  web.length [(1,r),(2,pT (Z B)),(7,sL (Z ⟨A,0,Y⟩) es.length es.length),(8,sL (Z ⟨C,0,Y⟩) n n),(20,r),(21,web.length),(22,(0:Nat))] (by simp only[Fj,HO,seval,f1,f2,f7,f8];simp)
  ⟨0,rfl,Z6 _,rfl,av,ay,N.le,NH,NH⟩ ?_
 rintro k fr hh az ⟨i,rfl,hi,rfl,oA,oC,L,bW,ag⟩;refine Uy ?_;refine Kl.intro (fun ht=>?_) (fun hf=>?_)
 rotate_left
 .have bb:web.length<=i:=vp hf;rw[HV bb]at oA oC;refine Uy ?_;refine⟨⟨_,_,tT,rfl,⟨rfl,rfl⟩,⟨fun _=>⟨fun j p q bY m=>?_,fun p K=>?_⟩,fun _=>rfl⟩,fun _=>⟨RL.ofBo (RS.whole oA (by simp[c8])),RL.ofBo (RS.whole oC (by simp[Qe]))⟩⟩,s.trans L⟩
  .grind
  grind[mem_iff_getElem?]
 have M:i<web.length:=acb ht;clear ht;have O:=CA M;have ai:web.take (i+1)=web.take i++[web[i]]:=XJ M;generalize web[i]=p at O ai;have w:=hw.le (s.trans L);have ad:=hw.addr (k:=.i64) i M;have ld:=w.load O;have⟨bZ,h3,e2,e3,D,bg,d⟩:=Ut az p;have aA:=D.own _ _ oA;have aB:=D.own _ _ oC;have U:=L.trans D
 have nE:T.own hh.next=Y:=L.none ((Le.refl hh).next az (qL0 _))
 generalize hh.next=E at*
 simp only[HO,seval,ad,ld,e2,e3];have aC:(∃(j:Nat)(a b:Pr),web[j]?=Z a/\web[j+1]?=Z b/\¬Nz a b<0)->¬CU es web:=fun⟨j,a,b,x,y,z⟩ q=>z (q.q9 j a b x y);apply Ya (F:=fun(fr:aam)(h4:aai)=>Fj fr [(1,r),(2,pT (Z B)),(7,sL (Z ⟨A,0,Y⟩) es.length es.length),(8,sL (Z ⟨C,0,Y⟩) n n),(10,pT (Z E)),(20,r),(21,web.length),(22,i),(38,.bool fF)]/\Le h3 h4/\WF h4/\∀q,0<i->web[i-1]?=Z q->Nz q p<0)
 .intro cont;by_cases i0:i=0
  .have z:((0:Int)<(i:Int))=False:=eq_false NH;refine gh (fRn 0 9 (JQ 9 [2,7,8] (tA [10,11] .done))) ?_;simp only[kJJ,seval,Qg,gt_iff_lt,z];exact KN.UJ fun fr' h' x y=>cont fr' h' (by subst x y;exact⟨hAs,Le.refl _,bg,fun q h=>by omega⟩)
  .have z:((0:Int)<(i:Int))=True:=eq_true NH;have H:=CA (show i-1<web.length by omega);generalize web[i-1]'(by omega)=q at H
   have I:aaY .i64 ((i:Int)-1)=((i-1:Nat):Int):=by rw[cT _ NH NH];omega
   have aj:=hw.addr (k:=.i64) (i-1) NH;have bh:=(w.le D).load H;have LP:=uM d;refine gh (fRn 0 9 (JQ 9 [2,7,8] (tA [10,11] .done))) ?_;refine CO (bG @gt_iff_lt.{0} z I aj bh LP) ?_
   refine kGi func129 (yu W0 q p h3) ?_;rintro x h4 aD ⟨rfl,f⟩;have Q:=uM (f.own _ _ d);have V:=((w.le D).le f).load H;by_cases d3:Nz q p>=0
   .refine CO (bG z I aj V Q d3) ?_;refine⟨⟨_,_,fF,rfl,⟨rfl,rfl⟩,⟨fun e=>(by cases e),fun e=>absurd e (aC ⟨i-1,q,p,H,by rw[show i-1+1=i by omega];exact O,NH⟩)⟩,fun e=>by cases e⟩,((s.trans U).trans f)⟩
   .simp only[kJJ,seval,Qg,z,I,aj,V,Q,d3];exact KN.UJ fun fr' h' x y=>cont fr' h' (by subst x y;exact⟨hAs,f,aD,fun q' _ m=>by rw[H]at m;injection m with m;subst m;omega⟩)
 rintro fr h4 ⟨u,f,aD,bj⟩;simp only[Fj]at u;obtain⟨g1,g2,g7,g8,aE,aF,aH,bk,bm,-⟩:=u;have J:=U.trans f;have bo:=lA h4 J;have Q:=uM (f.own _ _ d);refine Sk (adG bm g2 aE @Di @Ip.eq_1 @Gc bo.2.2 Q) ?_;refine kCi func130 (xm W0 129 Tryz.f129 _ ⟨func129,rfl,WY⟩ (fun p q h=>yu W0 p q h) ev es p h4 (hp.le (s.trans J)) NH S) ?_;rintro x h5 b0 ⟨⟨l,b,rfl,br,bx⟩,R⟩;have W:=J.trans R;cases b with
 |false=>refine Uy ?_;exact⟨⟨_,_,fF,rfl,⟨rfl,rfl⟩,⟨fun e=>(by cases e),fun q=>absurd (q.mem p (BS O)) (bx rfl)⟩,fun e=>by cases e⟩,s.trans W⟩
 |true=>
 have al:=br rfl;have K:=BS al;have⟨p1,p2,p3⟩:=aq p K;have⟨a,c⟩:=p;simp only at p1 p2 p3;obtain⟨a,rfl⟩:=WA p1;obtain⟨c,rfl⟩:=WA (show 0<=c by omega);have X:=(Ny.1 al).1;have bz:=R.own _ _ (f.own _ _ aA);have b2:=R.own _ _ (f.own _ _ aB);have aJ:=R.own _ _ (f.own _ _ d);have b3:A≠E:=fun e=>by subst e;rw[aA]at d;injection d with d;injection d with d;cases hx:(ofM es (web.take i))with|nil=>rw[hx]at d;cases d|cons y ys=>rw[hx]at d;injection d with d _;cases d
 have b4:C≠E:=fun e=>by subst e;rw[aB]at d;injection d with d;injection d with d;cases hx:(Cb n (web.take i))with|nil=>rw[hx]at d;cases d|cons y ys=>rw[hx]at d;injection d with d _;cases d
 have bA:∀k:IntKind,aao pG 94 (sL (Z ⟨A,0,Y⟩) es.length es.length) (.int k l)=Z (pT (Z ⟨A,l,Y⟩)):=fun k=>by rw[Wc Uh eY Ji l X];simp[Ip]
 have aK:∀(k:IntKind)(j:Nat),j<n->aao pG 94 (sL (Z ⟨C,0,Y⟩) n n) (.int k j)=Z (pT (Z ⟨C,j,Y⟩)):=fun k j hj=>by rw[Wc Uh eY Ji j hj];simp[Ip]
 have st1:=QB (P:=pG) (t:=4) (x:=.bool tT) eY Ji bz (off:=l) (by simp[c8,X]) rfl rfl;have bB:(h5.put A (.cells (((ofM es (web.take i)).map vV.bool).set l (.bool tT)))).own C=Z (.cells ((Cb n (web.take i)).map vV.bool)):=by grind[aai.By]
 have aL:(h5.put A (.cells (((ofM es (web.take i)).map vV.bool).set l (.bool tT)))).own E=Z (.cells (xM ((a:Int),(c:Int)))):=by grind[aai.By]
 have b5:(h5.put A (.cells (((ofM es (web.take i)).map vV.bool).set l (.bool tT)))).own A=Z (.cells ((ofM es (web.take (i+1))).map vV.bool)):=by rw[aai.Y3,ai,ofM_push S al,agK]
 have bF:=W.put (.cells (((ofM es (web.take i)).map vV.bool).set l (.bool tT))) nA;generalize h5.put A (.cells (((ofM es (web.take i)).map vV.bool).set l (.bool tT)))=h6 at*;have st2:=QB (P:=pG) (t:=4) (x:=.bool tT) eY Ji bB (off:=a) (by simp[Qe];omega) rfl rfl;have bH:(h6.put C (.cells (((Cb n (web.take i)).map vV.bool).set a (.bool tT)))).own C=Z (.cells (((Cb n (web.take i)).map vV.bool).set a (.bool tT))):=aai.Y3 _ _ _;have aN:(h6.put C (.cells (((Cb n (web.take i)).map vV.bool).set a (.bool tT)))).own E=Z (.cells (xM ((a:Int),(c:Int)))):=by grind[aai.By]
 have b6:(h6.put C (.cells (((Cb n (web.take i)).map vV.bool).set a (.bool tT)))).own A=Z (.cells ((ofM es (web.take (i+1))).map vV.bool)):=by grind[aai.By]
 have bI:=bF.put (.cells (((Cb n (web.take i)).map vV.bool).set a (.bool tT))) nC;generalize h6.put C (.cells (((Cb n (web.take i)).map vV.bool).set a (.bool tT)))=h7 at*;have st3:=QB (P:=pG) (t:=4) (x:=.bool tT) eY Ji bH (off:=c) (by simp[Qe];omega) rfl rfl;have aP:=lK aJ;have aT:=HY aJ;have aV:=lK aL;have aW:=HY aL;have aX:=lK aN;have a6:=HY aN;simp only at aP aT aV aW aX a6;refine Uy ?_;refine gh (fRn 0 9 (JQ 9 [0,1,8] (tA [10] (JQ 11 [0,1,2,3,4,8,9,10] (tA [12] (JQ 13 [0,1,2,3,4,5,6,7,8,9,10,11,12] .done)))))) ?_;simp only[HO,seval,Qg,g1,g2,g7,g8,aE,aF,aH,bk,Dh,Z0,Ip,Gc,aP,aT,aV,aW,aX,a6,bA,aK _ a NH,aK _ c NH,st1,st2,st3,aaa i NH];refine tn (web.length-(i+1)) [(1,r),(2,pT (Z B)),(7,sL (Z ⟨A,0,Y⟩) es.length es.length),(8,sL (Z ⟨C,0,Y⟩) n n),(20,r),(21,web.length),(22,(i+1:Nat))] NH (by simp only[Fj,HO,seval,g1,g2,g7,g8,aF,aH];simp)
  ⟨i+1,rfl,M,rfl,by grind[aai.By],by rw[aai.Y3,ai,onM_push];simp[agK],bI.put _ nC,fun j q hj hq=>?_,fun j q q' hj hq m=>?_⟩
 .grind
 .by_cases e:j+1=i
  .have:web[i-1]?=Z q:=by rw[<-e];grind
   grind
  .exact ag j q q' NH hq m
variable {α:Type}
def fG:∀n:Nat,n<=300->IntKind.u64.wrap ((BitVec.ofInt IntKind.u64.bits (n:Int) &&& BitVec.ofInt IntKind.u64.bits 4294967295).toNat:Nat)=(n:Int):=by
 intro n a;have:∀k:Fin 301,IntKind.u64.wrap ((BitVec.ofInt IntKind.u64.bits ((k:Nat):Int) &&& BitVec.ofInt IntKind.u64.bits 4294967295).toNat:Nat)=((k:Nat):Int):=by decide+kernel
 exact this ⟨n,NH⟩
theorem KR(n:Nat)(a:n<=300):acV .shr .u64 (n:Int) 32=Z (.int .u64 0):=by simp[acV,IntKind.bits];grind
theorem sS(n:Nat)(a:n<=300):aaY .u64 (n:Int)=n:=by grind[aaY]
theorem Mul64_any(b:abw)(n:Nat)(a:n<=300)(h:aai):AC pG b 133 [.int .u64 1,.int .u64 n] h fun x h'=>x=.tuple #[.int .u64 0,.int .u64 n]/\h'=h:=by
 refine AC.vF func133 ntmps133 results133 fun c=>?_;have a1:IntKind.u64.wrap ((BitVec.ofInt IntKind.u64.bits 1 &&& BitVec.ofInt IntKind.u64.bits 4294967295).toNat:Nat)=1:=fG 1 WY;have a2:acV .shr .u64 1 32=Z (.int .u64 0):=KR 1 WY;have d:IntKind.u64.wrap ((BitVec.ofInt IntKind.u64.bits 0 &&& BitVec.ofInt IntKind.u64.bits 4294967295).toNat:Nat)=0:=fG 0 WY;have e:acV .shr .u64 0 32=Z (.int .u64 0):=KR 0 WY;have f:=fG n a;have g:=KR n a;have i:aaY .u64 0=0:=by decide
 have j:=sS n a;refine Sk (Da a1 a2 d e f g i j @Int.mul_one @Int.one_mul @Int.mul_zero @Int.zero_mul @qL244 @Int.zero_add) ?_;grind
theorem Mul_any(a:abw)(n:Nat)(b:n<=300)(h:aai):AC pG a 119 [.int .u64 1,.int .u64 n] h fun x h'=>x=.tuple #[.int .u64 0,.int .u64 n]/\h'=h:=by refine AC.vF func119 ntmps119 results119 fun c=>?_;refine Uy ?_;refine kCi func133 (Mul64_any a n b h) ?_;rintro v h'-⟨rfl,rfl⟩;refine Uy ?_;grind
theorem rep_grow(a b:α)(i n m:Nat)(c:min i (n-i)=m):List.take i (rP i a++rP (n-i) b)++List.take (m*1) (rP i a)++List.drop (i+m*1) (rP i a++rP (n-i) b)=rP (i+m) a++rP (n-(i+m)) b:=by
 have d:List.take i (rP i a++rP (n-i) b)=rP i a:=hGr;have e:List.take (m*1) (rP i a)=rP m a:=hGr;have e3:List.drop (i+m*1) (rP i a++rP (n-i) b)=rP (n-(i+m)) b:=by rw[anN,drop_append,drop_replicate,drop_replicate];simp;omega
 grind[replicate_append_replicate]
theorem rN(y:abw)(l:vV)(n:Nat)(p:n<=300)(h:aai)(q:RL RP h l [-1]):AC pG y 98 [l,n] h fun v h'=>∃id,v=sL (Z ⟨id,0,Y⟩) n n/\h.next<=id/\h'.own id=Z (.cells (rP n (.int .i64 (-1))))/\Le h h':=by
 refine AC.vF alD ntmps98 results98 fun d=>?_;have A:¬((n:Int)<0):=NH;have B:aeh pG h 47 l=Z (.int .i64 (1:Int)):=q.TA h;have w1:aaY .u64 1=1:=by decide
 simp only[HO,seval,A,B,acX,Ac,qS15,sS n p,w1];refine kCi func119 (Mul_any y n p h) ?_;rintro v h'-⟨rfl,rfl⟩;have C:¬((0:Int)<(0:Int)):=by decide
 have D:¬((9223372036854775807:Int)<(n:Int)):=NH;have mk:=Ye (P:=pG) (t:=47) h' Mb rfl rfl rfl rfl Ji Ac Ji n NH;simp only[HO,seval,C,D,acX,Ac,qS15,ie n NH NH,mk]
 have f:(h'.alloc (.cells (rP n (.int .i64 0)))).own h'.next=Z (.cells (rP n (.int .i64 0))):=aai.zT _ _
 have hle:Le h' (h'.alloc (.cells (rP n (.int .i64 0)))):=(Le.refl _).alloc d _
 have g:h'.own h'.next=Y:=(Le.refl h').next d (qL0 _)
 generalize h'.alloc (.cells (rP n (.int .i64 0)))=z at*
 have c:∃m h2,afo pG z 47 (sL (Z ⟨h'.next,0,Y⟩) n n) l=Z (.int .i64 (m:Nat),h2)/\(n=0/\m=0\/1<=m/\m<=n)/\h2.own h'.next=Z (.cells (rP m (.int .i64 (-1))++rP (n-m) (.int .i64 0)))/\Le h' h2:=by
  by_cases E:n=0
  .subst E;exact⟨0,z,afl Mb Ac WY q.sl Ma,.inl ⟨rfl,rfl⟩,by simpa using f,hle⟩
  .obtain⟨vs,F,hlen,hg⟩:=q;have r:vs=[.int .i64 (-1)]:=by
    match vs,hlen with
    |[x],_=>rw[hg 0 (-1) x rfl rfl]
   subst r;refine⟨1,_,IQ (k:=1) Mb Ac rfl f (F.le hle).cs (by rfl) 1 (by simp;omega) WY (by simp;omega),.inr ⟨NH,NH⟩,?_,hle.put _ g⟩;grind[aai.Y3]
 have⟨m,h2,G,H,s,j⟩:=c;refine Sk G ?_
 refine lIn (fun k fr hh=>∃i:Nat,k=n-i/\(n=0/\i=0\/1<=i/\i<=n)/\fr=mkF [(7,sL (Z ⟨h'.next,0,Y⟩) n n),(8,i)]/\hh.own h'.next=Z (.cells (rP i (.int .i64 (-1))++rP (n-i) (.int .i64 0)))/\Le h' hh) ⟨m,rfl,H,rfl,s,j⟩ ?_
 rintro k fr hh-⟨i,rfl,hi,rfl,f,hle⟩
 simp only[HO,seval,show aeh pG hh 47 (sL (Z ⟨h'.next,0,Y⟩) n n)=Z (.int .i64 n)from rfl]
 refine Kl.intro (fun I=>?_) (fun hf=>?_)
 .have u:i<n:=acb I;refine Uy ?_;refine gh (fRn 0 7 (JQ 7 [3,6] (tA [8] (JQ 9 [0,1,2,3,4,5,6,7,8] .done)))) ?_;have b:n<UNK:=aoE p WY
  have s1:=apY (P:=pG) (t:=47) (a:=Z ⟨h'.next,0,Y⟩) (n:=n) (cap:=n) (k:=.i64) Mb Ac rfl i NH (.inr u) (qL0 _) b
  have s2:=pn (P:=pG) (t:=47) (a:=⟨h'.next,0,Y⟩) (n:=n) (cap:=n) (k:=.i64) Mb Ac i NH (qL0 _) b
  simp only[ahe,Ip,Gc]at s1
  have o:CS 1 hh (sL (Z ⟨h'.next,0,Y⟩) i n) i (rP i (.int .i64 (-1))):=by have:=CS.own (k:=1) (off:=0) (n:=i) (cap:=n) f Ma;grind
  have w:=IQ (P:=pG) (t:=47) (k:=1) (n:=i) (off:=i) (dl:=n-i) (dc:=n-i) (e:=3) Mb Ac rfl f o (all_rep rfl i) (min i (n-i)) rfl NH (by simp;omega);refine CO (xU s1 s2 w (ie ((i:Int)+((min i (n-i):Nat):Int)) NH NH)) ?_;refine lgA NH ⟨i+min i (n-i),rfl,NH,rfl,?_,hle.put _ g⟩;grind[aai.Y3,rep_grow]
 .have J:n<=i:=vp hf;have:i=n:=NH;subst this;refine Uy ?_;grind
variable {L c w:Nat} {P:Program} {b0 h':aai} {r:RZ} {rows:AM} {us:List Value}
def Bp(l:RZ):xLV:=l.map (vV.int .i64)
theorem uE(l:RZ):(Bp l).length=l.length:=by simp[Bp]
def yG(l:RZ):(Bp l).all (·.oneCell')=tT:=by simp[Bp];intros;rfl
def DQ(h:aai)(x:Int):aas pG h 47 1 [(0,x)]=Z (sL (Z h.next) 1 1,h.alloc (.cells [x])):=rfl
theorem xr{t xt:TypeId}{v x v':vV}(hw:WF h)(e:aaR P h t xt v x=Z (v',h')):WF h':=by
 unfold aaR at e;split at e
 .grind[WF.kill,WF.alloc,WF.put,WF.lt]
 .cases e
theorem grow(m:WF h){G:aai}{R w q t:Nat}{us cells:xLV}{cu x:vV}{d:TypeDesc}(v:apT pG t t 1=tT)(y:pG.underlying t=Z d)(n:UA pG t=1)(oR:h.own R=Z (.cells us))(hw:w<us.length)(g:GS 1 h cu q cells)(z:cells.all (·.oneCell')=tT)(A:x.oneCell'=tT)(H:q<=100000)(B:blk cu≠Z R)(le:Le G h)(C:G.own R=Y)(ap:Z2 G cu):
  ∃a k f j,h.alloc (.cells [x])=k/\aaR pG k t t cu (sL (Z h.next) 1 1)=Z (a,f)/\aaK pG f t (pT (Z ⟨R,w,Y⟩)) a=Z j/\GS 1 j a (q+1) (cells++[x])/\
   j.own R=Z (.cells (us.set w a))/\blk a≠Z R/\Z2 G a/\Le h k/\Le G f/\Le G j/\(∀b o,h.own b=Z o->b≠R->blk cu≠Z b->j.own b=Z o/\blk a≠Z b)/\(∀b o,h.own b=Z o->blk cu≠Z b->f.own b=Z o)/\WF j:=by
 have⟨k,e4,c,e,D⟩:=Tt m [x];have⟨a,f,p,r,hf⟩:=(g.le c).push (P:=pG) (t:=t) v D z A NH;have⟨s,u⟩:=aG hf e (c.own _ _ oR) B;have⟨l5,E⟩:=hf G e (le.trans c) ap;have l:WF f:=xr e p;have sl:=r.cs.sl;have st:=QB (P:=pG) (t:=t) (x:=a) y n s (off:=w) hw (by obtain⟨_,_,rfl,_⟩:=sl;rfl) sl.one;refine⟨a,k,f,_,e4,p,st,r.put _ u,aai.Y3 _ _ _,u,E,c,l5,l5.put _ C,fun b o hb F i=>?_,fun b o hb i=>(aG hf e (c.own _ _ hb) i).1,l.put _ (l.lt s)⟩;have⟨r1,r2⟩:=aG hf e (c.own _ _ hb) i;grind[aai.By]
structure Rows (b0 h:aai) (L:Nat) (us:xLV) (rows:AM):Prop where
 oL:h.own L=Z (.cells us)
 len:us.length=rows.length
 gs:∀(v:Nat) u r,us[v]?=Z u->rows[v]?=Z r->GS 1 h u r.length (Bp r)
 nL:∀(v:Nat) u,us[v]?=Z u->blk u≠Z L
 TE:∀(v w:Nat) u u' b,v≠w->us[v]?=Z u->us[w]?=Z u'->blk u=Z b->blk u'≠Z b
 ap:∀(v:Nat) u,us[v]?=Z u->Z2 b0 u
 le:Le b0 h
 bL:b0.own L=Y
theorem Rows.up(R:Rows b0 h L us rows)(e:Le h h'):Rows b0 h' L us rows:=⟨e.own _ _ R.oL,R.len,fun v u r a b=>(R.gs v u r a b).le e,R.nL,R.TE,R.ap,R.le.trans e,R.bL⟩
theorem Rows.start(d:h.own L=Z (.cells (rP n (.slice Y 0 0))))(le:Le b0 h)(bL:b0.own L=Y):Rows b0 h L (rP n (.slice Y 0 0)) (rP n []):=by
 have c:∀(v:Nat) u,(rP n (vV.slice Y 0 0))[v]?=Z u->u=.slice Y 0 0:=fun v u a=>aiM (BS a);refine⟨d,Ma,fun v u r a e=>?_,fun v u a=>?_,fun v w u u' b _ a _ hb=>?_,fun v u a b hb=>?_,le,bL⟩
 .rw[c v u a,show r=[]from aiM (BS e)];exact .nil 1 _
 all_goals grind[blk]
theorem Rows.push(R:Rows b0 h L us rows)(p:WF h)(C:rows[w]?=Z r)(x:Int)(D:r.length<=100000):
  ∃u u' m j l,us[w]?=Z u/\h.alloc (.cells [x])=m/\aaR pG m 47 47 u (sL (Z h.next) 1 1)=Z (u',j)/\aaK pG j 47 (pT (Z ⟨L,w,Y⟩)) u'=Z l/\Le h m/\Le b0 j/\
   j.own L=Z (.cells us)/\Rows b0 l L (us.set w u') (rows.set w (r++[x]))/\WF l/\(∀b o,h.own b=Z o->b≠L->(∀(v:Nat) a,us[v]?=Z a->blk a≠Z b)->j.own b=Z o/\l.own b=Z o/\∀(v:Nat) a,(us.set w u')[v]?=Z a->blk a≠Z b):=by
 have f:w<us.length:=by grind[Rows.len]
 have i:=CA f;generalize us[w]=u at i;have g:=R.gs w u r i C;have⟨u',m,j,l,e4,E,F,H,o6,n6,I,l4,l5,l6,keep,d,s⟩:=grow p (G:=b0) (t:=47) (x:=x) Ji Mb Ji R.oL f g (yG _) rfl D (R.nL w u i) R.le R.bL (R.ap w u i);refine⟨u,u',m,j,l,i,e4,E,F,l4,l5,d _ _ R.oL (R.nL w u i),⟨o6,by simp[R.len],fun v a q ha c=>?_,fun v a ha=>?_,fun v v' a a' b y ha mi hb=>?_,fun v a ha=>?_,l6,R.bL⟩,s,fun b o hb z n=>⟨d b o hb (n w u i),(keep b o hb z (n w u i)).1,fun v a ha=>?_⟩⟩
 .rw[Tn]at ha c;by_cases e:w=v
  .grind[Bp]
  .rw[abE e]at ha c;refine(R.gs v a q ha c).kept fun b o hb A=>(keep b o A (fun B=>R.nL v a ha hGr) (fun B=>R.TE w v u a b e i ha B hb)).1
 .grind[Rows.nL]
 .rw[Tn]at ha mi;by_cases e:w=v
  .subst e;rw[abe rfl,abe f]at ha;injection ha with ha;subst ha;rw[abE y]at mi;intro sZ;have k:∃q,rows[v']?=Z q:=⟨_,CA (by grind[Rows.len])⟩;have⟨q,c⟩:=k;have⟨o,A⟩:=N8.1 ((R.gs v' a' q mi c).Sy sZ);grind[Rows.TE]
  .rw[abE e]at ha;by_cases e':w=v'
   .subst e';rw[abe rfl,abe f]at mi;injection mi with mi;subst mi;have k:∃q,rows[v]?=Z q:=⟨_,CA (by grind[Rows.len])⟩;have⟨q,c⟩:=k;have⟨o,A⟩:=N8.1 ((R.gs v a q ha c).Sy hb);grind[Rows.TE]
   grind[Rows.TE]
 all_goals grind[Rows.ap]
def isG(h:aai)(u:vV)(r:RZ):Prop:=GS 1 h u r.length (Bp r)
def RL.map{R R':aai->vV->α->Prop}{xs:List α}(r:RL R h v xs)(hR:∀u x,R h u x->R' h u x):RL R' h v xs:=by have⟨vs,q,a,b⟩:=r;exact⟨vs,q,a,fun i x u c d=>hR u x (b i x u c d)⟩
theorem isG.rl{u:vV}(g:isG h u r):RL RP h u r:=RL.Wh (GS.cs g).rs
theorem Rows.rlG(R:Rows b0 h L us rows)(a:us.length=n):RL isG h (sL (Z L) n c) rows:=⟨us,RS.whole R.oL a,R.len,fun i x u b d=>R.gs i u x d b⟩
theorem Rows.rl(R:Rows b0 h L us rows)(a:us.length=n):RL (RL RP) h (sL (Z L) n c) rows:=⟨us,RS.whole R.oL a,R.len,fun i x u b d=>RL.Wh (R.gs i u x d b).cs.rs⟩
def Xs(rows:AM)(p:Pr):AM:=
 let r1:=rows.set p.1.toNat ((rows.getD p.1.toNat [])++[p.2])
 r1.set p.2.toNat ((r1.getD p.2.toNat [])++[p.1])
def Zh(n:Nat)(es:xLP):AM:=es.foldl Xs (rP n [])
theorem pO(rows:AM)(p:Pr):(Xs rows p).length=rows.length:=by simp[Xs]
theorem Xq(n:Nat)(es:xLP):(Zh n es).length=n:=by
 have:∀(es:xLP)(rows:AM),(es.foldl Xs rows).length=rows.length:=by
  intro es
  induction es<;>grind[pO]
 grind[Zh.eq_1]
def NJ(n:Nat)(es:xLP)(p:Pr):Zh n (es++[p])=Xs (Zh n es) p:=by simp[Zh]
theorem bV(n:Nat)(es:xLP):∀r∈Zh n es,r.length<=2*es.length:=by
 have:∀(es:xLP)(rows:AM)(k:Nat),(∀r∈rows,r.length<=k)->∀r∈es.foldl Xs rows,r.length<=k+2*es.length:=by
  intro es
  induction es with
  |nil=>grind
  |cons p es c=>
   intro rows k h r a;rw[iU]at a;have b:∀(l:AM)(m:Nat),(∀r∈l,r.length<=m)->∀i,(l.getD i []).length<=m:=fun l m e i=>by grind
   have d:∀r∈rows.set p.1.toNat ((rows.getD p.1.toNat [])++[p.2]),r.length<=k+1:=fun r a=>by grind
   have h2:∀r∈Xs rows p,r.length<=k+2:=fun r a=>by
    rcases PN a with h'|rfl
    .grind
    .have:=b _ (k+1) d p.2.toNat;grind
   have:=c (Xs rows p) (k+2) h2 r a;simp;omega
 intro r a;have:=this es (rP n []) 0 (fun r a=>by grind) r a;omega
theorem Beside_g(W0:abw)(v:vV)(n:Nat)(es:xLP)(h:aai)(hg:GR h v ⟨(n:Int),es⟩)(hr:bX ⟨(n:Int),es⟩):AC pG W0 26 [v] h fun x h'=>RL isG h' x (Zh n es)/\Le h h':=by
 have az:=hg
 obtain⟨ev,rfl,hp⟩:=hg.open
 have bj:(n:Int)<=200:=hr.n1;have bk:es.length<=594:=hr.len;have y:∀p∈es,0<=p.1/\p.1<p.2/\p.2<(n:Int):=fun p aA=>by have⟨i,hi⟩:=vZ.1 aA;exact(hr.ok i (Ny.1 hi).1 p hi).1
 refine AC.vF ap3 ntmps26 results26 fun aB=>?_;obtain⟨h1,b1,A,bo,-,lA⟩:=r8 (n:=(n:Int)) aB hp
 generalize h.next=B at*
 have aC:=lA h1 (Le.refl _);have ll:=fun g=>hp.len g;simp only[HO,seval,b1,aC.1];refine TC.intro PJ ⟨UP,rfl,WY⟩ (ak W0 _ _ h1 (az.le A)) ?_;rintro x h2 C ⟨⟨bb,rfl,aD⟩,m⟩;obtain rfl:bb=tT:=aD.2 hr;have aE:=lA h2 m;have mk:=Ye (P:=pG) (t:=45) (z:=.slice Y 0 0) h2 qS6 rfl rfl rfl rfl Ji Mb Ji n NH;have⟨h3,e3,aF,br,o3⟩:=Tt C (rP n (.slice Y 0 0));rw[e3]at mk
 have nL:h2.own h2.next=Y:=(Le.refl h2).next C (qL0 _)
 generalize h2.next=L at*
 have fT:=lA h3 (m.trans aF);simp only[HO,seval,Ii,Di,Ip,Gc,aE.2.1,mk,fT.2.2,ll];have R0:Rows h2 h3 L (rP n (.slice Y 0 0)) (Zh n (es.take 0)):=by grind[Zh,Rows.start]
 refine aab.intro (fun k fr hh=>∃(i:Nat)(us:xLV),k=es.length-i/\i<=es.length/\fr=mkF [(3,sL (Z L) n n),(13,ev),(14,.int .i64 es.length),(15,i)]/\Rows h2 hh L us (Zh n (es.take i)))
  es.length [(3,sL (Z L) n n),(13,ev),(14,.int .i64 es.length),(15,(0:Nat))] hAs ⟨0,_,rfl,Z6 _,rfl,R0⟩ ?_
 rintro k fr hh D ⟨i,us,rfl,hi,rfl,R⟩;refine Uy ?_;refine Kl.intro (fun ht=>?_) (fun hf=>?_)
 rotate_left
 .have aH:es.length<=i:=vp hf;rw[HV aH]at R;refine Uy ?_;grind[Rows.rlG,Rows.len,Xq,Le.trans,Rows.le]
 have l:i<es.length:=acb ht;clear ht;have o:=CA l;have F:es.take (i+1)=es.take i++[es[i]]:=XJ l;generalize es[i]=p at o F;have⟨p1,p2,p3⟩:=y p (BS o);have aJ:=hp.le ((A.trans m).trans R.le);have ad:=hp.addr (k:=.i64) i l;have ld:=aJ.load o;have⟨bx,h4,e4,aK,aL,aN,G⟩:=Ut D p
 have aP:hh.own hh.next=Y:=(Le.refl hh).next D (qL0 _)
 have⟨a,c⟩:=p;simp only at p1 p2 p3;obtain⟨a,rfl⟩:=WA p1;obtain⟨c,rfl⟩:=WA (show 0<=c by omega);have R4:=R.up aL
 have aT:∀(v:Nat) u,us[v]?=Z u->blk u≠Z hh.next:=fun v u hu hb=>by have aV:∃q,(Zh n (es.take i))[v]?=Z q:=⟨_,CA (by grind[Rows.len])⟩;have⟨q,hq⟩:=aV;exact(R.gs v u q hu hq).Sy hb aP
 have H:hh.next≠L:=fun e=>by have:=R.oL;grind
 generalize hh.next=E at*
 simp only[HO,seval,ad,ld,e4,aK];have aW:=bV n (es.take i);have bz:(es.take i).length<=594:=hGr;have I:∀(k:IntKind)(j:Nat),j<n->aao pG 45 (sL (Z L) n n) (.int k j)=Z (pT (Z ⟨L,j,Y⟩)):=fun k j hj=>by rw[Wc qS6 Mb Ji j hj];simp[Ip]
 have J:a<(Zh n (es.take i)).length:=by grind[Xq]
 have K:=CA J;have M:(Zh n (es.take i)).getD a []=(Zh n (es.take i))[a]:=D4 J;have N:((Zh n (es.take i))[a]).length<=100000:=hGr;generalize (Zh n (es.take i))[a]=ra at K M N;have⟨u,u',h5,h6,h7,hu,e5,e6,e7,l5,l6,bA,R7,aX,keep⟩:=R4.push aN K (c:Int) N;have⟨d,b,O⟩:=keep _ _ G H aT;have Q:=lK G;have S:=HY G;have T:=lK (l5.own _ _ G);have U:=HY (l5.own _ _ G);have V:=lK d;have W:=HY d;have X:=lK b;have aa:=HY b;simp only at Q S T U V W X aa;have a6:aaC pG h4 47 ⟨L,a,Y⟩=Z u:=by rw[Fq Mb rfl R4.oL];exact hu
 have a7:aaC pG h5 47 ⟨L,a,Y⟩=Z u:=by rw[Fq Mb rfl (l5.own _ _ R4.oL)];exact hu
 have bs:aas pG h4 47 1 [(0,c)]=Z (sL (Z h4.next) 1 1,h5):=by rw[DQ,e5]
 refine gh (fRn 0 10 (JQ 10 [9] (JQ 11 [7,10] (tA [12] (JQ 13 [0,1,2,3,4,5,6,7,8,9,10,11,12] .done))))) ?_;simp only[HO,seval,Qg,Dh,Z0,Ip,Gc,Q,S,T,U,V,W,I _ a NH,a6,a7,bs,e6,e7];have bB:((Zh n (es.take i)).set a (ra++[(c:Int)])).length=n:=by simp[Xq]
 have r:c<((Zh n (es.take i)).set a (ra++[(c:Int)])).length:=NH;have ae:=CA r;have ag:((Zh n (es.take i)).set a (ra++[(c:Int)])).getD c []=((Zh n (es.take i)).set a (ra++[(c:Int)]))[c]:=D4 r;have ai:(((Zh n (es.take i)).set a (ra++[(c:Int)]))[c]).length<=100000:=by
  rcases PN (aaf r)with e|e
  .grind
  .rw[e];simp;grind
 generalize ((Zh n (es.take i)).set a (ra++[(c:Int)]))[c]=rc at ae ag ai;have⟨w,w',h8,h9,bF,hw,e8,e9,a8,l8,l9,bH,aj,bm,s⟩:=R7.push aX ae (a:Int) ai;obtain⟨f,al,-⟩:=s _ _ b H O;have aq:=lK (l8.own _ _ b);have ar:=HY (l8.own _ _ b);have av:=lK f;have ay:=HY f;simp only at aq ar av ay;have ba:aaC pG h7 47 ⟨L,c,Y⟩=Z w:=by rw[Fq Mb rfl R7.oL];exact hw
 have bg:aaC pG h8 47 ⟨L,c,Y⟩=Z w:=by rw[Fq Mb rfl (l8.own _ _ R7.oL)];exact hw
 have bh:aas pG h7 47 1 [(0,a)]=Z (sL (Z h7.next) 1 1,h8):=by rw[DQ,e8]
 refine gh (fRn 0 10 (JQ 10 [9] (JQ 11 [7,10] (tA [12] (JQ 13 [0,1,2,3,4,5,6,7,8,9,10,11,12] .done))))) ?_;simp only[HO,seval,Qg,Dh,Z0,Ip,Gc,X,aa,aq,ar,av,ay,I _ c NH,ba,bg,bh,e9,a8,aaa i NH];have:Xs (Zh n (es.take i)) ((a:Int),(c:Int))=((Zh n (es.take i)).set a (ra++[(c:Int)])).set c (rc++[(a:Int)]):=by simp only[Xs,yM,M,ag]
 rw[<-this,<-NJ,<-F]at aj;exact tn (es.length-(i+1)) [(3,sL (Z L) n n),(13,ev),(14,.int .i64 es.length),(15,(i+1:Nat))] NH hAs ⟨i+1,_,rfl,l,rfl,aj⟩
def oe(a:abw)(v:vV)(n:Nat)(es:xLP)(h:aai)(hg:GR h v ⟨(n:Int),es⟩)(b:bX ⟨(n:Int),es⟩):AC pG a 26 [v] h fun x h'=>RL (RL RP) h' x (Zh n es)/\Le h h':=(Beside_g a v n es h hg b).mono fun _ _ h=>⟨h.1.map fun _ _ g=>g.rl,h.2⟩
def aO(p:Pr)(v:Int):Bool:=decide (p.1=v)||decide (p.2=v)
def onE(ps:xLP)(v:Int):Bool:=ps.any fun p=>aO p v
def eqP(p q:Pr):aEq pG 37 (UI p) (UI q)=Z (decide (p=q)):=by
 have e:p=q↔p.1=q.1/\p.2=q.2:=Prod.ext_iff;simp only[aEq,qS7,Ac,UI,aa9,ts3];by_cases a:p.1=q.1
 .by_cases h2:p.2=q.2
  .simp[e,a,h2]
  .simp[e,a,h2]
 .simp[e,a]
def gfP(p:Pr):aci (UI p)=tT:=rfl
def abinP(p q:Pr):mM pG .eql 37 (UI p) (UI q)=Z (.bool (decide (p=q)))/\mM pG .neq 37 (UI p) (UI q)=Z (.bool (!decide (p=q))):=by
 have a:ae3 pG .eql 37 (UI p) (UI q)=match aEq pG 37 (UI p) (UI q)with|some b=>Z (.bool b)|none=>Y:=rfl
 have h2:ae3 pG .neq 37 (UI p) (UI q)=match aEq pG 37 (UI p) (UI q)with|some b=>Z (.bool (!b))|none=>Y:=rfl
 constructor
 .rw[mM,gfP,cond_true,a,eqP]
 .rw[mM,gfP,cond_true,h2,eqP]
def hasB(ps:xLP)(p:Pr):Bool:=ps.any fun q=>decide (q=p)
def anV(ps:xLP)(p:Pr):hasB ps p=tT↔p∈ps:=by simp[hasB]
theorem abn(u:abw)(v w:vV)(ps a:xLP)(h:aai)(n:PR h v ps)(hw:PR h w a)(A:ps.length<=100000):AC pG u 10 [v,w] h fun x h'=>x=.bool (decide (ps=a))/\h'=h:=by
 refine AC.vF YW ntmps10 results10 fun y=>?_;have o:=fun g=>n.len g;have lw:=fun g=>hw.len g;by_cases c:(ps.length:Int)=(a.length:Int)
 rotate_left
 .simp only[HO,seval,o,lw,bne,eq_false c];exact⟨by rw[Sb (fun e=>c (by rw[e]))],trivial⟩
 have c':ps.length=a.length:=NH;simp only[HO,seval,o,lw,bne,eq_true c];refine lIn (fun k fr hh=>∃i:Nat,k=ps.length-i/\i<=ps.length/\hh=h/\fr=mkF [(0,v),(1,w),(5,i)]/\ps.take i=a.take i) ⟨0,rfl,Z6 _,rfl,rfl,rfl⟩ ?_;rintro k fr hh-⟨i,rfl,hi,rfl,rfl,s⟩;refine Sk o ?_;refine Kl.intro (fun z=>?_) (fun hf=>?_)
 .have b:i<ps.length:=acb z;have f:=CA b;have j:=CA (show i<a.length by omega);have t1:ps.take (i+1)=ps.take i++[ps[i]]:=XJ b;have t:a.take (i+1)=a.take i++[a[i]'(by omega)]:=XJ NH
  generalize ps[i]=p at f t1;generalize a[i]'(by omega)=q at j t
  have ad:=n.addr (k:=.i64) i b;have ld:=n.load f;have l:=hw.addr (k:=.i64) i NH;have m:=hw.load j;have d:=(abinP p q).2;refine Uy ?_;refine gh (fRn 0 9 .done) ?_;cases hb:decide (p=q)with
  |true=>rw[hb]at d;have e:=ag1 hb;simp only[kS1,aer,aet,ab6,Zm,abr,aa6,acZ,aeb,aec,putDst,flat,kA,kB,Nat.reduceLT,↓reduceIte,kC,Nat.reduceEqDiff,aeZ,mM,aci,ae3,adY,aUn,acy,agk,G8,acD,acf,ad7,mkF,Yx,reduceCtorEq,kD,kE,kF,kG,kH,kI,kJ,kK,acW,abt,kD1,Nat.reduceBEq,abj,kL,kM,kN,kO,ad,ld,l,m,d,-mM,aaa i NH];exact lgA NH ⟨i+1,rfl,b,rfl,rfl,by rw[t1,t,s,e]⟩
  |false=>rw[hb]at d;have e:=of_decide_eq_false hb;simp only[kS1,aer,aet,ab6,Zm,abr,aa6,acZ,aeb,aec,putDst,flat,kA,kB,Nat.reduceLT,↓reduceIte,kC,Nat.reduceEqDiff,aeZ,mM,aci,ae3,adY,aUn,acy,agk,G8,acD,acf,ad7,mkF,Yx,reduceCtorEq,kD,kE,kF,kG,kH,kI,kJ,kK,acW,abt,kD1,Nat.reduceBEq,abj,kL,kM,kN,kO,ad,ld,l,m,d,-mM];exact by rw[Sb (fun e'=>e hGr)]
 .have r:ps.length<=i:=vp hf;rw[HV r,HV NH]at s;refine Uy ?_;grind
theorem anj(j:abw)(v w:vV)(G H:GM)(h:aai)(q:GR h v G)(hw:GR h w H)(r:G.es.length<=100000):AC pG j 13 [v,w] h fun x h'=>x=.bool (decide (G.n=H.n/\G.es=H.es))/\Le h h':=by
 have⟨k,gs⟩:=G;have⟨f,hs⟩:=H
 obtain⟨ev,rfl,l⟩:=q.open
 obtain⟨s,rfl,m⟩:=hw.open
 refine AC.vF func13 ntmps13 results13 fun g=>?_;obtain⟨t,o,a,i,-,u⟩:=r8 (n:=k) g l;obtain⟨h2,p,b,y,-,lB⟩:=r8 (n:=f) i (m.le a)
 generalize h.next=A at*
 generalize t.next=B at*
 have d:=u h2 b;have e:=lB h2 (Le.refl _);by_cases c:k=f
 .refine Sk (rk o p @Ii @Di @Ip.eq_1 @Gc d.2.1 e.2.1 d.2.2 e.2.2 (eq_true c)) ?_;refine kCi YW (abn j ev s gs hs h2 ((l.le a).le b) ((m.le a).le b) r) ?_;rintro x h3 z ⟨rfl,rfl⟩;refine Uy ?_;grind[Le.trans]
 .refine Sk (aoh o p @Ii @Di @Ip.eq_1 @Gc d.2.1 e.2.1 (eq_false c)) ?_;grind[Le.trans]
variable {L:RZ} {cl cl':Nat->Nat->Prop} {met:II} {on:Nat->Bool} {u v:Nat} {x:Int}
theorem cA(l:List α)(i j:Nat)(a d:α):(l.set i a).getD j d=if i=j/\i<l.length then a else l.getD j d:=hGr
def InR(n:Nat)(es:xLP):Prop:=∀p∈es,0<=p.1/\p.1<p.2/\p.2<(n:Int)
theorem bX.GD(b:bX ⟨(n:Int),es⟩):InR n es:=fun p a=>by have⟨i,hi⟩:=vZ.1 a;exact(b.ok i (Ny.1 hi).1 p hi).1
def Jp(es:xLP)(u w:Nat):Prop:=((u:Int),(w:Int))∈es\/((w:Int),(u:Int))∈es
theorem Jp.symm{es:xLP}{u w:Nat}(h:Jp es u w):Jp es w u:=Or.symm h
theorem Jp.lt(a:InR n es)(h:Jp es u w):u<n/\w<n:=by
 rcases h with h|h<;>have:=a _ h<;>simp only at this<;>omega
theorem bes_step(rows:AM)(p:Pr)(u:Nat)(x:Int)(a:p.1.toNat<rows.length)(h2:p.2.toNat<rows.length):
  x∈(Xs rows p).getD u []↔x∈rows.getD u []\/(p.1.toNat=u/\x=p.2)\/(p.2.toNat=u/\x=p.1):=by
 simp only[Xs,cA,Q9];grind
theorem FH(n:Nat):∀(es:xLP)(rows:AM),rows.length=n->InR n es->∀(u:Nat)(x:Int),x∈(es.foldl Xs rows).getD u []↔x∈rows.getD u []\/∃p∈es,(p.1.toNat=u/\x=p.2)\/(p.2.toNat=u/\x=p.1)
 |[],rows,_,_,u,x=>by simp
 |p::es,rows,c,a,u,x=>by have d:=a p Ma;rw[iU,FH n es _ (by grind[pO]) (fun q b=>a q (by simp[b])) u x,bes_step rows p u x NH NH];grind
theorem EW(d:InR n es)(u w:Nat):(w:Int)∈(Zh n es).getD u []↔Jp es u w:=by
 have c:(rP n ([]:RZ)).getD u []=[]:=hGr;rw[Zh,FH n es _ Ma d,c];simp only[ai4,false_or,Jp];constructor
 .rintro⟨⟨a,b⟩,e,⟨f,h2⟩|⟨f,h2⟩⟩
  .have:=d _ e;grind
  .have:=d _ e;grind
 grind
theorem Ru(b:InR n es)(c:x∈(Zh n es).getD u []):∃w:Nat,x=(w:Int)/\w<n:=by
 have a:(rP n ([]:RZ)).getD u []=[]:=hGr;rw[Zh,FH n es _ Ma b,a]at c;simp only[ai4,false_or]at c;obtain⟨p,d,⟨_,rfl⟩|⟨_,rfl⟩⟩:=c
 .have:=b _ d;exact⟨p.2.toNat,NH,NH⟩
 .have:=b _ d;exact⟨p.1.toNat,NH,NH⟩
inductive Cn (on:Nat->Bool) (es:xLP):Nat->Nat->Prop
 |refl {u:Nat}:on u=fF->Cn on es u u
 |step {u w x:Nat}:Cn on es u w->Jp es w x->on x=fF->Cn on es u x
theorem Cn.off1(h:Cn on es u w):on u=fF:=by
 induction h with
 |refl h=>exact h
 |step _ _ _ a=>exact a
theorem Cn.aom(h:Cn on es u w):on w=fF:=by
 cases h<;>grind
theorem Cn.trans{u w x:Nat}(h:Cn on es u w)(k:Cn on es w x):Cn on es u x:=by
 induction k with
 |refl _=>exact h
 |step _ a o b=>exact b.step a o
theorem Cn.symm{on:Nat->Bool}{es:xLP}{u w:Nat}(h:Cn on es u w):Cn on es w u:=by
 induction h with
 |refl h=>exact .refl h
 |step h a o b=>exact((Cn.refl o).step a.symm h.aom).trans b
structure TO (n:Nat) (on:Nat->Bool) (es:xLP) (v:Nat) (L:RZ):Prop where
 len:L.length=n
 val:∀(u:Nat) l,L[u]?=Z l->l=-1\/on u=fF/\∃k:Nat,k<v/\l=(k:Int)/\Cn on es k u
 qi:∀(u w:Nat) l,L[u]?=Z l->0<=l->Jp es u w->on w=fF->L[w]?=Z l
 low:∀u,u<v->u<n->on u=fF->L[u]?≠Z (-1)
structure TI (n:Nat) (on:Nat->Bool) (es:xLP) (v:Nat) (L:RZ) (met:II) (cl:Nat->Nat->Prop):Prop where
 len:L.length=n
 val:∀(u:Nat) l,L[u]?=Z l->l=-1\/on u=fF/\∃k:Nat,k<=v/\l=(k:Int)/\Cn on es k u
 qi:∀(u w:Nat) l,L[u]?=Z l->0<=l->l<(v:Int)->Jp es u w->on w=fF->L[w]?=Z l
 low:∀u,u<=v->u<n->on u=fF->L[u]?≠Z (-1)
 mm:∀u,u∈met↔L[u]?=Z (v:Int)
 nd:met.Nodup
 cl:∀u w,cl u w->L[w]?=Z (v:Int)
theorem TO.start(n:Nat)(on:Nat->Bool)(es:xLP):TO n on es 0 (rP n (-1)):=⟨Ma,fun u l h=>.inl (aiM (BS h)),fun u w l h a=>by grind,fun u h=>by omega⟩
theorem TO.skip(t:TO n on es v L)(h:on v=tT\/L[v]?≠Z (-1)):TO n on es (v+1) L:=⟨t.len,fun u l a=>(t.val u l a).imp id fun⟨b,k,h2,h3⟩=>⟨b,k,NH,h3⟩,t.qi,fun u c d e=>by grind[TO.low]⟩
theorem TO.begin(t:TO n on es v L)(j:v<n)(c:on v=fF)(k:L[v]?=Z (-1))(cl:Nat->Nat->Prop)(b:∀u w,¬cl u w):TI n on es v (L.set v (v:Int)) [v] cl:=by
 have d:v<L.length:=hGr;have f:∀u,u≠v->(L.set v (v:Int))[u]?=L[u]?:=fun u g=>by grind
 have heq:(L.set v (v:Int))[v]?=Z (v:Int):=hGr;refine⟨by simp[t.len],fun u l a=>?_,fun u w l a m o ha hw=>?_,fun u g p i=>?_,fun u=>?_,Ma,fun u w h=>absurd h (b u w)⟩
 .by_cases e:u=v
  .subst e;rw[heq]at a;injection a with a;exact .inr ⟨c,u,qL0 _,a.symm,.refl c⟩
  grind[TO.val]
 .grind[TO.qi]
 .grind[TO.low]
 grind[TO.val]
theorem TI.mono(t:TI n on es v L met cl)(h:∀u w,cl' u w->cl u w):TI n on es v L met cl':=⟨t.len,t.val,t.qi,t.low,t.mm,t.nd,fun u w k=>t.cl u w (h u w k)⟩
theorem TI.off(t:TI n on es v L met cl)(a:u∈met):on u=fF/\Cn on es v u:=by
 rcases t.val u _ ((t.mm u).1 a)with h|⟨h,k,_,h2,h3⟩
 all_goals grind
theorem TI.stay(t:TI n on es v L met cl)(f:u∈met)(ha:Jp es u w)(c:∃l,L[w]?=Z l/\l≠-1)(h:∀a b,cl' a b->cl a b\/b=w):TI n on es v L met cl':=by
 refine⟨t.len,t.val,t.qi,t.low,t.mm,t.nd,fun a b k=>?_⟩;rcases h a b k with h|rfl
 .exact t.cl a b h
 .obtain⟨l,d,g⟩:=c;rcases t.val _ _ d with h'|⟨i,k,j,rfl,_⟩
  .grind
  .by_cases e:k=v
   .grind
   .have:=t.qi b u (k:Int) d NH NH ha.symm (t.off f).1;grind[TI.mm]
theorem TI.push(t:TI n on es v L met cl)(g:u∈met)(ha:Jp es u w)(c:on w=fF)(f:L[w]?=Z (-1))(h:∀a b,cl' a b->cl a b\/b=w):
  TI n on es v (L.set w (v:Int)) (met++[w]) cl':=by
 have i:w<L.length:=(Ny.1 f).1;have j:∀x,x≠w->(L.set w (v:Int))[x]?=L[x]?:=fun x m=>by grind
 have heq:(L.set w (v:Int))[w]?=Z (v:Int):=hGr;have o:w∉met:=fun h=>by grind[TI.mm]
 refine⟨by simp[t.len],fun x l d=>?_,fun x y l d r s p z=>?_,fun x m A q=>?_,fun x=>?_,?_,fun a b k=>?_⟩
 .by_cases e:x=w
  .subst e;rw[heq]at d;injection d with d;exact .inr ⟨c,v,qL0 _,d.symm,(t.off g).2.step ha c⟩
  grind[TI.val]
 .grind[TI.qi]
 .grind[TI.low]
 .grind[TI.mm]
 .grind[TI.nd]
 .rcases h a b k with h|rfl
  .have:=t.cl a b h;grind
  .exact heq
theorem TI.finish(t:TI n on es v L met cl)(h:∀u w,u∈met->Jp es u w->on w=fF->cl u w):TO n on es (v+1) L:=by
 refine⟨t.len,fun u l a=>(t.val u l a).imp id fun⟨b,k,h2,h3⟩=>⟨b,k,NH,h3⟩,fun u w l a d ha hw=>?_,fun u f g c=>?_⟩
 .rcases t.val u l a with h'|⟨b,k,h2,rfl,_⟩
  .omega
  .by_cases e:k=v
   .subst e;exact t.cl u w (h u w ((t.mm u).2 a) ha hw)
   grind[TI.qi]
 grind[TI.low]
theorem TI.abP(t:TI n on es v L met cl):met.length<=n:=by
 have hs:met⊆rG n:=fun u a=>by have:=(Ny.1 ((t.mm u).1 a)).1;grind[TI.len]
 have:=t.nd.length_le_of_subset hs;grind
structure wx (n:Nat) (on:Nat->Bool) (es:xLP) (L:RZ):Prop where
 len:L.length=n
 off:∀u,u<n->on u=fF->∃k:Nat,k<n/\L[u]?=Z (k:Int)/\Cn on es k u
 same:∀u w,u<n->w<n->on u=fF->on w=fF->(L[u]?=L[w]?↔Cn on es u w)
theorem TO.done(d:InR n es)(t:TO n on es n L):wx n on es L:=by
 have off:∀u,u<n->on u=fF->∃k:Nat,k<n/\L[u]?=Z (k:Int)/\Cn on es k u:=fun u a f=>by grind[TO.len,TO.val,TO.low]
 refine⟨t.len,off,fun u w a hw g b=>⟨fun e=>?_,fun c=>?_⟩⟩
 .grind[Cn.symm,Cn.trans]
 .clear hw b
  induction c<;>grind[TO.qi]
end
end Go.Fw
