/- A text. -/
import Derived.Test.YtkccdnmaaelbiaaGreatFwLB1
set_option linter.all false
set_option maxRecDepth 99999
set_option maxHeartbeats 9999999
open Go.Proofs
namespace Go.Fw
section
attribute [local irreducible] Kp MQ lU rS KO KN KX KE VK Kl ZJ TC aab
variable {a b i n:Nat} {es web:List Pr} {h:aae} {p:Pr} {v:Value} {xs:List Bool}
def sJ(_:aae)(v:Value)(b:Bool):Prop:=v=.bool b
theorem Nn.sJ:Nn sJ:=fun _ _ _ _ h _=>h
def RL.ofBo(r:RS h v (xs.map Value.bool)):RL sJ h v xs:=⟨_,r,Ma,fun i x u b a=>by simp[b]at a;exact a.symm⟩
theorem RL.W7(r:RL sJ h v xs)(i:Nat)(hi:i<xs.length):acd Tryz.prog h 4 (abv v i)=some (.bool xs[i]):=by obtain⟨u,a,h2⟩:=r.load (P:=Tryz.prog) AV rfl i hi;rw[a];exact congrArg some h2
def RL.LB(r:RL sJ h v xs){k:IntKind}(i:Nat)(hi:i<xs.length):abX Tryz.prog 59 v (.int k i)=some (.pointer (some (abv v i))):=r.addr (P:=Tryz.prog) Uh AV Ji i hi
def ofM(es web:List Pr):List Bool:=es.map fun e=>decide (e∈web)
def onW(web:List Pr)(v:Nat):Prop:=∃e∈web,e.1=(v:Int)\/e.2=(v:Int)
instance (web:List Pr) (v:Nat):Decidable (onW web v):=inferInstanceAs (Decidable (∃e∈web,e.1=(v:Int)\/e.2=(v:Int)))
def Cb(n:Nat)(web:List Pr):List Bool:=(List.range n).map fun v=>decide (onW web v)
theorem ofM_push(a:D3 es)(hi:es[i]?=some p):ofM es (web++[p])=(ofM es web).set i true:=by apply mJ;intro j;rw[VU];grind[ofM,D3.uniq]
theorem onW_snoc(web:List Pr)(p:Pr)(v:Nat):onW (web++[p]) v↔onW web v\/(p.1=(v:Int)\/p.2=(v:Int)):=by simp only[onW,yM,jf];grind
theorem onM_push:Cb n (web++[((a:Int),(b:Int))])=((Cb n web).set a true).set b true:=by apply mJ;grind[Cb,onW_snoc]
def c8(es web:List Pr):(ofM es web).length=es.length:=by simp[ofM]
def Qe(n:Nat)(web:List Pr):(Cb n web).length=n:=by simp[Cb]
theorem ofM_nil(es:List Pr):ofM es []=List.replicate es.length false:=by
 apply qQ
 all_goals grind[ofM]
theorem onM_nil(n:Nat):Cb n []=List.replicate n false:=by
 apply qQ
 all_goals grind[Cb,onW]
structure CU (es web:List Pr):Prop where
 q9:∀(i:Nat) p q,web[i]?=some p->web[i+1]?=some q->Nz p q<0
 mem:∀p∈web,p∈es
structure New2 (h h':aae) (A B:Nat) (x y:List Value):Prop where
 le:Le h h'
 wf:WF h'
 oA:h'.own A=some (.cells x)
 oB:h'.own B=some (.cells y)
 nA:h.own A=none
 nB:h.own B=none
 ne:A≠B
def new2_a(hw:WF h)(x y:List Value):New2 h ((h.alloc (.cells x)).alloc (.cells y)) h.next (h.next+1) x y:=by
 have a:∀x,h.next<=x->h.own x=none:=fun x b=>(Le.refl h).next hw b
 exact⟨((Le.refl h).alloc hw _).alloc (hw.alloc _) _,(hw.alloc _).alloc _,by simp[Mh,om],by simp[Mh,om],a _ (qL0 _),a _ NH,NH⟩
def new2_b(hw:WF h)(x y:List Value):New2 h ((h.alloc (.cells y)).alloc (.cells x)) (h.next+1) h.next x y:=by
 have a:∀x,h.next<=x->h.own x=none:=fun x b=>(Le.refl h).next hw b
 exact⟨((Le.refl h).alloc hw _).alloc (hw.alloc _) _,(hw.alloc _).alloc _,by simp[Mh,om],by simp[Mh,om],a _ NH,a _ (qL0 _),NH⟩
def GR.open{n:Int}(r:GR h v ⟨n,es⟩):∃ev,v=.agg #[.int .i64 n,ev]/\PR h ev es:=r.ex
theorem j5(W0:LA)(v r:Value)(G:GM)(web:List Pr)(h:aae)(hg:GR h v G)(hw:PR h r web)(hr:bX G)(hn:web.length<=1000):
  AC Tryz.prog W0 134 [v,r] h fun x h'=>(∃ov s b,x=.tuple #[ov,s,.bool b]/\(s.cells=#[s]/\s.oneCell'=true)/\(b=true↔CU G.es web)/\(b=true->RL sJ h' ov (ofM G.es web)/\RL sJ h' s (Cb G.n.toNat web)))/\Le h h':=by
 obtain⟨gn,es⟩:=G;have h0:0<=gn:=hr.n0;obtain⟨n,rfl⟩:=Z6 h0
 obtain⟨ev,rfl,hp⟩:=hg.open
 have b0:(n:Int)<=200:=hr.n1;have b2:es.length<=594:=hr.len;have T:D3 es:=hr.q9;have av:∀p∈es,0<=p.1/\p.1<p.2/\p.2<(n:Int):=fun p L=>by obtain⟨i,hi⟩:=qy.1 L;exact(hr.ok i (Ny.1 hi).1 p hi).1
 show AC Tryz.prog W0 134 [.agg #[.int .i64 (n:Int),ev],r] h fun x h'=>(∃ov s b,x=.tuple #[ov,s,.bool b]/\(s.cells=#[s]/\s.oneCell'=true)/\(b=true↔CU es web)/\(b=true->RL sJ h' ov (ofM es web)/\RL sJ h' s (Cb n web)))/\Le h h';refine AC.vE ⟨Tryz.func134,rfl,WY⟩ Tryz.ntmps134 Tryz.results134 fun bg=>?_;simp only[Br,seval];obtain⟨U,b1,u,o,-,lA⟩:=r8 (n:=(n:Int)) bg hp
 generalize h.next=B at*
 have ll:=fun g=>hp.len g;have ay:=lA U (Le.refl _);have bh:=fun g:aae=>Ye (P:=Tryz.prog) (t:=59) (z:=.bool false) g Uh rfl rfl rfl rfl Ji AV Ji es.length NH;have bj:=fun g:aae=>Ye (P:=Tryz.prog) (t:=59) (z:=.bool false) g Uh rfl rfl rfl rfl Ji AV Ji n NH;refine Sk b1 ?_;have ae:List.replicate es.length (Value.bool false)=(ofM es []).map Value.bool:=by rw[ofM_nil];simp
 have ag:List.replicate n (Value.bool false)=(Cb n []).map Value.bool:=by rw[onM_nil];simp
 apply Ya (F:=fun(fr:aap)(h':aae)=>∃A C,Fj fr [(1,r),(2,.pointer (some ⟨B,0,none⟩)),(7,.slice (some ⟨A,0,none⟩) es.length es.length),(8,.slice (some ⟨C,0,none⟩) n n)]/\New2 U h' A C (List.replicate es.length (Value.bool false)) (List.replicate n (Value.bool false)))
 .intro cont;have X1:=lA ((U.alloc (.cells (List.replicate es.length (.bool false))))) ((Le.refl U).alloc o _);have X2:=lA ((U.alloc (.cells (List.replicate n (.bool false))))) ((Le.refl U).alloc o _);have X3:=lA _ (new2_a o (List.replicate es.length (.bool false)) (List.replicate n (.bool false))).le;have X4:=lA _ (new2_b o (List.replicate es.length (.bool false)) (List.replicate n (.bool false))).le;refine gh (tA [0,1,2,4,5] (.ch 3 [2] (tA [7] (JQ 6 [5] (tA [8] .done))) (JQ 6 [5] (JQ 3 [2] (tA [7,8] .done))))) ?_;simp only[qj,seval,Qg,Ii,Di,Ip,Gc,ay.2.1,ay.2.2,ll,bh,bj,om,X1.2.1,X1.2.2,X2.2.1,X2.2.2,X3.2.1,X3.2.2,X4.2.1,X4.2.2];refine⟨?_,?_⟩
  .refine KN.UJ fun fr' h' e1 e2=>cont fr' h' ?_;subst e1 e2;exact⟨_,_,hAs,new2_a o _ _⟩
  .refine KN.UJ fun fr' h' e1 e2=>cont fr' h' ?_;subst e1 e2;exact⟨_,_,hAs,new2_b o _ _⟩
 rintro fr h2 ⟨A,C,w,N⟩;simp only[Fj]at w;obtain⟨f1,f2,f7,f8,-⟩:=w;have lw:=fun g=>hw.len g;simp only[HO,seval,f1,lw];have az:=N.oA;have aB:=N.oB;rw[ae]at az;rw[ag]at aB;have nA:=N.nA;have nC:=N.nB;have b3:=N.ne;refine aab.intro (fun k fr hh=>∃i:Nat,k=web.length-i/\i<=web.length/\fr=mkF [(1,r),(2,.pointer (some ⟨B,0,none⟩)),(7,.slice (some ⟨A,0,none⟩) es.length es.length),(8,.slice (some ⟨C,0,none⟩) n n),(20,r),(21,.int .i64 web.length),(22,.int .i64 i)]/\
   hh.own A=some (.cells ((ofM es (web.take i)).map Value.bool))/\hh.own C=some (.cells ((Cb n (web.take i)).map Value.bool))/\Le U hh/\(∀(j:Nat) p,j<i->web[j]?=some p->p∈es)/\∀(j:Nat) p q,j+1<i->web[j]?=some p->web[j+1]?=some q->Nz p q<0)
  web.length [(1,r),(2,.pointer (some ⟨B,0,none⟩)),(7,.slice (some ⟨A,0,none⟩) es.length es.length),(8,.slice (some ⟨C,0,none⟩) n n),(20,r),(21,.int .i64 web.length),(22,.int .i64 (0:Nat))] (by simp only[Fj,HO,seval,f1,f2,f7,f8];simp)
  ⟨0,rfl,WA _,rfl,az,aB,N.le,NH,NH⟩ ?_
 rintro k fr hh aC ⟨i,rfl,hi,rfl,oA,oC,M,b4,aj⟩;refine Uy ?_;refine Kl.intro (fun ht=>?_) (fun hf=>?_)
 rotate_left
 .have bk:web.length<=i:=vp hf;rw[HV bk]at oA oC;refine Uy ?_;refine⟨⟨_,_,true,rfl,⟨rfl,rfl⟩,⟨fun _=>⟨fun j p q b5 m=>?_,fun p L=>?_⟩,fun _=>rfl⟩,fun _=>⟨RL.ofBo (RS.whole oA (by simp[c8])),RL.ofBo (RS.whole oC (by simp[Qe]))⟩⟩,u.trans M⟩
  .grind
  grind[List.mem_iff_getElem?]
 have O:i<web.length:=CC ht;clear ht;have Q:=CA O;have al:web.take (i+1)=web.take i++[web[i]]:=EL O;generalize web[i]=p at Q al;have D:=hw.le (u.trans M);have ad:=hw.addr (k:=.i64) i O;have ld:=D.load Q;obtain⟨b6,h3,e2,e3,H,bm,d⟩:=Ut aC p;have aD:=H.own _ _ oA;have aE:=H.own _ _ oC;have V:=M.trans H
 have nE:U.own hh.next=none:=M.none ((Le.refl hh).next aC (qL0 _))
 generalize hh.next=E at*
 simp only[HO,seval,ad,ld,e2,e3];have aF:(∃(j:Nat)(a b:Pr),web[j]?=some a/\web[j+1]?=some b/\¬Nz a b<0)->¬CU es web:=fun⟨j,a,b,x,y,z⟩ q=>z (q.q9 j a b x y);apply Ya (F:=fun(fr:aap)(h4:aae)=>Fj fr [(1,r),(2,.pointer (some ⟨B,0,none⟩)),(7,.slice (some ⟨A,0,none⟩) es.length es.length),(8,.slice (some ⟨C,0,none⟩) n n),(10,.pointer (some ⟨E,0,none⟩)),(20,r),(21,.int .i64 web.length),(22,.int .i64 i),(38,.bool false)]/\Le h3 h4/\WF h4/\∀q,0<i->web[i-1]?=some q->Nz q p<0)
 .intro cont;by_cases i0:i=0
  .have z:((0:Int)<(i:Int))=False:=eq_false NH;refine gh (tA [0,1,2,3,4,5,6,7,8] (JQ 9 [2,7,8] (tA [10,11] .done))) ?_;simp only[qj,seval,Qg,gt_iff_lt,z];exact KN.UJ fun fr' h' x y=>cont fr' h' (by subst x y;exact⟨hAs,Le.refl _,bm,fun q h=>by omega⟩)
  .have z:((0:Int)<(i:Int))=True:=eq_true NH;have I:=CA (show i-1<web.length by omega);generalize web[i-1]'(by omega)=q at I
   have J:adA .i64 ((i:Int)-1)=((i-1:Nat):Int):=by rw[cT _ NH NH];omega
   have aq:=hw.addr (k:=.i64) (i-1) NH;have bo:=(D.le H).load I;have LP:=uM d;refine gh (tA [0,1,2,3,4,5,6,7,8] (JQ 9 [2,7,8] (tA [10,11] .done))) ?_;refine CO (bG @gt_iff_lt.{0} z J aq bo LP) ?_
   refine kGi Tryz.func167 (yu W0 q p h3) ?_;rintro x h4 aH ⟨rfl,f⟩;have R:=uM (f.own _ _ d);have W:=((D.le H).le f).load I;by_cases d3:Nz q p>=0
   .refine CO (bG z J aq W R d3) ?_;refine⟨⟨_,_,false,rfl,⟨rfl,rfl⟩,⟨fun e=>(by cases e),fun e=>absurd e (aF ⟨i-1,q,p,I,by rw[show i-1+1=i by omega];exact Q,NH⟩)⟩,fun e=>by cases e⟩,((u.trans V).trans f)⟩
   .simp only[qj,seval,Qg,z,J,aq,W,R,d3];exact KN.UJ fun fr' h' x y=>cont fr' h' (by subst x y;exact⟨hAs,f,aH,fun q' _ m=>by rw[I]at m;injection m with m;subst m;omega⟩)
 rintro fr h4 ⟨w,f,aH,br⟩;simp only[Fj]at w;obtain⟨g1,g2,g7,g8,aJ,aK,aP,bx,bB,-⟩:=w;have K:=V.trans f;have bF:=lA h4 K;have R:=uM (f.own _ _ d);refine Sk (acL bB g2 aJ @Di @Ip.eq_1 @Gc bF.2.2 R) ?_;refine kCi Tryz.func70 (xm W0 167 Tryz.f167 _ ⟨Tryz.func167,rfl,WY⟩ (fun p q h=>yu W0 p q h) ev es p h4 (hp.le (u.trans K)) NH T) ?_;rintro x h5 b8 ⟨⟨l,b,rfl,bH,bI⟩,S⟩;have X:=K.trans S;cases b with
 |false=>refine Uy ?_;exact⟨⟨_,_,false,rfl,⟨rfl,rfl⟩,⟨fun e=>(by cases e),fun q=>absurd (q.mem p (BS Q)) (bI rfl)⟩,fun e=>by cases e⟩,u.trans X⟩
 |true=>
 have ar:=bH rfl;have L:=BS ar;obtain⟨p1,p2,p3⟩:=av p L;obtain⟨a,c⟩:=p;simp only at p1 p2 p3;obtain⟨a,rfl⟩:=Z6 p1;obtain⟨c,rfl⟩:=Z6 (show 0<=c by omega);have aa:=(Ny.1 ar).1;have bN:=S.own _ _ (f.own _ _ aD);have b9:=S.own _ _ (f.own _ _ aE);have aT:=S.own _ _ (f.own _ _ d);have cc:A≠E:=fun e=>by subst e;rw[aD]at d;injection d with d;injection d with d;cases hx:(ofM es (web.take i))with|nil=>rw[hx]at d;cases d|cons y ys=>rw[hx]at d;injection d with d _;cases d
 have cd:C≠E:=fun e=>by subst e;rw[aE]at d;injection d with d;injection d with d;cases hx:(Cb n (web.take i))with|nil=>rw[hx]at d;cases d|cons y ys=>rw[hx]at d;injection d with d _;cases d
 have bQ:∀k:IntKind,abX Tryz.prog 59 (.slice (some ⟨A,0,none⟩) es.length es.length) (.int k l)=some (.pointer (some ⟨A,l,none⟩)):=fun k=>by rw[Wc Uh AV Ji l aa];simp[Ip]
 have aV:∀(k:IntKind)(j:Nat),j<n->abX Tryz.prog 59 (.slice (some ⟨C,0,none⟩) n n) (.int k j)=some (.pointer (some ⟨C,j,none⟩)):=fun k j hj=>by rw[Wc Uh AV Ji j hj];simp[Ip]
 have st1:=QB (P:=Tryz.prog) (t:=4) (x:=.bool true) AV Ji bN (off:=l) (by simp[c8,aa]) rfl rfl;have bT:(h5.put A (.cells (((ofM es (web.take i)).map Value.bool).set l (.bool true)))).own C=some (.cells ((Cb n (web.take i)).map Value.bool)):=by grind[aae.By]
 have aW:(h5.put A (.cells (((ofM es (web.take i)).map Value.bool).set l (.bool true)))).own E=some (.cells (xM ((a:Int),(c:Int)))):=by grind[aae.By]
 have cf:(h5.put A (.cells (((ofM es (web.take i)).map Value.bool).set l (.bool true)))).own A=some (.cells ((ofM es (web.take (i+1))).map Value.bool)):=by rw[aae.Y3,al,ofM_push T ar,adH]
 have bW:=X.put (.cells (((ofM es (web.take i)).map Value.bool).set l (.bool true))) nA;generalize h5.put A (.cells (((ofM es (web.take i)).map Value.bool).set l (.bool true)))=h6 at*;have st2:=QB (P:=Tryz.prog) (t:=4) (x:=.bool true) AV Ji bT (off:=a) (by simp[Qe];omega) rfl rfl;have bY:(h6.put C (.cells (((Cb n (web.take i)).map Value.bool).set a (.bool true)))).own C=some (.cells (((Cb n (web.take i)).map Value.bool).set a (.bool true))):=aae.Y3 _ _ _;have aX:(h6.put C (.cells (((Cb n (web.take i)).map Value.bool).set a (.bool true)))).own E=some (.cells (xM ((a:Int),(c:Int)))):=by grind[aae.By]
 have cg:(h6.put C (.cells (((Cb n (web.take i)).map Value.bool).set a (.bool true)))).own A=some (.cells ((ofM es (web.take (i+1))).map Value.bool)):=by grind[aae.By]
 have bZ:=bW.put (.cells (((Cb n (web.take i)).map Value.bool).set a (.bool true))) nC;generalize h6.put C (.cells (((Cb n (web.take i)).map Value.bool).set a (.bool true)))=h7 at*;have st3:=QB (P:=Tryz.prog) (t:=4) (x:=.bool true) AV Ji bY (off:=c) (by simp[Qe];omega) rfl rfl;have a1:=lK aT;have a6:=HY aT;have a7:=lK aW;have a8:=HY aW;have ba:=lK aX;have bb:=HY aX;simp only at a1 a6 a7 a8 ba bb;refine Uy ?_;refine gh (tA [0,1,2,3,4,5,6,7,8] (JQ 9 [0,1,8] (tA [10] (JQ 11 [0,1,2,3,4,8,9,10] (tA [12] (JQ 13 [0,1,2,3,4,5,6,7,8,9,10,11,12] .done)))))) ?_;simp only[HO,seval,Qg,g1,g2,g7,g8,aJ,aK,aP,bx,Dh,Z0,Ip,Gc,a1,a6,a7,a8,ba,bb,bQ,aV _ a NH,aV _ c NH,st1,st2,st3,Tw i NH];refine tn (web.length-(i+1)) [(1,r),(2,.pointer (some ⟨B,0,none⟩)),(7,.slice (some ⟨A,0,none⟩) es.length es.length),(8,.slice (some ⟨C,0,none⟩) n n),(20,r),(21,.int .i64 web.length),(22,.int .i64 (i+1:Nat))] NH (by simp only[Fj,HO,seval,g1,g2,g7,g8,aK,aP];simp)
  ⟨i+1,rfl,O,rfl,by grind[aae.By],by rw[aae.Y3,al,onM_push];simp[adH],bZ.put _ nC,fun j q hj hq=>?_,fun j q q' hj hq m=>?_⟩
 .grind
 .by_cases e:j+1=i
  .have:web[i-1]?=some q:=by rw[<-e];grind
   grind
  .exact aj j q q' NH hq m
variable {α:Type}
def fG:∀n:Nat,n<=300->IntKind.u64.wrap ((BitVec.ofInt IntKind.u64.bits (n:Int) &&& BitVec.ofInt IntKind.u64.bits 4294967295).toNat:Nat)=(n:Int):=by
 intro n a;have:∀k:Fin 301,IntKind.u64.wrap ((BitVec.ofInt IntKind.u64.bits ((k:Nat):Int) &&& BitVec.ofInt IntKind.u64.bits 4294967295).toNat:Nat)=((k:Nat):Int):=by decide+kernel
 exact this ⟨n,NH⟩
theorem KR(n:Nat)(a:n<=300):ahd .shr .u64 (n:Int) 32=some (.int .u64 0):=by simp[ahd,IntKind.bits];grind
theorem sS(n:Nat)(a:n<=300):adA .u64 (n:Int)=n:=by grind[adA]
theorem Ld(b:LA)(n:Nat)(a:n<=300)(h:aae):AC Tryz.prog b 170 [.int .u64 1,.int .u64 n] h fun x h'=>x=.tuple #[.int .u64 0,.int .u64 n]/\h'=h:=by
 refine AC.vE ⟨Tryz.func170,rfl,WY⟩ Tryz.ntmps170 Tryz.results170 fun c=>?_;simp only[Br,seval];have d:IntKind.u64.wrap ((BitVec.ofInt IntKind.u64.bits 1 &&& BitVec.ofInt IntKind.u64.bits 4294967295).toNat:Nat)=1:=fG 1 WY;have e:ahd .shr .u64 1 32=some (.int .u64 0):=KR 1 WY;have f:IntKind.u64.wrap ((BitVec.ofInt IntKind.u64.bits 0 &&& BitVec.ofInt IntKind.u64.bits 4294967295).toNat:Nat)=0:=fG 0 WY;have g:ahd .shr .u64 0 32=some (.int .u64 0):=KR 0 WY;have i:=fG n a;have j:=KR n a;have k:adA .u64 0=0:=by decide
 have l:=sS n a;refine Sk (Da d e f g i j k l @Int.mul_one @Int.one_mul @Int.mul_zero @Int.zero_mul @Int.add_zero @Int.zero_add) ?_;grind
theorem Mul_any(a:LA)(n:Nat)(b:n<=300)(h:aae):AC Tryz.prog a 144 [.int .u64 1,.int .u64 n] h fun x h'=>x=.tuple #[.int .u64 0,.int .u64 n]/\h'=h:=by refine AC.vE ⟨Tryz.func144,rfl,WY⟩ Tryz.ntmps144 Tryz.results144 fun c=>?_;simp only[Br,seval];refine Uy ?_;refine kCi Tryz.func170 (Ld a n b h) ?_;rintro v h'-⟨rfl,rfl⟩;refine Uy ?_;grind
theorem rep_grow(a b:α)(i n m:Nat)(c:min i (n-i)=m):List.take i (List.replicate i a++List.replicate (n-i) b)++List.take (m*1) (List.replicate i a)++List.drop (i+m*1) (List.replicate i a++List.replicate (n-i) b)=List.replicate (i+m) a++List.replicate (n-(i+m)) b:=by
 have d:List.take i (List.replicate i a++List.replicate (n-i) b)=List.replicate i a:=pw;have e:List.take (m*1) (List.replicate i a)=List.replicate m a:=pw;have f:List.drop (i+m*1) (List.replicate i a++List.replicate (n-i) b)=List.replicate (n-(i+m)) b:=by rw[af3,List.drop_append,List.drop_replicate,List.drop_replicate];simp;omega
 grind[List.replicate_append_replicate]
theorem rN(y:LA)(l:Value)(n:Nat)(p:n<=300)(h:aae)(q:RL RP h l [-1]):AC Tryz.prog y 104 [l,.int .i64 n] h fun v h'=>∃id,v=.slice (some ⟨id,0,none⟩) n n/\h.next<=id/\h'.own id=some (.cells (List.replicate n (.int .i64 (-1))))/\Le h h':=by
 refine AC.vE ⟨NQ,rfl,WY⟩ Tryz.ntmps104 Tryz.results104 fun d=>?_;simp only[Br,seval];have A:¬((n:Int)<0):=NH;have B:ahz Tryz.prog h 49 l=some (.int .i64 (1:Int)):=q.DH h;have w1:adA .u64 1=1:=by decide
 simp only[HO,seval,A,B,ahg,Ac,qS16,sS n p,w1];refine kCi Tryz.func144 (Mul_any y n p h) ?_;rintro v h'-⟨rfl,rfl⟩;have C:¬((0:Int)<(0:Int)):=by decide
 have D:¬((9223372036854775807:Int)<(n:Int)):=NH;have mk:=Ye (P:=Tryz.prog) (t:=49) h' Mb rfl rfl rfl rfl Ji Ac Ji n NH;simp only[HO,seval,C,D,ahg,Ac,qS16,ie n NH NH,mk]
 have f:(h'.alloc (.cells (List.replicate n (.int .i64 0)))).own h'.next=some (.cells (List.replicate n (.int .i64 0))):=aae.zT _ _
 have hle:Le h' (h'.alloc (.cells (List.replicate n (.int .i64 0)))):=(Le.refl _).alloc d _
 have g:h'.own h'.next=none:=(Le.refl h').next d (qL0 _)
 generalize h'.alloc (.cells (List.replicate n (.int .i64 0)))=z at*
 have c:∃m h2,aiW Tryz.prog z 49 (.slice (some ⟨h'.next,0,none⟩) n n) l=some (.int .i64 (m:Nat),h2)/\(n=0/\m=0\/1<=m/\m<=n)/\h2.own h'.next=some (.cells (List.replicate m (.int .i64 (-1))++List.replicate (n-m) (.int .i64 0)))/\Le h' h2:=by
  by_cases E:n=0
  .subst E;exact⟨0,z,zv Mb Ac WY q.sl Ma,.inl ⟨rfl,rfl⟩,by simpa using f,hle⟩
  .obtain⟨vs,F,hlen,hg⟩:=q;have r:vs=[.int .i64 (-1)]:=by
    match vs,hlen with
    |[x],_=>rw[hg 0 (-1) x rfl rfl]
   subst r;refine⟨1,_,IQ (k:=1) Mb Ac rfl f (F.le hle).cs (by rfl) 1 (by simp;omega) WY (by simp;omega),.inr ⟨NH,NH⟩,?_,hle.put _ g⟩;grind[aae.Y3]
 obtain⟨m,h2,G,H,s,j⟩:=c;refine Sk G ?_
 refine lIn (fun k fr hh=>∃i:Nat,k=n-i/\(n=0/\i=0\/1<=i/\i<=n)/\fr=mkF [(7,.slice (some ⟨h'.next,0,none⟩) n n),(8,.int .i64 i)]/\hh.own h'.next=some (.cells (List.replicate i (.int .i64 (-1))++List.replicate (n-i) (.int .i64 0)))/\Le h' hh) ⟨m,rfl,H,rfl,s,j⟩ ?_
 rintro k fr hh-⟨i,rfl,hi,rfl,f,hle⟩
 simp only[HO,seval,show ahz Tryz.prog hh 49 (.slice (some ⟨h'.next,0,none⟩) n n)=some (.int .i64 n)from rfl]
 refine Kl.intro (fun I=>?_) (fun hf=>?_)
 .have u:i<n:=CC I;refine Uy ?_;refine gh (tA [0,1,2,3,4,5,6] (JQ 7 [3,6] (tA [8] (JQ 9 [0,1,2,3,4,5,6,7,8] .done)))) ?_;have b:n<UNK:=acP p WY
  have s1:=yj (P:=Tryz.prog) (t:=49) (a:=some ⟨h'.next,0,none⟩) (n:=n) (cap:=n) (k:=.i64) Mb Ac rfl i NH (.inr u) (qL0 _) b
  have s2:=pn (P:=Tryz.prog) (t:=49) (a:=⟨h'.next,0,none⟩) (n:=n) (cap:=n) (k:=.i64) Mb Ac i NH (qL0 _) b
  simp only[ai3,Ip,Gc]at s1
  have o:CS 1 hh (.slice (some ⟨h'.next,0,none⟩) i n) i (List.replicate i (.int .i64 (-1))):=by have:=CS.own (k:=1) (off:=0) (n:=i) (cap:=n) f Ma;grind
  have w:=IQ (P:=Tryz.prog) (t:=49) (k:=1) (n:=i) (off:=i) (dl:=n-i) (dc:=n-i) (e:=3) Mb Ac rfl f o (all_rep rfl i) (min i (n-i)) rfl NH (by simp;omega);refine CO (xU s1 s2 w (ie ((i:Int)+((min i (n-i):Nat):Int)) NH NH)) ?_;refine lgA NH ⟨i+min i (n-i),rfl,NH,rfl,?_,hle.put _ g⟩;grind[aae.Y3,rep_grow]
 .have J:n<=i:=vp hf;have:i=n:=NH;subst this;refine Uy ?_;grind
variable {L R c q t w:Nat} {P:Program} {b0 h':aae} {r:RZ} {rows:AM} {us:List Value}
def Bp(l:RZ):List Value:=l.map (Value.int .i64)
theorem uE(l:RZ):(Bp l).length=l.length:=by simp[Bp]
def yG(l:RZ):(Bp l).all (·.oneCell')=true:=by simp[Bp];intros;rfl
def DQ(h:aae)(x:Int):abB Tryz.prog h 49 1 [(0,.int .i64 x)]=some (.slice (some ⟨h.next,0,none⟩) 1 1,h.alloc (.cells [.int .i64 x])):=rfl
theorem xr{t xt:TypeId}{v x v':Value}(hw:WF h)(e:adg P h t xt v x=some (v',h')):WF h':=by
 unfold adg at e;split at e
 .grind[WF.kill,WF.alloc,WF.put,WF.lt]
 .cases e
theorem grow(m:WF h){G:aae}{us cells:List Value}{cu x:Value}{d:TypeDesc}(v:apT Tryz.prog t t 1=true)(y:Tryz.prog.underlying t=some d)(n:UA Tryz.prog t=1)(oR:h.own R=some (.cells us))(hw:w<us.length)(g:GS 1 h cu q cells)(z:cells.all (·.oneCell')=true)(A:x.oneCell'=true)(I:q<=100000)(B:blk cu≠some R)(le:Le G h)(C:G.own R=none)(ap:Z2 G cu):
  ∃a k f j,h.alloc (.cells [x])=k/\adg Tryz.prog k t t cu (.slice (some ⟨h.next,0,none⟩) 1 1)=some (a,f)/\acs Tryz.prog f t (.pointer (some ⟨R,w,none⟩)) a=some j/\GS 1 j a (q+1) (cells++[x])/\
   j.own R=some (.cells (us.set w a))/\blk a≠some R/\Z2 G a/\Le h k/\Le G f/\Le G j/\(∀b o,h.own b=some o->b≠R->blk cu≠some b->j.own b=some o/\blk a≠some b)/\(∀b o,h.own b=some o->blk cu≠some b->f.own b=some o)/\WF j:=by
 obtain⟨k,D,c,e,E⟩:=Tt m [x];obtain⟨a,f,p,r,hf⟩:=(g.le c).push (P:=Tryz.prog) (t:=t) v E z A NH;obtain⟨s,u⟩:=aG hf e (c.own _ _ oR) B;obtain⟨l5,F⟩:=hf G e (le.trans c) ap;have l:WF f:=xr e p;have sl:=r.cs.sl;have st:=QB (P:=Tryz.prog) (t:=t) (x:=a) y n s (off:=w) hw (by obtain⟨_,_,rfl,_⟩:=sl;rfl) sl.one;refine⟨a,k,f,_,D,p,st,r.put _ u,aae.Y3 _ _ _,u,F,c,l5,l5.put _ C,fun b o hb H i=>?_,fun b o hb i=>(aG hf e (c.own _ _ hb) i).1,l.put _ (l.lt s)⟩;obtain⟨r1,r2⟩:=aG hf e (c.own _ _ hb) i;grind[aae.By]
structure Rows (b0 h:aae) (L:Nat) (us:List Value) (rows:AM):Prop where
 oL:h.own L=some (.cells us)
 len:us.length=rows.length
 gs:∀(v:Nat) u r,us[v]?=some u->rows[v]?=some r->GS 1 h u r.length (Bp r)
 nL:∀(v:Nat) u,us[v]?=some u->blk u≠some L
 TE:∀(v w:Nat) u u' b,v≠w->us[v]?=some u->us[w]?=some u'->blk u=some b->blk u'≠some b
 ap:∀(v:Nat) u,us[v]?=some u->Z2 b0 u
 le:Le b0 h
 bL:b0.own L=none
theorem Rows.up(R:Rows b0 h L us rows)(e:Le h h'):Rows b0 h' L us rows:=⟨e.own _ _ R.oL,R.len,fun v u r a b=>(R.gs v u r a b).le e,R.nL,R.TE,R.ap,R.le.trans e,R.bL⟩
theorem Rows.start(d:h.own L=some (.cells (List.replicate n (.slice none 0 0))))(le:Le b0 h)(bL:b0.own L=none):Rows b0 h L (List.replicate n (.slice none 0 0)) (List.replicate n []):=by
 have c:∀(v:Nat) u,(List.replicate n (Value.slice none 0 0))[v]?=some u->u=.slice none 0 0:=fun v u a=>IK (BS a);refine⟨d,Ma,fun v u r a e=>?_,fun v u a=>?_,fun v w u u' b _ a _ hb=>?_,fun v u a b hb=>?_,le,bL⟩
 .rw[c v u a,show r=[]from IK (BS e)];exact .nil 1 _
 all_goals grind[blk]
theorem Rows.push(R:Rows b0 h L us rows)(p:WF h)(C:rows[w]?=some r)(x:Int)(D:r.length<=100000):
  ∃u u' m j l,us[w]?=some u/\h.alloc (.cells [.int .i64 x])=m/\adg Tryz.prog m 49 49 u (.slice (some ⟨h.next,0,none⟩) 1 1)=some (u',j)/\acs Tryz.prog j 49 (.pointer (some ⟨L,w,none⟩)) u'=some l/\Le h m/\Le b0 j/\
   j.own L=some (.cells us)/\Rows b0 l L (us.set w u') (rows.set w (r++[x]))/\WF l/\(∀b o,h.own b=some o->b≠L->(∀(v:Nat) a,us[v]?=some a->blk a≠some b)->j.own b=some o/\l.own b=some o/\∀(v:Nat) a,(us.set w u')[v]?=some a->blk a≠some b):=by
 have f:w<us.length:=by grind[Rows.len]
 have i:=CA f;generalize us[w]=u at i;have g:=R.gs w u r i C;obtain⟨u',m,j,l,E,F,H,I,o6,n6,J,l4,l5,l6,keep,d,s⟩:=grow p (G:=b0) (t:=49) (x:=.int .i64 x) Ji Mb Ji R.oL f g (yG _) rfl D (R.nL w u i) R.le R.bL (R.ap w u i);refine⟨u,u',m,j,l,i,E,F,H,l4,l5,d _ _ R.oL (R.nL w u i),⟨o6,by simp[R.len],fun v a q ha c=>?_,fun v a ha=>?_,fun v v' a a' b y ha mi hb=>?_,fun v a ha=>?_,l6,R.bL⟩,s,fun b o hb z n=>⟨d b o hb (n w u i),(keep b o hb z (n w u i)).1,fun v a ha=>?_⟩⟩
 .rw[VU]at ha c;by_cases e:w=v
  .grind[Bp]
  .rw[aal e]at ha c;refine(R.gs v a q ha c).kept fun b o hb A=>(keep b o A (fun B=>R.nL v a ha pw) (fun B=>R.TE w v u a b e i ha B hb)).1
 .grind[Rows.nL]
 .rw[VU]at ha mi;by_cases e:w=v
  .subst e;rw[AE rfl,AE f]at ha;injection ha with ha;subst ha;rw[aal y]at mi;intro sZ;have k:∃q,rows[v']?=some q:=⟨_,CA (by grind[Rows.len])⟩;obtain⟨q,c⟩:=k;obtain⟨o,A⟩:=iy.1 ((R.gs v' a' q mi c).Sy sZ);grind[Rows.TE]
  .rw[aal e]at ha;by_cases e':w=v'
   .subst e';rw[AE rfl,AE f]at mi;injection mi with mi;subst mi;have k:∃q,rows[v]?=some q:=⟨_,CA (by grind[Rows.len])⟩;obtain⟨q,c⟩:=k;obtain⟨o,A⟩:=iy.1 ((R.gs v a q ha c).Sy hb);grind[Rows.TE]
   grind[Rows.TE]
 all_goals grind[Rows.ap]
def isG(h:aae)(u:Value)(r:RZ):Prop:=GS 1 h u r.length (Bp r)
def RL.map{R R':aae->Value->α->Prop}{xs:List α}(r:RL R h v xs)(hR:∀u x,R h u x->R' h u x):RL R' h v xs:=by obtain⟨vs,q,a,b⟩:=r;exact⟨vs,q,a,fun i x u c d=>hR u x (b i x u c d)⟩
theorem isG.rl{u:Value}(g:isG h u r):RL RP h u r:=RL.Wh (GS.cs g).rs
theorem Rows.rlG(R:Rows b0 h L us rows)(a:us.length=n):RL isG h (.slice (some ⟨L,0,none⟩) n c) rows:=⟨us,RS.whole R.oL a,R.len,fun i x u b d=>R.gs i u x d b⟩
theorem Rows.rl(R:Rows b0 h L us rows)(a:us.length=n):RL (RL RP) h (.slice (some ⟨L,0,none⟩) n c) rows:=⟨us,RS.whole R.oL a,R.len,fun i x u b d=>RL.Wh (R.gs i u x d b).cs.rs⟩
def Xs(rows:AM)(p:Pr):AM:=
 let r1:=rows.set p.1.toNat ((rows.getD p.1.toNat [])++[p.2])
 r1.set p.2.toNat ((r1.getD p.2.toNat [])++[p.1])
def Zh(n:Nat)(es:List Pr):AM:=es.foldl Xs (List.replicate n [])
theorem pO(rows:AM)(p:Pr):(Xs rows p).length=rows.length:=by simp[Xs]
theorem Xq(n:Nat)(es:List Pr):(Zh n es).length=n:=by
 have:∀(es:List Pr)(rows:AM),(es.foldl Xs rows).length=rows.length:=by
  intro es
  induction es<;>grind[pO]
 grind[Zh.eq_1]
def NJ(n:Nat)(es:List Pr)(p:Pr):Zh n (es++[p])=Xs (Zh n es) p:=by simp[Zh]
theorem bV(n:Nat)(es:List Pr):∀r∈Zh n es,r.length<=2*es.length:=by
 have:∀(es:List Pr)(rows:AM)(k:Nat),(∀r∈rows,r.length<=k)->∀r∈es.foldl Xs rows,r.length<=k+2*es.length:=by
  intro es
  induction es with
  |nil=>grind
  |cons p es c=>
   intro rows k h r a;rw[Dj]at a;have b:∀(l:AM)(m:Nat),(∀r∈l,r.length<=m)->∀i,(l.getD i []).length<=m:=fun l m e i=>by grind
   have d:∀r∈rows.set p.1.toNat ((rows.getD p.1.toNat [])++[p.2]),r.length<=k+1:=fun r a=>by grind
   have h2:∀r∈Xs rows p,r.length<=k+2:=fun r a=>by
    rcases zx a with h'|rfl
    .grind
    .have:=b _ (k+1) d p.2.toNat;grind
   have:=c (Xs rows p) (k+2) h2 r a;simp;omega
 intro r a;have:=this es (List.replicate n []) 0 (fun r a=>by grind) r a;omega
theorem Beside_g(W0:LA)(v:Value)(n:Nat)(es:List Pr)(h:aae)(hg:GR h v ⟨(n:Int),es⟩)(hr:bX ⟨(n:Int),es⟩):AC Tryz.prog W0 32 [v] h fun x h'=>RL isG h' x (Zh n es)/\Le h h':=by
 have aB:=hg
 obtain⟨ev,rfl,hp⟩:=hg.open
 have bo:(n:Int)<=200:=hr.n1;have br:es.length<=594:=hr.len;have y:∀p∈es,0<=p.1/\p.1<p.2/\p.2<(n:Int):=fun p aC=>by obtain⟨i,hi⟩:=qy.1 aC;exact(hr.ok i (Ny.1 hi).1 p hi).1
 refine AC.vE ⟨zj,rfl,WY⟩ Tryz.ntmps32 Tryz.results32 fun aD=>?_;simp only[Br,seval];obtain⟨h1,b1,A,bB,-,lA⟩:=r8 (n:=(n:Int)) aD hp
 generalize h.next=B at*
 have aE:=lA h1 (Le.refl _);have ll:=fun g=>hp.len g;simp only[HO,seval,b1,aE.1];refine TC.intro PJ ⟨zL,rfl,WY⟩ (ak W0 _ _ h1 (aB.le A)) ?_;rintro x h2 C ⟨⟨bb,rfl,aF⟩,m⟩;obtain rfl:bb=true:=aF.2 hr;have aH:=lA h2 m;have mk:=Ye (P:=Tryz.prog) (t:=27) (z:=.slice none 0 0) h2 pE rfl rfl rfl rfl Ji Mb Ji n NH;obtain⟨h3,e3,aJ,bF,o3⟩:=Tt C (List.replicate n (.slice none 0 0));rw[e3]at mk
 have nL:h2.own h2.next=none:=(Le.refl h2).next C (qL0 _)
 generalize h2.next=L at*
 have fT:=lA h3 (m.trans aJ);simp only[HO,seval,Ii,Di,Ip,Gc,aH.2.1,mk,fT.2.2,ll];have R0:Rows h2 h3 L (List.replicate n (.slice none 0 0)) (Zh n (es.take 0)):=by grind[Zh,Rows.start]
 refine aab.intro (fun k fr hh=>∃(i:Nat)(us:List Value),k=es.length-i/\i<=es.length/\fr=mkF [(3,.slice (some ⟨L,0,none⟩) n n),(13,ev),(14,.int .i64 es.length),(15,.int .i64 i)]/\Rows h2 hh L us (Zh n (es.take i)))
  es.length [(3,.slice (some ⟨L,0,none⟩) n n),(13,ev),(14,.int .i64 es.length),(15,.int .i64 (0:Nat))] hAs ⟨0,_,rfl,WA _,rfl,R0⟩ ?_
 rintro k fr hh D ⟨i,us,rfl,hi,rfl,R⟩;refine Uy ?_;refine Kl.intro (fun ht=>?_) (fun hf=>?_)
 rotate_left
 .have aK:es.length<=i:=vp hf;rw[HV aK]at R;refine Uy ?_;grind[Rows.rlG,Rows.len,Xq,Le.trans,Rows.le]
 have l:i<es.length:=CC ht;clear ht;have o:=CA l;have F:es.take (i+1)=es.take i++[es[i]]:=EL l;generalize es[i]=p at o F;obtain⟨p1,p2,p3⟩:=y p (BS o);have aP:=hp.le ((A.trans m).trans R.le);have ad:=hp.addr (k:=.i64) i l;have ld:=aP.load o;obtain⟨bH,h4,e4,aT,aV,aW,G⟩:=Ut D p
 have aX:hh.own hh.next=none:=(Le.refl hh).next D (qL0 _)
 obtain⟨a,c⟩:=p;simp only at p1 p2 p3;obtain⟨a,rfl⟩:=Z6 p1;obtain⟨c,rfl⟩:=Z6 (show 0<=c by omega);have R4:=R.up aV
 have a1:∀(v:Nat) u,us[v]?=some u->blk u≠some hh.next:=fun v u hu hb=>by have a6:∃q,(Zh n (es.take i))[v]?=some q:=⟨_,CA (by grind[Rows.len])⟩;obtain⟨q,hq⟩:=a6;exact(R.gs v u q hu hq).Sy hb aX
 have H:hh.next≠L:=fun e=>by have:=R.oL;grind
 generalize hh.next=E at*
 simp only[HO,seval,ad,ld,e4,aT];have a7:=bV n (es.take i);have bI:(es.take i).length<=594:=pw;have I:∀(k:IntKind)(j:Nat),j<n->abX Tryz.prog 27 (.slice (some ⟨L,0,none⟩) n n) (.int k j)=some (.pointer (some ⟨L,j,none⟩)):=fun k j hj=>by rw[Wc pE Mb Ji j hj];simp[Ip]
 have J:a<(Zh n (es.take i)).length:=by grind[Xq]
 have K:=CA J;have M:(Zh n (es.take i)).getD a []=(Zh n (es.take i))[a]:=D4 J;have N:((Zh n (es.take i))[a]).length<=100000:=pw;generalize (Zh n (es.take i))[a]=ra at K M N;obtain⟨u,u',h5,h6,h7,hu,e5,e6,e7,l5,l6,bN,R7,a8,keep⟩:=R4.push aW K (c:Int) N;obtain⟨d,b,O⟩:=keep _ _ G H a1;have Q:=lK G;have S:=HY G;have T:=lK (l5.own _ _ G);have U:=HY (l5.own _ _ G);have V:=lK d;have W:=HY d;have X:=lK b;have aa:=HY b;simp only at Q S T U V W X aa;have ba:acd Tryz.prog h4 49 ⟨L,a,none⟩=some u:=by rw[Fq Mb rfl R4.oL];exact hu
 have bg:acd Tryz.prog h5 49 ⟨L,a,none⟩=some u:=by rw[Fq Mb rfl (l5.own _ _ R4.oL)];exact hu
 have bs:abB Tryz.prog h4 49 1 [(0,.int .i64 (c:Int))]=some (.slice (some ⟨h4.next,0,none⟩) 1 1,h5):=by rw[DQ,e5]
 refine gh (tA [0,1,2,3,4,5,6,7,8,9] (JQ 10 [9] (JQ 11 [7,10] (tA [12] (JQ 13 [0,1,2,3,4,5,6,7,8,9,10,11,12] .done))))) ?_;simp only[HO,seval,Qg,Dh,Z0,Ip,Gc,Q,S,T,U,V,W,I _ a NH,ba,bg,bs,e6,e7];have bQ:((Zh n (es.take i)).set a (ra++[(c:Int)])).length=n:=by simp[Xq]
 have r:c<((Zh n (es.take i)).set a (ra++[(c:Int)])).length:=NH;have ae:=CA r;have ag:((Zh n (es.take i)).set a (ra++[(c:Int)])).getD c []=((Zh n (es.take i)).set a (ra++[(c:Int)]))[c]:=D4 r;have aj:(((Zh n (es.take i)).set a (ra++[(c:Int)]))[c]).length<=100000:=by
  rcases zx (j9 r)with e|e
  .grind
  .rw[e];simp;grind
 generalize ((Zh n (es.take i)).set a (ra++[(c:Int)]))[c]=rc at ae ag aj;obtain⟨w,w',h8,h9,bT,hw,e8,e9,bh,l8,l9,bW,al,bx,s⟩:=R7.push a8 ae (a:Int) aj;obtain⟨f,aq,-⟩:=s _ _ b H O;have ar:=lK (l8.own _ _ b);have av:=HY (l8.own _ _ b);have ay:=lK f;have az:=HY f;simp only at ar av ay az;have bj:acd Tryz.prog h7 49 ⟨L,c,none⟩=some w:=by rw[Fq Mb rfl R7.oL];exact hw
 have bk:acd Tryz.prog h8 49 ⟨L,c,none⟩=some w:=by rw[Fq Mb rfl (l8.own _ _ R7.oL)];exact hw
 have bm:abB Tryz.prog h7 49 1 [(0,.int .i64 (a:Int))]=some (.slice (some ⟨h7.next,0,none⟩) 1 1,h8):=by rw[DQ,e8]
 refine gh (tA [0,1,2,3,4,5,6,7,8,9] (JQ 10 [9] (JQ 11 [7,10] (tA [12] (JQ 13 [0,1,2,3,4,5,6,7,8,9,10,11,12] .done))))) ?_;simp only[HO,seval,Qg,Dh,Z0,Ip,Gc,X,aa,ar,av,ay,az,I _ c NH,bj,bk,bm,e9,bh,Tw i NH];have:Xs (Zh n (es.take i)) ((a:Int),(c:Int))=((Zh n (es.take i)).set a (ra++[(c:Int)])).set c (rc++[(a:Int)]):=by simp only[Xs,af8,M,ag]
 rw[<-this,<-NJ,<-F]at al;exact tn (es.length-(i+1)) [(3,.slice (some ⟨L,0,none⟩) n n),(13,ev),(14,.int .i64 es.length),(15,.int .i64 (i+1:Nat))] NH hAs ⟨i+1,_,rfl,l,rfl,al⟩
def oe(a:LA)(v:Value)(n:Nat)(es:List Pr)(h:aae)(hg:GR h v ⟨(n:Int),es⟩)(b:bX ⟨(n:Int),es⟩):AC Tryz.prog a 32 [v] h fun x h'=>RL (RL RP) h' x (Zh n es)/\Le h h':=(Beside_g a v n es h hg b).mono fun _ _ h=>⟨h.1.map fun _ _ g=>g.rl,h.2⟩
def aO(p:Pr)(v:Int):Bool:=decide (p.1=v)||decide (p.2=v)
def onE(ps:List Pr)(v:Int):Bool:=ps.any fun p=>aO p v
def eqP(p q:Pr):aEq Tryz.prog 38 (UI p) (UI q)=some (decide (p=q)):=by
 have e:p=q↔p.1=q.1/\p.2=q.2:=Prod.ext_iff;simp only[aEq,qS8,Ac,UI,aeI,ts3];by_cases a:p.1=q.1
 .by_cases h2:p.2=q.2
  .simp[e,a,h2]
  .simp[e,a,h2]
 .simp[e,a]
def gfP(p:Pr):ahb (UI p)=true:=rfl
def abinP(p q:Pr):mM Tryz.prog .eql 38 (UI p) (UI q)=some (.bool (decide (p=q)))/\mM Tryz.prog .neq 38 (UI p) (UI q)=some (.bool (!decide (p=q))):=by
 have a:aix Tryz.prog .eql 38 (UI p) (UI q)=match aEq Tryz.prog 38 (UI p) (UI q)with|some b=>some (.bool b)|none=>none:=rfl
 have h2:aix Tryz.prog .neq 38 (UI p) (UI q)=match aEq Tryz.prog 38 (UI p) (UI q)with|some b=>some (.bool (!b))|none=>none:=rfl
 constructor
 .rw[mM,gfP,cond_true,a,eqP]
 .rw[mM,gfP,cond_true,h2,eqP]
theorem aaU(u:LA)(v w:Value)(ps a:List Pr)(h:aae)(n:PR h v ps)(hw:PR h w a)(A:ps.length<=100000):AC Tryz.prog u 39 [v,w] h fun x h'=>x=.bool (decide (ps=a))/\h'=h:=by
 refine AC.vE ⟨Tryz.func39,rfl,WY⟩ Tryz.ntmps39 Tryz.results39 fun y=>?_;simp only[Br,seval];have o:=fun g=>n.len g;have lw:=fun g=>hw.len g;by_cases c:(ps.length:Int)=(a.length:Int)
 rotate_left
 .simp only[HO,seval,o,lw,bne,eq_false c];exact⟨by rw[Sb (fun e=>c (by rw[e]))],trivial⟩
 have c':ps.length=a.length:=NH;simp only[HO,seval,o,lw,bne,eq_true c];refine lIn (fun k fr hh=>∃i:Nat,k=ps.length-i/\i<=ps.length/\hh=h/\fr=mkF [(0,v),(1,w),(5,.int .i64 i)]/\ps.take i=a.take i) ⟨0,rfl,WA _,rfl,rfl,rfl⟩ ?_;rintro k fr hh-⟨i,rfl,hi,rfl,rfl,s⟩;refine Sk o ?_;refine Kl.intro (fun z=>?_) (fun hf=>?_)
 .have b:i<ps.length:=CC z;have f:=CA b;have j:=CA (show i<a.length by omega);have t1:ps.take (i+1)=ps.take i++[ps[i]]:=EL b;have t:a.take (i+1)=a.take i++[a[i]'(by omega)]:=EL NH
  generalize ps[i]=p at f t1;generalize a[i]'(by omega)=q at j t
  have ad:=n.addr (k:=.i64) i b;have ld:=n.load f;have l:=hw.addr (k:=.i64) i NH;have m:=hw.load j;have d:=(abinP p q).2;refine Uy ?_;refine gh (tA [0,1,2,3,4,5,6,7,8] .done) ?_;cases hb:decide (p=q)with
  |true=>rw[hb]at d;have e:=U0 hb;simp only[kS1,aif,aih,agU,Zm,afN,aeA,ahv,ahR,ahS,putDst,flat,kA,kB,Nat.reduceLT,↓reduceIte,kC,Nat.reduceEqDiff,agT,mM,ahb,aix,ahG,aUn,ahk,akV,G8,aht,ag9,ahY,mkF,Yx,reduceCtorEq,kD,kE,kF,kG,kH,kI,kJ,kK,ahy,agG,kD1,Nat.reduceBEq,afI,kL,kM,kN,kO,ad,ld,l,m,d,-mM,Tw i NH];exact lgA NH ⟨i+1,rfl,b,rfl,rfl,by rw[t1,t,s,e]⟩
  |false=>rw[hb]at d;have e:=of_decide_eq_false hb;simp only[kS1,aif,aih,agU,Zm,afN,aeA,ahv,ahR,ahS,putDst,flat,kA,kB,Nat.reduceLT,↓reduceIte,kC,Nat.reduceEqDiff,agT,mM,ahb,aix,ahG,aUn,ahk,akV,G8,aht,ag9,ahY,mkF,Yx,reduceCtorEq,kD,kE,kF,kG,kH,kI,kJ,kK,ahy,agG,kD1,Nat.reduceBEq,afI,kL,kM,kN,kO,ad,ld,l,m,d,-mM];exact by rw[Sb (fun e'=>e pw)]
 .have r:ps.length<=i:=vp hf;rw[HV r,HV NH]at s;refine Uy ?_;grind
theorem aj0(n:LA)(v w:Value)(xs ys:RZ)(h:aae)(l:RL RP h v xs)(hw:RL RP h w ys)(t:xs.length<=100000):AC Tryz.prog n 58 [v,w] h fun x h'=>x=.bool (decide (xs=ys))/\h'=h:=by
 refine AC.vE ⟨Tryz.func58,rfl,WY⟩ Tryz.ntmps58 Tryz.results58 fun o=>?_;simp only[Br,seval];have f:=fun g=>l.DH g;have lw:=fun g=>hw.DH g;refine Uy ?_;refine lIn (fun k fr hh=>∃i:Nat,k=xs.length-i/\i<=xs.length/\i<=ys.length/\hh=h/\fr=mkF [(0,v),(1,w),(5,.int .i64 i)]/\xs.take i=ys.take i) ⟨0,rfl,WA _,WA _,rfl,rfl,rfl⟩ ?_;rintro k fr hh-⟨i,rfl,hi,p,rfl,rfl,q⟩;have stop:∀b:Bool,(b=true↔xs.length=i/\ys.length=i)->(i<xs.length->i<ys.length->False\/xs[i]?≠ys[i]?)->b=decide (xs=ys):=fun b hb r=>by grind
 by_cases c1:i<xs.length
 .have a:((i:Int)<(xs.length:Int))=True:=eq_true NH;have y1:((i:Int)=(xs.length:Int))=False:=eq_false NH;by_cases c2:i<ys.length
  .have j:((i:Int)<(ys.length:Int))=True:=eq_true NH;have s:((i:Int)=(ys.length:Int))=False:=eq_false NH;have ad:=l.TA i c1;have ld:=l.Uc i c1;have c:=hw.TA i c2;have d:=hw.Uc i c2;by_cases m:xs[i]=ys[i]
   .refine Uy ?_;refine gh (tA [0,1,2,3,4,5,6,7,8,9,10,11,12,13,14,15,16,17,18,19,20] .done) ?_;simp only[HO,seval,Qg,f,lw,a,j,ad,ld,c,d,eq_true m,Tw i NH];exact lgA NH ⟨i+1,rfl,c1,c2,rfl,rfl,by rw[EL c1,EL c2,q,m]⟩
   .refine Uy ?_;refine gh (tA [0,1,2,3,4,5,6,7,8,9,10,11,12,13,14,15,16,17,18,19,20] .done) ?_;simp only[HO,seval,Qg,f,lw,a,j,ad,ld,c,d,eq_false m,y1,s];exact by rw[<-stop false ⟨(fun e=>by cases e),fun e=>by omega⟩ (fun _ _=>.inr pw)]
  .have j:((i:Int)<(ys.length:Int))=False:=eq_false NH;refine Uy ?_;refine gh (tA [0,1,2,3,4,5,6,7,8,9,10,11,12,13,14,15,16,17,18,19,20] .done) ?_;simp only[HO,seval,Qg,f,lw,a,j,y1];exact by rw[<-stop false ⟨(fun e=>by cases e),fun e=>by omega⟩ (fun _ e=>absurd e c2)]
 .have a:((i:Int)<(xs.length:Int))=False:=eq_false NH;have y1:((i:Int)=(xs.length:Int))=True:=eq_true NH;refine Uy ?_;refine gh (tA [0,1,2,3,4,5,6,7,8,9,10,11,12,13,14,15,16,17,18,19,20] .done) ?_;simp only[HO,seval,Qg,f,lw,a,y1];exact by rw[<-stop (decide ((i:Int)=(ys.length:Int))) pw (fun e=>absurd e c1)]
theorem ajz(j:LA)(v w:Value)(G H:GM)(h:aae)(q:GR h v G)(hw:GR h w H)(r:G.es.length<=100000):AC Tryz.prog j 22 [v,w] h fun x h'=>x=.bool (decide (G.n=H.n/\G.es=H.es))/\Le h h':=by
 obtain⟨k,gs⟩:=G;obtain⟨f,hs⟩:=H
 obtain⟨ev,rfl,l⟩:=q.open
 obtain⟨s,rfl,m⟩:=hw.open
 refine AC.vE ⟨Tryz.func22,rfl,WY⟩ Tryz.ntmps22 Tryz.results22 fun g=>?_;simp only[Br,seval];obtain⟨t,o,a,i,-,u⟩:=r8 (n:=k) g l;obtain⟨h2,p,b,y,-,lB⟩:=r8 (n:=f) i (m.le a)
 generalize h.next=A at*
 generalize t.next=B at*
 have d:=u h2 b;have e:=lB h2 (Le.refl _);by_cases c:k=f
 .refine Sk (rk o p @Ii @Di @Ip.eq_1 @Gc d.2.1 e.2.1 d.2.2 e.2.2 (eq_true c)) ?_;refine kCi Tryz.func39 (aaU j ev s gs hs h2 ((l.le a).le b) ((m.le a).le b) r) ?_;rintro x h3 z ⟨rfl,rfl⟩;refine Uy ?_;grind[Le.trans]
 .refine Sk (amk o p @Ii @Di @Ip.eq_1 @Gc d.2.1 e.2.1 (eq_false c)) ?_;grind[Le.trans]
variable {L:RZ} {cl cl':Nat->Nat->Prop} {met:II} {on:Nat->Bool} {u v x:Nat}
theorem cA(l:List α)(i j:Nat)(a d:α):(l.set i a).getD j d=if i=j/\i<l.length then a else l.getD j d:=pw
def InR(n:Nat)(es:List Pr):Prop:=∀p∈es,0<=p.1/\p.1<p.2/\p.2<(n:Int)
theorem bX.GD(b:bX ⟨(n:Int),es⟩):InR n es:=fun p a=>by obtain⟨i,hi⟩:=qy.1 a;exact(b.ok i (Ny.1 hi).1 p hi).1
def Jp(es:List Pr)(u w:Nat):Prop:=((u:Int),(w:Int))∈es\/((w:Int),(u:Int))∈es
theorem Jp.symm{es:List Pr}{u w:Nat}(h:Jp es u w):Jp es w u:=Or.symm h
theorem Jp.lt(a:InR n es)(h:Jp es u w):u<n/\w<n:=by
 rcases h with h|h<;>have:=a _ h<;>simp only at this<;>omega
theorem bes_step(rows:AM)(p:Pr)(u:Nat)(x:Int)(a:p.1.toNat<rows.length)(h2:p.2.toNat<rows.length):
  x∈(Xs rows p).getD u []↔x∈rows.getD u []\/(p.1.toNat=u/\x=p.2)\/(p.2.toNat=u/\x=p.1):=by
 simp only[Xs,cA,Zw];grind
theorem FH(n:Nat):∀(es:List Pr)(rows:AM),rows.length=n->InR n es->∀(u:Nat)(x:Int),x∈(es.foldl Xs rows).getD u []↔x∈rows.getD u []\/∃p∈es,(p.1.toNat=u/\x=p.2)\/(p.2.toNat=u/\x=p.1)
 |[],rows,_,_,u,x=>by simp
 |p::es,rows,c,a,u,x=>by have d:=a p Ma;rw[Dj,FH n es _ (by grind[pO]) (fun q b=>a q (by simp[b])) u x,bes_step rows p u x NH NH];grind
theorem EW(d:InR n es)(u w:Nat):(w:Int)∈(Zh n es).getD u []↔Jp es u w:=by
 have c:(List.replicate n ([]:RZ)).getD u []=[]:=pw;rw[Zh,FH n es _ Ma d,c];simp only[Bx,false_or,Jp];constructor
 .rintro⟨⟨a,b⟩,e,⟨f,h2⟩|⟨f,h2⟩⟩
  .have:=d _ e;grind
  .have:=d _ e;grind
 grind
theorem Ru(b:InR n es){x:Int}(c:x∈(Zh n es).getD u []):∃w:Nat,x=(w:Int)/\w<n:=by
 have a:(List.replicate n ([]:RZ)).getD u []=[]:=pw;rw[Zh,FH n es _ Ma b,a]at c;simp only[Bx,false_or]at c;obtain⟨p,d,⟨_,rfl⟩|⟨_,rfl⟩⟩:=c
 .have:=b _ d;exact⟨p.2.toNat,NH,NH⟩
 .have:=b _ d;exact⟨p.1.toNat,NH,NH⟩
inductive Cn (on:Nat->Bool) (es:List Pr):Nat->Nat->Prop
 |refl {u:Nat}:on u=false->Cn on es u u
 |step {u w x:Nat}:Cn on es u w->Jp es w x->on x=false->Cn on es u x
def Cn.off1(h:Cn on es u w):on u=false:=by
 induction h with
 |refl h=>exact h
 |step _ _ _ a=>exact a
theorem Cn.off2(h:Cn on es u w):on w=false:=by
 cases h<;>grind
theorem Cn.trans(h:Cn on es u w)(k:Cn on es w x):Cn on es u x:=by
 induction k with
 |refl _=>exact h
 |step _ a o b=>exact b.step a o
theorem Cn.symm{on:Nat->Bool}{es:List Pr}{u w:Nat}(h:Cn on es u w):Cn on es w u:=by
 induction h with
 |refl h=>exact .refl h
 |step h a o b=>exact((Cn.refl o).step a.symm h.off2).trans b
structure TO (n:Nat) (on:Nat->Bool) (es:List Pr) (v:Nat) (L:RZ):Prop where
 len:L.length=n
 val:∀(u:Nat) l,L[u]?=some l->l=-1\/on u=false/\∃k:Nat,k<v/\l=(k:Int)/\Cn on es k u
 qi:∀(u w:Nat) l,L[u]?=some l->0<=l->Jp es u w->on w=false->L[w]?=some l
 low:∀u,u<v->u<n->on u=false->L[u]?≠some (-1)
structure TI (n:Nat) (on:Nat->Bool) (es:List Pr) (v:Nat) (L:RZ) (met:II) (cl:Nat->Nat->Prop):Prop where
 len:L.length=n
 val:∀(u:Nat) l,L[u]?=some l->l=-1\/on u=false/\∃k:Nat,k<=v/\l=(k:Int)/\Cn on es k u
 qi:∀(u w:Nat) l,L[u]?=some l->0<=l->l<(v:Int)->Jp es u w->on w=false->L[w]?=some l
 low:∀u,u<=v->u<n->on u=false->L[u]?≠some (-1)
 mm:∀u,u∈met↔L[u]?=some (v:Int)
 nd:met.Nodup
 cl:∀u w,cl u w->L[w]?=some (v:Int)
theorem TO.start(n:Nat)(on:Nat->Bool)(es:List Pr):TO n on es 0 (List.replicate n (-1)):=⟨Ma,fun u l h=>.inl (IK (BS h)),fun u w l h a=>by grind,fun u h=>by omega⟩
theorem TO.skip(t:TO n on es v L)(h:on v=true\/L[v]?≠some (-1)):TO n on es (v+1) L:=⟨t.len,fun u l a=>(t.val u l a).imp id fun⟨b,k,h2,h3⟩=>⟨b,k,NH,h3⟩,t.qi,fun u c d e=>by grind[TO.low]⟩
theorem TO.begin(t:TO n on es v L)(j:v<n)(c:on v=false)(k:L[v]?=some (-1))(cl:Nat->Nat->Prop)(b:∀u w,¬cl u w):TI n on es v (L.set v (v:Int)) [v] cl:=by
 have d:v<L.length:=pw;have f:∀u,u≠v->(L.set v (v:Int))[u]?=L[u]?:=fun u g=>by grind
 have heq:(L.set v (v:Int))[v]?=some (v:Int):=pw;refine⟨by simp[t.len],fun u l a=>?_,fun u w l a m o ha hw=>?_,fun u g p i=>?_,fun u=>?_,Ma,fun u w h=>absurd h (b u w)⟩
 .by_cases e:u=v
  .subst e;rw[heq]at a;injection a with a;exact .inr ⟨c,u,qL0 _,a.symm,.refl c⟩
  grind[TO.val]
 .grind[TO.qi]
 .grind[TO.low]
 grind[TO.val]
theorem TI.mono(t:TI n on es v L met cl)(h:∀u w,cl' u w->cl u w):TI n on es v L met cl':=⟨t.len,t.val,t.qi,t.low,t.mm,t.nd,fun u w k=>t.cl u w (h u w k)⟩
theorem TI.off(t:TI n on es v L met cl)(a:u∈met):on u=false/\Cn on es v u:=by
 rcases t.val u _ ((t.mm u).1 a)with h|⟨h,k,_,h2,h3⟩
 all_goals grind
theorem TI.stay(t:TI n on es v L met cl)(f:u∈met)(ha:Jp es u w)(c:∃l,L[w]?=some l/\l≠-1)(h:∀a b,cl' a b->cl a b\/b=w):TI n on es v L met cl':=by
 refine⟨t.len,t.val,t.qi,t.low,t.mm,t.nd,fun a b k=>?_⟩;rcases h a b k with h|rfl
 .exact t.cl a b h
 .obtain⟨l,d,g⟩:=c;rcases t.val _ _ d with h'|⟨i,k,j,rfl,_⟩
  .grind
  .by_cases e:k=v
   .grind
   .have:=t.qi b u (k:Int) d NH NH ha.symm (t.off f).1;grind[TI.mm]
theorem TI.push(t:TI n on es v L met cl)(g:u∈met)(ha:Jp es u w)(c:on w=false)(f:L[w]?=some (-1))(h:∀a b,cl' a b->cl a b\/b=w):
  TI n on es v (L.set w (v:Int)) (met++[w]) cl':=by
 have i:w<L.length:=(Ny.1 f).1;have j:∀x,x≠w->(L.set w (v:Int))[x]?=L[x]?:=fun x m=>by grind
 have heq:(L.set w (v:Int))[w]?=some (v:Int):=pw;have o:w∉met:=fun h=>by grind[TI.mm]
 refine⟨by simp[t.len],fun x l d=>?_,fun x y l d r s p z=>?_,fun x m A q=>?_,fun x=>?_,?_,fun a b k=>?_⟩
 .by_cases e:x=w
  .subst e;rw[heq]at d;injection d with d;exact .inr ⟨c,v,qL0 _,d.symm,(t.off g).2.step ha c⟩
  grind[TI.val]
 .grind[TI.qi]
 .grind[TI.low]
 .grind[TI.mm]
 .grind[TI.nd]
 .rcases h a b k with h|rfl
  .have:=t.cl a b h;grind
  .exact heq
theorem TI.finish(t:TI n on es v L met cl)(h:∀u w,u∈met->Jp es u w->on w=false->cl u w):TO n on es (v+1) L:=by
 refine⟨t.len,fun u l a=>(t.val u l a).imp id fun⟨b,k,h2,h3⟩=>⟨b,k,NH,h3⟩,fun u w l a d ha hw=>?_,fun u f g c=>?_⟩
 .rcases t.val u l a with h'|⟨b,k,h2,rfl,_⟩
  .omega
  .by_cases e:k=v
   .subst e;exact t.cl u w (h u w ((t.mm u).2 a) ha hw)
   grind[TI.qi]
 grind[TI.low]
theorem TI.abK(t:TI n on es v L met cl):met.length<=n:=by
 have hs:met⊆List.range n:=fun u a=>by have:=(Ny.1 ((t.mm u).1 a)).1;grind[TI.len]
 have:=t.nd.length_le_of_subset hs;grind
structure wx (n:Nat) (on:Nat->Bool) (es:List Pr) (L:RZ):Prop where
 len:L.length=n
 off:∀u,u<n->on u=false->∃k:Nat,k<n/\L[u]?=some (k:Int)/\Cn on es k u
 same:∀u w,u<n->w<n->on u=false->on w=false->(L[u]?=L[w]?↔Cn on es u w)
theorem TO.done(d:InR n es)(t:TO n on es n L):wx n on es L:=by
 have off:∀u,u<n->on u=false->∃k:Nat,k<n/\L[u]?=some (k:Int)/\Cn on es k u:=fun u a f=>by grind[TO.len,TO.val,TO.low]
 refine⟨t.len,off,fun u w a hw g b=>⟨fun e=>?_,fun c=>?_⟩⟩
 .grind[Cn.symm,Cn.trans]
 .clear hw b
  induction c<;>grind[TO.qi]
end
end Go.Fw
