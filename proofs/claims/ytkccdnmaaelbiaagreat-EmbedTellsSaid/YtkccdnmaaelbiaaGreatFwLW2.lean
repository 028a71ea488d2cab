/- A text. -/
import Derived.Test.YtkccdnmaaelbiaaGreatFwLB13
import Derived.Test.YtkccdnmaaelbiaaGreatFwScope
set_option linter.all false
set_option maxRecDepth 99999
set_option maxHeartbeats 9999999
open Go.Proofs
namespace Go.Fw
section
attribute [local irreducible] Kp MQ lU rS KO KN KX KE VK Kl ZJ TC aab
variable {h:aae} {v:Value} {xs:RZ}
theorem N7(p:LA)(v q:Value)(G:GM)(xs:RZ)(h:aae)(hg:GR h v G)(hw:RL RP h q xs)(Q:xs.length<=100000):
  AC Tryz.prog p 113 [v,q] h fun x h'=>Le h h'/\∃m e,x=.tuple #[m,.int .i64 e]/\
   ((¬bX G/\m=.slice none 0 0/\e=20)\/(bX G/\(¬∀x∈xs,0<=x/\x<G.n)/\m=.slice none 0 0/\e=2)\/
    (bX G/\(∀x∈xs,0<=x/\x<G.n)/\e=0/\RL (RL RP) h' m (Zh G.n.toNat G.es))):=by
 have f:=hg;obtain⟨z,es⟩:=G
 obtain⟨ev,rfl,F⟩:=hg.open
 refine AC.vE ⟨qS34,rfl,WY⟩ Tryz.ntmps113 Tryz.results113 fun r=>?_;simp only[Br,seval];obtain⟨A,H,a,I,-,C⟩:=r8 (n:=z) r F
 generalize h.next=B at*
 have s:=C A (Le.refl _);refine Sk (XC H s.1) ?_;refine kCi zL (ak p _ _ A (f.le a)) ?_;rintro x h2 J ⟨⟨K,rfl,t⟩,b⟩;cases K with
 |false=>refine Uy ?_;grind[Le.trans]
 |true=>
 have u:=t.1 rfl;have L:0<=z:=u.n0;obtain⟨n,rfl⟩:=Z6 L;have lw:=fun g=>hw.DH g;simp only[HO,seval,lw];refine lIn (fun k fr o=>∃i:Nat,k=xs.length-i/\i<=xs.length/\fr=mkF [(2,.pointer (some ⟨B,0,none⟩)),(11,q),(12,.int .i64 xs.length),(13,.int .i64 i)]/\o=h2/\∀(j:Nat) x,j<i->xs[j]?=some x->0<=x/\x<(n:Int)) ⟨0,rfl,WA _,rfl,rfl,NH⟩ ?_;rintro k fr o M ⟨i,rfl,hi,rfl,rfl,D⟩;have d:=C o b;refine Uy ?_;refine Kl.intro (fun E=>?_) (fun hf=>?_)
 .have c:i<xs.length:=CC E;clear E;have l:=CA c;have ad:=hw.TA i c;have ld:=(hw.le Nn.RP (a.trans b)).Uc i c;generalize xs[i]=y at l ld;by_cases c1:y<0
  .simp only[HO,seval,ad,ld,c1];exact⟨a.trans b,_,_,rfl,.inr (.inl ⟨u,fun hh=>by have:=hh y (BS l);omega,rfl,rfl⟩)⟩
  by_cases c2:y>=(n:Int)
  .simp only[HO,seval,ad,ld,c1,c2,Ii,Ip,Gc,d.2.1];grind[Le.trans]
  simp only[HO,seval,ad,ld,c1,c2,Ii,Ip,Gc,d.2.1,Tw i NH];exact lgA NH ⟨i+1,rfl,c,rfl,rfl,fun j x R S=>by grind⟩
 .have N:xs.length<=i:=vp hf;refine Sk d.1 ?_;refine kCi zj (oe p _ n es o (f.le (a.trans b)) u) ?_;rintro T h3 O ⟨w,P⟩;refine Uy ?_;grind[Le.trans,List.mem_iff_getElem?]
def GU(h:aae)(v:Value)(xs:RZ):Prop:=GT 1 h v xs.length (Bp xs)
theorem GU.le{h h':aae}{v:Value}{xs:RZ}(g:GU h v xs)(e:Le h h'):GU h' v xs:=GT.le g e
theorem GU.rl(g:GU h v xs):RL RP h v xs:=RL.Wh (GT.cs g).rs
theorem GU.push{h:aae}{v:Value}{xs:RZ}(g:GU h v xs)(d:WF h)(x:Int)(n:xs.length<=100000):
  ∃v' c a,abB Tryz.prog h 49 1 [(0,.int .i64 x)]=some (.slice (some ⟨h.next,0,none⟩) 1 1,c)/\adg Tryz.prog c 49 49 v (.slice (some ⟨h.next,0,none⟩) 1 1)=some (v',a)/\GU a v' (xs++[x])/\WF a/\Le h c/\
   (∀f,Le f h->Z2 f v->Le f a/\Z2 f v')/\(∀b o,h.own b=some o->blk v≠some b->a.own b=some o/\blk v'≠some b):=by
 obtain⟨c,j,l4,e,k⟩:=Tt d [.int .i64 x];obtain⟨v',a,i,p,hf⟩:=(GT.le g l4).push (P:=Tryz.prog) (t:=49) Ji k (yG _) rfl NH;refine⟨v',c,a,by rw[DQ,j],i,?_,xr e i,l4,fun f l af=>hf f e (l.trans l4) af,fun b o m hb=>aG hf e (l4.own _ _ m) hb⟩;grind[Bp,GU.eq_1]
theorem GU.cut{h:aae}{v:Value}{xs:RZ}(g:GU h v xs)(m:Nat)(a:m<=xs.length):∃v',afp Tryz.prog 49 v none (some (.int .i64 m)) none=some v'/\GU h v' (xs.take m)/\blk v'=blk v:=by obtain⟨v',e,c,b⟩:=GT.cut (P:=Tryz.prog) Mb Ac Ji g m a;grind[GU.eq_1,Bp.eq_1,List.map_take]
theorem GU.kept{h h':aae}{v:Value}{xs:RZ}(g:GU h v xs)(a:∀b o,blk v=some b->h.own b=some o->h'.own b=some o):GU h' v xs:=GT.kept g a
def Bo(l:List Bool):List Value:=l.map Value.bool
theorem ahw(l:List Bool):(Bo l).length=l.length:=by simp[Bo]
def Tr(l:List Bool)(i:Nat)(b:Bool):(Bo l).set i (.bool b)=Bo (l.set i b):=by simp[Bo,adH]
variable {M R U n w:Nat} {hq:aae} {met:List Bool} {o opn tr:II} {ov wv:Value} {up:RZ}
structure WkP (n:Nat) (h hq:aae) (U M R:Nat) (ov wv:Value) (met:List Bool) (tH o opn:II) (up:RZ):Prop where
 oU:hq.own U=some (.cells (Bp up))
 oM:hq.own M=some (.cells (Bo met))
 oR:hq.own R=some (.cells (Bp (aaa tH)))
 go:GI hq ov (aaa o)
 gw:GU hq wv (aaa opn)
 ap:∀b,blk ov=some b->blk wv≠some b
 oo:blk ov≠some U/\blk ov≠some M/\blk ov≠some R
 ww:blk wv≠some U/\blk wv≠some M/\blk wv≠some R
 ne:U≠M/\U≠R/\M≠R
 le:Le h hq
 nn:h.own U=none/\h.own M=none/\h.own R=none
 ao:Z2 h ov
 aw:Z2 h wv
 lm:met.length=n
 lt:tH.length=n
 lu:up.length=n
structure WkH (n:Nat) (es:List Pr) (s:Nat) (h hq:aae) (U M R:Nat) (ov wv:Value) (met:List Bool) (tH o opn:II) (up:RZ):Prop extends WkP n h hq U M R ov wv met tH o opn up where
 ds:DS n es s met tH o opn up
theorem WkP.tH(k:WkP n h hq U M R ov wv met tr o opn up){v:Nat}(a:Nat)(c:v<n)(b:WF hq):
  ∃h',acs Tryz.prog hq 3 (.pointer (some ⟨R,v,none⟩)) (.int .i64 (a:Int))=some h'/\WF h'/\WkP n h h' U M R ov wv met (tr.set v a) o opn up:=by
 have e:(Bp (aaa tr)).set v (.int .i64 (a:Int))=Bp (aaa (tr.set v a)):=by grind[yy,aaa,List.map_set]
 refine⟨_,QB (P:=Tryz.prog) (t:=3) (x:=.int .i64 (a:Int)) Ac Ji k.oR (off:=v) (by rw[uE,y6,k.lt];exact c) rfl rfl,b.put _ (b.lt k.oR),?_⟩;rw[e];exact{k with
  oU:=by grind[aae.By,WkP.ne,WkP.oU]
  oM:=by grind[aae.By,WkP.ne,WkP.oM]
  oR:=aae.Y3 _ _ _
  go:=GS.put k.go _ k.oo.2.2
  gw:=GT.put k.gw _ k.ww.2.2
  le:=k.le.put _ k.nn.2.2
  lt:=by simp[k.lt]}
theorem WkP.mark(k:WkP n h hq U M R ov wv met tr o opn up)(v:Nat)(hw:w<n)(a:WF hq):
  ∃e h2,acs Tryz.prog hq 4 (.pointer (some ⟨M,w,none⟩)) (.bool true)=some e/\acs Tryz.prog e 3 (.pointer (some ⟨U,w,none⟩)) (.int .i64 (v:Int))=some h2/\WF h2/\WkP n h h2 U M R ov wv (met.set w true) tr o opn (up.set w (v:Int)):=by
 have c:w<(Bo met).length:=by grind[ahw,WkP.lm]
 have d:w<(Bp up).length:=by grind[uE,WkP.lu]
 have s1:=QB (P:=Tryz.prog) (t:=4) (x:=.bool true) AV Ji k.oM (off:=w) c rfl rfl;rw[Tr]at s1;have b:(hq.put M (.cells (Bo (met.set w true)))).own U=some (.cells (Bp up)):=by grind[aae.By,WkP.ne,WkP.oU]
 have s2:=QB (P:=Tryz.prog) (t:=3) (x:=.int .i64 (v:Int)) Ac Ji b (off:=w) d rfl rfl;rw[yy]at s2;have w1:=a.put (.cells (Bo (met.set w true))) (a.lt k.oM);refine⟨_,_,s1,s2,w1.put _ (w1.lt b),{k with oU:=aae.Y3 _ _ _,oM:=?_,oR:=?_,go:=GS.put (GS.put k.go _ k.oo.2.1) _ k.oo.1,gw:=GT.put (GT.put k.gw _ k.ww.2.1) _ k.ww.1,le:=(k.le.put _ k.nn.2.1).put _ k.nn.1,lm:=by simp[k.lm],lu:=by simp[k.lu]}⟩
 all_goals grind[aae.By,WkP.ne,aae.Y3,WkP.oR]
theorem WkP.grow(k:WkP n h hq U M R ov wv met tr o opn up)(w:Nat)(p:WF hq)(E:o.length<=1000)(F:opn.length<=1000):
  ∃u d f h2 h3 a G,abB Tryz.prog hq 49 1 [(0,.int .i64 (w:Int))]=some (u,f)/\adg Tryz.prog f 49 49 ov u=some (d,h2)/\∃v g,abB Tryz.prog h2 49 1 [(0,.int .i64 (w:Int))]=some (v,h3)/\adg Tryz.prog h3 49 49 wv v=some (g,a)/\G=a/\WF a/\
   WkP n h a U M R d g met tr (o++[w]) (opn++[w]) up:=by
 have x:∀l:II,aaa l++[(w:Int)]=aaa (l++[w]):=fun l=>by simp[aaa]
 obtain⟨d,f,h2,H,I,q,J,l1,K,k1⟩:=k.go.push p (w:Int) (by grind[y6]);obtain⟨l2,r⟩:=K h k.le k.ao;rw[x]at q;have s:GU h2 wv (aaa opn):=k.gw.kept fun b o hb i=>(k1 b o i (fun j=>k.ap b j hb)).1;have y:=k1 U _ k.oU k.oo.1;have M2:=k1 M _ k.oM k.oo.2.1;have z:=k1 R _ k.oR k.oo.2.2;have e:∀b,blk wv=some b->blk d≠some b:=fun b hb=>by obtain⟨c,j⟩:=GT.Sy k.gw hb;grind[WkP.ap]
 obtain⟨g,h3,a,L,N,A,O,l3,P,m⟩:=s.push J (w:Int) (by grind[y6]);obtain⟨l4,t⟩:=P h l2 k.aw;rw[x]at A;have B:=m U _ y.1 k.ww.1;have C:=m M _ M2.1 k.ww.2.1;have D:=m R _ z.1 k.ww.2.2;refine⟨_,d,f,h2,h3,a,a,H,I,_,g,L,N,rfl,O,{k with oU:=B.1,oM:=C.1,oR:=D.1,go:=?_,gw:=A,ap:=fun b hb=>?_,oo:=⟨y.2,M2.2,z.2⟩,ww:=⟨B.2,C.2,D.2⟩,le:=l4,ao:=r,aw:=t}⟩
 .exact q.kept fun b o hb i=>(m b o i fun j=>e b j hb).1
 .have Q:h2.own b≠none:=GS.Sy q hb;cases i:h2.own b<;>grind
theorem V6(W0:LA)(bv:Value)(n s:Nat)(es:List Pr)(h:aae)(hb:RL (RL RP) h bv (Zh n es))(hr:InR n es)(ha:D3 es)(hn:n<=300)(bm:es.length<=1000)(hs:s<n):
  AC Tryz.prog W0 114 [bv,.int .i64 (s:Int)] h fun x h'=>∃c U o up,x=.tuple #[c,.slice (some ⟨U,0,none⟩) n n]/\GI h' c (aaa o)/\(h'.own U=some (.cells (Bp up))/\blk c≠some U/\h.own U=none)/\Oc n es s o up/\Le h h'/\Z2 h c:=by
 refine AC.vE ⟨Tryz.func114,rfl,WY⟩ Tryz.ntmps114 Tryz.results114 fun aX=>?_;simp only[Br,seval];have lb:=fun g=>hb.qP5 g;rw[Xq]at lb;obtain⟨h1,e1,l1,w1,o1⟩:=Tt aX [.int .i64 (-1)];refine Uy ?_;refine VK.scope ?_;simp only[HO,seval,DQ,e1,lb];refine TC.intro PJ ⟨NQ,rfl,WY⟩ (rN W0 _ n NH h1 (RL.Wh (RS.whole o1 rfl))) ?_;rintro x h2 w2 ⟨U,rfl,hU,o2,l2⟩
 have nU:h.own U=none:=(l1.next w1 hU)
 have oU:h2.own U=some (.cells (Bp (List.replicate n (-1)))):=by rw[o2];simp[Bp]
 have mk:=Ye (P:=Tryz.prog) (t:=59) (z:=.bool false) h2 Uh rfl rfl rfl rfl Ji AV Ji n NH;obtain⟨h3,e3,l3,Q,o3⟩:=Tt w2 (List.replicate n (.bool false));rw[e3]at mk
 have nM:h.own h2.next=none:=(l1.trans l2).next w2 (qL0 _)
 have r:U≠h2.next:=fun e=>by have:=w2.lt oU;omega
 generalize h2.next=M at*
 have oM:h3.own M=some (.cells (Bo (List.replicate n false))):=by rw[o3];simp[Bo]
 have mk2:=Ye (P:=Tryz.prog) (t:=49) (z:=.int .i64 0) h3 Mb rfl rfl rfl rfl Ji Ac Ji n NH;obtain⟨q,e4,l4,w4,o4⟩:=Tt Q (List.replicate n (.int .i64 0));rw[e4]at mk2;have S:=(l1.trans l2).trans l3
 have nR:h.own h3.next=none:=S.next Q (qL0 _)
 have N:U≠h3.next:=fun e=>by have:=Q.lt (l3.own _ _ oU);omega
 have y:M≠h3.next:=fun e=>by have:=Q.lt oM;omega
 generalize h3.next=R at*
 have oR:q.own R=some (.cells (Bp (aaa (List.replicate n 0)))):=by rw[o4];simp[Bp,aaa]
 obtain⟨E,e5,l5,w5,o5⟩:=Tt w4 [.int .i64 (s:Int)];obtain⟨h6,e6,l6,w6,o6⟩:=Tt w5 [.int .i64 (s:Int)];have A:=l5.trans l6;have V:=A.own _ _ (l4.own _ _ oM);have W:∀(k:IntKind)(j:Nat),j<n->abX Tryz.prog 59 (.slice (some ⟨M,0,none⟩) n n) (.int k j)=some (.pointer (some ⟨M,j,none⟩)):=fun k j hj=>by rw[Wc Uh AV Ji j hj];simp[Ip]
 have Kx:∀(T:Nat)(k:IntKind)(j:Nat),j<n->abX Tryz.prog 49 (.slice (some ⟨T,0,none⟩) n n) (.int k j)=some (.pointer (some ⟨T,j,none⟩)):=fun T k j hj=>by rw[Wc Mb Ac Ji j hj];simp[Ip]
 have st1:=QB (P:=Tryz.prog) (t:=4) (x:=.bool true) AV Ji V (off:=s) (by simp[Bo,hs]) rfl rfl;rw[Tr]at st1;simp only[HO,seval,lb,mk,mk2,DQ,e5,e6,W _ s hs,st1];refine VK.label ?_;simp only[HO,seval,MX,tx,J4]
 have a1:q.own q.next=none:=(Le.refl q).next w4 (qL0 _)
 have a6:E.own E.next=none:=(Le.refl E).next w5 (qL0 _)
 have ar:q.next≠E.next:=fun e=>by grind
 have F:=S.trans l4;have av:=l3.trans l4
 have f:∀b o,q.own b=some o->b≠q.next/\b≠E.next:=fun b o hb=>⟨fun e=>by grind,fun e=>by grind[Le.own]⟩
 have X:=av.own _ _ oU;have ay:=l4.own _ _ oM;have qU:=f _ _ X;have qM:=f _ _ ay;have qR:=f _ _ oR
 have nO:h.own q.next=none:=F.next w4 (qL0 _)
 have nW:h.own E.next=none:=(F.trans l5).next w5 (qL0 _)
 have keep:∀b o,b≠M->h6.own b=some o->(h6.put M (.cells (Bo ((List.replicate n false).set s true)))).own b=some o:=fun b o hb ho=>by grind[aae.By]
 have K0:WkH n es s h (h6.put M (.cells (Bo ((List.replicate n false).set s true)))) U M R (.slice (some ⟨q.next,0,none⟩) 1 1) (.slice (some ⟨E.next,0,none⟩) 1 1) ((List.replicate n false).set s true) (List.replicate n 0) [s] [s] (List.replicate n (-1)):={
  oU:=keep _ _ r (A.own _ _ X)
  oM:=aae.Y3 _ _ _
  oR:=keep _ _ (Hs y) (A.own _ _ oR)
  go:=GS.full (keep _ _ (Hs qM.1) (l6.own _ _ o5)) rfl (show 1<1000000000000 by decide)
  gw:=(GS.full (keep _ _ (Hs qM.2) o6) rfl (show 1<1000000000000 by decide)).gt
  ap:=fun b hb hc=>by injection hb with hb;injection hc with hc;grind
  oo:=⟨fun e=>by injection e with e;grind,fun e=>by injection e with e;grind,fun e=>by injection e with e;grind⟩
  ww:=⟨fun e=>by injection e with e;grind,fun e=>by injection e with e;grind,fun e=>by injection e with e;grind⟩
  ne:=⟨r,N,y⟩
  le:=(F.trans A).put _ nM
  nn:=⟨nU,nM,nR⟩
  ao:=fun b hb=>by injection hb with hb;grind
  aw:=fun b hb=>by injection hb with hb;grind
  lm:=by simp
  lt:=by simp
  lu:=by simp
  ds:=DS.start hs}
 have w7:=w6.put (.cells (Bo ((List.replicate n false).set s true))) (w6.lt V);clear keep nO nW qU qM qR X ay f av F ar a6 a1 st1 V A o6 l6 o5 l5 oR y N nR S o4 l4 w4 mk2 oM r nM o3 l3 Q mk oU nU o2 l2 w2 o1 l1 w1;generalize h6.put M (.cells (Bo ((List.replicate n false).set s true)))=h7 at*
 generalize Value.slice (some ⟨q.next,0,none⟩) 1 1=az at*
 generalize Value.slice (some ⟨E.next,0,none⟩) 1 1=aB at*
 clear w6 w5 e6 e5 e4 e3 e1 hU;clear h6 E q h3 h2 h1;have a8:∀u,u<n->abX Tryz.prog 27 bv (.int .i64 u)=some (.pointer (some (abv bv u))):=fun u hu=>hb.NS u (by rw[Xq];exact hu);have XP:∀(g:aae)(T:Nat)(L:RZ)(j:Nat)(l:Int),g.own T=some (.cells (Bp L))->L[j]?=some l->acd Tryz.prog g 3 ⟨T,j,none⟩=some (.int .i64 l):=fun g T L j l ho hl=>by rw[Fq Ac rfl ho];simp[Bp,hl]
 have aa:∀(g:aae)(T:Nat)(L:List Bool)(j:Nat)(l:Bool),g.own T=some (.cells (Bo L))->L[j]?=some l->acd Tryz.prog g 4 ⟨T,j,none⟩=some (.bool l):=fun g T L j l ho hl=>by rw[Fq AV rfl ho];simp[Bo,hl]
 refine aab.intro (fun k fr G=>∃(met:List Bool)(tr o B:II)(up:RZ)(c wv:Value),k=2*(n-o.length)+B.length/\fr=mkF [(0,bv),(6,.slice (some ⟨U,0,none⟩) n n),(7,.slice (some ⟨M,0,none⟩) n n),(8,.slice (some ⟨R,0,none⟩) n n),(9,c),(10,wv)]/\
   WkH n es s h G U M R c wv met tr o B up)
  (2*(n-1)+1) [(0,bv),(6,.slice (some ⟨U,0,none⟩) n n),(7,.slice (some ⟨M,0,none⟩) n n),(8,.slice (some ⟨R,0,none⟩) n n),(9,az),(10,aB)] hAs
  ⟨_,_,_,_,_,_,_,rfl,rfl,K0⟩ ?_
 clear K0 w7;clear h7 az aB;rintro k fr G H ⟨met,tr,o,B,up,c,wv,rfl,rfl,K⟩;have lw:=fun g=>K.gw.rl.DH g;simp only[y6]at lw;rcases wV B with rfl|⟨op,v,ba⟩
 .simp only[List.length_nil]at lw;have c0:¬(((0:Nat):Int)>0):=NH;simp only[HO,seval,lw,c0,MX,tx,J4];exact⟨c,_,o,up,rfl,K.go,⟨K.oU,K.oo.1,K.nn.1⟩,K.ds.fin,K.le,K.ao⟩
 obtain rfl:B=op++[v]:=pw;clear ba;have bb:v∈o:=K.ds.sub.subset Ma;have a:v<n:=K.ds.lt v bb;have bg:=K.ds.len_opn;have m:(op++[v]).length=op.length+1:=by simp
 rw[m]at bg;simp only[m]at lw;have c0:(((op.length+1:Nat):Int)>0):=NH;have aC:adA .i64 (((op.length+1:Nat):Int)-1)=((op.length:Nat):Int):=by grind[ie]
 have aD:=K.gw.rl.TA op.length (by rw[y6,m];omega);have ae:=K.gw.rl.Uc op.length (by rw[y6,m];omega);have aE:(aaa (op++[v]))[op.length]'(by grind)=(v:Int):=by simp[aaa]
 rw[aE]at ae;simp only[HO,seval,lw,c0,aC,aD,ae];have aF:v<(Zh n es).length:=by grind[Xq]
 have aH:=a8 v a;obtain⟨uv,bh,i⟩:=hb.Wm v aF;have aJ:(Zh n es).getD v []=(Zh n es)[v]:=D4 aF;generalize (Zh n es)[v]=row at i aJ;have lr:=fun g=>i.DH g;have bo:row.length<=3000:=by have:=bV n es row (by grind);omega
 have p:=CA (show v<tr.length by rw[K.ds.trl];exact a);have ag:tr[v]'(by grind)<=row.length:=by rw[<-aJ];exact(K.ds.tr _ _ p).1
 refine aab.intro (fun k fr G=>∃(tr:II)(t:Nat),k=row.length-t/\t<=row.length/\tr[v]?=some t/\fr=mkF [(0,bv),(6,.slice (some ⟨U,0,none⟩) n n),(7,.slice (some ⟨M,0,none⟩) n n),(8,.slice (some ⟨R,0,none⟩) n n),(9,c),(10,wv),(11,.int .i64 v)]/\
   WkH n es s h G U M R c wv met tr o (op++[v]) up)
  (row.length-tr[v]'(by rw[K.ds.trl];exact a)) [(0,bv),(6,.slice (some ⟨U,0,none⟩) n n),(7,.slice (some ⟨M,0,none⟩) n n),(8,.slice (some ⟨R,0,none⟩) n n),(9,c),(10,wv),(11,.int .i64 v)] hAs
  ⟨_,_,rfl,ag,p,rfl,K⟩ ?_
 clear ag p ae aE aD lw K H;clear tr G;rintro k fr G H ⟨tr,t,rfl,ag,p,rfl,K⟩;have lw:=fun g=>K.gw.rl.DH g;simp only[y6,m]at lw;have I:=XP G R (aaa tr) v t K.oR (by grind[aaa]);have O:=bh G K.le;refine Uy ?_;refine gh (tA [0,1,2,3,4,5,6,7,8,9] .done) ?_;simp only[HO,seval,Qg,Kx R _ v a,I,aH,O,lr];refine Kl.intro (fun ht=>?_) (fun hf=>?_)
 rotate_left
 .have br:row.length<=t:=vp hf;obtain rfl:t=row.length:=NH;obtain⟨aK,aP,aT,aj⟩:=K.gw.cut op.length (by grind[y6]);have bj:(aaa (op++[v])).take op.length=aaa op:=by simp[aaa]
  rw[bj]at aT;simp only[HO,seval,lw,aC,aP];refine tn (2*(n-o.length)+op.length) [(0,bv),(6,.slice (some ⟨U,0,none⟩) n n),(7,.slice (some ⟨M,0,none⟩) n n),(8,.slice (some ⟨R,0,none⟩) n n),(9,c),(10,aK)] (by rw[m];omega) hAs
   ⟨met,tr,o,op,up,c,aK,rfl,rfl,{K with gw:=aT,ap:=(by rw[aj];exact K.ap),ww:=(by rw[aj];exact K.ww),aw:=(by unfold Z2;rw[aj];exact K.aw),ds:=K.ds.pop hr (by grind)}⟩
 have al:t<row.length:=CC ht;clear ht;have J:((Zh n es).getD v [])[t]?=some row[t]:=pw;have bk:=i.TA t al;have aV:=(i.le Nn.RP K.le).Uc t al;have aW:row[t]∈(Zh n es).getD v []:=BS J;generalize row[t]=x at J aV aW;obtain⟨w,rfl,d⟩:=Ru hr aW;refine Uy ?_;refine gh (tA [0,1,2,3,4,5,6,7,8,9,10] .done) ?_;simp only[HO,seval,Qg,Kx R _ v a,I,aH,O,bk,aV];have C:=CA (show w<met.length by rw[K.ds.metl];exact d);generalize met[w]'(by grind)=mb at C
 have bx:=aa G M met w mb K.oM C;cases mb with
 |true=>
  have aq:w∈o:=(K.ds.mm w d).1 C;obtain⟨h1,st,w1,K1⟩:=K.toWkP.tH (t+1) a H;have D1:=K.ds.skip p J (by simpa using aq);have D:=aa h1 M met w true K1.oM C;simp only[HO,seval,Kx R _ v a,I,Tw t NH,st,W _ w d,D];exact tn (row.length-(t+1)) [(0,bv),(6,.slice (some ⟨U,0,none⟩) n n),(7,.slice (some ⟨M,0,none⟩) n n),(8,.slice (some ⟨R,0,none⟩) n n),(9,c),(10,wv),(11,.int .i64 v)] NH hAs
   ⟨_,t+1,rfl,al,(by grind),rfl,⟨K1,D1⟩⟩
 |false=>
  have aq:w∉o:=fun hm=>by have:=(K.ds.mm w d).2 hm;grind
  obtain⟨h1,st,w1,K1⟩:=K.toWkP.tH (t+1) a H;have D:=aa h1 M met w false K1.oM C;obtain⟨h2,h3,st2,st3,Q,K3⟩:=K1.mark v d w1;have bB:=K.ds.len_o;obtain⟨v1,v2,q,E,h6,h7,_,b4,a5,v3,v4,b6,a7,-,w7,K7⟩:=K3.grow w Q NH (by grind);have D7:=K.ds.push hr ha p J aq;simp only[HO,seval,Kx R _ v a,I,Tw t NH,st,W _ w d,D,st2,Kx U _ w d,st3,b4,a5,b6,a7];have bF:o.length+1<=n:=by have:=D7.len_o;grind
  exact tn (2*(n-(o++[w]).length)+(op++[v]++[w]).length) [(0,bv),(6,.slice (some ⟨U,0,none⟩) n n),(7,.slice (some ⟨M,0,none⟩) n n),(8,.slice (some ⟨R,0,none⟩) n n),(9,v2),(10,v4)] (by simp;omega) hAs
   ⟨_,_,_,_,_,_,_,rfl,rfl,⟨K7,D7⟩⟩
end
end Go.Fw
