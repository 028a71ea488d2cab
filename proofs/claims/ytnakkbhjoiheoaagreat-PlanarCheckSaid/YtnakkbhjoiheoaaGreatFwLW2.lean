/- A text. -/
import Derived.Test.YtnakkbhjoiheoaaGreatFwLB13
import Derived.Test.YtnakkbhjoiheoaaGreatFwScope
set_option linter.all false
set_option maxRecDepth 99999
set_option maxHeartbeats 9999999
open Go.Proofs
open Option renaming some→Z,none→Y
open Bool renaming true→tT,false→fF
open List renaming replicate→rP
open Go.Value renaming slice→sL,pointer→pT
open Go renaming Value→vV
open Go.Proofs.Tryz renaming prog→pG
open Go.Proofs.Tryz
namespace Go.Fw
section
attribute [local irreducible] Kp MQ lU KO1 KO KN KX KE VK Kl ZJ TC aab
variable {h:aai} {v:Value} {xs:RZ}
theorem N7(p:LA)(v q:vV)(G:GM)(xs:RZ)(h:aai)(hg:GR h v G)(hw:RL RP h q xs)(Q:xs.length<=100000):
  AC pG p 52 [v,q] h fun x h'=>Le h h'/\∃m e,x=.tuple #[m,.int .i64 e]/\
   ((¬bX G/\m=.slice Y 0 0/\e=20)\/(bX G/\(¬∀x∈xs,0<=x/\x<G.n)/\m=.slice Y 0 0/\e=2)\/
    (bX G/\(∀x∈xs,0<=x/\x<G.n)/\e=0/\RL (RL RP) h' m (Zh G.n.toNat G.es))):=by
 have f:=hg;obtain⟨z,es⟩:=G
 obtain⟨ev,rfl,F⟩:=hg.open
 refine AC.vE ⟨func52,rfl,WY⟩ ntmps52 results52 fun r=>?_;simp only[Br,seval];obtain⟨A,H,a,I,-,C⟩:=r8 (n:=z) r F
 generalize h.next=B at*
 have s:=C A (Le.refl _);refine sFa (XC H s.1) ?_;refine kCi qS7 (ak p _ _ A (f.le a)) ?_;rintro x h2 J ⟨⟨K,rfl,t⟩,b⟩;cases K with
 |false=>refine sSs ?_;grind[Le.trans]
 |true=>
 have u:=t.1 rfl;have L:0<=z:=u.n0;obtain⟨n,rfl⟩:=Sb L;have lw:=fun g=>hw.DH g;simp only[HO,seval,lw];refine lIn (fun k fr o=>∃i:Nat,k=xs.length-i/\i<=xs.length/\fr=mkF [(2,pT (Z B)),(11,q),(12,.int .i64 xs.length),(13,i)]/\o=h2/\∀(j:Nat) x,j<i->xs[j]?=Z x->0<=x/\x<(n:Int)) ⟨0,rfl,abe _,rfl,rfl,NH⟩ ?_;rintro k fr o M ⟨i,rfl,hi,rfl,rfl,D⟩;have d:=C o b;refine sSs ?_;refine Kl.intro (fun E=>?_) (fun hf=>?_)
 .have c:i<xs.length:=CC E;clear E;have l:=CA c;have ad:=hw.TA i c;have ld:=(hw.le Nn.RP (a.trans b)).Uc i c;generalize xs[i]=y at l ld;by_cases c1:y<0
  .simp only[HO,seval,ad,ld,c1];exact⟨a.trans b,_,_,rfl,.inr (.inl ⟨u,fun hh=>by have:=hh y (BS l);omega,rfl,rfl⟩)⟩
  by_cases c2:y>=(n:Int)
  .simp only[HO,seval,ad,ld,c1,c2,Ii,Ip,Gc,d.2.1];grind[Le.trans]
  simp only[HO,seval,ad,ld,c1,c2,Ii,Ip,Gc,d.2.1,aaa i NH];exact lgA NH ⟨i+1,rfl,c,rfl,rfl,fun j x R S=>by grind⟩
 .have N:xs.length<=i:=vp hf;refine sFa d.1 ?_;refine kCi afm (oe p _ n es o (f.le (a.trans b)) u) ?_;rintro T h3 O ⟨w,P⟩;refine sSs ?_;grind[Le.trans,List.mem_iff_getElem?]
def GU(h:aai)(v:vV)(xs:RZ):Prop:=GT 1 h v xs.length (Bp xs)
theorem GU.le{h h':aai}{v:vV}{xs:RZ}(g:GU h v xs)(e:Le h h'):GU h' v xs:=GT.le g e
theorem GU.rl(g:GU h v xs):RL RP h v xs:=RL.Wh (GT.cs g).rs
theorem GU.push{h:aai}{v:vV}{xs:RZ}(g:GU h v xs)(d:WF h)(x:Int)(m:xs.length<=100000):
  ∃v' c a,aas pG h 28 1 [(0,x)]=Z (sL (Z h.next) 1 1,c)/\aaR pG c 28 28 v (sL (Z h.next) 1 1)=Z (v',a)/\GU a v' (xs++[x])/\WF a/\Le h c/\
   (∀f,Le f h->Z2 f v->Le f a/\Z2 f v')/\(∀b o,h.own b=Z o->blk v≠Z b->a.own b=Z o/\blk v'≠Z b):=by
 obtain⟨c,e4,l4,e,j⟩:=Tt d [x];obtain⟨v',a,i,n,hf⟩:=(GT.le g l4).push (P:=pG) (t:=28) Ji j (yG _) rfl NH;refine⟨v',c,a,by rw[DQ,e4],i,?_,xr e i,l4,fun f k af=>hf f e (k.trans l4) af,fun b o l hb=>aG hf e (l4.own _ _ l) hb⟩;grind[Bp,GU.eq_1]
theorem GU.cut{h:aai}{v:vV}{xs:RZ}(g:GU h v xs)(m:Nat)(a:m<=xs.length):∃v',abf pG 28 v Y (Z (.int .i64 m)) Y=Z v'/\GU h v' (xs.take m)/\blk v'=blk v:=by obtain⟨v',e,c,b⟩:=GT.cut (P:=pG) Mb Ac Ji g m a;grind[GU.eq_1,Bp.eq_1,List.map_take]
theorem GU.kept{h h':aai}{v:vV}{xs:RZ}(g:GU h v xs)(a:∀b o,blk v=Z b->h.own b=Z o->h'.own b=Z o):GU h' v xs:=GT.kept g a
def Bo(l:List Bool):xLV:=l.map vV.bool
theorem O2(l:List Bool):(Bo l).length=l.length:=by simp[Bo]
def Tr(l:List Bool)(i:Nat)(b:Bool):(Bo l).set i (.bool b)=Bo (l.set i b):=by simp[Bo,C4]
variable {M R U n w:Nat} {hq:aai} {met:List Bool} {o opn tr:II} {ov wv:Value} {up:RZ}
structure WkP (n:Nat) (h hq:aai) (U M R:Nat) (ov wv:vV) (met:List Bool) (tH o opn:II) (up:RZ):Prop where
 oU:hq.own U=Z (.cells (Bp up))
 oM:hq.own M=Z (.cells (Bo met))
 oR:hq.own R=Z (.cells (Bp (kz tH)))
 go:GI hq ov (kz o)
 gw:GU hq wv (kz opn)
 ap:∀b,blk ov=Z b->blk wv≠Z b
 oo:blk ov≠Z U/\blk ov≠Z M/\blk ov≠Z R
 ww:blk wv≠Z U/\blk wv≠Z M/\blk wv≠Z R
 ne:U≠M/\U≠R/\M≠R
 le:Le h hq
 nn:h.own U=Y/\h.own M=Y/\h.own R=Y
 ao:Z2 h ov
 aw:Z2 h wv
 lm:met.length=n
 lt:tH.length=n
 lu:up.length=n
structure WkH (n:Nat) (es:xLP) (s:Nat) (h hq:aai) (U M R:Nat) (ov wv:vV) (met:List Bool) (tH o opn:II) (up:RZ):Prop extends WkP n h hq U M R ov wv met tH o opn up where
 ds:DS n es s met tH o opn up
theorem WkP.tH(k:WkP n h hq U M R ov wv met tr o opn up){v:Nat}(a:Nat)(c:v<n)(b:WF hq):
  ∃h',aaK pG hq 3 (pT (Z ⟨R,v,Y⟩)) a=Z h'/\WF h'/\WkP n h h' U M R ov wv met (tr.set v a) o opn up:=by
 have e:(Bp (kz tr)).set v a=Bp (kz (tr.set v a)):=by grind[yy,kz,List.map_set]
 refine⟨_,QB (P:=pG) (t:=3) (x:=a) Ac Ji k.oR (off:=v) (by rw[uE,y6,k.lt];exact c) rfl rfl,b.put _ (b.lt k.oR),?_⟩;rw[e];exact{k with
  oU:=by grind[aai.By,WkP.ne,WkP.oU]
  oM:=by grind[aai.By,WkP.ne,WkP.oM]
  oR:=aai.Y3 _ _ _
  go:=GS.put k.go _ k.oo.2.2
  gw:=GT.put k.gw _ k.ww.2.2
  le:=k.le.put _ k.nn.2.2
  lt:=by simp[k.lt]}
theorem WkP.mark(k:WkP n h hq U M R ov wv met tr o opn up)(v:Nat)(hw:w<n)(a:WF hq):
  ∃e h2,aaK pG hq 4 (pT (Z ⟨M,w,Y⟩)) (.bool tT)=Z e/\aaK pG e 3 (pT (Z ⟨U,w,Y⟩)) v=Z h2/\WF h2/\WkP n h h2 U M R ov wv (met.set w tT) tr o opn (up.set w (v:Int)):=by
 have c:w<(Bo met).length:=by grind[O2,WkP.lm]
 have d:w<(Bp up).length:=by grind[uE,WkP.lu]
 have s1:=QB (P:=pG) (t:=4) (x:=.bool tT) AV Ji k.oM (off:=w) c rfl rfl;rw[Tr]at s1;have b:(hq.put M (.cells (Bo (met.set w tT)))).own U=Z (.cells (Bp up)):=by grind[aai.By,WkP.ne,WkP.oU]
 have s2:=QB (P:=pG) (t:=3) (x:=v) Ac Ji b (off:=w) d rfl rfl;rw[yy]at s2;have w1:=a.put (.cells (Bo (met.set w tT))) (a.lt k.oM);refine⟨_,_,s1,s2,w1.put _ (w1.lt b),{k with oU:=aai.Y3 _ _ _,oM:=?_,oR:=?_,go:=GS.put (GS.put k.go _ k.oo.2.1) _ k.oo.1,gw:=GT.put (GT.put k.gw _ k.ww.2.1) _ k.ww.1,le:=(k.le.put _ k.nn.2.1).put _ k.nn.1,lm:=by simp[k.lm],lu:=by simp[k.lu]}⟩
 all_goals grind[aai.By,WkP.ne,aai.Y3,WkP.oR]
theorem WkP.grow(k:WkP n h hq U M R ov wv met tr o opn up)(w:Nat)(p:WF hq)(D:o.length<=1000)(E:opn.length<=1000):
  ∃u d f h2 h3 a F,aas pG hq 28 1 [(0,w)]=Z (u,f)/\aaR pG f 28 28 ov u=Z (d,h2)/\∃v g,aas pG h2 28 1 [(0,w)]=Z (v,h3)/\aaR pG h3 28 28 wv v=Z (g,a)/\F=a/\WF a/\
   WkP n h a U M R d g met tr (o++[w]) (opn++[w]) up:=by
 have x:∀l:II,kz l++[(w:Int)]=kz (l++[w]):=fun l=>by simp[kz]
 obtain⟨d,f,h2,G,a1,q,w2,l1,H,k1⟩:=k.go.push p (w:Int) (by grind[y6]);obtain⟨l2,r⟩:=H h k.le k.ao;rw[x]at q;have s:GU h2 wv (kz opn):=k.gw.kept fun b o hb i=>(k1 b o i (fun j=>k.ap b j hb)).1;have U2:=k1 U _ k.oU k.oo.1;have M2:=k1 M _ k.oM k.oo.2.1;have y:=k1 R _ k.oR k.oo.2.2;have e:∀b,blk wv=Z b->blk d≠Z b:=fun b hb=>by obtain⟨c,j⟩:=GT.Sy k.gw hb;grind[WkP.ap]
 obtain⟨g,h3,a,I,J,z,K,l3,L,m⟩:=s.push w2 (w:Int) (by grind[y6]);obtain⟨l4,t⟩:=L h l2 k.aw;rw[x]at z;have A:=m U _ U2.1 k.ww.1;have B:=m M _ M2.1 k.ww.2.1;have C:=m R _ y.1 k.ww.2.2;refine⟨_,d,f,h2,h3,a,a,G,a1,_,g,I,J,rfl,K,{k with oU:=A.1,oM:=B.1,oR:=C.1,go:=?_,gw:=z,ap:=fun b hb=>?_,oo:=⟨U2.2,M2.2,y.2⟩,ww:=⟨A.2,B.2,C.2⟩,le:=l4,ao:=r,aw:=t}⟩
 .exact q.kept fun b o hb i=>(m b o i fun j=>e b j hb).1
 .have N:h2.own b≠Y:=GS.Sy q hb;cases i:h2.own b<;>grind
theorem V6(W0:LA)(bv:vV)(n s:Nat)(es:xLP)(h:aai)(hb:RL (RL RP) h bv (Zh n es))(hr:aV n es)(ha:D3 es)(hn:n<=300)(bx:es.length<=1000)(hs:s<n):
  AC pG W0 53 [bv,s] h fun x h'=>∃c U o up,x=.tuple #[c,sL (Z ⟨U,0,Y⟩) n n]/\GI h' c (kz o)/\(h'.own U=Z (.cells (Bp up))/\blk c≠Z U/\h.own U=Y)/\Oc n es s o up/\Le h h'/\Z2 h c:=by
 refine AC.vE ⟨func53,rfl,WY⟩ ntmps53 results53 fun aX=>?_;simp only[Br,seval];have lb:=fun g=>hb.qP5 g;rw[Xq]at lb;obtain⟨h1,e1,l1,w1,o1⟩:=Tt aX [.int .i64 (-1)];refine sSs ?_;refine VK.scope ?_;simp only[HO,seval,DQ,e1,lb];refine TC.intro PJ ⟨akx,rfl,WY⟩ (rN W0 _ n NH h1 (RL.Wh (RS.whole o1 rfl))) ?_;rintro x h2 w2 ⟨U,rfl,hU,o2,l2⟩
 have nU:h.own U=Y:=(l1.next w1 hU)
 have oU:h2.own U=Z (.cells (Bp (rP n (-1)))):=by rw[o2];simp[Bp]
 have mk:=Ye (P:=pG) (t:=41) (z:=.bool fF) h2 Uh rfl rfl rfl rfl Ji AV Ji n NH;obtain⟨h3,e3,l3,Q,o3⟩:=Tt w2 (rP n (.bool fF));rw[e3]at mk
 have nM:h.own h2.next=Y:=(l1.trans l2).next w2 (qL0 _)
 have r:U≠h2.next:=fun e=>by have:=w2.lt oU;omega
 generalize h2.next=M at*
 have oM:h3.own M=Z (.cells (Bo (rP n fF))):=by rw[o3];simp[Bo]
 have mk2:=Ye (P:=pG) (t:=28) (z:=.int .i64 0) h3 Mb rfl rfl rfl rfl Ji Ac Ji n NH;obtain⟨q,e4,l4,w4,o4⟩:=Tt Q (rP n (.int .i64 0));rw[e4]at mk2;have S:=(l1.trans l2).trans l3
 have nR:h.own h3.next=Y:=S.next Q (qL0 _)
 have N:U≠h3.next:=fun e=>by have:=Q.lt (l3.own _ _ oU);omega
 have y:M≠h3.next:=fun e=>by have:=Q.lt oM;omega
 generalize h3.next=R at*
 have oR:q.own R=Z (.cells (Bp (kz (rP n 0)))):=by rw[o4];simp[Bp,kz]
 obtain⟨E,e5,l5,w5,o5⟩:=Tt w4 [s];obtain⟨h6,e6,l6,w6,o6⟩:=Tt w5 [s];have A:=l5.trans l6;have V:=A.own _ _ (l4.own _ _ oM);have W:∀(k:IntKind)(j:Nat),j<n->aao pG 41 (sL (Z M) n n) (.int k j)=Z (pT (Z ⟨M,j,Y⟩)):=fun k j hj=>by rw[Wc Uh AV Ji j hj];simp[Ip]
 have Kx:∀(T:Nat)(k:IntKind)(j:Nat),j<n->aao pG 28 (sL (Z ⟨T,0,Y⟩) n n) (.int k j)=Z (pT (Z ⟨T,j,Y⟩)):=fun T k j hj=>by rw[Wc Mb Ac Ji j hj];simp[Ip]
 have st1:=QB (P:=pG) (t:=4) (x:=.bool tT) AV Ji V (off:=s) (by simp[Bo,hs]) rfl rfl;rw[Tr]at st1;simp only[HO,seval,lb,mk,mk2,DQ,e5,e6,W _ s hs,st1];refine VK.label ?_;simp only[HO,seval,MX,tx,J4]
 have a6:q.own q.next=Y:=(Le.refl q).next w4 (qL0 _)
 have a8:E.own E.next=Y:=(Le.refl E).next w5 (qL0 _)
 have aq:q.next≠E.next:=fun e=>by grind
 have F:=S.trans l4;have ar:=l3.trans l4
 have f:∀b o,q.own b=Z o->b≠q.next/\b≠E.next:=fun b o hb=>⟨fun e=>by grind,fun e=>by grind[Le.own]⟩
 have X:=ar.own _ _ oU;have av:=l4.own _ _ oM;have qU:=f _ _ X;have qM:=f _ _ av;have qR:=f _ _ oR
 have nO:h.own q.next=Y:=F.next w4 (qL0 _)
 have nW:h.own E.next=Y:=(F.trans l5).next w5 (qL0 _)
 have keep:∀b o,b≠M->h6.own b=Z o->(h6.put M (.cells (Bo ((rP n fF).set s tT)))).own b=Z o:=fun b o hb ho=>by grind[aai.By]
 have K0:WkH n es s h (h6.put M (.cells (Bo ((rP n fF).set s tT)))) U M R (sL (Z q.next) 1 1) (sL (Z E.next) 1 1) ((rP n fF).set s tT) (rP n 0) [s] [s] (rP n (-1)):={
  oU:=keep _ _ r (A.own _ _ X)
  oM:=aai.Y3 _ _ _
  oR:=keep _ _ (j3 y) (A.own _ _ oR)
  go:=GS.full (keep _ _ (j3 qM.1) (l6.own _ _ o5)) rfl (show 1<1000000000000 by decide)
  gw:=(GS.full (keep _ _ (j3 qM.2) o6) rfl (show 1<1000000000000 by decide)).gt
  ap:=fun b hb hc=>by injection hb with hb;injection hc with hc;grind
  oo:=⟨fun e=>by injection e with e;grind,fun e=>by injection e with e;grind,fun e=>by injection e with e;grind⟩
  ww:=⟨fun e=>by injection e with e;grind,fun e=>by injection e with e;grind,fun e=>by injection e with e;grind⟩
  ne:=⟨r,N,y⟩
  le:=(F.trans A).put _ nM
  nn:=⟨nU,nM,nR⟩
  ao:=fun b hb=>by injection hb with hb;grind
  aw:=fun b hb=>by injection hb with hb;grind
  lm:=by simp
  lt:=by simp
  lu:=by simp
  ds:=DS.start hs}
 have w7:=w6.put (.cells (Bo ((rP n fF).set s tT))) (w6.lt V);clear keep nO nW qU qM qR X av f ar F aq a8 a6 st1 V A o6 l6 o5 l5 oR y N nR S o4 l4 w4 mk2 oM r nM o3 l3 Q mk oU nU o2 l2 w2 o1 l1 w1;generalize h6.put M (.cells (Bo ((rP n fF).set s tT)))=h7 at*
 generalize vV.slice (Z q.next) 1 1=ay at*
 generalize vV.slice (Z E.next) 1 1=az at*
 clear w6 w5 e6 e5 e4 e3 e1 hU;clear h6 E q h3 h2 h1;have bb:∀u,u<n->aao pG 25 bv (.int .i64 u)=Z (pT (Z (aaq bv u))):=fun u hu=>hb.Wm u (by rw[Xq];exact hu);have XP:∀(g:aai)(T:Nat)(L:RZ)(j:Nat)(l:Int),g.own T=Z (.cells (Bp L))->L[j]?=Z l->aaC pG g 3 ⟨T,j,Y⟩=Z (.int .i64 l):=fun g T L j l ho hl=>by rw[Fq Ac rfl ho];simp[Bp,hl]
 have aa:∀(g:aai)(T:Nat)(L:List Bool)(j:Nat)(l:Bool),g.own T=Z (.cells (Bo L))->L[j]?=Z l->aaC pG g 4 ⟨T,j,Y⟩=Z (.bool l):=fun g T L j l ho hl=>by rw[Fq AV rfl ho];simp[Bo,hl]
 refine aab.intro (fun k fr G=>∃(met:List Bool)(tr o B:II)(up:RZ)(c wv:vV),k=2*(n-o.length)+B.length/\fr=mkF [(0,bv),(6,sL (Z ⟨U,0,Y⟩) n n),(7,sL (Z M) n n),(8,sL (Z R) n n),(9,c),(10,wv)]/\
   WkH n es s h G U M R c wv met tr o B up)
  (2*(n-1)+1) [(0,bv),(6,sL (Z ⟨U,0,Y⟩) n n),(7,sL (Z M) n n),(8,sL (Z R) n n),(9,ay),(10,az)] fD
  ⟨_,_,_,_,_,_,_,rfl,rfl,K0⟩ ?_
 clear K0 w7;clear h7 ay az;rintro k fr G H ⟨met,tr,o,B,up,c,wv,rfl,rfl,K⟩;have lw:=fun g=>K.gw.rl.DH g;simp only[y6]at lw;rcases gK B with rfl|⟨op,v,bg⟩
 .simp only[air]at lw;have c0:¬(((0:Nat):Int)>0):=NH;simp only[HO,seval,lw,c0,MX,tx,J4];exact⟨c,_,o,up,rfl,K.go,⟨K.oU,K.oo.1,K.nn.1⟩,K.ds.fin,K.le,K.ao⟩
 obtain rfl:B=op++[v]:=hGr;clear bg;have bh:v∈o:=K.ds.sub.subset Ma;have a:v<n:=K.ds.lt v bh;have bk:=K.ds.len_opn;have m:(op++[v]).length=op.length+1:=by simp
 rw[m]at bk;simp only[m]at lw;have c0:(((op.length+1:Nat):Int)>0):=NH;have aC:aaY .i64 (((op.length+1:Nat):Int)-1)=((op.length:Nat):Int):=by grind[ie]
 have aD:=K.gw.rl.TA op.length (by rw[y6,m];omega);have ae:=K.gw.rl.Uc op.length (by rw[y6,m];omega);have aF:(kz (op++[v]))[op.length]'(by grind)=(v:Int):=by simp[kz]
 rw[aF]at ae;simp only[HO,seval,lw,c0,aC,aD,ae];have aH:v<(Zh n es).length:=by grind[Xq]
 have aJ:=bb v a;obtain⟨uv,bm,i⟩:=hb.NS v aH;have aK:(Zh n es).getD v []=(Zh n es)[v]:=D4 aH;generalize (Zh n es)[v]=row at i aK;have lr:=fun g=>i.DH g;have bB:row.length<=3000:=by have:=bV n es row (by grind);omega
 have p:=CA (show v<tr.length by rw[K.ds.trl];exact a);have ag:tr[v]'(by grind)<=row.length:=by rw[<-aK];exact(K.ds.tr _ _ p).1
 refine aab.intro (fun k fr G=>∃(tr:II)(t:Nat),k=row.length-t/\t<=row.length/\tr[v]?=Z t/\fr=mkF [(0,bv),(6,sL (Z ⟨U,0,Y⟩) n n),(7,sL (Z M) n n),(8,sL (Z R) n n),(9,c),(10,wv),(11,v)]/\
   WkH n es s h G U M R c wv met tr o (op++[v]) up)
  (row.length-tr[v]'(by rw[K.ds.trl];exact a)) [(0,bv),(6,sL (Z ⟨U,0,Y⟩) n n),(7,sL (Z M) n n),(8,sL (Z R) n n),(9,c),(10,wv),(11,v)] fD
  ⟨_,_,rfl,ag,p,rfl,K⟩ ?_
 clear ag p ae aF aD lw K H;clear tr G;rintro k fr G H ⟨tr,t,rfl,ag,p,rfl,K⟩;have lw:=fun g=>K.gw.rl.DH g;simp only[y6,m]at lw;have I:=XP G R (kz tr) v t K.oR (by grind[kz]);have O:=bm G K.le;refine sSs ?_;refine gh (tA [0,1,2,3,4,5,6,7,8,9] .done) ?_;simp only[HO,seval,Qg,Kx R _ v a,I,aJ,O,lr];refine Kl.intro (fun ht=>?_) (fun hf=>?_)
 rotate_left
 .have bF:row.length<=t:=vp hf;obtain rfl:t=row.length:=NH;obtain⟨aL,aN,aP,ai⟩:=K.gw.cut op.length (by grind[y6]);have bo:(kz (op++[v])).take op.length=kz op:=by simp[kz]
  rw[bo]at aP;simp only[HO,seval,lw,aC,aN];refine tn (2*(n-o.length)+op.length) [(0,bv),(6,sL (Z ⟨U,0,Y⟩) n n),(7,sL (Z M) n n),(8,sL (Z R) n n),(9,c),(10,aL)] (by rw[m];omega) fD
   ⟨met,tr,o,op,up,c,aL,rfl,rfl,{K with gw:=aP,ap:=(by rw[ai];exact K.ap),ww:=(by rw[ai];exact K.ww),aw:=(by unfold Z2;rw[ai];exact K.aw),ds:=K.ds.pop hr (by grind)}⟩
 have aj:t<row.length:=CC ht;clear ht;have J:((Zh n es).getD v [])[t]?=Z row[t]:=hGr;have br:=i.TA t aj;have aT:=(i.le Nn.RP K.le).Uc t aj;have aW:row[t]∈(Zh n es).getD v []:=BS J;generalize row[t]=x at J aT aW;obtain⟨w,rfl,d⟩:=Ru hr aW;refine sSs ?_;refine gh (tA [0,1,2,3,4,5,6,7,8,9,10] .done) ?_;simp only[HO,seval,Qg,Kx R _ v a,I,aJ,O,br,aT];have C:=CA (show w<met.length by rw[K.ds.metl];exact d);generalize met[w]'(by grind)=mb at C
 have bG:=aa G M met w mb K.oM C;cases mb with
 |true=>
  have al:w∈o:=(K.ds.mm w d).1 C;obtain⟨h1,st,w1,K1⟩:=K.toWkP.tH (t+1) a H;have D1:=K.ds.skip p J (by simpa using al);have D:=aa h1 M met w tT K1.oM C;simp only[HO,seval,Kx R _ v a,I,aaa t NH,st,W _ w d,D];exact tn (row.length-(t+1)) [(0,bv),(6,sL (Z ⟨U,0,Y⟩) n n),(7,sL (Z M) n n),(8,sL (Z R) n n),(9,c),(10,wv),(11,v)] NH fD
   ⟨_,t+1,rfl,aj,(by grind),rfl,⟨K1,D1⟩⟩
 |false=>
  have al:w∉o:=fun hm=>by have:=(K.ds.mm w d).2 hm;grind
  obtain⟨h1,st,w1,K1⟩:=K.toWkP.tH (t+1) a H;have D:=aa h1 M met w fF K1.oM C;obtain⟨h2,h3,st2,st3,Q,K3⟩:=K1.mark v d w1;have bH:=K.ds.len_o;obtain⟨v1,v2,q,E,h6,h7,_,b4,a5,v3,v4,b6,a7,-,w7,K7⟩:=K3.grow w Q NH (by grind);have D7:=K.ds.push hr ha p J al;simp only[HO,seval,Kx R _ v a,I,aaa t NH,st,W _ w d,D,st2,Kx U _ w d,st3,b4,a5,b6,a7];have bI:o.length+1<=n:=by have:=D7.len_o;grind
  exact tn (2*(n-(o++[w]).length)+(op++[v]++[w]).length) [(0,bv),(6,sL (Z ⟨U,0,Y⟩) n n),(7,sL (Z M) n n),(8,sL (Z R) n n),(9,v2),(10,v4)] (by simp;omega) fD
   ⟨_,_,_,_,_,_,_,rfl,rfl,⟨K7,D7⟩⟩
end
end Go.Fw
