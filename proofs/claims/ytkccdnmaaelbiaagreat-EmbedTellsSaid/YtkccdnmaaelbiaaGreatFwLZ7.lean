/- A text. -/
import Derived.Test.YtkccdnmaaelbiaaGreatFwLZ6
import Derived.Test.YtkccdnmaaelbiaaGreatFwLT3
import Derived.Test.YtkccdnmaaelbiaaGreatFwLI1
set_option linter.all false
set_option maxRecDepth 99999
set_option maxHeartbeats 9999999
open Go.Proofs
namespace Go.Fw
section
attribute [local irreducible] Kp MQ lU rS KO KN KX KE VK Kl ZJ TC aab
variable {es:List Pr} {n:Nat}
structure LowR (n:Nat) (ls:List Lw) (o:II):Prop where
 len:ls.length=n
 lt:∀v∈o,v<n
 Em:o.length<=n
 up:∀v,v<n->(Ro ls v).2.1<(n:Int)
def lowM_R(hR:InR n es):LowR n (Jz n es).1 (Jz n es).2:=by obtain⟨C,_⟩:=ZC hR n (qL0 _);refine⟨by rw[Jz,Qp,OQ];exact C.len,C.lt,C.toLowI.Em,fun v a=>?_⟩;rw[Jz,(mE _ _ v).2,(RK _ _ v).2];exact C.up v a
theorem amax_i(a b:Int):LZ (.int .i64 a) [.int .i64 b]=some (.int .i64 (max a b)):=by grind[LZ]
def bP2(a b:Int):ag1 Tryz.prog 38 [(0,.int .i64 a),(1,.int .i64 b)]=some (UI (a,b)):=Ji
def zD(ls:List Lw)(c:RZ)(v:Nat):RZ:=if 0<=(Ro ls v).2.1/\(Ro ls (Ro ls v).2.1.toNat).1<=(Ro ls v).2.2 then c.set (Ro ls v).2.1.toNat (c.getD (Ro ls v).2.1.toNat 0+1)else c
def cntM(ls:List Lw)(o:II)(n:Nat):RZ:=o.foldl (zD ls) (List.replicate n 0)
theorem AX(ls:List Lw)(c:RZ)(v:Nat):(zD ls c v).length=c.length:=by grind[zD]
def isCut(ls:List Lw)(c:RZ)(v:Nat):Bool:=decide (c.getD v 0>1)||(decide (c.getD v 0=1)&&decide ((Ro ls v).2.1>=0))
def JL(n:Nat)(es:List Pr):II:=(List.range n).filter (isCut (Jz n es).1 (cntM (Jz n es).1 (Jz n es).2 n))
def mkI0(h:aae):abB Tryz.prog h 49 0 []=some (.slice (some ⟨h.next,0,none⟩) 0 0,h.alloc (.cells [])):=rfl
def pK(ls:List Lw)(p:Pr):Nat:=if(Ro ls p.1.toNat).1>(Ro ls p.2.toNat).1 then p.1.toNat else p.2.toNat
def rQ(ls:List Lw)(H:RZ)(v:Nat):RZ:=if 0<=(Ro ls v).2.1/\(Ro ls v).2.2<(Ro ls (Ro ls v).2.1.toNat).1 then(H.set v (v:Int)).set v ((H.set v (v:Int)).getD (Ro ls v).2.1.toNat 0)else H.set v (v:Int)
def hdM(ls:List Lw)(o:II)(n:Nat):RZ:=o.foldl (rQ ls) (List.replicate n 0)
theorem IB(ls:List Lw)(c:RZ)(v:Nat):(rQ ls c v).length=c.length:=by grind[rQ]
theorem Cc(ls:List Lw):∀(o:II)(c:RZ),(o.foldl (rQ ls) c).length=c.length
 |[],c=>rfl
 |v::o,c=>by rw[Dj,Cc ls o,IB]
def cQ(n:Nat)(es:List Pr)(p:Pr):Int:=(hdM (Jz n es).1 (Jz n es).2 n).getD (pK (Jz n es).1 p) 0
def vq(n:Nat)(es:List Pr):List (List Pr):=(ac3 (fun p _=>cQ n es p) es [] es.length).map (·.2)
theorem NU(p:LA)(n L f a c:Nat)(ls:List Lw)(h:aae)(u:ls.length=n)(oV:h.own f=some (.cells [.slice (some ⟨L,0,none⟩) n n]))(oL:h.own L=some (.cells (Wo ls)))(ha:a<n)(j:c<n):
  AC Tryz.prog p 85 [UI ((a:Int),(c:Int)),.pointer (some ⟨f,0,none⟩)] h fun x h'=>x=.int .i64 (pK ls ((a:Int),(c:Int)):Nat)/\Le h h':=by
 have e:=fun(g:aae)(o:g.own f=some (.cells [.slice (some ⟨L,0,none⟩) n n]))=>(Fq (P:=Tryz.prog) qS9 rfl o (off:=0):acd Tryz.prog g 104 ⟨f,0,none⟩=_);simp only[aa3]at e;refine AC.vE ⟨Tryz.func85,rfl,WY⟩ Tryz.ntmps85 Tryz.results85 fun i=>?_;simp only[Br,seval];obtain⟨r,s,l1,w1,l⟩:=Tt i (xM ((a:Int),(c:Int)));have m1:=lK l;have m2:=HY l;simp only at m1 m2;have m:=V0 (ls:=ls) (v:=a) NH;have gc:=V0 (ls:=ls) (v:=c) NH;have b:=l1.own _ _ oL;have q:=e r (l1.own _ _ oV);simp only[HO,seval,Ci,s]
 generalize h.next=E at*
 by_cases k:(Ro ls a).1>(Ro ls c).1
 .have d:decide ((Ro ls a).1>(Ro ls c).1)=true:=XJ k;have t:pK ls ((a:Int),(c:Int))=a:=by grind[pK]
  refine gh (tA [0,1,2,3,4,5,6,7,8,9,10,11,12] .done) ?_;simp only[HO,seval,Qg,Dh,Z0,Ip,Qn,Gc,m1,m2,q,Is a ha,Is c j,fl0,Nh b m,Nh b gc,d];grind
 .have d:decide ((Ro ls a).1>(Ro ls c).1)=false:=Sb k;have t:pK ls ((a:Int),(c:Int))=c:=by grind[pK]
  refine gh (tA [0,1,2,3,4,5,6,7,8,9,10,11,12] .done) ?_;simp only[HO,seval,Qg,Dh,Z0,Ip,Qn,Gc,m1,m2,q,Is a ha,Is c j,fl0,Nh b m,Nh b gc,d];grind
theorem Cw(W0:LA)(v:Value)(G:GM)(h:aae)(hg:GR h v G):
  AC Tryz.prog W0 46 [v] h fun x h'=>Le h h'/\((¬bX G/\x=.tuple #[.slice none 0 0,.int .i64 20])\/(bX G/\∃bv,x=.tuple #[bv,.int .i64 0]/\RL PR h' bv (vq G.n.toNat G.es))):=by
 have cg:=hg;obtain⟨gn,es⟩:=G
 obtain⟨ev,rfl,hp⟩:=hg.open
 refine AC.vE ⟨Tryz.func46,rfl,WY⟩ Tryz.ntmps46 Tryz.results46 fun ck=>?_;simp only[Br,seval];obtain⟨h1,b1,aJ,dm,-,lA⟩:=r8 (n:=gn) ck hp
 generalize h.next=B at*
 have cm:=lA h1 (Le.refl _);simp only[HO,seval,b1,cm.1];refine TC.intro PJ ⟨Tryz.func84,rfl,WY⟩ (qX W0 _ _ h1 (cg.le aJ)) ?_;rintro x h2 br ⟨bx,aK⟩;have al:=LG h2;obtain⟨h3,e3,l3,w3,o3⟩:=Tt br [.slice none 0 0];rw[e3]at al
 have nV:h2.own h2.next=none:=(Le.refl h2).next br (qL0 _)
 rcases aK with⟨hr,rfl⟩|⟨hr,L,ov,rfl,oL,nL,go,nb,ao⟩
 .have st:=QB (P:=Tryz.prog) (t:=104) (x:=.slice none 0 0) qS9 Ji o3 (off:=0) Ma rfl rfl;have d20:decide ((20:Int)=0)=false:=by decide
  simp only[HO,seval,al,st,bne,d20];grind[Le.trans,Le.put]
 have h0:0<=gn:=hr.n0;obtain⟨n,rfl⟩:=Z6 h0;have dj:(n:Int)<=200:=hr.n1;have dk:es.length<=594:=hr.len;have hR:=hr.GD;have R:=lowM_R hr.GD;simp only[af8]at oL go ⊢;have hM:vq n es=(ac3 (fun p _=>(hdM (Jz n es).1 (Jz n es).2 n).getD (pK (Jz n es).1 p) 0) es [] es.length).map (·.2):=rfl;generalize (Jz n es).1=ls at*;generalize (Jz n es).2=o at*;have dp:=R.Em;have st:=QB (P:=Tryz.prog) (t:=104) (x:=.slice (some ⟨L,0,none⟩) n n) qS9 Ji o3 (off:=0) Ma rfl rfl;have w4:=w3.put (.cells ([Value.slice none 0 0].set 0 (.slice (some ⟨L,0,none⟩) n n))) (w3.lt o3);have l4:=l3.put (.cells ([Value.slice none 0 0].set 0 (.slice (some ⟨L,0,none⟩) n n))) nV
 have aP:=aae.Y3 h3 h2.next (.cells ([Value.slice none 0 0].set 0 (.slice (some ⟨L,0,none⟩) n n)))
 simp only[ake]at aP l4 w4 st;have lo:=fun g=>go.rl.DH g;rw[y6]at lo;simp only[HO,seval,al,st,bne];clear st al e3 o3 w3 l3
 generalize h3.put h2.next (.cells [.slice (some ⟨L,0,none⟩) n n])=h4 at*
 generalize h2.next=S at*
 clear h3;have bB:=lA h4 (bx.trans l4);have mk:=Ye (P:=Tryz.prog) (t:=49) (z:=.int .i64 0) h4 Mb rfl rfl rfl rfl Ji Ac Ji n NH;obtain⟨h5,e5,l5,w5,o5⟩:=Tt w4 (List.replicate n (.int .i64 0));rw[e5]at mk
 have nC:h4.own h4.next=none:=(Le.refl h4).next w4 (qL0 _)
 simp only[HO,seval,Ii,Ip,Gc,bB.2.1,mk,lo]
 generalize h4.next=C at*
 have bF:h5.own C=some (.cells (Bp (List.replicate n 0))):=by rw[o5];simp[Bp]
 have cp:=l4.own _ _ oL;have cq:=go.le l4;have aa:=fun(g:aae)(o:Le h4 g)=>(Fq (P:=Tryz.prog) qS9 rfl (o.own _ _ aP) (off:=0):acd Tryz.prog g 104 ⟨S,0,none⟩=_);simp only[aa3]at aa;have ae:∀(k:IntKind)(j:Nat),j<n->abX Tryz.prog 49 (.slice (some ⟨C,0,none⟩) n n) (.int k j)=some (.pointer (some ⟨C,j,none⟩)):=fun k j hj=>by rw[Wc Mb Ac Ji j hj];simp[Ip]
 have bH:∀(g:aae)(c:RZ)(j:Nat),g.own C=some (.cells (Bp c))->c.length=n->j<n->acd Tryz.prog g 3 ⟨C,j,none⟩=some (.int .i64 (c.getD j 0)):=fun g c j N hl hj=>by rw[Fq Ac rfl N,D4 NH];simp[Bp,CA (show j<c.length by omega)]
 refine aab.intro (fun k fr m=>∃(i:Nat),k=o.length-i/\i<=o.length/\fr=mkF [(1,.pointer (some ⟨B,0,none⟩)),(4,.pointer (some ⟨S,0,none⟩)),(7,.slice (some ⟨C,0,none⟩) n n),(32,ov),(33,.int .i64 o.length),(34,.int .i64 i)]/\m.own C=some (.cells (Bp ((o.take i).foldl (rQ ls) (List.replicate n 0))))/\Le h4 m)
  o.length [(1,.pointer (some ⟨B,0,none⟩)),(4,.pointer (some ⟨S,0,none⟩)),(7,.slice (some ⟨C,0,none⟩) n n),(32,ov),(33,.int .i64 o.length),(34,.int .i64 (0:Nat))] hAs ⟨0,rfl,WA _,rfl,bF,l5⟩ ?_
 clear bF o5 w5 l5 e5 mk lo bB;clear h5;rintro k fr m aT ⟨i,rfl,hi,rfl,oC,leq⟩;have aV:((o.take i).foldl (rQ ls) (List.replicate n 0)).length=n:=by grind[Cc]
 refine Uy ?_;refine Kl.intro (fun ht=>?_) (fun hf=>?_)
 .have d:i<o.length:=CC ht;clear ht;have bI:=CA d;have ad:=go.rl.TA i (by rw[y6];exact d);have ld:=(cq.le leq).rl.Uc i (by rw[y6];exact d);rw[sY d]at ld;have cr:o.take (i+1)=o.take i++[o[i]]:=EL d;generalize o[i]=w at bI ld cr;have O:=R.lt w (BS bI);have gw:=V0 (ls:=ls) (v:=w) (by grind[LowR.len]);have A:(o.take (i+1)).foldl (rQ ls) (List.replicate n 0)=rQ ls ((o.take i).foldl (rQ ls) (List.replicate n 0)) w:=pw;generalize (o.take i).foldl (rQ ls) (List.replicate n 0)=H at*;have st1:=QB (P:=Tryz.prog) (t:=3) (x:=.int .i64 (w:Int)) Ac Ji oC (off:=w) (by simp[Bp];omega) rfl rfl;rw[yy]at st1;have r:=leq.put (.cells (Bp (H.set w (w:Int)))) nC;have ag:=aae.Y3 m C (.cells (Bp (H.set w (w:Int))));have bN:(H.set w (w:Int)).length=n:=pw;generalize m.put C (.cells (Bp (H.set w (w:Int))))=h6 at*;have T:=r.own _ _ cp;simp only[HO,seval,ad,ld,ae _ w O,st1,aa h6 r,Is w O,fl1,Ip,lUp T gw];by_cases c1:0<=(Ro ls w).2.1
  .obtain⟨u,s⟩:=Z6 c1;have aj:u<n:=by have:=R.up w O;omega
   have gu:=V0 (ls:=ls) (v:=u) (by grind[LowR.len]);have d1:decide ((u:Int)>=0)=true:=XJ NH;by_cases c2:(Ro ls w).2.2<(Ro ls u).1
   .have d2:decide ((Ro ls w).2.2<(Ro ls u).1)=true:=XJ c2;have hE:rQ ls H w=(H.set w (w:Int)).set w ((H.set w (w:Int)).getD u 0):=by grind[rQ,Int.toNat_natCast]
    have st:=QB (P:=Tryz.prog) (t:=3) (x:=.int .i64 ((H.set w (w:Int)).getD u 0)) Ac Ji ag (off:=w) (by simp[Bp];omega) rfl rfl;rw[yy,<-hE,<-A]at st;simp only[s];refine gh (tA [0,1,2,3,4,5,6,7,8,9,10,11,12,13,14] .done) ?_;simp only[HO,seval,Qg,d1,d2,aa h6 r,Is w O,Is u aj,fl0,fl2,Ip,Qn,jA T gw,Nh T gu,ae _ u aj,ae _ w O,bH h6 _ u ag bN aj,st,Tw i NH];exact tn (o.length-(i+1)) [(1,.pointer (some ⟨B,0,none⟩)),(4,.pointer (some ⟨S,0,none⟩)),(7,.slice (some ⟨C,0,none⟩) n n),(32,ov),(33,.int .i64 o.length),(34,.int .i64 (i+1:Nat))] NH hAs ⟨i+1,rfl,d,rfl,aae.Y3 _ _ _,r.put _ nC⟩
   .have d2:decide ((Ro ls w).2.2<(Ro ls u).1)=false:=Sb c2;have hE:rQ ls H w=H.set w (w:Int):=by grind[rQ,Int.toNat_natCast]
    simp only[s];refine gh (tA [0,1,2,3,4,5,6,7,8,9,10,11,12,13,14] .done) ?_;simp only[HO,seval,Qg,d1,d2,aa h6 r,Is w O,Is u aj,fl0,fl2,Ip,Qn,jA T gw,Nh T gu,Tw i NH];exact tn (o.length-(i+1)) [(1,.pointer (some ⟨B,0,none⟩)),(4,.pointer (some ⟨S,0,none⟩)),(7,.slice (some ⟨C,0,none⟩) n n),(32,ov),(33,.int .i64 o.length),(34,.int .i64 (i+1:Nat))] NH hAs ⟨i+1,rfl,d,rfl,by rw[A,hE];exact ag,r⟩
  .have d1:decide ((Ro ls w).2.1>=0)=false:=Sb c1;have hE:rQ ls H w=H.set w (w:Int):=by grind[rQ]
   refine gh (tA [0,1,2,3,4,5,6,7,8,9,10,11,12,13,14] .done) ?_;simp only[HO,seval,Qg,d1,Tw i NH];exact tn (o.length-(i+1)) [(1,.pointer (some ⟨B,0,none⟩)),(4,.pointer (some ⟨S,0,none⟩)),(7,.slice (some ⟨C,0,none⟩) n n),(32,ov),(33,.int .i64 o.length),(34,.int .i64 (i+1:Nat))] NH hAs ⟨i+1,rfl,d,rfl,by rw[A,hE];exact ag,r⟩
 have aW:o.length<=i:=vp hf;rw[HV aW]at oC aV;have bQ:o.foldl (rQ ls) (List.replicate n 0)=hdM ls o n:=rfl;rw[bQ]at oC aV;rw[hM];clear hM bQ;generalize hdM ls o n=H at*
 obtain⟨Q,e7,y,U,o7⟩:∃Q,m.alloc (.map [])=Q/\Le m Q/\WF Q/\Q.own m.next=some (.map []):=⟨_,rfl,(Le.refl m).alloc aT _,aT.alloc _,aae.zT _ _⟩
 obtain⟨h8,e8,aq,cx,o8⟩:=Tt U []
 have bT:abB Tryz.prog Q 49 0 []=some (.slice (some ⟨Q.next,0,none⟩) 0 0,h8):=by rw[<-e8];rfl
 have nM:m.own m.next=none:=(Le.refl m).next aT (qL0 _)
 have nD:m.own Q.next=none:=y.next U (qL0 _)
 have bW:Q.next≠m.next:=fun e=>by have:=U.lt o7;omega
 have V:=bx.trans (l4.trans leq);have bY:=lA h8 (V.trans (y.trans aq));have ll:=fun g=>hp.len g;simp only[HO,seval,e7,bT,Di,Ip,Gc,bY.2.2,ll];have bZ:=aq.own _ _ o7
 generalize m.next=M at*
 generalize Q.next=D at*
 have cz:=hp.le (aJ.trans V);have cC:=(l4.trans leq).own _ _ oL;have cE:=leq.own _ _ aP;generalize cM:(fun(p:Pr)(_:Nat)=>H.getD (pK ls p) 0)=fr at*;have R0:aaB m h8 M [] (ac3 fr es [] 0):=⟨bZ,rfl,fun j u g s=>by simp at s,fun j u s=>by simp at s,fun j k u u' b _ s=>by simp at s,fun j u s=>by simp at s,y.trans aq,nM⟩;have gC:GI h8 (.slice (some ⟨D,0,none⟩) 0 0) (Ea (ac3 fr es [] 0)):=GS.full o8 rfl WY;refine aab.intro (fun k W hh=>∃(i:Nat)(cv:Value)(us:List Value),k=es.length-i/\i<=es.length/\W=mkF [(7,.slice (some ⟨C,0,none⟩) n n),(11,.func (.func 85) #[] #[.pointer (some ⟨S,0,none⟩)]),(12,.map (some M)),(13,cv),(74,ev),(75,.int .i64 es.length),(76,.int .i64 i)]/\
   aaB m hh M us (ac3 fr es [] i)/\GI hh cv (Ea (ac3 fr es [] i))/\blk cv≠some M/\(∀(j:Nat) u b,us[j]?=some u->blk u=some b->blk cv≠some b)/\Z2 m cv)
  es.length [(7,.slice (some ⟨C,0,none⟩) n n),(11,.func (.func 85) #[] #[.pointer (some ⟨S,0,none⟩)]),(12,.map (some M)),(13,.slice (some ⟨D,0,none⟩) 0 0),(74,ev),(75,.int .i64 es.length),(76,.int .i64 (0:Nat))] hAs
  ⟨0,_,[],rfl,WA _,rfl,R0,gC,by grind[blk],fun j u b s=>by simp at s,fun b hb=>by grind[blk]⟩ ?_
 clear R0 gC bZ bY nD bW bT o8 cx aq e8 o7 U y e7;rintro k W hh ar ⟨i,cv,us,rfl,hi,rfl,Rg,gc,nc,dc,ac⟩;have aX:=Rg.le;refine Uy ?_;refine Kl.intro (fun ht=>?_) (fun hf=>?_)
 rotate_left
 .have aW:es.length<=i:=vp hf;obtain rfl:i=es.length:=NH;obtain⟨nd,b0,aD,cN,b2⟩:=Pt fr es [] es.length;generalize a1:ac3 fr es [] es.length=gs at*;have lc:=fun g=>gc.rl.DH g;have b3:(Ea gs).length=gs.length:=by simp[Ea]
  rw[b3]at lc;have mk:=Ye (P:=Tryz.prog) (t:=62) (z:=.slice none 0 0) hh qS41 B9 rfl rfl rfl Ji eY Ji gs.length NH;obtain⟨h9,e9,I,av,o9⟩:=Tt ar (List.replicate gs.length (.slice none 0 0));rw[e9]at mk
  have nF:hh.own hh.next=none:=(Le.refl hh).next ar (qL0 _)
  generalize hh.next=F at*
  simp only[HO,seval,lc,mk];refine aab.intro (fun k W hz=>∃(j:Nat)(cs:List Value),k=gs.length-j/\j<=gs.length/\W=mkF [(12,.map (some M)),(17,.slice (some ⟨F,0,none⟩) gs.length gs.length),(107,cv),(108,.int .i64 gs.length),(109,.int .i64 j)]/\
    Le hh hz/\hz.own F=some (.cells cs)/\cs.length=gs.length/\∀(a:Nat) g,a<j->gs[a]?=some g->∃x,cs[a]?=some x/\PR hh x g.2)
   gs.length [(12,.map (some M)),(17,.slice (some ⟨F,0,none⟩) gs.length gs.length),(107,cv),(108,.int .i64 gs.length),(109,.int .i64 (0:Nat))] hAs
   ⟨0,_,rfl,WA _,rfl,I,o9,Ma,NH⟩ ?_
  clear e9 o9 av I mk;clear h9;rintro k W hz dq ⟨j,cs,rfl,hj,rfl,ay,oF,dv,a6⟩;refine Uy ?_;refine Kl.intro (fun ht=>?_) (fun hf=>?_)
  rotate_left
  .have aW:gs.length<=j:=vp hf;refine Uy ?_;refine⟨(aJ.trans V).trans (aX.trans ay),.inr ⟨hr,_,rfl,cs,?_,(by grind),fun a f u ha s=>?_⟩⟩
   .grind[RS.whole]
   .rw[F3]at ha;cases b4:gs[a]? with
    |none=>grind
    |some g=>grind[PR.le]
  have a7:j<gs.length:=CC ht;clear ht;have b5:=CA a7;generalize gs[j]=g at b5;obtain⟨f,l⟩:=g;have b6:(Ea gs)[j]?=some f:=by grind[Ea]
  have b8:=(Ny.1 b6).1;have cP:=gc.rl.TA j b8;have b9:=(gc.rl.le Nn.RP ay).Uc j b8;rw[(Ny.1 b6).2]at b9;have Rz:=Rg.up ay;obtain⟨u,cR,a8⟩:=Rg.look f;rw[NI nd b5]at a8;have s:agI Tryz.prog hz 110 (.map (some M)) (.int .i64 f) false=some u:=by rw[<-cR];simp only[agI,qS7,Ac,Rz.oM,Rg.oM]
  have cU:∀k:IntKind,abX Tryz.prog 62 (.slice (some ⟨F,0,none⟩) gs.length gs.length) (.int k j)=some (.pointer (some ⟨F,j,none⟩)):=fun k=>by rw[Wc qS41 eY Ji j a7];simp[Ip]
  have stF:=QB (P:=Tryz.prog) (t:=22) (x:=u) eY Ji oF (off:=j) NH (xO.cells a8.pr.sl) (xO.one a8.pr.sl);simp only[HO,seval,cP,b9,s,cU,stF,Tw j NH];refine tn (gs.length-(j+1)) [(12,.map (some M)),(17,.slice (some ⟨F,0,none⟩) gs.length gs.length),(107,cv),(108,.int .i64 gs.length),(109,.int .i64 (j+1:Nat))] NH hAs
   ⟨j+1,cs.set j u,rfl,a7,rfl,ay.put _ nF,aae.Y3 _ _ _,(by grind),fun a g ha b4=>?_⟩
  by_cases e:a=j
  .grind[GP.pr]
  .obtain⟨x',q1,q2⟩:=a6 a g NH b4;grind
 have d:i<es.length:=CC ht;clear ht;have az:=CA d;generalize es[i]=p at az;have cW:=BS az;have aE:=hR p cW;have cZ:=cz.le aX;have ad:=hp.addr (k:=.i64) i d;have ld:=cZ.load az;obtain⟨a,c⟩:=p;simp only at aE;obtain⟨a,rfl⟩:=Z6 aE.1;obtain⟨c,rfl⟩:=Z6 (show 0<=c by omega);obtain⟨dw,Q,e7,c0,y,U,o7⟩:=Ut ar ((a:Int),(c:Int))
 have cc:hh.own hh.next=none:=(Le.refl hh).next ar (qL0 _)
 have X:=aX.trans y;have R7:=Rg.up y;have c3:=gc.le y
 have dz:hh.next≠M:=fun e=>by have:=Rg.oM;grind
 have c4:blk cv≠some hh.next:=fun e=>GS.Sy gc e cc
 have dA:∀(j:Nat) u,us[j]?=some u->blk u≠some hh.next:=fun j u s e=>by have a1:∃q,(ac3 fr es [] i)[j]?=some q:=⟨_,CA (by grind[aaB.len])⟩;obtain⟨q,m⟩:=a1;exact GS.Sy (Rg.gp j u q s m) e cc
 generalize hh.next=E at*
 have c5:=uM o7;simp only[HO,seval,ad,ld,e7,c0,c5];refine TC.intro PJ ⟨Tryz.func85,rfl,WY⟩ (NU W0 n L S a c ls Q R.len (X.own _ _ cE) (X.own _ _ cC) NH NH) ?_;rintro x h9 av ⟨rfl,I⟩;have hle:pK ls ((a:Int),(c:Int))<n:=by grind[pK]
 have aF:=X.trans I;have R9:=R7.up I;have ba:=c3.le I;have o9:=I.own _ _ o7;have bb:=bH h9 H _ (aF.own _ _ oC) aV hle;have c1:((a:Int),(c:Int))∉([]:List Pr):=by simp
 obtain⟨nd,b0,aD,cN,b2⟩:=Pt fr es [] i;have aH:=dh (fr:=fr) az c1;have c6:fr ((a:Int),(c:Int)) i=H.getD (pK ls ((a:Int),(c:Int))) 0:=by rw[<-cM]
 rw[<-c6]at bb;have K:=RY (ac3 fr es [] i) (fr ((a:Int),(c:Int)) i) ((a:Int),(c:Int));have cd:=rV (f:=fr ((a:Int),(c:Int)) i) b0;have dB:=Ft (fr ((a:Int),(c:Int)) i) _ _ aD;have cf:=ae .i64 _ hle;generalize a1:ac3 fr es [] i=gs at*;generalize fr ((a:Int),(c:Int)) i=f at*;generalize pK ls ((a:Int),(c:Int))=lw at*;have b3:(Ea gs).length<=1000:=by grind[Ea]
 obtain⟨u,s,gu⟩:=R9.look f;have lu:=fun g=>gu.pr.len g;have bg:∀(j:Nat) a b,us[j]?=some a->blk a=some b->∃o,h9.own b=some o:=fun j a b ha hb=>by have m:∃q,gs[j]?=some q:=⟨_,CA (by rw[<-R9.len];grind)⟩;obtain⟨q,m⟩:=m;exact iy.1 (GS.Sy (R9.gp j a q ha m) hb)
 by_cases c2:ahc gs f=[]
 .have c9:∀g,ahz Tryz.prog g 22 u=some (.int .i64 0):=fun g=>by rw[lu g,c2];rfl
  have da:f∉Ea gs:=fun hm=>cd.1 hm c2;rw[aal da]at K;obtain⟨aB,g4,g5,e4,e5,bh,w5,l4,db,aC⟩:=ba.push av f NH;obtain⟨l5,a5⟩:=db m aF ac;have R5:aaB m g5 M us gs:=R9.keep l5 fun b o N hb=>(aC b o N (by
   rcases hb with rfl|⟨j,a,ha,hb⟩
   .exact nc
   grind)).1
  obtain⟨dd,dE⟩:=aC E _ o9 c4;have bj:=(aC M _ R9.oM nc).2;obtain⟨u2,de,q4,q5,q6,bk,eu,eb,ea,em,Rn,wn,df,kq⟩:=R5.push w5 f ((a:Int),(c:Int)) (by rw[c2];simp);have bm:=uM dd;rw[<-K]at bh;have ku:∀(j:Nat) a b,us[j]?=some a->blk a=some b->blk aB≠some b:=fun j a b ha hb=>by obtain⟨o,N⟩:=bg j a b ha hb;exact(aC b o N (dc j a b ha hb)).2
  have bo:GI q6 aB (Ea (agN gs f ((a:Int),(c:Int)))):=GS.kept bh fun b o hb N=>(kq b o N (fun e=>bj (by grind)) (fun j a ha J=>ku j a b ha J hb)).2.1;simp only[HO,seval,cf,bb,s,c9,e4,e5,eu,bm,eb,ea,em,Tw i NH];refine tn (es.length-(i+1)) [(7,.slice (some ⟨C,0,none⟩) n n),(11,.func (.func 85) #[] #[.pointer (some ⟨S,0,none⟩)]),(12,.map (some M)),(13,aB),(74,ev),(75,.int .i64 es.length),(76,.int .i64 (i+1:Nat))] NH hAs
   ⟨i+1,aB,bk,rfl,d,rfl,?_⟩
  rw[aH];refine⟨Rn,bo,bj,fun j a b ha hb hc=>?_,a5⟩;obtain⟨o,N⟩:=iy.1 (GS.Sy bh hc);exact(kq b o N (fun e=>bj (by grind)) (fun j a ha J=>ku j a b ha J hc)).2.2 j a ha hb
 .have hz:(((ahc gs f).length:Nat):Int)≠0:=by grind[List.length_eq_zero_iff]
  rw[AE (cd.2 c2)]at K;obtain⟨u2,de,q4,q5,q6,bk,eu,eb,ea,em,Rn,wn,df,kq⟩:=R9.push av f ((a:Int),(c:Int)) NH;obtain rfl:u=u2:=pw;have bm:=uM o9;have bo:GI q6 cv (Ea (agN gs f ((a:Int),(c:Int)))):=by rw[K];exact GS.kept ba fun b o hb N=>(kq b o N (fun e=>nc (by grind)) (fun j a ha J=>dc j a b ha J hb)).2.1
  simp only[HO,seval,cf,bb,s,lu,eq_false hz,bm,eb,ea,em,Tw i NH];refine tn (es.length-(i+1)) [(7,.slice (some ⟨C,0,none⟩) n n),(11,.func (.func 85) #[] #[.pointer (some ⟨S,0,none⟩)]),(12,.map (some M)),(13,cv),(74,ev),(75,.int .i64 es.length),(76,.int .i64 (i+1:Nat))] NH hAs
   ⟨i+1,cv,bk,rfl,d,rfl,?_⟩
  rw[aH];refine⟨Rn,bo,nc,fun j a b ha hb hc=>?_,ac⟩;obtain⟨o,N⟩:=iy.1 (GS.Sy ba hc);exact(kq b o N (fun e=>nc (by grind)) (fun j a ha J=>dc j a b ha J hc)).2.2 j a ha hb
variable {a b c u v:Nat} {ls:List Lw} {num:Nat->Nat} {o:II} {up:Nat->Option Nat}
def low_lt(S:aau n es ls o num up)(a:v<n)(c:up v=some u):((Ro ls v).2.2<(Ro ls u).1↔ym es num up u v):=by have b:=((S.fo.Kd v u a c).1.lt S.fo.rD).1;obtain⟨x,d,h2⟩:=S.low v a;rw[d,S.fO u b,<-S.fo.low_bey a c h2];omega
theorem up_of(S:aau n es ls o num up)(a:v<n):(0<=(Ro ls v).2.1/\∃u,up v=some u/\(Ro ls v).2.1=(u:Int))\/(¬0<=(Ro ls v).2.1/\up v=none):=by
 by_cases c:0<=(Ro ls v).2.1
 .obtain⟨u,b⟩:=Z6 c;exact .inl ⟨c,u,by rw[<-S.ups v a,b,PB],b⟩
 .exact .inr ⟨c,by rw[<-S.ups v a];grind[upI]⟩
def Cl(n:Nat)(es:List Pr)(v:Nat):Nat:=((hdM (Jz n es).1 (Jz n es).2 n).getD v 0).toNat
theorem hd_fold(S:aau n es ls o num up):∀k,k<=n->
  ∃hd:Nat->Nat,(∀(j v:Nat),j<k->o[j]?=some v->((o.take k).foldl (rQ ls) (List.replicate n 0)).getD v 0=(hd v:Int)/\
   (up v=none->hd v=v)/\(∀u,up v=some u->ym es num up u v->hd v=hd u)/\(∀u,up v=some u->¬ym es num up u v->hd v=v)):=by
 intro k
 induction k with
 |zero=>intro _;exact⟨id,pw⟩
 |succ k D=>
  intro J;obtain⟨hd,H⟩:=D NH;have h:k<o.length:=by rw[S.Em];omega
  have r:o.take (k+1)=o.take k++[o[k]]:=EL h;have a:=CA h;generalize o[k]=w at r a;have b:=(S.mem w).1 (BS a);have K:((o.take k).foldl (rQ ls) (List.replicate n 0)).length=n:=by grind[Cc]
  have d:(o.take (k+1)).foldl (rQ ls) (List.replicate n 0)=rQ ls ((o.take k).foldl (rQ ls) (List.replicate n 0)) w:=pw;rw[d];generalize (o.take k).foldl (rQ ls) (List.replicate n 0)=L at*;have s:∀(j v:Nat),j<k->o[j]?=some v->v≠w:=fun j v B g e=>by grind[List.getElem?_inj,aau.nd]
  have t:∀u,up w=some u->∃j,j<k/\o[j]?=some u:=fun u f=>by obtain⟨C,h2⟩:=S.fo.Kd w u b f;obtain⟨j,B⟩:=qy.1 ((S.mem u).2 (C.lt S.fo.rD).1);grind[aau.ord]
  let x:Nat:=match up w with
   |none=>w
   |some u=>if 0<=(Ro ls w).2.1/\(Ro ls w).2.2<(Ro ls (Ro ls w).2.1.toNat).1 then hd u else w
  have E:(rQ ls L w).getD w 0=(x:Int)/\(∀v,v≠w->(rQ ls L w).getD v 0=L.getD v 0)/\(up w=none->x=w)/\(∀u,up w=some u->ym es num up u w->x=hd u)/\(∀u,up w=some u->¬ym es num up u w->x=w):=by
   rcases up_of S b with⟨c,u,f,F⟩|⟨c,f⟩
   .have p:x=if 0<=(Ro ls w).2.1/\(Ro ls w).2.2<(Ro ls (Ro ls w).2.1.toNat).1 then hd u else w:=pw
    have hb:=low_lt S b f;by_cases q:ym es num up u w
    .have i:0<=(Ro ls w).2.1/\(Ro ls w).2.2<(Ro ls (Ro ls w).2.1.toNat).1:=by grind[Int.toNat_natCast]
     obtain⟨j,l,m⟩:=t u f;have y:=(H j u l m).1;have G:=s j u l m;rw[p,AE i];refine⟨?_,fun v g=>?_,pw,pw,pw⟩
     .unfold rQ;rw[AE i,cA,AE pw,F,af8,cA,aal pw];exact y
     .unfold rQ;rw[AE i,cA,aal pw,cA,aal pw]
    .have i:¬(0<=(Ro ls w).2.1/\(Ro ls w).2.2<(Ro ls (Ro ls w).2.1.toNat).1):=by grind[Int.toNat_natCast]
     rw[p,aal i];refine⟨?_,fun v g=>?_,fun _=>rfl,pw,fun u' e _=>rfl⟩
     .grind[rQ]
     grind[rQ]
   .have p:x=w:=pw;rw[p];refine⟨?_,fun v g=>?_,fun _=>rfl,pw,pw⟩
    .grind[rQ]
    grind[rQ]
  obtain⟨M,N,O,P,Q⟩:=E
  refine⟨fun v=>if v=w then x else hd v,fun j v B g=>?_⟩
  by_cases e:v=w
  .grind
  .have z:j<k:=pw;obtain⟨C,h2,h3,I⟩:=H j v z g;simp only[aal e];refine⟨pw,h2,fun u f hb=>?_,I⟩;have A:=(S.mem v).1 (BS g);obtain⟨R,T⟩:=S.fo.Kd v u A f;have:u≠w:=by grind[aau.ord]
   grind
theorem FY(S:aau n es (Jz n es).1 (Jz n es).2 num up):Fo.abb n es num up (Cl n es)/\∀v,v<n->(hdM (Jz n es).1 (Jz n es).2 n).getD v 0=(Cl n es v:Int):=by
 obtain⟨hd,H⟩:=hd_fold S n (qL0 _);rw[HV (by grind[aau.Em])]at H;have ex:∀v,v<n->∃j,j<n/\(Jz n es).2[j]?=some v:=fun v a=>by obtain⟨j,d⟩:=qy.1 ((S.mem v).2 a);grind[aau.Em]
 have e:∀v,v<n->Cl n es v=hd v:=by grind[Cl,hdM]
 have ev:∀v,v<n->(hdM (Jz n es).1 (Jz n es).2 n).getD v 0=(Cl n es v:Int):=fun v a=>by obtain⟨j,c,h2⟩:=ex v a;have:=(H j v c h2).1;rw[e v a];exact this
 refine⟨⟨fun v a b=>?_,fun v u a b hb=>?_,fun v u a b hb=>?_⟩,ev⟩
 .grind
 .rw[e v a,e u ((S.fo.Kd v u a b).1.lt S.fo.rD).1];grind
 grind
theorem keyE_hd(S:aau n es (Jz n es).1 (Jz n es).2 num up)(ha:a<n)(d:c<n):cQ n es ((a:Int),(c:Int))=(Cl n es (Fo.lower num a c):Int):=by
 have e:pK (Jz n es).1 ((a:Int),(c:Int))=Fo.lower num a c:=by simp only[pK,af8,Fo.lower,S.fO a ha,S.fO c d];grind
 have b:Fo.lower num a c<n:=by grind[Fo.lower]
 rw[cQ,e,(FY S).2 _ b]
theorem Ab(h:num a≠num b):Fo.lower num a b=Fo.lower num b a:=by grind[Fo.lower]
theorem jm(S:aau n es (Jz n es).1 (Jz n es).2 num up)(h:Jp es a b):cQ n es (GW a b)=(Cl n es (Fo.lower num a b):Int):=by have c:=S.fo.JD h;have d:=h.lt S.fo.rD;grind[agR,keyE_hd,Ab]
theorem dR(c:InR n es)(ha:Jp es v a)(hb:Jp es v b):cQ n es (GW v a)=cQ n es (GW v b)↔Cn (wo v) es a b:=by obtain⟨num,up,S⟩:=Ob c;rw[jm S ha,jm S hb,<-S.fo.Hp (FY S).1 ha hb];grind
def fkS(key:Pr->Int)(ks:RZ)(p:Pr):RZ:=if key p∈ks then ks else ks++[key p]
def CY(key:Pr->Int)(es:List Pr):RZ:=es.foldl (fkS key) []
def Mr(key:Pr->Int)(es:List Pr)(p:Pr):CY key (es++[p])=fkS key (CY key es) p:=by simp[CY]
theorem lQ(key:Pr->Int):∀(k:Nat)(es:List Pr),es.length=k->(CY key es).Nodup/\∀x,x∈CY key es↔∃p∈es,key p=x:=by
 intro k
 induction k with
 |zero=>grind[CY]
 |succ k b=>
  intro es h;obtain⟨es,p,rfl⟩:∃a p,es=a++[p]:=by
   rcases wV es with rfl|⟨a,p,h'⟩
   all_goals grind
  rw[Mr];unfold fkS;by_cases q:key p∈CY key es
  .grind
  .refine⟨?_,fun x=>?_⟩
   .grind
   grind
theorem HK(F:Int->List Pr)(f:Int)(p:Pr):∀(ks:RZ),ks.Nodup->agN (ks.map fun k=>(k,F k)) f p=if f∈ks then ks.map (fun k=>(k,if k=f then F k++[p]else F k))else ks.map (fun k=>(k,F k))++[(f,[p])]
 |[],_=>by simp[agN]
 |k::ks,a=>by rw[jz]at a;have b:=HK F f p ks a.2;grind[agN,List.map_congr_left]
theorem akv(key:Pr->Int)(es:List Pr):∀m,m<=es.length->ac3 (fun p _=>key p) es [] m=(CY key (es.take m)).map fun k=>(k,(es.take m).filter fun p=>decide (key p=k))
 |0,_=>by simp[ac3,CY]
 |m+1,h=>by
  have b:m<es.length:=h;have c:=CA b;have a:es.take (m+1)=es.take m++[es[m]]:=EL b;generalize es[m]=p at c a;obtain⟨d,h2⟩:=lQ key _ (es.take m) rfl;rw[dh c Ma,akv key es m NH,HK _ _ _ _ d,a,Mr];unfold fkS;by_cases q:key p∈CY key (es.take m)
  .grind
  .rw[aal q,aal q,MY];congr 1
   .grind[List.map_congr_left]
   grind[List.filter_eq_nil_iff]
theorem aay(n:Nat)(es:List Pr):vq n es=(CY (cQ n es) es).map fun k=>es.filter fun p=>decide (cQ n es p=k):=by rw[vq,akv _ _ _ (qL0 _),Dl,C4];rfl
theorem fk_first(key:Pr->Int):∀(k:Nat)(es:List Pr),es.length=k->∀(i j:Nat) a b,i<j->(CY key es)[i]?=some a->(CY key es)[j]?=some b->∃(x:Nat)(p:Pr),es[x]?=some p/\key p=a/\∀(y:Nat) q,es[y]?=some q->key q=b->x<y:=by
 intro k
 induction k with
 |zero=>grind[CY]
 |succ k l=>
  intro es h i j a b f hi d;obtain⟨es,p,rfl⟩:∃g p,es=g++[p]:=by
   rcases wV es with rfl|⟨g,p,h'⟩
   all_goals grind
  have l:=l es (by simpa using h);obtain⟨z,h2⟩:=lQ key _ es rfl;rw[Mr]at hi d;have lift:∀a b,(∃(x:Nat)(p:Pr),es[x]?=some p/\key p=a/\∀(y:Nat) q,es[y]?=some q->key q=b->x<y)->∃(x:Nat)(r:Pr),(es++[p])[x]?=some r/\key r=a/\∀(y:Nat) q,(es++[p])[y]?=some q->key q=b->x<y:=by
   rintro a b ⟨x,r,t,u,A⟩;have o:=(Ny.1 t).1;refine⟨x,r,pw,u,fun y q m B=>?_⟩;by_cases c:y<es.length
   .grind
   .omega
  unfold fkS at hi d;by_cases q:key p∈CY key es
  .rw[AE q]at hi d;exact lift a b (l i j a b f hi d)
  .rw[aal q]at hi d;rcases abY j (CY key es).length with c|c
   .rw[kc c]at d;rw[kc NH]at hi;exact lift a b (l i j a b f hi d)
   .have n:=(Ny.1 d).1;simp at n;have:j=(CY key es).length:=NH;subst this;simp at d;subst d;rw[kc f]at hi;obtain⟨r,v,e⟩:=(h2 a).1 (BS hi);obtain⟨x,o⟩:=qy.1 v;have w:=(Ny.1 o).1;refine⟨x,r,pw,e,fun y s m hs=>?_⟩;by_cases c:y<es.length
    .rw[kc c]at m;exact absurd ((h2 _).2 ⟨s,BS m,hs⟩) q
    .omega
open Classical in
theorem Mo{n:Nat}{es:List Pr}{ls:List Lw}{o:II}{num:Nat->Nat}{up:Nat->Option Nat}(S:aau n es ls o num up)(v:Nat)(d:v<n):∀(l:II),(∀x∈l,x<n)->∀c:RZ,c.length=n->
  (l.foldl (zD ls) c).getD v 0=c.getD v 0+((l.filter fun x=>decide (up x=some v/\¬ym es num up v x)).length:Int)
 |[],_,c,_=>by simp
 |w::l,e,c,f=>by
  have a:=e w Ma;rw[Dj,Mo S v d l pw _ (by grind[AX])]
  have key:(zD ls c w).getD v 0=c.getD v 0+if up w=some v/\¬ym es num up v w then 1 else 0:=by
   rcases up_of S a with⟨h,u,b,g⟩|⟨h,b⟩
   .have hb:=low_lt S a b;unfold zD;by_cases q:ym es num up u w
    .grind
    grind
   grind[zD]
  grind
theorem Cv(s:InR n es){v:Nat}(o:v<n):isCut (Jz n es).1 (cntM (Jz n es).1 (Jz n es).2 n) v=true↔Fo.iE es v:=by
 classical
 obtain⟨num,up,S⟩:=Ob s;rw[S.fo.cut_iff v o];have q:=Mo S v o (Jz n es).2 (fun x t=>(S.mem x).1 t) (List.replicate n 0) Ma;have u:(List.replicate n (0:Int)).getD v 0=0:=pw;rw[u,Int.zero_add]at q;have b:=S.nd.sublist (fR (p:=fun x=>decide (up x=some v/\¬ym es num up v x)));have a:∀x,x∈(Jz n es).2.filter (fun x=>decide (up x=some v/\¬ym es num up v x))↔x<n/\up x=some v/\¬ym es num up v x:=fun x=>by rw[uV,S.mem,vg]
 have e:(Ro (Jz n es).1 v).2.1>=0↔up v≠none:=by grind[up_of]
 have j:cntM (Jz n es).1 (Jz n es).2 n=(Jz n es).2.foldl (zD (Jz n es).1) (List.replicate n 0):=rfl;simp only[isCut,akf,rY,vg,j,q,e];generalize (Jz n es).2.filter (fun x=>decide (up x=some v/\¬ym es num up v x))=L at*;constructor
 .rintro(h|⟨w,h2⟩)
  .match L,h,b,a with
   |[],h,_,_=>simp at h
   |[_],h,_,_=>simp at h
   |x::y::r,_,b,a=>obtain⟨z,A,B⟩:=(a x).1 Ma;obtain⟨C,D,E⟩:=(a y).1 Ma;grind
  .match L,w,a with
   |[],h,_=>simp at h
   |x::r,_,a=>obtain⟨z,A,B⟩:=(a x).1 Ma;grind
 .rintro(⟨c,d,f,k,ne,g,l,i,m⟩|⟨c,f,g,i,F⟩)
  .have m1:=(a c).2 ⟨f,g,i⟩;have m2:=(a d).2 ⟨k,l,m⟩;left
   match L,m1,m2 with
   |[],m1,_=>simp at m1
   |[x],m1,m2=>grind
   |x::y::r,_,_=>grind
  grind
theorem OI(a:InR n es)(v:Nat):v∈JL n es↔v<n/\Fo.iE es v:=by grind[JL.eq_1,Cv]
theorem aji:∀(a b:List Pr),a.Pairwise (fun x y=>x.1<y.1\/x.1=y.1/\x.2<y.2)->b.Pairwise (fun x y=>x.1<y.1\/x.1=y.1/\x.2<y.2)->(∀x,x∈a↔x∈b)->a=b
 |[],[],_,_,_=>rfl
 |[],y::b,_,_,h=>by have:=(h y).2 Ma;simp at this
 |x::a,[],_,_,h=>by have:=(h x).1 Ma;simp at this
 |x::a,y::b,ha,hb,h=>by rw[gK]at ha hb;have e:x=y:=pw;subst e;rw[aji a b ha.2 hb.2 fun z=>?_];grind
attribute [local instance] Classical.propDecidable
def ZH(l:II):List Pr:=(List.range l.length).map fun i=>GW (l.getD i 0) (l.getD ((i+1)%l.length) 0)
theorem dN{l:II}(nd:l.Nodup){j:Nat}(a:j<l.length):nx l (l.getD j 0)=l.getD ((j+1)%l.length) 0:=by grind[Qy]
theorem Ba{l:II}(nd:l.Nodup){v w:Nat}:GW v w∈ZH l↔Ei l v w:=by
 unfold ZH;rw[N8];constructor
 .rintro⟨i,hi,e⟩;rw[j3]at hi;have c:l.getD i 0∈l:=pw;rcases Dc e with⟨a,h2⟩|⟨a,h2⟩
  .rw[<-a,<-h2];exact .inl (by grind[dN])
  .rw[<-a,<-h2];exact .inr (by grind[dN])
 .have go:∀{v w},v∈l->nx l v=w->∃i∈List.range l.length,GW (l.getD i 0) (l.getD ((i+1)%l.length) 0)=GW v w:=fun{v w} b e=>by
   obtain⟨i,hi,rfl⟩:=fj.1 b;refine⟨i,j3.2 hi,?_⟩;grind[dN]
  rintro(⟨a,h2⟩|⟨a,h2⟩)
  all_goals grind[aag]
structure Ho (n:Nat) (es:List Pr) (l:II):Prop where
 nd:l.Nodup
 h3:3<=l.length
 Jp:∀v∈l,Jp es v (nx l v)
noncomputable def Mw(n:Nat)(es:List Pr)(l:II)(L:RZ):kR:=⟨tV (List.replicate n false) l,[l,l.reverse],(LJ n es (aej (ZH l)) L).map fun f=>⟨f.zp,f.Fm,zh [l,l.reverse] f.Fm [0,1]⟩⟩
section
variable{n:Nat}{es:List Pr}{l:II}{L:RZ}
theorem Ho.lt(R:Ho n es l)(hR:InR n es){v:Nat}(a:v∈l):v<n:=((R.Jp v a).lt hR).1
theorem Ho.ik(R:Ho n es l)(hR:InR n es){e:Pr}(a:e∈ZH l):e∈es:=by grind[ZH,dN,Ho.nd,aa4,Ho.Jp]
theorem Ho.nodup(R:Ho n es l):(ZH l).Nodup:=by unfold ZH;rw[Gw,pz];refine(Gw.1 QD).imp_of_mem fun{i j} hi b a e=>?_;grind[dN,Ho.nd,Dc,List.getElem_inj,aaN,Ho.h3,c7]
theorem Ho.web(R:Ho n es l)(hR:InR n es):CU es (aej (ZH l)):=by refine⟨fun i p q hi a=>?_,(by grind[Ho.ik,Wb])⟩;have b:=VH (ZH l);have h2:=Gw.1 ((YA (ZH l)).nodup_iff.2 R.nodup);have h:=(b.and h2);rw[wI]at h;obtain⟨c,d⟩:=Ny.1 hi;obtain⟨e,f⟩:=Ny.1 a;have:=h i (i+1) c e NH;rw[d,f]at this;rw[Hv];grind
theorem Ho.mem(R:Ho n es l){v w:Nat}:GW v w∈aej (ZH l)↔Ei l v w:=by rw[Wb,Ba R.nd]
theorem rng_on(nd:l.Nodup){v:Nat}:(∃w,Ei l v w)↔v∈l:=by
 constructor
 .rintro⟨w,h|h⟩
  all_goals grind[ZP]
 .intro h;exact⟨_,.inl ⟨h,rfl⟩⟩
theorem Ho.offl(R:Ho n es l)(hR:InR n es){v:Nat}:¬off (eN n es) (Ei l) v↔v∈l:=by
 constructor
 .grind[Q7,rng_on,Ho.nd]
 .intro h q;exact q _ ((vD hR).2 (R.Jp v h)) (.inl ⟨h,rfl⟩)
theorem Ho.wOn(R:Ho n es l){v:Nat}:onW (aej (ZH l)) v↔v∈l:=by
 constructor
 .rintro⟨e,a,h⟩;rw[Wb]at a;unfold ZH at a;grind[Sl,Nat.mod_lt]
 .intro h;refine⟨GW v (nx l v),R.mem.2 (.inl ⟨h,rfl⟩),?_⟩;grind[Sl]
theorem Ho.fOn(R:Ho n es l){v:Nat}(a:v<n):Qw n (aej (ZH l)) v=true↔v∈l:=by grind[Cb,Ho.wOn]
theorem Ho.start(R:Ho n es l)(hR:InR n es)(hA:D3 es)(G:wx n (Qw n (aej (ZH l))) es L):Z8 n es (Ei l) (Mw n es l L):=by
 have E:=MG hR hA;have hs:∀v w,Ei l v w->Ei l w v:=by grind[ki]
 have s:∀v,v<n->(Qw n (aej (ZH l)) v=true↔¬off (eN n es) (Ei l) v):=by grind[Ho.fOn,Ho.offl]
 have T:=Yn (n:=n) (web:=aej (ZH l)) (same:=FW (Qw n (aej (ZH l))) es) hA.nodup fun j M e e' o t _ _=>K2 hR hA.nodup G o t;have z:∀v w,GW v w∈es->GW v w∉aej (ZH l)->Un (eN n es) (Ei l) v w:=fun v w b h2=>by refine⟨(vD hR).2 (Mf (fun e=>?_) b),fun q=>h2 (R.mem.2 q)⟩;subst e;have:=(hR _ b).2.1;grind[agR]
 have A:LJ n es (aej (ZH l)) L=((ac3 (Zo n (Qw n (aej (ZH l))) L) es (aej (ZH l)) es.length).map (·.2)).map fun g=>⟨g,YJ (Qw n (aej (ZH l))) g⟩:=by unfold LJ;rw[C4];rfl
 refine⟨PU.start R.nd R.h3 E (by grind[vD,Ho.Jp]),?_,fun v H=>?_,fun p m=>?_,fun v w r=>?_,?_,?_⟩
 .show(tV (List.replicate n false) l).length=n;grind[Pe]
 .show Wg (tV (List.replicate n false) l) v=true↔_;grind[mQ,Ho.offl]
 .obtain⟨f,hf,rfl⟩:=N8.1 m;rw[A]at hf;obtain⟨g,hg,rfl⟩:=N8.1 hf;clear hf m;have a:=T.sub g hg;have one:∀{v w x y:Nat},Un (eN n es) (Ei l) x y->GW v w∈g->(GW x y∈g↔QI (eN n es) (Ei l) x y=QI (eN n es) (Ei l) v w):=fun{v w x y} k B=>
   Nj hR hA hs (fun e o=>o) s T z (fun v w x y r _ _ _=>⟨un_in hR r,fun q=>r.2 (R.mem.1 q)⟩) hg k B
  have un:∀{v w},GW v w∈g->Un (eN n es) (Ei l) v w:=by grind[cK.inP]
  have F:=feet_eq (web:=aej (ZH l)) hR fun p m=>a.subset m;have I:∀u:Nat,(u:Int)∈YJ (Qw n (aej (ZH l))) g↔¬off (eN n es) (Ei l) u/\∃w,Un (eN n es) (Ei l) u w/\GW u w∈g:=fun u=>by
   rw[F,E7];constructor
   .rintro⟨v,H,e,b,h2⟩;obtain rfl:u=v:=NH;obtain⟨e,o,k⟩:=DX.1 h2;obtain⟨p,m,J⟩:=DX.1 b;refine⟨(R.offl hR).2 (R.wOn.1 ⟨p,m,by grind[aO]⟩),?_⟩;obtain⟨c,d,rfl,C,hd⟩:=jB hR (a.subset o);have N:((c:Int),(d:Int))=GW c d:=(Ix C).symm;simp only[aO,akf,vg]at k;rcases k with k|k
    .obtain rfl:c=u:=NH;grind
    grind[aag]
   .rintro⟨b,w,h2,h3⟩;obtain⟨p,m,k⟩:=R.wOn.2 ((R.offl hR).1 b);refine⟨u,E.lt _ _ h2.1,rfl,(by grind[DX,aO]),DX.2 ⟨_,h3,?_⟩⟩;grind[GW,aO]
  refine⟨T.ne g hg,a,fun v w h=>(un h).2,pw,I,fun x k=>?_,?_,fun i=>?_,?_⟩
  .grind[E7]
  .simp only;rw[F,aaa,Gw,pz];unfold cX;exact(Gw.1 (by grind[List.nodup_range])).imp pw
  .simp only;rw[WV];have K:(Mw n es l L).Jv.length=2:=rfl;rw[K];constructor
   .rintro⟨b,h2⟩;refine⟨?_,h2⟩;simp at b;omega
   .rintro⟨b,h2⟩;refine⟨?_,h2⟩;simp;omega
  .exact dJ fR Ma
 .have B:=un_in hR r;obtain⟨g,hg,D⟩:=T.cov _ B fun q=>r.2 (R.mem.1 q);refine⟨⟨g,YJ (Qw n (aej (ZH l))) g,zh [l,l.reverse] (YJ (Qw n (aej (ZH l))) g) [0,1]⟩,?_,D⟩;show _∈(LJ n es (aej (ZH l)) L).map _;grind
 .show((LJ n es (aej (ZH l)) L).map _).Pairwise _;grind[cK.TE]
 .show 2+OW es (Ei l)<=es.length+2;grind[OW]
end
end
end Go.Fw
