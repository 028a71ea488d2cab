/- A text. -/
import Derived.Test.YtkccdnmaaelbiaaGreatFwLZ6
import Derived.Test.YtkccdnmaaelbiaaGreatFwLT3
import Derived.Test.YtkccdnmaaelbiaaGreatFwLI7
set_option linter.all false
set_option maxRecDepth 99999
set_option maxHeartbeats 9999999
namespace Go.Fw
section
attribute [local irreducible] Kp MQ lU rS KO KN KX KE VK Kl ZJ TC aab
open Go.Proofs
variable {es:List Pr} {n:Nat}
structure LowR (n:Nat) (ls:List Lw) (o:II):Prop where
 len:ls.length=n
 lt:∀v∈o,v<n
 Em:o.length<=n
 up:∀v,v<n->(Ro ls v).2.1<(n:Int)
def lowM_R (hR:aV n es):LowR n (Jz n es).1 (Jz n es).2:=by
 obtain⟨C,_⟩:=ZC hR n (qL0 _);refine⟨by rw[Jz,Qp,OQ];exact C.len,C.lt,C.toLowI.Em,fun v a=>?_⟩;rw[Jz,(mE _ _ v).2,(RK _ _ v).2];exact C.up v a
theorem z6 (a b:Int):LZ (.int .i64 a) [.int .i64 b]=some (.int .i64 (max a b)):=by grind [LZ]
def bP2 (a b:Int):aBuild Tryz.prog 38 [(0,.int .i64 a),(1,.int .i64 b)]=some (UI (a,b)):=Ji
end
section
open Go.Proofs
def zD (ls:List Lw) (c:RZ) (v:Nat):RZ:=
 if 0<=(Ro ls v).2.1/\(Ro ls (Ro ls v).2.1.toNat).1<=(Ro ls v).2.2 then c.set (Ro ls v).2.1.toNat (c.getD (Ro ls v).2.1.toNat 0+1)else c
def cntM (ls:List Lw) (o:II) (n:Nat):RZ:=o.foldl (zD ls) (List.replicate n 0)
theorem AX (ls:List Lw) (c:RZ) (v:Nat):(zD ls c v).length=c.length:=by grind [zD]
def yg (ls:List Lw) (c:RZ) (v:Nat):Bool:=decide (c.getD v 0>1)||(decide (c.getD v 0=1)&&decide ((Ro ls v).2.1>=0))
def JL (n:Nat) (es:List Pr):II:=(List.range n).filter (yg (Jz n es).1 (cntM (Jz n es).1 (Jz n es).2 n))
end
section
attribute [local irreducible] Kp MQ lU rS KO KN KX KE VK Kl ZJ TC aab
open Go.Proofs
def pK (ls:List Lw) (p:Pr):Nat:=if(Ro ls p.1.toNat).1>(Ro ls p.2.toNat).1 then p.1.toNat else p.2.toNat
def rQ (ls:List Lw) (H:RZ) (v:Nat):RZ:=
 if 0<=(Ro ls v).2.1/\(Ro ls v).2.2<(Ro ls (Ro ls v).2.1.toNat).1 then(H.set v (v:Int)).set v ((H.set v (v:Int)).getD (Ro ls v).2.1.toNat 0)else H.set v (v:Int)
def hdM (ls:List Lw) (o:II) (n:Nat):RZ:=o.foldl (rQ ls) (List.replicate n 0)
theorem IB (ls:List Lw) (c:RZ) (v:Nat):(rQ ls c v).length=c.length:=by grind [rQ]
theorem Cc (ls:List Lw):∀(o:II) (c:RZ),(o.foldl (rQ ls) c).length=c.length
 |[],c=>rfl
 |v::o,c=>by rw[V9,Cc ls o,IB]
def cQ (n:Nat) (es:List Pr) (p:Pr):Int:=(hdM (Jz n es).1 (Jz n es).2 n).getD (pK (Jz n es).1 p) 0
def vq (n:Nat) (es:List Pr):List (List Pr):=(grpsM (fun p _=>cQ n es p) es [] es.length).map (·.2)
theorem NU (p:LA) (n L f a c:Nat) (ls:List Lw) (h:AHeap) (u:ls.length=n) (oV:h.own f=some (.cells [.slice (some ⟨L,0,none⟩) n n])) (oL:h.own L=some (.cells (Wo ls))) (ha:a<n) (j:c<n):
  AC Tryz.prog p 85 [UI ((a:Int),(c:Int)),.pointer (some ⟨f,0,none⟩)] h fun x h'=>x=.int .i64 (pK ls ((a:Int),(c:Int)):Nat)/\Le h h':=by
 have e:=fun(g:AHeap) (o:g.own f=some (.cells [.slice (some ⟨L,0,none⟩) n n]))=>(Fq (P:=Tryz.prog) qS9 rfl o (off:=0):aload Tryz.prog g 104 ⟨f,0,none⟩=_);simp only[OM]at e;refine AC.vE ⟨Tryz.func85,rfl,WY⟩ Tryz.ntmps85 Tryz.results85 fun i=>?_;simp only[Br,Nat.reduceAdd];obtain⟨r,s,l1,w1,l⟩:=Tt i (xM ((a:Int),(c:Int)));have m1:=lK l;have m2:=HY l;simp only at m1 m2;have m:=V0 (ls:=ls) (v:=a) NH;have gc:=V0 (ls:=ls) (v:=c) NH;have b:=l1.own _ _ oL;have q:=e r (l1.own _ _ oV);simp only[HO,Nat.reduceLT,↓reduceIte,Nat.reduceEqDiff,reduceCtorEq,Ci,s]
 generalize h.next=E at*
 by_cases k:(Ro ls a).1>(Ro ls c).1
 .have d : decide ((Ro ls a).1 > (Ro ls c).1) = true := decide_eq_true k
  have t:pK ls ((a:Int),(c:Int))=a:=by grind [pK]
  refine gh (tA [0,1,2,3,4,5,6,7,8,9,10,11,12] .done) ?_;simp only[HO,Nat.reduceLT,↓reduceIte,Nat.reduceEqDiff,reduceCtorEq,Nat.reduceBEq,Qg,Dh,Z0,Ip,bC,BS,m1,m2,q,Is a ha,Is c j,fl0,Nh b m,Nh b gc,d]
  grind
 .have d : decide ((Ro ls a).1 > (Ro ls c).1) = false := decide_eq_false k
  have t:pK ls ((a:Int),(c:Int))=c:=by grind [pK]
  refine gh (tA [0,1,2,3,4,5,6,7,8,9,10,11,12] .done) ?_;simp only[HO,Nat.reduceLT,↓reduceIte,Nat.reduceEqDiff,reduceCtorEq,Nat.reduceBEq,Qg,Dh,Z0,Ip,bC,BS,m1,m2,q,Is a ha,Is c j,fl0,Nh b m,Nh b gc,d]
  grind
theorem Cw (W0:LA) (v:Value) (G:GM) (h:AHeap) (hg:GR h v G):
  AC Tryz.prog W0 46 [v] h fun x h'=>Le h h'/\((¬bX G/\x=.tuple #[.slice none 0 0,.int .i64 20])\/(bX G/\∃bv,x=.tuple #[bv,.int .i64 0]/\RL PR h' bv (vq G.n.toNat G.es))):=by
 have cE:=hg;obtain⟨gn,es⟩:=G
 obtain⟨ev,rfl,hp⟩:=hg.open
 refine AC.vE ⟨Tryz.func46,rfl,WY⟩ Tryz.ntmps46 Tryz.results46 fun cM=>?_;simp only[Br,Nat.reduceAdd];obtain⟨h1,b1,aP,dI,-,lA⟩:=r8 (n:=gn) cM hp
 generalize h.next=B at*
 have cN:=lA h1 (Le.refl _);simp only[HO,Nat.reduceLT,↓reduceIte,Nat.reduceEqDiff,reduceCtorEq,b1,cN.1];refine TC.intro PJ ⟨Tryz.func84,rfl,WY⟩ (qX W0 _ _ h1 (cE.le aP)) ?_;rintro x h2 bN ⟨bQ,aT⟩;have al:=LG h2;obtain⟨h3,e3,l3,w3,o3⟩:=Tt bN [.slice none 0 0];rw[e3]at al
 have nV:h2.own h2.next=none:=(Le.refl h2).next bN (qL0 _)
 rcases aT with⟨hr,rfl⟩|⟨hr,L,ov,rfl,oL,nL,go,nb,ao⟩
 .have st := QB (P := Tryz.prog) (t := 104) (x := .slice none 0 0) qS9 Ji o3 (off := 0) Ma rfl rfl
  have d20:decide ((20:Int)=0)=false:=by decide
  simp only[HO,Nat.reduceLT,↓reduceIte,Nat.reduceEqDiff,reduceCtorEq,al,st,bne,d20]
  grind [Le.trans,Le.put]
 have h0:0<=gn:=hr.n0;obtain⟨n,rfl⟩:=yY h0;have dF:(n:Int)<=200:=hr.n1;have dH:es.length<=594:=hr.len;have hR:=hr.GD;have R:=lowM_R hr.GD;simp only[Z6]at oL go ⊢;have hM:vq n es=(grpsM (fun p _=>(hdM (Jz n es).1 (Jz n es).2 n).getD (pK (Jz n es).1 p) 0) es [] es.length).map (·.2):=rfl;generalize (Jz n es).1=ls at*;generalize (Jz n es).2=o at*;have dK:=R.Em;have st:=QB (P:=Tryz.prog) (t:=104) (x:=.slice (some ⟨L,0,none⟩) n n) qS9 Ji o3 (off:=0) Ma rfl rfl;have w4:=w3.put (.cells ([Value.slice none 0 0].set 0 (.slice (some ⟨L,0,none⟩) n n))) (w3.lt o3);have l4:=l3.put (.cells ([Value.slice none 0 0].set 0 (.slice (some ⟨L,0,none⟩) n n))) nV
 have aW:=AHeap.Y3 h3 h2.next (.cells ([Value.slice none 0 0].set 0 (.slice (some ⟨L,0,none⟩) n n)))
 simp only[List.set_cons_zero]at aW l4 w4 st;have lo:=fun g=>go.rl.Uc g;rw[y6]at lo;simp only[HO,Nat.reduceLT,↓reduceIte,Nat.reduceEqDiff,reduceCtorEq,al,st,bne];clear st al e3 o3 w3 l3
 generalize h3.put h2.next (.cells [.slice (some ⟨L,0,none⟩) n n])=h4 at*
 generalize h2.next=S at*
 clear h3;have bW:=lA h4 (bQ.trans l4);have mk:=Ye (P:=Tryz.prog) (t:=49) (z:=.int .i64 0) h4 Ac rfl rfl rfl rfl Ji Mb Ji n NH;obtain⟨h5,e5,l5,w5,o5⟩:=Tt w4 (List.replicate n (.int .i64 0));rw[e5]at mk
 have nC:h4.own h4.next=none:=(Le.refl h4).next w4 (qL0 _)
 simp only[HO,Nat.reduceLT,↓reduceIte,Nat.reduceEqDiff,reduceCtorEq,Ii,Ip,BS,bW.2.1,mk,lo]
 generalize h4.next=C at*
 have bZ:h5.own C=some (.cells (Bp (List.replicate n 0))):=by rw[o5];simp[Bp]
 have cP:=l4.own _ _ oL;have cR:=go.le l4;have Y:=fun(g:AHeap) (o:Le h4 g)=>(Fq (P:=Tryz.prog) qS9 rfl (o.own _ _ aW) (off:=0):aload Tryz.prog g 104 ⟨S,0,none⟩=_);simp only[OM]at Y;have Z:∀(k:IntKind) (j:Nat),j<n->aIndexAddr Tryz.prog 49 (.slice (some ⟨C,0,none⟩) n n) (.int k j)=some (.pointer (some ⟨C,j,none⟩)):=fun k j hj=>by rw[Wc Ac Mb Ji j hj];simp[Ip]
 have b0:∀(g:AHeap) (c:RZ) (j:Nat),g.own C=some (.cells (Bp c))->c.length=n->j<n->aload Tryz.prog g 3 ⟨C,j,none⟩=some (.int .i64 (c.getD j 0)):=fun g c j N hl hj=>by rw[Fq Mb rfl N,D4 NH];simp[Bp,CA (show j<c.length by omega)]
 refine aab.intro (fun k fr m=>∃(i:Nat),k=o.length-i/\i<=o.length/\fr=mkF [(1,.pointer (some ⟨B,0,none⟩)),(4,.pointer (some ⟨S,0,none⟩)),(7,.slice (some ⟨C,0,none⟩) n n),(32,ov),(33,.int .i64 o.length),(34,.int .i64 i)]/\m.own C=some (.cells (Bp ((o.take i).foldl (rQ ls) (List.replicate n 0))))/\Le h4 m)
  o.length [(1,.pointer (some ⟨B,0,none⟩)),(4,.pointer (some ⟨S,0,none⟩)),(7,.slice (some ⟨C,0,none⟩) n n),(32,ov),(33,.int .i64 o.length),(34,.int .i64 (0:Nat))] fD ⟨0,rfl,aal _,rfl,bZ,l5⟩ ?_
 clear bZ o5 w5 l5 e5 mk lo bW;clear h5;rintro k fr m aX ⟨i,rfl,hi,rfl,oC,leq⟩;have a6:((o.take i).foldl (rQ ls) (List.replicate n 0)).length=n:=by grind [Cc]
 refine Uy ?_;refine Kl.intro (fun ht=>?_) (fun hf=>?_)
 .have d : i < o.length := CC ht
  clear ht;have b2:=CA d;have ad:=go.rl.TA i (by rw[y6];exact d);have ld:=(cR.le leq).rl.DH i (by rw[y6];exact d);rw[sY d]at ld;have cU:o.take (i+1)=o.take i++[o[i]]:=EL d;generalize o[i]=w at b2 ld cU;have O:=R.lt w (Gc b2);have gw:=V0 (ls:=ls) (v:=w) (by grind [LowR.len]);have A:(o.take (i+1)).foldl (rQ ls) (List.replicate n 0)=rQ ls ((o.take i).foldl (rQ ls) (List.replicate n 0)) w:=pw;generalize (o.take i).foldl (rQ ls) (List.replicate n 0)=H at*;have st1:=QB (P:=Tryz.prog) (t:=3) (x:=.int .i64 (w:Int)) Mb Ji oC (off:=w) (by simp[Bp];omega) rfl rfl;rw[yy]at st1;have r:=leq.put (.cells (Bp (H.set w (w:Int)))) nC;have ae:=AHeap.Y3 m C (.cells (Bp (H.set w (w:Int))));have b3:(H.set w (w:Int)).length=n:=pw;generalize m.put C (.cells (Bp (H.set w (w:Int))))=h6 at*;have T:=r.own _ _ cP;simp only[HO,Nat.reduceLT,↓reduceIte,Nat.reduceEqDiff,reduceCtorEq,ad,ld,Z _ w O,st1,Y h6 r,Is w O,fl1,Ip,lUp T gw];by_cases c1:0<=(Ro ls w).2.1
  .obtain ⟨u, s⟩ := yY c1
   have ag:u<n:=by have:=R.up w O;omega
   have gu:=V0 (ls:=ls) (v:=u) (by grind [LowR.len]);have d1:decide ((u:Int)>=0)=true:=decide_eq_true NH;by_cases c2:(Ro ls w).2.2<(Ro ls u).1
   .have d2 : decide ((Ro ls w).2.2 < (Ro ls u).1) = true := decide_eq_true c2
    have hE:rQ ls H w=(H.set w (w:Int)).set w ((H.set w (w:Int)).getD u 0):=by grind [rQ,Int.toNat_natCast]
    have st:=QB (P:=Tryz.prog) (t:=3) (x:=.int .i64 ((H.set w (w:Int)).getD u 0)) Mb Ji ae (off:=w) (by simp[Bp];omega) rfl rfl;rw[yy,<-hE,<-A]at st;simp only[s];refine gh (tA [0,1,2,3,4,5,6,7,8,9,10,11,12,13,14] .done) ?_;simp only[HO,Nat.reduceLT,↓reduceIte,Nat.reduceEqDiff,reduceCtorEq,Nat.reduceBEq,Qg,d1,d2,Y h6 r,Is w O,Is u ag,fl0,fl2,Ip,bC,jA T gw,Nh T gu,Z _ u ag,Z _ w O,b0 h6 _ u ae b3 ag,st,Tw i NH];exact tn (o.length-(i+1)) [(1,.pointer (some ⟨B,0,none⟩)),(4,.pointer (some ⟨S,0,none⟩)),(7,.slice (some ⟨C,0,none⟩) n n),(32,ov),(33,.int .i64 o.length),(34,.int .i64 (i+1:Nat))] NH fD ⟨i+1,rfl,d,rfl,AHeap.Y3 _ _ _,r.put _ nC⟩
   .have d2 : decide ((Ro ls w).2.2 < (Ro ls u).1) = false := decide_eq_false c2
    have hE:rQ ls H w=H.set w (w:Int):=by grind [rQ,Int.toNat_natCast]
    simp only[s];refine gh (tA [0,1,2,3,4,5,6,7,8,9,10,11,12,13,14] .done) ?_;simp only[HO,Nat.reduceLT,↓reduceIte,Nat.reduceEqDiff,reduceCtorEq,Nat.reduceBEq,Qg,d1,d2,Y h6 r,Is w O,Is u ag,fl0,fl2,Ip,bC,jA T gw,Nh T gu,Tw i NH];exact tn (o.length-(i+1)) [(1,.pointer (some ⟨B,0,none⟩)),(4,.pointer (some ⟨S,0,none⟩)),(7,.slice (some ⟨C,0,none⟩) n n),(32,ov),(33,.int .i64 o.length),(34,.int .i64 (i+1:Nat))] NH fD ⟨i+1,rfl,d,rfl,by rw[A,hE];exact ae,r⟩
  .have d1 : decide ((Ro ls w).2.1 >= 0) = false := decide_eq_false c1
   have hE:rQ ls H w=H.set w (w:Int):=by grind [rQ]
   refine gh (tA [0,1,2,3,4,5,6,7,8,9,10,11,12,13,14] .done) ?_;simp only[HO,Nat.reduceLT,↓reduceIte,Nat.reduceEqDiff,reduceCtorEq,Nat.reduceBEq,Qg,d1,Tw i NH];exact tn (o.length-(i+1)) [(1,.pointer (some ⟨B,0,none⟩)),(4,.pointer (some ⟨S,0,none⟩)),(7,.slice (some ⟨C,0,none⟩) n n),(32,ov),(33,.int .i64 o.length),(34,.int .i64 (i+1:Nat))] NH fD ⟨i+1,rfl,d,rfl,by rw[A,hE];exact ae,r⟩
 have a7:o.length<=i:=vp hf;rw[IE a7]at oC a6;have b4:o.foldl (rQ ls) (List.replicate n 0)=hdM ls o n:=rfl;rw[b4]at oC a6;rw[hM];clear hM b4;generalize hdM ls o n=H at*
 obtain⟨Q,e7,y,U,o7⟩:∃Q,m.alloc (.map [])=Q/\Le m Q/\WF Q/\Q.own m.next=some (.map []):=⟨_,rfl,(Le.refl m).alloc aX _,aX.alloc _,AHeap.zT _ _⟩
 obtain⟨h8,e8,aj,cZ,o8⟩:=Tt U []
 have b5:aBuildSlice Tryz.prog Q 49 0 []=some (.slice (some ⟨Q.next,0,none⟩) 0 0,h8):=by rw[<-e8];rfl
 have nM:m.own m.next=none:=(Le.refl m).next aX (qL0 _)
 have nD:m.own Q.next=none:=y.next U (qL0 _)
 have b6:Q.next≠m.next:=fun e=>by have:=U.lt o7;omega
 have V:=bQ.trans (l4.trans leq);have b8:=lA h8 (V.trans (y.trans aj));have ll:=fun g=>hp.len g;simp only[HO,Nat.reduceLT,↓reduceIte,Nat.reduceEqDiff,reduceCtorEq,e7,b5,Di,Ip,BS,b8.2.2,ll];have b9:=aj.own _ _ o7
 generalize m.next=M at*
 generalize Q.next=D at*
 have c0:=hp.le (aP.trans V);have c3:=(l4.trans leq).own _ _ oL;have c4:=leq.own _ _ aW;generalize c5:(fun(p:Pr) (_:Nat)=>H.getD (pK ls p) 0)=fr at*;have R0:aaB m h8 M [] (grpsM fr es [] 0):=⟨b9,rfl,fun j u g s=>by simp at s,fun j u s=>by simp at s,fun j k u u' b _ s=>by simp at s,fun j u s=>by simp at s,y.trans aj,nM⟩;have gC:GI h8 (.slice (some ⟨D,0,none⟩) 0 0) (Ea (grpsM fr es [] 0)):=GS.full o8 rfl WY;refine aab.intro (fun k W hh=>∃(i:Nat) (cv:Value) (us:List Value),k=es.length-i/\i<=es.length/\W=mkF [(7,.slice (some ⟨C,0,none⟩) n n),(11,.func (.func 85) #[] #[.pointer (some ⟨S,0,none⟩)]),(12,.map (some M)),(13,cv),(74,ev),(75,.int .i64 es.length),(76,.int .i64 i)]/\
   aaB m hh M us (grpsM fr es [] i)/\GI hh cv (Ea (grpsM fr es [] i))/\blk cv≠some M/\(∀(j:Nat) u b,us[j]?=some u->blk u=some b->blk cv≠some b)/\Z2 m cv)
  es.length [(7,.slice (some ⟨C,0,none⟩) n n),(11,.func (.func 85) #[] #[.pointer (some ⟨S,0,none⟩)]),(12,.map (some M)),(13,.slice (some ⟨D,0,none⟩) 0 0),(74,ev),(75,.int .i64 es.length),(76,.int .i64 (0:Nat))] fD
  ⟨0,_,[],rfl,aal _,rfl,R0,gC,by grind [blk],fun j u b s=>by simp at s,fun b hb=>by grind [blk]⟩ ?_
 clear R0 gC b9 b8 nD b6 b5 o8 cZ aj e8 o7 U y e7;rintro k W hh aq ⟨i,cv,us,rfl,hi,rfl,Rg,gc,nc,dc,ac⟩;have a8:=Rg.le;refine Uy ?_;refine Kl.intro (fun ht=>?_) (fun hf=>?_)
 rotate_left
 .have a7 : es.length <= i := vp hf
  obtain rfl:i=es.length:=NH;obtain⟨nd,cc,aD,c6,cd⟩:=Pt fr es [] es.length;generalize bb:grpsM fr es [] es.length=gs at*;have lc:=fun g=>gc.rl.Uc g;have cf:(Ea gs).length=gs.length:=by simp[Ea]
  rw[cf]at lc;have mk:=Ye (P:=Tryz.prog) (t:=62) (z:=.slice none 0 0) hh Gs B9 rfl rfl rfl Ji eY Ji gs.length NH;obtain⟨h9,e9,I,ar,o9⟩:=Tt aq (List.replicate gs.length (.slice none 0 0));rw[e9]at mk
  have nF:hh.own hh.next=none:=(Le.refl hh).next aq (qL0 _)
  generalize hh.next=F at*
  simp only[HO,Nat.reduceLT,↓reduceIte,Nat.reduceEqDiff,reduceCtorEq,lc,mk];refine aab.intro (fun k W hz=>∃(j:Nat) (cs:List Value),k=gs.length-j/\j<=gs.length/\W=mkF [(12,.map (some M)),(17,.slice (some ⟨F,0,none⟩) gs.length gs.length),(107,cv),(108,.int .i64 gs.length),(109,.int .i64 j)]/\
    Le hh hz/\hz.own F=some (.cells cs)/\cs.length=gs.length/\∀(a:Nat) g,a<j->gs[a]?=some g->∃x,cs[a]?=some x/\PR hh x g.2)
   gs.length [(12,.map (some M)),(17,.slice (some ⟨F,0,none⟩) gs.length gs.length),(107,cv),(108,.int .i64 gs.length),(109,.int .i64 (0:Nat))] fD
   ⟨0,_,rfl,aal _,rfl,I,o9,Ma,NH⟩ ?_
  clear e9 o9 ar I mk;clear h9;rintro k W hz dL ⟨j,cs,rfl,hj,rfl,av,oF,dM,bg⟩;refine Uy ?_;refine Kl.intro (fun ht=>?_) (fun hf=>?_)
  rotate_left
  .have a7 : gs.length <= j := vp hf
   refine Uy ?_;refine⟨(aP.trans V).trans (a8.trans av),.inr ⟨hr,_,rfl,cs,?_,(by grind),fun a f u ha s=>?_⟩⟩
   .grind [RS.whole]
   .rw [PN] at ha
    cases cg:gs[a]? with
    |none=>grind
    |some g=>
     grind [PR.le]
  have bh:j<gs.length:=CC ht;clear ht;have ck:=CA bh;generalize gs[j]=g at ck;obtain⟨f,l⟩:=g;have cm:(Ea gs)[j]?=some f:=by grind [Ea]
  have cp:=(Ny.1 cm).1;have c9:=gc.rl.TA j cp;have cq:=(gc.rl.le Nn.RP av).DH j cp;rw[(Ny.1 cm).2]at cq;have Rz:=Rg.up av;obtain⟨u,da,bk⟩:=Rg.look f;rw[NI nd ck]at bk;have s:aLookup Tryz.prog hz 110 (.map (some M)) (.int .i64 f) false=some u:=by rw[<-da];simp only[aLookup,qS7,Mb,Rz.oM,Rg.oM]
  have db:∀k:IntKind,aIndexAddr Tryz.prog 62 (.slice (some ⟨F,0,none⟩) gs.length gs.length) (.int k j)=some (.pointer (some ⟨F,j,none⟩)):=fun k=>by rw[Wc Gs eY Ji j bh];simp[Ip]
  have stF:=QB (P:=Tryz.prog) (t:=22) (x:=u) eY Ji oF (off:=j) NH (xO.cells bk.pr.sl) (xO.one bk.pr.sl);simp only[HO,Nat.reduceLT,↓reduceIte,Nat.reduceEqDiff,reduceCtorEq,c9,cq,s,db,stF,Tw j NH];refine tn (gs.length-(j+1)) [(12,.map (some M)),(17,.slice (some ⟨F,0,none⟩) gs.length gs.length),(107,cv),(108,.int .i64 gs.length),(109,.int .i64 (j+1:Nat))] NH fD
   ⟨j+1,cs.set j u,rfl,bh,rfl,av.put _ nF,AHeap.Y3 _ _ _,(by grind),fun a g ha cg=>?_⟩
  by_cases e:a=j
  .grind [GP.pr]
  .obtain ⟨x', q1, q2⟩ := bg a g NH cg
   grind
 have d:i<es.length:=CC ht;clear ht;have ay:=CA d;generalize es[i]=p at ay;have dd:=Gc ay;have aH:=hR p dd;have de:=c0.le a8;have ad:=hp.addr (k:=.i64) i d;have ld:=de.load ay;obtain⟨a,c⟩:=p;simp only at aH;obtain⟨a,rfl⟩:=yY aH.1;obtain⟨c,rfl⟩:=yY (show 0<=c by omega);obtain⟨dO,Q,e7,dj,y,U,o7⟩:=Ut aq ((a:Int),(c:Int))
 have cx:hh.own hh.next=none:=(Le.refl hh).next aq (qL0 _)
 have X:=a8.trans y;have R7:=Rg.up y;have dk:=gc.le y
 have dQ:hh.next≠M:=fun e=>by have:=Rg.oM;grind
 have dm:blk cv≠some hh.next:=fun e=>GS.Sy gc e cx
 have dS:∀(j:Nat) u,us[j]?=some u->blk u≠some hh.next:=fun j u s e=>by
  have bb:∃q,(grpsM fr es [] i)[j]?=some q:=⟨_,CA (by grind [aaB.len])⟩;obtain⟨q,m⟩:=bb;exact GS.Sy (Rg.gp j u q s m) e cx
 generalize hh.next=E at*
 have dp:=uM o7;simp only[HO,Nat.reduceLT,↓reduceIte,Nat.reduceEqDiff,reduceCtorEq,ad,ld,e7,dj,dp];refine TC.intro PJ ⟨Tryz.func85,rfl,WY⟩ (NU W0 n L S a c ls Q R.len (X.own _ _ c4) (X.own _ _ c3) NH NH) ?_;rintro x h9 ar ⟨rfl,I⟩;have hle:pK ls ((a:Int),(c:Int))<n:=by grind [pK]
 have aJ:=X.trans I;have R9:=R7.up I;have bm:=dk.le I;have o9:=I.own _ _ o7;have bo:=b0 h9 H _ (aJ.own _ _ oC) a6 hle;have c1:((a:Int),(c:Int))∉([]:List Pr):=by simp
 obtain⟨nd,cc,aD,c6,cd⟩:=Pt fr es [] i;have aK:=dh (fr:=fr) ay c1;have dq:fr ((a:Int),(c:Int)) i=H.getD (pK ls ((a:Int),(c:Int))) 0:=by rw[<-c5]
 rw[<-dq]at bo;have K:=RY (grpsM fr es [] i) (fr ((a:Int),(c:Int)) i) ((a:Int),(c:Int));have cz:=rV (f:=fr ((a:Int),(c:Int)) i) cc;have dT:=Ft (fr ((a:Int),(c:Int)) i) _ _ aD;have cC:=Z .i64 _ hle;generalize bb:grpsM fr es [] i=gs at*;generalize fr ((a:Int),(c:Int)) i=f at*;generalize pK ls ((a:Int),(c:Int))=lw at*;have cf:(Ea gs).length<=1000:=by grind [Ea]
 obtain⟨u,s,gu⟩:=R9.look f;have lu:=fun g=>gu.pr.len g;have br:∀(j:Nat) a b,us[j]?=some a->blk a=some b->∃o,h9.own b=some o:=fun j a b ha hb=>by
  have m:∃q,gs[j]?=some q:=⟨_,CA (by rw[<-R9.len];grind)⟩;obtain⟨q,m⟩:=m;exact N8.1 (GS.Sy (R9.gp j a q ha m) hb)
 by_cases c2:lstG gs f=[]
 .have dv : ∀ g, aLen Tryz.prog g 22 u = some (.int .i64 0) := fun g => by rw [lu g, c2]; rfl
  have dw:f∉Ea gs:=fun hm=>cz.1 hm c2;rw[if_neg dw]at K;obtain⟨az,g4,g5,e4,e5,bx,w5,l4,dz,aC⟩:=bm.push ar f NH;obtain⟨l5,a5⟩:=dz m aJ ac;have R5:aaB m g5 M us gs:=R9.keep l5 fun b o N hb=>(aC b o N (by
   rcases hb with rfl|⟨j,a,ha,hb⟩
   .exact nc
   grind)).1
  obtain⟨dA,dV⟩:=aC E _ o9 dm;have bB:=(aC M _ R9.oM nc).2;obtain⟨u2,dB,q4,q5,q6,bF,eu,eb,ea,em,Rn,wn,dE,kq⟩:=R5.push w5 f ((a:Int),(c:Int)) (by rw[c2];simp);have bH:=uM dA;rw[<-K]at bx;have ku:∀(j:Nat) a b,us[j]?=some a->blk a=some b->blk az≠some b:=fun j a b ha hb=>by
   obtain⟨o,N⟩:=br j a b ha hb;exact(aC b o N (dc j a b ha hb)).2
  have bI:GI q6 az (Ea (addG gs f ((a:Int),(c:Int)))):=GS.kept bx fun b o hb N=>(kq b o N (fun e=>bB (by grind)) (fun j a ha J=>ku j a b ha J hb)).2.1;simp only[HO,Nat.reduceLT,↓reduceIte,Nat.reduceEqDiff,reduceCtorEq,cC,bo,s,dv,e4,e5,eu,bH,eb,ea,em,Tw i NH];refine tn (es.length-(i+1)) [(7,.slice (some ⟨C,0,none⟩) n n),(11,.func (.func 85) #[] #[.pointer (some ⟨S,0,none⟩)]),(12,.map (some M)),(13,az),(74,ev),(75,.int .i64 es.length),(76,.int .i64 (i+1:Nat))] NH fD
   ⟨i+1,az,bF,rfl,d,rfl,?_⟩
  rw[aK];refine⟨Rn,bI,bB,fun j a b ha hb hc=>?_,a5⟩;obtain⟨o,N⟩:=N8.1 (GS.Sy bx hc);exact(kq b o N (fun e=>bB (by grind)) (fun j a ha J=>ku j a b ha J hc)).2.2 j a ha hb
 .have hz : (((lstG gs f).length : Nat) : Int) ≠ 0 := by grind [List.length_eq_zero_iff]
  rw[if_pos (cz.2 c2)]at K;obtain⟨u2,dB,q4,q5,q6,bF,eu,eb,ea,em,Rn,wn,dE,kq⟩:=R9.push ar f ((a:Int),(c:Int)) NH;obtain rfl:u=u2:=pw;have bH:=uM o9;have bI:GI q6 cv (Ea (addG gs f ((a:Int),(c:Int)))):=by
   rw[K];exact GS.kept bm fun b o hb N=>(kq b o N (fun e=>nc (by grind)) (fun j a ha J=>dc j a b ha J hb)).2.1
  simp only[HO,Nat.reduceLT,↓reduceIte,Nat.reduceEqDiff,reduceCtorEq,cC,bo,s,lu,eq_false hz,bH,eb,ea,em,Tw i NH];refine tn (es.length-(i+1)) [(7,.slice (some ⟨C,0,none⟩) n n),(11,.func (.func 85) #[] #[.pointer (some ⟨S,0,none⟩)]),(12,.map (some M)),(13,cv),(74,ev),(75,.int .i64 es.length),(76,.int .i64 (i+1:Nat))] NH fD
   ⟨i+1,cv,bF,rfl,d,rfl,?_⟩
  rw[aK];refine⟨Rn,bI,nc,fun j a b ha hb hc=>?_,ac⟩;obtain⟨o,N⟩:=N8.1 (GS.Sy bm hc);exact(kq b o N (fun e=>nc (by grind)) (fun j a ha J=>dc j a b ha J hc)).2.2 j a ha hb
end
variable {a b c n u v:Nat} {es:List Pr} {ls:List Lw} {num:Nat->Nat} {o:II} {up:Nat->Option Nat} {α:Type}
def CB (S:aau n es ls o num up) (a:v<n) (c:up v=some u):((Ro ls v).2.2<(Ro ls u).1↔ym es num up u v):=by
 have b:=((S.fo.Kd v u a c).1.lt S.fo.rD).1;obtain⟨x,d,h2⟩:=S.low v a;rw[d,S.fO u b,<-S.fo.low_bey a c h2];omega
theorem Of (S:aau n es ls o num up) (a:v<n):(0<=(Ro ls v).2.1/\∃u,up v=some u/\(Ro ls v).2.1=(u:Int))\/(¬0<=(Ro ls v).2.1/\up v=none):=by
 by_cases c:0<=(Ro ls v).2.1
 .obtain ⟨u, b⟩ := yY c
  exact .inl ⟨c,u,by rw[<-S.ups v a,b,PB],b⟩
 .exact .inr ⟨c,by rw[<-S.ups v a];grind [HH]⟩
def Cl (n:Nat) (es:List Pr) (v:Nat):Nat:=((hdM (Jz n es).1 (Jz n es).2 n).getD v 0).toNat
theorem hd_fold (S:aau n es ls o num up):∀k,k<=n->
  ∃hd:Nat->Nat,(∀(j v:Nat),j<k->o[j]?=some v->((o.take k).foldl (rQ ls) (List.replicate n 0)).getD v 0=(hd v:Int)/\
   (up v=none->hd v=v)/\(∀u,up v=some u->ym es num up u v->hd v=hd u)/\(∀u,up v=some u->¬ym es num up u v->hd v=v)):=by
 intro k
 induction k with
 |zero=>intro _;exact⟨id,pw⟩
 |succ k D=>
  intro J;obtain⟨hd,H⟩:=D NH;have h:k<o.length:=by rw[S.Em];omega
  have r:o.take (k+1)=o.take k++[o[k]]:=EL h;have a:=CA h;generalize o[k]=w at r a;have b:=(S.mem w).1 (Gc a);have K:((o.take k).foldl (rQ ls) (List.replicate n 0)).length=n:=by grind [Cc]
  have d:(o.take (k+1)).foldl (rQ ls) (List.replicate n 0)=rQ ls ((o.take k).foldl (rQ ls) (List.replicate n 0)) w:=pw;rw[d];generalize (o.take k).foldl (rQ ls) (List.replicate n 0)=L at*;have s:∀(j v:Nat),j<k->o[j]?=some v->v≠w:=fun j v B g e=>by grind [List.getElem?_inj,aau.nd]
  have t:∀u,up w=some u->∃j,j<k/\o[j]?=some u:=fun u f=>by
   obtain⟨C,h2⟩:=S.fo.Kd w u b f;obtain⟨j,B⟩:=yM.1 ((S.mem u).2 (C.lt S.fo.rD).1)
   grind [aau.ord]
  let x:Nat:=match up w with
   |none=>w
   |some u=>if 0<=(Ro ls w).2.1/\(Ro ls w).2.2<(Ro ls (Ro ls w).2.1.toNat).1 then hd u else w
  have E:(rQ ls L w).getD w 0=(x:Int)/\(∀v,v≠w->(rQ ls L w).getD v 0=L.getD v 0)/\(up w=none->x=w)/\(∀u,up w=some u->ym es num up u w->x=hd u)/\(∀u,up w=some u->¬ym es num up u w->x=w):=by
   rcases Of S b with⟨c,u,f,F⟩|⟨c,f⟩
   .have p : x = if 0 <= (Ro ls w).2.1 /\ (Ro ls w).2.2 < (Ro ls (Ro ls w).2.1.toNat).1 then hd u else w := pw
    have hb:=CB S b f;by_cases q:ym es num up u w
    .have i : 0 <= (Ro ls w).2.1 /\ (Ro ls w).2.2 < (Ro ls (Ro ls w).2.1.toNat).1 := by grind [Int.toNat_natCast]
     obtain⟨j,l,m⟩:=t u f;have y:=(H j u l m).1;have G:=s j u l m;rw[p,if_pos i];refine⟨?_,fun v g=>?_,pw,pw,pw⟩
     .unfold rQ;rw[if_pos i,cA,if_pos pw,F,Z6,cA,if_neg pw];exact y
     .unfold rQ;rw[if_pos i,cA,if_neg pw,cA,if_neg pw]
    .have i : ¬ (0 <= (Ro ls w).2.1 /\ (Ro ls w).2.2 < (Ro ls (Ro ls w).2.1.toNat).1) := by grind [Int.toNat_natCast]
     rw[p,if_neg i];refine⟨?_,fun v g=>?_,fun _=>rfl,pw,fun u' e _=>rfl⟩
     .grind [rQ]
     grind [rQ]
   .have p : x = w := pw
    rw[p];refine⟨?_,fun v g=>?_,fun _=>rfl,pw,pw⟩
    .grind [rQ]
    grind [rQ]
  obtain⟨M,N,O,P,Q⟩:=E
  refine⟨fun v=>if v=w then x else hd v,fun j v B g=>?_⟩
  by_cases e:v=w
  .grind
  .have z : j < k := pw
   obtain⟨C,h2,h3,I⟩:=H j v z g;simp only[if_neg e];refine⟨pw,h2,fun u f hb=>?_,I⟩;have A:=(S.mem v).1 (Gc g);obtain⟨R,T⟩:=S.fo.Kd v u A f;have:u≠w:=by grind [aau.ord]
   grind
theorem FY (S:aau n es (Jz n es).1 (Jz n es).2 num up):Fo.abb n es num up (Cl n es)/\∀v,v<n->(hdM (Jz n es).1 (Jz n es).2 n).getD v 0=(Cl n es v:Int):=by
 obtain⟨hd,H⟩:=hd_fold S n (qL0 _);rw[IE (by grind [aau.Em])]at H;have ex:∀v,v<n->∃j,j<n/\(Jz n es).2[j]?=some v:=fun v a=>by
  obtain⟨j,d⟩:=yM.1 ((S.mem v).2 a)
  grind [aau.Em]
 have e:∀v,v<n->Cl n es v=hd v:=by grind [Cl,hdM]
 have ev:∀v,v<n->(hdM (Jz n es).1 (Jz n es).2 n).getD v 0=(Cl n es v:Int):=fun v a=>by
  obtain⟨j,c,h2⟩:=ex v a;have:=(H j v c h2).1;rw[e v a];exact this
 refine⟨⟨fun v a b=>?_,fun v u a b hb=>?_,fun v u a b hb=>?_⟩,ev⟩
 .grind
 .rw[e v a,e u ((S.fo.Kd v u a b).1.lt S.fo.rD).1];grind
 grind
theorem keyE_hd (S:aau n es (Jz n es).1 (Jz n es).2 num up) (ha:a<n) (d:c<n):cQ n es ((a:Int),(c:Int))=(Cl n es (Fo.lower num a c):Int):=by
 have e:pK (Jz n es).1 ((a:Int),(c:Int))=Fo.lower num a c:=by
  simp only[pK,Z6,Fo.lower,S.fO a ha,S.fO c d]
  grind
 have b:Fo.lower num a c<n:=by grind [Fo.lower]
 rw[cQ,e,(FY S).2 _ b]
theorem Ab (h:num a≠num b):Fo.lower num a b=Fo.lower num b a:=by grind [Fo.lower]
theorem jm (S:aau n es (Jz n es).1 (Jz n es).2 num up) (h:Jp es a b):cQ n es (GW a b)=(Cl n es (Fo.lower num a b):Int):=by
 have c:=S.fo.JD h;have d:=h.lt S.fo.rD
 grind [bj,keyE_hd,Ab]
theorem dR (c:aV n es) (ha:Jp es v a) (hb:Jp es v b):cQ n es (GW v a)=cQ n es (GW v b)↔Cn (wo v) es a b:=by
 obtain⟨num,up,S⟩:=Ob c;rw[jm S ha,jm S hb,<-S.fo.Hp (FY S).1 ha hb]
 grind
theorem adV (k:aV n es) (of:Pr->α) (j:∀v a b,Jp es v a->Jp es v b->Cn (wo v) es a b->of (GW v a)=of (GW v b)) {p q:Pr} (i:p∈es) (l:q∈es) (h:cQ n es p=cQ n es q):of p=of q:=by
 obtain⟨num,up,S⟩:=Ob k;have ex:∀p∈es,∃a b:Nat,Jp es a b/\p=GW a b:=fun p i=>by
  have e:=k p i;obtain⟨x,y⟩:=p;obtain⟨a,rfl⟩:=yY e.1;obtain⟨c,rfl⟩:=yY (show 0<=y by omega);exact⟨a,c,.inl i,by unfold GW;rw[age NH,agd NH]⟩
 obtain⟨a,b,f,rfl⟩:=ex p i;obtain⟨c,d,g,rfl⟩:=ex q l;rw[jm S f,jm S g]at h;exact S.fo.link2 (FY S).1 (fun x y=>of (GW x y)) (by grind [aag]) j f g (Int.ofNat.inj h)
def fkS (key:Pr->Int) (ks:RZ) (p:Pr):RZ:=if key p∈ks then ks else ks++[key p]
def CY (key:Pr->Int) (es:List Pr):RZ:=es.foldl (fkS key) []
def Mr (key:Pr->Int) (es:List Pr) (p:Pr):CY key (es++[p])=fkS key (CY key es) p:=by simp[CY]
theorem lQ (key:Pr->Int):∀(k:Nat) (es:List Pr),es.length=k->(CY key es).Nodup/\∀x,x∈CY key es↔∃p∈es,key p=x:=by
 intro k
 induction k with
 |zero=>grind [CY]
 |succ k b=>
  intro es h;obtain⟨es,p,rfl⟩:∃a p,es=a++[p]:=by
   rcases ae7 es with rfl|⟨a,p,h'⟩
   all_goals grind
  rw[Mr];unfold fkS;by_cases q:key p∈CY key es
  .grind
  .refine ⟨?_, fun x => ?_⟩
   .grind
   grind
theorem HK (F:Int->List Pr) (f:Int) (p:Pr):∀(ks:RZ),ks.Nodup->addG (ks.map fun k=>(k,F k)) f p=if f∈ks then ks.map (fun k=>(k,if k=f then F k++[p]else F k))else ks.map (fun k=>(k,F k))++[(f,[p])]
 |[],_=>by simp[addG]
 |k::ks,a=>by
  rw[ZT]at a;have b:=HK F f p ks a.2
  grind [addG,List.map_congr_left]
theorem ba (key:Pr->Int) (es:List Pr):∀m,m<=es.length->grpsM (fun p _=>key p) es [] m=(CY key (es.take m)).map fun k=>(k,(es.take m).filter fun p=>decide (key p=k))
 |0,_=>by simp[grpsM,CY]
 |m+1,h=>by
  have b:m<es.length:=h;have c:=CA b;have a:es.take (m+1)=es.take m++[es[m]]:=EL b;generalize es[m]=p at c a;obtain⟨d,h2⟩:=lQ key _ (es.take m) rfl;rw[dh c Ma,ba key es m NH,HK _ _ _ _ d,a,Mr];unfold fkS;by_cases q:key p∈CY key (es.take m)
  .grind
  .rw [if_neg q, if_neg q, j3]
   congr 1
   .grind [List.map_congr_left]
   grind [List.filter_eq_nil_iff]
theorem aay (n:Nat) (es:List Pr):vq n es=(CY (cQ n es) es).map fun k=>es.filter fun p=>decide (cQ n es p=k):=by rw[vq,ba _ _ _ (qL0 _),vK,KG];rfl
theorem Iq (key:Pr->Int):∀(k:Nat) (es:List Pr),es.length=k->∀(i j:Nat) a b,i<j->(CY key es)[i]?=some a->(CY key es)[j]?=some b->∃(x:Nat) (p:Pr),es[x]?=some p/\key p=a/\∀(y:Nat) q,es[y]?=some q->key q=b->x<y:=by
 intro k
 induction k with
 |zero=>grind [CY]
 |succ k l=>
  intro es h i j a b f hi d;obtain⟨es,p,rfl⟩:∃g p,es=g++[p]:=by
   rcases ae7 es with rfl|⟨g,p,h'⟩
   all_goals grind
  have l:=l es (by simpa using h);obtain⟨z,h2⟩:=lQ key _ es rfl;rw[Mr]at hi d;have lift:∀a b,(∃(x:Nat) (p:Pr),es[x]?=some p/\key p=a/\∀(y:Nat) q,es[y]?=some q->key q=b->x<y)->∃(x:Nat) (r:Pr),(es++[p])[x]?=some r/\key r=a/\∀(y:Nat) q,(es++[p])[y]?=some q->key q=b->x<y:=by
   rintro a b ⟨x,r,t,u,e3⟩;have o:=(Ny.1 t).1;refine⟨x,r,pw,u,fun y q m A=>?_⟩;by_cases c:y<es.length
   .grind
   .omega
  unfold fkS at hi d;by_cases q:key p∈CY key es
  .rw[if_pos q]at hi d;exact lift a b (l i j a b f hi d)
  .rw [if_neg q] at hi d
   rcases fE j (CY key es).length with c|c
   .rw [fR c] at d
    rw[fR NH]at hi;exact lift a b (l i j a b f hi d)
   .have n := (Ny.1 d).1
    simp at n;have:j=(CY key es).length:=NH;subst this;simp at d;subst d;rw[fR f]at hi;obtain⟨r,v,e⟩:=(h2 a).1 (Gc hi);obtain⟨x,o⟩:=yM.1 v;have w:=(Ny.1 o).1;refine⟨x,r,pw,e,fun y s m hs=>?_⟩;by_cases c:y<es.length
    .rw [fR c] at m
     exact absurd ((h2 _).2 ⟨s,Gc m,hs⟩) q
    .omega
open Classical in
theorem Mo {n:Nat} {es:List Pr} {ls:List Lw} {o:II} {num:Nat->Nat} {up:Nat->Option Nat} (S:aau n es ls o num up) (v:Nat) (d:v<n):∀(l:II),(∀x∈l,x<n)->∀c:RZ,c.length=n->
  (l.foldl (zD ls) c).getD v 0=c.getD v 0+((l.filter fun x=>decide (up x=some v/\¬ym es num up v x)).length:Int)
 |[],_,c,_=>by simp
 |w::l,e,c,f=>by
  have a:=e w Ma;rw[V9,Mo S v d l pw _ (by grind [AX])]
  have key:(zD ls c w).getD v 0=c.getD v 0+if up w=some v/\¬ym es num up v w then 1 else 0:=by
   rcases Of S a with⟨h,u,b,g⟩|⟨h,b⟩
   .have hb := CB S a b
    unfold zD;by_cases q:ym es num up u w
    .grind
    grind
   grind [zD]
  grind
theorem Cv (s:aV n es) {v:Nat} (o:v<n):yg (Jz n es).1 (cntM (Jz n es).1 (Jz n es).2 n) v=true↔Fo.iE es v:=by
 classical
 obtain⟨num,up,S⟩:=Ob s;rw[S.fo.cut_iff v o];have q:=Mo S v o (Jz n es).2 (fun x t=>(S.mem x).1 t) (List.replicate n 0) Ma;have u:(List.replicate n (0:Int)).getD v 0=0:=pw;rw[u,Int.zero_add]at q;have b:=S.nd.sublist (xD (p:=fun x=>decide (up x=some v/\¬ym es num up v x)));have a:∀x,x∈(Jz n es).2.filter (fun x=>decide (up x=some v/\¬ym es num up v x))↔x<n/\up x=some v/\¬ym es num up v x:=fun x=>by rw[VU,S.mem,decide_eq_true_eq]
 have e:(Ro (Jz n es).1 v).2.1>=0↔up v≠none:=by grind [Of]
 have j:cntM (Jz n es).1 (Jz n es).2 n=(Jz n es).2.foldl (zD (Jz n es).1) (List.replicate n 0):=rfl;simp only[yg,uu,Yi,decide_eq_true_eq,j,q,e];generalize (Jz n es).2.filter (fun x=>decide (up x=some v/\¬ym es num up v x))=L at*;constructor
 .rintro (h | ⟨w, h2⟩)
  .match L, h, b, a with
   |[],h,_,_=>simp at h
   |[_],h,_,_=>simp at h
   |x::y::r,_,b,a=>
    obtain⟨a1,a2,z⟩:=(a x).1 Ma;obtain⟨A,B,C⟩:=(a y).1 Ma
    grind
  .match L, w, a with
   |[],h,_=>simp at h
   |x::r,_,a=>
    obtain⟨a1,a2,z⟩:=(a x).1 Ma
    grind
 .rintro (⟨c, d, f, k, ne, g, l, i, m⟩ | ⟨c, f, g, i, D⟩)
  .have m1 := (a c).2 ⟨f, g, i⟩
   have m2:=(a d).2 ⟨k,l,m⟩;left
   match L,m1,m2 with
   |[],m1,_=>simp at m1
   |[x],m1,m2=>grind
   |x::y::r,_,_=>grind
  grind
theorem OI (a:aV n es) (v:Nat):v∈JL n es↔v<n/\Fo.iE es v:=by grind [JL.eq_1,Cv]
end Go.Fw
namespace Go.Fw
open Go.Proofs
attribute [local instance] Classical.propDecidable
def ZH (l:II):List Pr:=(List.range l.length).map fun i=>GW (l.getD i 0) (l.getD ((i+1)%l.length) 0)
theorem dN {l:II} (nd:l.Nodup) {j:Nat} (a:j<l.length):nx l (l.getD j 0)=l.getD ((j+1)%l.length) 0:=by grind [Qy]
theorem Ba {l:II} (nd:l.Nodup) {v w:Nat}:GW v w∈ZH l↔Ei l v w:=by
 unfold ZH;rw[HV];constructor
 .rintro ⟨i, hi, e⟩
  rw[uV]at hi;have c:l.getD i 0∈l:=pw;rcases Dc e with⟨a,h2⟩|⟨a,h2⟩
  .rw[<-a,<-h2];exact .inl (by grind [dN])
  .rw[<-a,<-h2];exact .inr (by grind [dN])
 .have go:∀{v w},v∈l->nx l v=w->∃i∈List.range l.length,GW (l.getD i 0) (l.getD ((i+1)%l.length) 0)=GW v w:=fun{v w} b e=>by
   obtain⟨i,hi,rfl⟩:=Bn.1 b;refine⟨i,uV.2 hi,?_⟩
   grind [dN]
  rintro(⟨a,h2⟩|⟨a,h2⟩)
  all_goals grind [aag]
structure Ho (n:Nat) (es:List Pr) (l:II):Prop where
 nd:l.Nodup
 h3:3<=l.length
 Jp:∀v∈l,Jp es v (nx l v)
noncomputable def Mw (n:Nat) (es:List Pr) (l:II) (L:RZ):kR:=
 ⟨tV (List.replicate n false) l,[l,l.reverse],(LJ n es (sortP (ZH l)) L).map fun f=>⟨f.zp,f.Fm,zh [l,l.reverse] f.Fm [0,1]⟩⟩
section
variable {n : Nat} {es : List Pr} {l : List Nat} {L : List Int}
theorem Ho.lt (R:Ho n es l) (hR:aV n es) {v:Nat} (a:v∈l):v<n:=((R.Jp v a).lt hR).1
theorem Ho.ik (R:Ho n es l) (hR:aV n es) {e:Pr} (a:e∈ZH l):e∈es:=by grind [ZH,dN,Ho.nd,aa4,Ho.Jp]
theorem Ho.nodup (R:Ho n es l):(ZH l).Nodup:=by
 unfold ZH;rw[kc,Hs];refine(kc.1 Tn).imp_of_mem fun{i j} hi b a e=>?_
 grind [dN,Ho.nd,Dc,List.getElem_inj,aaN,Ho.h3,c7]
theorem Ho.web (R:Ho n es l) (hR:aV n es):CU es (sortP (ZH l)):=by
 refine⟨fun i p q hi a=>?_,(by grind [Ho.ik,Wb])⟩;have b:=VH (ZH l);have h2:=kc.1 ((YA (ZH l)).nodup_iff.2 R.nodup);have h:=(b.and h2);rw[V3]at h;obtain⟨a1,c⟩:=Ny.1 hi;obtain⟨a2,d⟩:=Ny.1 a;have:=h i (i+1) a1 a2 NH;rw[c,d]at this;rw[Hv]
 grind
theorem Ho.mem (R:Ho n es l) {v w:Nat}:GW v w∈sortP (ZH l)↔Ei l v w:=by rw[Wb,Ba R.nd]
theorem rng_on (nd:l.Nodup) {v:Nat}:(∃w,Ei l v w)↔v∈l:=by
 constructor
 .rintro ⟨w, h | h⟩
  all_goals grind [ZP]
 .intro h;exact⟨_,.inl ⟨h,rfl⟩⟩
theorem Ho.offl (R:Ho n es l) (hR:aV n es) {v:Nat}:¬off (eN n es) (Ei l) v↔v∈l:=by
 constructor
 .grind [Q7,rng_on,Ho.nd]
 .intro h q
  exact q _ ((vD hR).2 (R.Jp v h)) (.inl ⟨h,rfl⟩)
theorem Ho.wOn (R:Ho n es l) {v:Nat}:onW (sortP (ZH l)) v↔v∈l:=by
 constructor
 .rintro ⟨e, a, h⟩
  rw[Wb]at a;unfold ZH at a
  grind [Sl,Nat.mod_lt]
 .intro h
  refine⟨GW v (nx l v),R.mem.2 (.inl ⟨h,rfl⟩),?_⟩
  grind [Sl]
theorem Ho.fOn (R:Ho n es l) {v:Nat} (a:v<n):Qw n (sortP (ZH l)) v=true↔v∈l:=by grind [Cb,Ho.wOn]
theorem Ho.start (R:Ho n es l) (hR:aV n es) (hA:D3 es) (G:wx n (Qw n (sortP (ZH l))) es L):Z8 n es (Ei l) (Mw n es l L):=by
 have E:=MG hR hA;have hs:∀v w,Ei l v w->Ei l w v:=by grind [ki]
 have s:∀v,v<n->(Qw n (sortP (ZH l)) v=true↔¬off (eN n es) (Ei l) v):=by grind [Ho.fOn,Ho.offl]
 have T:=Yn (n:=n) (web:=sortP (ZH l)) (same:=FW (Qw n (sortP (ZH l))) es) hA.nodup fun j M e e' o t _ _=>K2 hR hA.nodup G o t;have z:∀v w,GW v w∈es->GW v w∉sortP (ZH l)->Un (eN n es) (Ei l) v w:=fun v w b h2=>by
  refine⟨(vD hR).2 (Mf (fun e=>?_) b),fun q=>h2 (R.mem.2 q)⟩;subst e;have:=(hR _ b).2.1
  grind [bj]
 have A:LJ n es (sortP (ZH l)) L=((grpsM (Zo n (Qw n (sortP (ZH l))) L) es (sortP (ZH l)) es.length).map (·.2)).map fun g=>⟨g,YJ (Qw n (sortP (ZH l))) g⟩:=by
  unfold LJ;rw[KG];rfl
 refine⟨PU.start R.nd R.h3 E (by grind [vD,Ho.Jp]),?_,fun v H=>?_,fun p m=>?_,fun v w r=>?_,?_,?_⟩
 .show (tV (List.replicate n false) l).length = n
  grind [Pe]
 .show Wg (tV (List.replicate n false) l) v = true ↔ _
  grind [mQ,Ho.offl]
 .obtain ⟨f, hf, rfl⟩ := HV.1 m
  rw[A]at hf;obtain⟨g,hg,rfl⟩:=HV.1 hf;clear hf m;have a:=T.sub g hg;have one:∀{v w x y:Nat},Un (eN n es) (Ei l) x y->GW v w∈g->(GW x y∈g↔QI (eN n es) (Ei l) x y=QI (eN n es) (Ei l) v w):=fun{v w x y} k B=>
   Nj hR hA hs (fun e o=>o) s T z (fun v w x y r _ _ _=>⟨un_in hR r,fun q=>r.2 (R.mem.1 q)⟩) hg k B
  have un:∀{v w},GW v w∈g->Un (eN n es) (Ei l) v w:=by grind [cK.inP]
  have F:=feet_eq (web:=sortP (ZH l)) hR fun p m=>a.subset m;have I:∀u:Nat,(u:Int)∈YJ (Qw n (sortP (ZH l))) g↔¬off (eN n es) (Ei l) u/\∃w,Un (eN n es) (Ei l) u w/\GW u w∈g:=fun u=>by
   rw[F,E7];constructor
   .rintro ⟨v, H, e, b, h2⟩
    obtain rfl:u=v:=NH;obtain⟨e,o,k⟩:=DX.1 h2;obtain⟨p,m,J⟩:=DX.1 b;refine⟨(R.offl hR).2 (R.wOn.1 ⟨p,m,by grind [aO]⟩),?_⟩;obtain⟨c,d,rfl,C,hd⟩:=jB hR (a.subset o);have N:((c:Int),(d:Int))=GW c d:=(Ix C).symm;simp only[aO,uu,decide_eq_true_eq]at k;rcases k with k|k
    .obtain rfl : c = u := NH
     grind
    grind [aag]
   .rintro ⟨b, w, h2, h3⟩
    obtain⟨p,m,k⟩:=R.wOn.2 ((R.offl hR).1 b);refine⟨u,E.lt _ _ h2.1,rfl,(by grind [DX,aO]),DX.2 ⟨_,h3,?_⟩⟩
    grind [GW,aO]
  refine⟨T.ne g hg,a,fun v w h=>(un h).2,pw,I,fun x k=>?_,?_,fun i=>?_,?_⟩
  .grind [E7]
  .simp only
   rw[F,aaa,kc,Hs];unfold cX;exact(kc.1 (by grind [List.nodup_range])).imp pw
  .simp only
   rw[WV];have K:(Mw n es l L).Jv.length=2:=rfl;rw[K];constructor
   .rintro ⟨b, h2⟩
    refine⟨?_,h2⟩;simp at b;omega
   .rintro ⟨b, h2⟩
    refine⟨?_,h2⟩;simp;omega
  .exact Ng xD Ma
 .have B := un_in hR r
  obtain⟨g,hg,D⟩:=T.cov _ B fun q=>r.2 (R.mem.1 q);refine⟨⟨g,YJ (Qw n (sortP (ZH l))) g,zh [l,l.reverse] (YJ (Qw n (sortP (ZH l))) g) [0,1]⟩,?_,D⟩;show _∈(LJ n es (sortP (ZH l)) L).map _
  grind
 .show ((LJ n es (sortP (ZH l)) L).map _).Pairwise _
  grind [cK.TE]
 .show 2 + OW es (Ei l) <= es.length + 2
  grind [OW]
end
end Go.Fw
