/- A text. -/
import Derived.Test.YtkccdnmaaelbiaaGreatFwLX1
import Derived.Test.YtkccdnmaaelbiaaGreatFwLZ6
set_option linter.all false
set_option maxRecDepth 99999
set_option maxHeartbeats 9999999
namespace Go.Fw
section
attribute [local irreducible] Kp MQ lU rS KO KN KX KE VK Kl ZJ TC aat
open Go.Proofs
variable {es:List Pr} {n:Nat}
structure LowR (n:Nat) (ls:List Lw) (o:II):Prop where
 len:ls.length=n
 lt:∀v∈o,v<n
 Em:o.length<=n
 up:∀v,v<n->(Ro ls v).2.1<(n:Int)
def afd (hR:aV n es):LowR n (Jz n es).1 (Jz n es).2:=by
 obtain⟨C,_⟩:=ZC hR n (Ny _);refine⟨by rw[Jz,Qp,OQ];exact C.len,C.lt,C.toLowI.Em,fun v a=>?_⟩;rw[Jz,(mE _ _ v).2,(RK _ _ v).2];exact C.up v a
def brB (ls:List Lw) (v:Nat):Option Pr:=if 0<=(Ro ls v).2.1/\(Ro ls v).2.2=(Ro ls v).1 then some (min (Ro ls v).2.1 (v:Int),max (Ro ls v).2.1 (v:Int))else none
def aaR (n:Nat) (es:List Pr):List Pr:=sortP ((Jz n es).2.filterMap (brB (Jz n es).1))
theorem z6 (a b:Int):LZ (.int .i64 a) [.int .i64 b]=some (.int .i64 (max a b)):=by grind [LZ]
def mkP0 (h:AHeap):aBuildSlice Tryz.prog h 22 0 []=some (.slice (some ⟨h.next,0,none⟩) 0 0,h.alloc (.cells [])):=rfl
def bP2 (a b:Int):aBuild Tryz.prog 38 [(0,.int .i64 a),(1,.int .i64 b)]=some (UI (a,b)):=Ji
def afe (g:LA) (p q:Pr) (h:AHeap):AC Tryz.prog g 86 [UI p,UI q] h fun v h'=>v=.int .i64 (Nz p q)/\Le h h':=by
 refine AC.vE ⟨Tryz.func86,rfl,WY⟩ Tryz.ntmps86 Tryz.results86 fun i=>?_;simp only[kAr,Nat.reduceAdd];obtain⟨j,k,l1,w1,l⟩:=Tt i (xM p);obtain⟨h2,m,l2,t,f⟩:=Tt w1 (xM q);refine Sk (Yb @Ci k m) ?_;have c:=l2.own _ _ l
 generalize h.next=a at*
 generalize j.next=b at*
 refine gh (tA [0,1,2,3,5,6,7,8] (JQ 4 [1,3] (JQ 9 [4,6,8] (JQ 10 [4,9] (JQ 11 [9,10] (tA [12] .done)))))) ?_;refine CO (s9 @Dh @Z0 @Ip.eq_1 @XJ (lK c) (HY c) (lK f) (HY f)) ?_;refine VA.intro PJ ⟨adX,rfl,WY⟩ (wS g p.1 q.1 h2) ?_;rintro x h3 u ⟨rfl,rfl⟩;refine CO (s9 @Dh @Z0 @Ip.eq_1 @XJ (lK c) (HY c) (lK f) (HY f)) ?_;refine VA.intro PJ ⟨adX,rfl,WY⟩ (wS g p.2 q.2 h3) ?_;rintro x w n ⟨rfl,rfl⟩;obtain⟨o,r,l5,y,s⟩:=Tt n [.int .i64 (iC p.1 q.1),.int .i64 (iC p.2 q.2)];have d:=l5.own _ _ c;have e:=l5.own _ _ f;refine CO (Da @Dh @Z0 @Ip.eq_1 @XJ (lK c) (HY c) (lK f) (HY f) @mk2 r (lK d) (HY d) (lK e) (HY e)) ?_;refine VA.intro PJ ⟨Tryz.func87,rfl,WY⟩ (wU g _ [iC p.1 q.1,iC p.2 q.2] o (RL.Wh (RS.whole s rfl)) Ma) ?_;rintro x z A ⟨rfl,rfl⟩;refine CO (s9 @Dh @Z0 @Ip.eq_1 @XJ (lK d) (HY d) (lK e) (HY e)) ?_;exact⟨rfl,(l1.trans l2).trans l5⟩
def adB (E:LA) (v:Value) (G:GM) (h:AHeap) (hg:GR h v G):
  AC Tryz.prog E 47 [v] h fun x h'=>Le h h'/\((¬bX G/\x=.tuple #[.slice none 0 0,.int .i64 20])\/(bX G/\∃bv,x=.tuple #[bv,.int .i64 0]/\GP h' bv (aaR G.n.toNat G.es)/\Z2 h bv)):=by
 have F:=hg;obtain⟨M,es⟩:=G
 obtain⟨ev,rfl,V⟩:=hg.open
 refine AC.vE ⟨Tryz.func47,rfl,WY⟩ Tryz.ntmps47 Tryz.results47 fun H=>?_;simp only[kAr,Nat.reduceAdd];obtain⟨N,X,j,Y,-,Z⟩:=r8 (n:=M) H V
 generalize h.next=B at*
 have I:=Z N (Le.refl _);simp only[HO,Nat.reduceLT,↓reduceIte,Nat.reduceEqDiff,reduceCtorEq,X,I.1];refine TC.intro PJ ⟨Tryz.func84,rfl,WY⟩ (qX E _ _ N (F.le j)) ?_;rintro x h2 t ⟨m,⟨s,rfl⟩|⟨s,L,u,rfl,oL,nL,go,nb,ao⟩⟩
 .have d20 : decide ((20 : Int) = 0) = false := by decide
  simp only[HO,Nat.reduceLT,↓reduceIte,Nat.reduceEqDiff,reduceCtorEq,bne,d20];exact⟨j.trans m,.inl ⟨s,trivial⟩⟩
 have h0:0<=M:=s.n0;obtain⟨n,rfl⟩:=yY h0;have O:(n:Int)<=200:=s.n1;have R:=afd s.GD;simp only[Sb]at oL go ⊢;have hM:aaR n es=sortP ((Jz n es).2.filterMap (brB (Jz n es).1)):=rfl;generalize (Jz n es).1=ls at*;generalize (Jz n es).2=o at*;obtain⟨h3,P,l3,w3,Q⟩:=Tt t []
 have nP:h2.own h2.next=none:=(Le.refl h2).next t (Ny _)
 have lo:=fun g=>go.rl.Uc g;rw[y6]at lo;simp only[HO,Nat.reduceLT,↓reduceIte,Nat.reduceEqDiff,reduceCtorEq,bne,mkP0,P,lo]
 have S:GP h3 (.slice (some ⟨h2.next,0,none⟩) 0 0) []:=GS.full Q rfl WY
 have T:Z2 h2 (.slice (some ⟨h2.next,0,none⟩) 0 0):=fun b hb=>by injection hb with hb;subst hb;exact nP
 generalize Value.slice (some ⟨h2.next,0,none⟩) 0 0=r at*
 have ag:=R.Em;refine aat.intro (fun k fr D=>∃(i:Nat) (bv:Value),k=o.length-i/\i<=o.length/\fr=mkF [(4,.slice (some ⟨L,0,none⟩) n n),(7,bv),(21,u),(22,.int .i64 o.length),(23,.int .i64 i)]/\GP D bv ((o.take i).filterMap (brB ls))/\Le h2 D/\Z2 h2 bv)
  o.length [(4,.slice (some ⟨L,0,none⟩) n n),(7,r),(21,u),(22,.int .i64 o.length),(23,.int .i64 (0:Nat))] fD ⟨0,r,rfl,yM _,rfl,S,l3,T⟩ ?_
 clear S T r w3 Q l3 P nP lo;clear h3;rintro k fr D J ⟨i,bv,rfl,hi,rfl,gb,d,ab⟩;refine Uy ?_;refine Kl.intro (fun U=>?_) (fun hf=>?_)
 .have a : i < o.length := CC U
  clear U;have y:=CA a;have ad:=go.rl.TA i (by rw[y6];exact a);have ld:=(go.le d).rl.DH i (by rw[y6];exact a);rw[sY a]at ld;have z:o.take (i+1)=o.take i++[o[i]]:=EL a;generalize o[i]=w at y ld z;have l:=R.lt w (Gc y);have gw:=V0 (ls:=ls) (v:=w) (by rw[R.len];exact l);have f:=d.own _ _ oL;have A:(o.take (i+1)).filterMap (brB ls)=(o.take i).filterMap (brB ls)++(brB ls w).toList:=by rw[z,List.filterMap_append];cases hb:brB ls w<;>simp[hb]
  have C:((o.take i).filterMap (brB ls)).length<=i:=by
   have:=qL193 (brB ls) (o.take i);simp at this;omega
  simp only[HO,Nat.reduceLT,↓reduceIte,Nat.reduceEqDiff,reduceCtorEq,ad,ld,Is w l,fl1,Ip,lUp f gw];by_cases c:0<=(Ro ls w).2.1/\(Ro ls w).2.2=(Ro ls w).1
  .have hb : brB ls w = some (min (Ro ls w).2.1 (w : Int), max (Ro ls w).2.1 (w : Int)) := by rw [brB, if_pos c]
   have d1:decide ((Ro ls w).2.1>=0)=true:=decide_eq_true c.1;have d2:decide ((Ro ls w).2.2=(Ro ls w).1)=true:=decide_eq_true c.2;obtain⟨v',h4,h5,e4,e5,g5,w5,l4,f5,-⟩:=gb.push J (min (Ro ls w).2.1 (w:Int),max (Ro ls w).2.1 (w:Int)) NH;obtain⟨l5,a5⟩:=f5 h2 d ab;refine gh (tA [0,1,2,3,4,5,6,7,8,9,10,11,12,13,14] .done) ?_;simp only[HO,Nat.reduceLT,↓reduceIte,Nat.reduceEqDiff,reduceCtorEq,Nat.reduceBEq,Qg,d1,d2,Is w l,D8,fl2,Ip,im,jA f gw,Nh f gw,Dv,z6,bP2,e4,e5,Tw i NH];exact tn (o.length-(i+1)) [(4,.slice (some ⟨L,0,none⟩) n n),(7,v'),(21,u),(22,.int .i64 o.length),(23,.int .i64 (i+1:Nat))] NH fD ⟨i+1,v',rfl,a,rfl,by rw[A,hb];exact g5,l5,a5⟩
  .have hb : brB ls w = none := by rw [brB, if_neg c]
   have fin:GP D bv ((o.take (i+1)).filterMap (brB ls)):=by rw[A,hb];simpa using gb
   by_cases c1:0<=(Ro ls w).2.1
   .have d1 : decide ((Ro ls w).2.1 >= 0) = true := decide_eq_true c1
    have d2:decide ((Ro ls w).2.2=(Ro ls w).1)=false:=decide_eq_false fun e=>c ⟨c1,e⟩;refine gh (tA [0,1,2,3,4,5,6,7,8,9,10,11,12,13,14] .done) ?_;simp only[HO,Nat.reduceLT,↓reduceIte,Nat.reduceEqDiff,reduceCtorEq,Nat.reduceBEq,Qg,d1,d2,Is w l,D8,fl2,Ip,im,jA f gw,Nh f gw,Tw i NH];exact tn (o.length-(i+1)) [(4,.slice (some ⟨L,0,none⟩) n n),(7,bv),(21,u),(22,.int .i64 o.length),(23,.int .i64 (i+1:Nat))] NH fD ⟨i+1,bv,rfl,a,rfl,fin,d,ab⟩
   .have d1 : decide ((Ro ls w).2.1 >= 0) = false := decide_eq_false c1
    refine gh (tA [0,1,2,3,4,5,6,7,8,9,10,11,12,13,14] .done) ?_;simp only[HO,Nat.reduceLT,↓reduceIte,Nat.reduceEqDiff,reduceCtorEq,Nat.reduceBEq,Qg,d1,Tw i NH];exact tn (o.length-(i+1)) [(4,.slice (some ⟨L,0,none⟩) n n),(7,bv),(21,u),(22,.int .i64 o.length),(23,.int .i64 (i+1:Nat))] NH fD ⟨i+1,bv,rfl,a,rfl,fin,d,ab⟩
 .have K : o.length <= i := vp hf
  rw[HV K]at gb;have C:(o.filterMap (brB ls)).length<=100000:=by
   have:=qL193 (brB ls) o;omega
  refine Uy ?_;refine TC.intro PJ ⟨Tryz.func69,rfl,WY⟩ (Lr E gb C 86 (enters_of Tryz.func86 Ji rfl) fun W p q=>(afe _ p q _).mono fun _ _ h=>h.1) ?_;rintro x h4 w4 ⟨rfl,g4,f4⟩;refine Uy ?_;have l4:=f4 h2 d ab;refine⟨(j.trans m).trans l4,.inr ⟨s,bv,rfl,by rw[hM];exact g4,fun b hb=>(j.trans m).none (ab b hb)⟩⟩
end
section
open Go.Proofs
def zD (ls:List Lw) (c:RZ) (v:Nat):RZ:=
 if 0<=(Ro ls v).2.1/\(Ro ls (Ro ls v).2.1.toNat).1<=(Ro ls v).2.2 then c.set (Ro ls v).2.1.toNat (c.getD (Ro ls v).2.1.toNat 0+1)else c
def cntM (ls:List Lw) (o:II) (n:Nat):RZ:=o.foldl (zD ls) (List.replicate n 0)
theorem AX (ls:List Lw) (c:RZ) (v:Nat):(zD ls c v).length=c.length:=by grind [zD]
def yg (ls:List Lw) (c:RZ) (v:Nat):Bool:=decide (c.getD v 0>1)||(decide (c.getD v 0=1)&&decide ((Ro ls v).2.1>=0))
def JL (n:Nat) (es:List Pr):II:=(List.range n).filter (yg (Jz n es).1 (cntM (Jz n es).1 (Jz n es).2 n))
end
section
attribute [local irreducible] Kp MQ lU rS KO KN KX KE VK Kl ZJ TC aat
open Go.Proofs
def pK (ls:List Lw) (p:Pr):Nat:=if(Ro ls p.1.toNat).1>(Ro ls p.2.toNat).1 then p.1.toNat else p.2.toNat
def rQ (ls:List Lw) (H:RZ) (v:Nat):RZ:=
 if 0<=(Ro ls v).2.1/\(Ro ls v).2.2<(Ro ls (Ro ls v).2.1.toNat).1 then(H.set v (v:Int)).set v ((H.set v (v:Int)).getD (Ro ls v).2.1.toNat 0)else H.set v (v:Int)
def hdM (ls:List Lw) (o:II) (n:Nat):RZ:=o.foldl (rQ ls) (List.replicate n 0)
theorem IB (ls:List Lw) (c:RZ) (v:Nat):(rQ ls c v).length=c.length:=by grind [rQ]
theorem Cc (ls:List Lw):∀(o:II) (c:RZ),(o.foldl (rQ ls) c).length=c.length
 |[],c=>rfl
 |v::o,c=>by rw[Yq,Cc ls o,IB]
def cQ (n:Nat) (es:List Pr) (p:Pr):Int:=(hdM (Jz n es).1 (Jz n es).2 n).getD (pK (Jz n es).1 p) 0
def vq (n:Nat) (es:List Pr):List (List Pr):=(grpsM (fun p _=>cQ n es p) es [] es.length).map (·.2)
theorem NU (p:LA) (n L f a c:Nat) (ls:List Lw) (h:AHeap) (u:ls.length=n) (oV:h.own f=some (.cells [.slice (some ⟨L,0,none⟩) n n])) (oL:h.own L=some (.cells (Wo ls))) (ha:a<n) (j:c<n):
  AC Tryz.prog p 85 [UI ((a:Int),(c:Int)),.pointer (some ⟨f,0,none⟩)] h fun x h'=>x=.int .i64 (pK ls ((a:Int),(c:Int)):Nat)/\Le h h':=by
 have e:=fun(g:AHeap) (o:g.own f=some (.cells [.slice (some ⟨L,0,none⟩) n n]))=>(Fq (P:=Tryz.prog) qS9 rfl o (off:=0):aload Tryz.prog g 104 ⟨f,0,none⟩=_);simp only[Lm]at e;refine AC.vE ⟨Tryz.func85,rfl,WY⟩ Tryz.ntmps85 Tryz.results85 fun i=>?_;simp only[kAr,Nat.reduceAdd];obtain⟨r,s,l1,w1,l⟩:=Tt i (xM ((a:Int),(c:Int)));have m1:=lK l;have m2:=HY l;simp only at m1 m2;have m:=V0 (ls:=ls) (v:=a) NH;have gc:=V0 (ls:=ls) (v:=c) NH;have b:=l1.own _ _ oL;have q:=e r (l1.own _ _ oV);simp only[HO,Nat.reduceLT,↓reduceIte,Nat.reduceEqDiff,reduceCtorEq,Ci,s]
 generalize h.next=E at*
 by_cases k:(Ro ls a).1>(Ro ls c).1
 .have d : decide ((Ro ls a).1 > (Ro ls c).1) = true := decide_eq_true k
  have t:pK ls ((a:Int),(c:Int))=a:=by grind [pK]
  refine gh (tA [0,1,2,3,4,5,6,7,8,9,10,11,12] .done) ?_;simp only[HO,Nat.reduceLT,↓reduceIte,Nat.reduceEqDiff,reduceCtorEq,Nat.reduceBEq,Qg,Dh,Z0,Ip,im,XJ,m1,m2,q,Is a ha,Is c j,D8,Nh b m,Nh b gc,d]
  grind
 .have d : decide ((Ro ls a).1 > (Ro ls c).1) = false := decide_eq_false k
  have t:pK ls ((a:Int),(c:Int))=c:=by grind [pK]
  refine gh (tA [0,1,2,3,4,5,6,7,8,9,10,11,12] .done) ?_;simp only[HO,Nat.reduceLT,↓reduceIte,Nat.reduceEqDiff,reduceCtorEq,Nat.reduceBEq,Qg,Dh,Z0,Ip,im,XJ,m1,m2,q,Is a ha,Is c j,D8,Nh b m,Nh b gc,d]
  grind
theorem Cw (W0:LA) (v:Value) (G:GM) (h:AHeap) (hg:GR h v G):
  AC Tryz.prog W0 46 [v] h fun x h'=>Le h h'/\((¬bX G/\x=.tuple #[.slice none 0 0,.int .i64 20])\/(bX G/\∃bv,x=.tuple #[bv,.int .i64 0]/\RL PR h' bv (vq G.n.toNat G.es))):=by
 have cz:=hg;obtain⟨gn,es⟩:=G
 obtain⟨ev,rfl,hp⟩:=hg.open
 refine AC.vE ⟨Tryz.func46,rfl,WY⟩ Tryz.ntmps46 Tryz.results46 fun cC=>?_;simp only[kAr,Nat.reduceAdd];obtain⟨h1,b1,aN,dF,-,lA⟩:=r8 (n:=gn) cC hp
 generalize h.next=B at*
 have cE:=lA h1 (Le.refl _);simp only[HO,Nat.reduceLT,↓reduceIte,Nat.reduceEqDiff,reduceCtorEq,b1,cE.1];refine TC.intro PJ ⟨Tryz.func84,rfl,WY⟩ (qX W0 _ _ h1 (cz.le aN)) ?_;rintro x h2 bI ⟨bN,aP⟩;have al:=LG h2;obtain⟨h3,e3,l3,w3,o3⟩:=Tt bI [.slice none 0 0];rw[e3]at al
 have nV:h2.own h2.next=none:=(Le.refl h2).next bI (Ny _)
 rcases aP with⟨hr,rfl⟩|⟨hr,L,ov,rfl,oL,nL,go,nb,ao⟩
 .have st := QB (P := Tryz.prog) (t := 104) (x := .slice none 0 0) qS9 Ji o3 (off := 0) Ma rfl rfl
  have d20:decide ((20:Int)=0)=false:=by decide
  simp only[HO,Nat.reduceLT,↓reduceIte,Nat.reduceEqDiff,reduceCtorEq,al,st,bne,d20]
  grind [Le.trans,Le.put]
 have h0:0<=gn:=hr.n0;obtain⟨n,rfl⟩:=yY h0;have dB:(n:Int)<=200:=hr.n1;have dE:es.length<=594:=hr.len;have hR:=hr.GD;have R:=afd hr.GD;simp only[Sb]at oL go ⊢;have hM:vq n es=(grpsM (fun p _=>(hdM (Jz n es).1 (Jz n es).2 n).getD (pK (Jz n es).1 p) 0) es [] es.length).map (·.2):=rfl;generalize (Jz n es).1=ls at*;generalize (Jz n es).2=o at*;have dH:=R.Em;have st:=QB (P:=Tryz.prog) (t:=104) (x:=.slice (some ⟨L,0,none⟩) n n) qS9 Ji o3 (off:=0) Ma rfl rfl;have w4:=w3.put (.cells ([Value.slice none 0 0].set 0 (.slice (some ⟨L,0,none⟩) n n))) (w3.lt o3);have l4:=l3.put (.cells ([Value.slice none 0 0].set 0 (.slice (some ⟨L,0,none⟩) n n))) nV
 have aT:=AHeap.Y3 h3 h2.next (.cells ([Value.slice none 0 0].set 0 (.slice (some ⟨L,0,none⟩) n n)))
 simp only[List.set_cons_zero]at aT l4 w4 st;have lo:=fun g=>go.rl.Uc g;rw[y6]at lo;simp only[HO,Nat.reduceLT,↓reduceIte,Nat.reduceEqDiff,reduceCtorEq,al,st,bne];clear st al e3 o3 w3 l3
 generalize h3.put h2.next (.cells [.slice (some ⟨L,0,none⟩) n n])=h4 at*
 generalize h2.next=S at*
 clear h3;have bQ:=lA h4 (bN.trans l4);have mk:=Ye (P:=Tryz.prog) (t:=49) (z:=.int .i64 0) h4 Ac rfl rfl rfl rfl Ji Mb Ji n NH;obtain⟨h5,e5,l5,w5,o5⟩:=Tt w4 (List.replicate n (.int .i64 0));rw[e5]at mk
 have nC:h4.own h4.next=none:=(Le.refl h4).next w4 (Ny _)
 simp only[HO,Nat.reduceLT,↓reduceIte,Nat.reduceEqDiff,reduceCtorEq,Ii,Ip,XJ,bQ.2.1,mk,lo]
 generalize h4.next=C at*
 have bW:h5.own C=some (.cells (Bp (List.replicate n 0))):=by rw[o5];simp[Bp]
 have cM:=l4.own _ _ oL;have cN:=go.le l4;have Y:=fun(g:AHeap) (o:Le h4 g)=>(Fq (P:=Tryz.prog) qS9 rfl (o.own _ _ aT) (off:=0):aload Tryz.prog g 104 ⟨S,0,none⟩=_);simp only[Lm]at Y;have Z:∀(k:IntKind) (j:Nat),j<n->aIndexAddr Tryz.prog 49 (.slice (some ⟨C,0,none⟩) n n) (.int k j)=some (.pointer (some ⟨C,j,none⟩)):=fun k j hj=>by rw[Wc Ac Mb Ji j hj];simp[Ip]
 have bZ:∀(g:AHeap) (c:RZ) (j:Nat),g.own C=some (.cells (Bp c))->c.length=n->j<n->aload Tryz.prog g 3 ⟨C,j,none⟩=some (.int .i64 (c.getD j 0)):=fun g c j N hl hj=>by rw[Fq Mb rfl N,D4 NH];simp[Bp,CA (show j<c.length by omega)]
 refine aat.intro (fun k fr m=>∃(i:Nat),k=o.length-i/\i<=o.length/\fr=mkF [(1,.pointer (some ⟨B,0,none⟩)),(4,.pointer (some ⟨S,0,none⟩)),(7,.slice (some ⟨C,0,none⟩) n n),(32,ov),(33,.int .i64 o.length),(34,.int .i64 i)]/\m.own C=some (.cells (Bp ((o.take i).foldl (rQ ls) (List.replicate n 0))))/\Le h4 m)
  o.length [(1,.pointer (some ⟨B,0,none⟩)),(4,.pointer (some ⟨S,0,none⟩)),(7,.slice (some ⟨C,0,none⟩) n n),(32,ov),(33,.int .i64 o.length),(34,.int .i64 (0:Nat))] fD ⟨0,rfl,yM _,rfl,bW,l5⟩ ?_
 clear bW o5 w5 l5 e5 mk lo bQ;clear h5;rintro k fr m aW ⟨i,rfl,hi,rfl,oC,leq⟩;have aX:((o.take i).foldl (rQ ls) (List.replicate n 0)).length=n:=by grind [Cc]
 refine Uy ?_;refine Kl.intro (fun ht=>?_) (fun hf=>?_)
 .have d : i < o.length := CC ht
  clear ht;have b0:=CA d;have ad:=go.rl.TA i (by rw[y6];exact d);have ld:=(cN.le leq).rl.DH i (by rw[y6];exact d);rw[sY d]at ld;have cP:o.take (i+1)=o.take i++[o[i]]:=EL d;generalize o[i]=w at b0 ld cP;have O:=R.lt w (Gc b0);have gw:=V0 (ls:=ls) (v:=w) (by grind [LowR.len]);have A:(o.take (i+1)).foldl (rQ ls) (List.replicate n 0)=rQ ls ((o.take i).foldl (rQ ls) (List.replicate n 0)) w:=pw;generalize (o.take i).foldl (rQ ls) (List.replicate n 0)=H at*;have st1:=QB (P:=Tryz.prog) (t:=3) (x:=.int .i64 (w:Int)) Mb Ji oC (off:=w) (by simp[Bp];omega) rfl rfl;rw[yy]at st1;have r:=leq.put (.cells (Bp (H.set w (w:Int)))) nC;have ag:=AHeap.Y3 m C (.cells (Bp (H.set w (w:Int))));have b2:(H.set w (w:Int)).length=n:=pw;generalize m.put C (.cells (Bp (H.set w (w:Int))))=h6 at*;have T:=r.own _ _ cM;simp only[HO,Nat.reduceLT,↓reduceIte,Nat.reduceEqDiff,reduceCtorEq,ad,ld,Z _ w O,st1,Y h6 r,Is w O,fl1,Ip,lUp T gw];by_cases c1:0<=(Ro ls w).2.1
  .obtain ⟨u, s⟩ := yY c1
   have aj:u<n:=by have:=R.up w O;omega
   have gu:=V0 (ls:=ls) (v:=u) (by grind [LowR.len]);have d1:decide ((u:Int)>=0)=true:=decide_eq_true NH;by_cases c2:(Ro ls w).2.2<(Ro ls u).1
   .have d2 : decide ((Ro ls w).2.2 < (Ro ls u).1) = true := decide_eq_true c2
    have hE:rQ ls H w=(H.set w (w:Int)).set w ((H.set w (w:Int)).getD u 0):=by grind [rQ,Int.toNat_natCast]
    have st:=QB (P:=Tryz.prog) (t:=3) (x:=.int .i64 ((H.set w (w:Int)).getD u 0)) Mb Ji ag (off:=w) (by simp[Bp];omega) rfl rfl;rw[yy,<-hE,<-A]at st;simp only[s];refine gh (tA [0,1,2,3,4,5,6,7,8,9,10,11,12,13,14] .done) ?_;simp only[HO,Nat.reduceLT,↓reduceIte,Nat.reduceEqDiff,reduceCtorEq,Nat.reduceBEq,Qg,d1,d2,Y h6 r,Is w O,Is u aj,D8,fl2,Ip,im,jA T gw,Nh T gu,Z _ u aj,Z _ w O,bZ h6 _ u ag b2 aj,st,Tw i NH];exact tn (o.length-(i+1)) [(1,.pointer (some ⟨B,0,none⟩)),(4,.pointer (some ⟨S,0,none⟩)),(7,.slice (some ⟨C,0,none⟩) n n),(32,ov),(33,.int .i64 o.length),(34,.int .i64 (i+1:Nat))] NH fD ⟨i+1,rfl,d,rfl,AHeap.Y3 _ _ _,r.put _ nC⟩
   .have d2 : decide ((Ro ls w).2.2 < (Ro ls u).1) = false := decide_eq_false c2
    have hE:rQ ls H w=H.set w (w:Int):=by grind [rQ,Int.toNat_natCast]
    simp only[s];refine gh (tA [0,1,2,3,4,5,6,7,8,9,10,11,12,13,14] .done) ?_;simp only[HO,Nat.reduceLT,↓reduceIte,Nat.reduceEqDiff,reduceCtorEq,Nat.reduceBEq,Qg,d1,d2,Y h6 r,Is w O,Is u aj,D8,fl2,Ip,im,jA T gw,Nh T gu,Tw i NH];exact tn (o.length-(i+1)) [(1,.pointer (some ⟨B,0,none⟩)),(4,.pointer (some ⟨S,0,none⟩)),(7,.slice (some ⟨C,0,none⟩) n n),(32,ov),(33,.int .i64 o.length),(34,.int .i64 (i+1:Nat))] NH fD ⟨i+1,rfl,d,rfl,by rw[A,hE];exact ag,r⟩
  .have d1 : decide ((Ro ls w).2.1 >= 0) = false := decide_eq_false c1
   have hE:rQ ls H w=H.set w (w:Int):=by grind [rQ]
   refine gh (tA [0,1,2,3,4,5,6,7,8,9,10,11,12,13,14] .done) ?_;simp only[HO,Nat.reduceLT,↓reduceIte,Nat.reduceEqDiff,reduceCtorEq,Nat.reduceBEq,Qg,d1,Tw i NH];exact tn (o.length-(i+1)) [(1,.pointer (some ⟨B,0,none⟩)),(4,.pointer (some ⟨S,0,none⟩)),(7,.slice (some ⟨C,0,none⟩) n n),(32,ov),(33,.int .i64 o.length),(34,.int .i64 (i+1:Nat))] NH fD ⟨i+1,rfl,d,rfl,by rw[A,hE];exact ag,r⟩
 have a6:o.length<=i:=vp hf;rw[HV a6]at oC aX;have b3:o.foldl (rQ ls) (List.replicate n 0)=hdM ls o n:=rfl;rw[b3]at oC aX;rw[hM];clear hM b3;generalize hdM ls o n=H at*
 obtain⟨Q,e7,y,U,o7⟩:∃Q,m.alloc (.map [])=Q/\Le m Q/\WF Q/\Q.own m.next=some (.map []):=⟨_,rfl,(Le.refl m).alloc aW _,aW.alloc _,AHeap.zT _ _⟩
 obtain⟨h8,e8,aq,cR,o8⟩:=Tt U []
 have b4:aBuildSlice Tryz.prog Q 49 0 []=some (.slice (some ⟨Q.next,0,none⟩) 0 0,h8):=by rw[<-e8];rfl
 have nM:m.own m.next=none:=(Le.refl m).next aW (Ny _)
 have nD:m.own Q.next=none:=y.next U (Ny _)
 have b5:Q.next≠m.next:=fun e=>by have:=U.lt o7;omega
 have V:=bN.trans (l4.trans leq);have b6:=lA h8 (V.trans (y.trans aq));have ll:=fun g=>hp.len g;simp only[HO,Nat.reduceLT,↓reduceIte,Nat.reduceEqDiff,reduceCtorEq,e7,b4,Di,Ip,XJ,b6.2.2,ll];have b8:=aq.own _ _ o7
 generalize m.next=M at*
 generalize Q.next=D at*
 have cU:=hp.le (aN.trans V);have cZ:=(l4.trans leq).own _ _ oL;have c0:=leq.own _ _ aT;generalize c3:(fun(p:Pr) (_:Nat)=>H.getD (pK ls p) 0)=fr at*;have R0:abJ m h8 M [] (grpsM fr es [] 0):=⟨b8,rfl,fun j u g s=>by simp at s,fun j u s=>by simp at s,fun j k u u' b _ s=>by simp at s,fun j u s=>by simp at s,y.trans aq,nM⟩;have gC:GI h8 (.slice (some ⟨D,0,none⟩) 0 0) (Ea (grpsM fr es [] 0)):=GS.full o8 rfl WY;refine aat.intro (fun k W hh=>∃(i:Nat) (cv:Value) (us:List Value),k=es.length-i/\i<=es.length/\W=mkF [(7,.slice (some ⟨C,0,none⟩) n n),(11,.func (.func 85) #[] #[.pointer (some ⟨S,0,none⟩)]),(12,.map (some M)),(13,cv),(74,ev),(75,.int .i64 es.length),(76,.int .i64 i)]/\
   abJ m hh M us (grpsM fr es [] i)/\GI hh cv (Ea (grpsM fr es [] i))/\blk cv≠some M/\(∀(j:Nat) u b,us[j]?=some u->blk u=some b->blk cv≠some b)/\Z2 m cv)
  es.length [(7,.slice (some ⟨C,0,none⟩) n n),(11,.func (.func 85) #[] #[.pointer (some ⟨S,0,none⟩)]),(12,.map (some M)),(13,.slice (some ⟨D,0,none⟩) 0 0),(74,ev),(75,.int .i64 es.length),(76,.int .i64 (0:Nat))] fD
  ⟨0,_,[],rfl,yM _,rfl,R0,gC,by grind [blk],fun j u b s=>by simp at s,fun b hb=>by grind [blk]⟩ ?_
 clear R0 gC b8 b6 nD b5 b4 o8 cR aq e8 o7 U y e7;rintro k W hh ar ⟨i,cv,us,rfl,hi,rfl,Rg,gc,nc,dc,ac⟩;have a7:=Rg.le;refine Uy ?_;refine Kl.intro (fun ht=>?_) (fun hf=>?_)
 rotate_left
 .have a6 : es.length <= i := vp hf
  obtain rfl:i=es.length:=NH;obtain⟨nd,b9,aH,c4,cc⟩:=Pt fr es [] es.length;generalize a8:grpsM fr es [] es.length=gs at*;have lc:=fun g=>gc.rl.Uc g;have cd:(Ea gs).length=gs.length:=by simp[Ea]
  rw[cd]at lc;have mk:=Ye (P:=Tryz.prog) (t:=62) (z:=.slice none 0 0) hh yo B9 rfl rfl rfl Ji eY Ji gs.length NH;obtain⟨h9,e9,I,av,o9⟩:=Tt ar (List.replicate gs.length (.slice none 0 0));rw[e9]at mk
  have nF:hh.own hh.next=none:=(Le.refl hh).next ar (Ny _)
  generalize hh.next=F at*
  simp only[HO,Nat.reduceLT,↓reduceIte,Nat.reduceEqDiff,reduceCtorEq,lc,mk];refine aat.intro (fun k W hz=>∃(j:Nat) (cs:List Value),k=gs.length-j/\j<=gs.length/\W=mkF [(12,.map (some M)),(17,.slice (some ⟨F,0,none⟩) gs.length gs.length),(107,cv),(108,.int .i64 gs.length),(109,.int .i64 j)]/\
    Le hh hz/\hz.own F=some (.cells cs)/\cs.length=gs.length/\∀(a:Nat) g,a<j->gs[a]?=some g->∃x,cs[a]?=some x/\PR hh x g.2)
   gs.length [(12,.map (some M)),(17,.slice (some ⟨F,0,none⟩) gs.length gs.length),(107,cv),(108,.int .i64 gs.length),(109,.int .i64 (0:Nat))] fD
   ⟨0,_,rfl,yM _,rfl,I,o9,Ma,NH⟩ ?_
  clear e9 o9 av I mk;clear h9;rintro k W hz dI ⟨j,cs,rfl,hj,rfl,ay,oF,dJ,bb⟩;refine Uy ?_;refine Kl.intro (fun ht=>?_) (fun hf=>?_)
  rotate_left
  .have a6 : gs.length <= j := vp hf
   refine Uy ?_;refine⟨(aN.trans V).trans (a7.trans ay),.inr ⟨hr,_,rfl,cs,?_,(by grind),fun a f u ha s=>?_⟩⟩
   .grind [RS.whole]
   .rw [Ki] at ha
    cases cf:gs[a]? with
    |none=>grind
    |some g=>
     grind [PR.le]
  have bg:j<gs.length:=CC ht;clear ht;have cg:=CA bg;generalize gs[j]=g at cg;obtain⟨f,l⟩:=g;have ck:(Ea gs)[j]?=some f:=by grind [Ea]
  have cm:=(qL0.1 ck).1;have c5:=gc.rl.TA j cm;have cp:=(gc.rl.le Nn.RP ay).DH j cm;rw[(qL0.1 ck).2]at cp;have Rz:=Rg.up ay;obtain⟨u,c6,bh⟩:=Rg.look f;rw[NI nd cg]at bh;have s:aLookup Tryz.prog hz 110 (.map (some M)) (.int .i64 f) false=some u:=by rw[<-c6];simp only[aLookup,pE,Mb,Rz.oM,Rg.oM]
  have c9:∀k:IntKind,aIndexAddr Tryz.prog 62 (.slice (some ⟨F,0,none⟩) gs.length gs.length) (.int k j)=some (.pointer (some ⟨F,j,none⟩)):=fun k=>by rw[Wc yo eY Ji j bg];simp[Ip]
  have stF:=QB (P:=Tryz.prog) (t:=22) (x:=u) eY Ji oF (off:=j) NH (xO.cells bh.pr.sl) (xO.one bh.pr.sl);simp only[HO,Nat.reduceLT,↓reduceIte,Nat.reduceEqDiff,reduceCtorEq,c5,cp,s,c9,stF,Tw j NH];refine tn (gs.length-(j+1)) [(12,.map (some M)),(17,.slice (some ⟨F,0,none⟩) gs.length gs.length),(107,cv),(108,.int .i64 gs.length),(109,.int .i64 (j+1:Nat))] NH fD
   ⟨j+1,cs.set j u,rfl,bg,rfl,ay.put _ nF,AHeap.Y3 _ _ _,(by grind),fun a g ha cf=>?_⟩
  by_cases e:a=j
  .grind [GP.pr]
  .obtain ⟨x', q1, q2⟩ := bb a g NH cf
   grind
 have d:i<es.length:=CC ht;clear ht;have az:=CA d;generalize es[i]=p at az;have da:=Gc az;have aJ:=hR p da;have db:=cU.le a7;have ad:=hp.addr (k:=.i64) i d;have ld:=db.load az;obtain⟨a,c⟩:=p;simp only at aJ;obtain⟨a,rfl⟩:=yY aJ.1;obtain⟨c,rfl⟩:=yY (show 0<=c by omega);obtain⟨dL,Q,e7,dd,y,U,o7⟩:=Ut ar ((a:Int),(c:Int))
 have cq:hh.own hh.next=none:=(Le.refl hh).next ar (Ny _)
 have X:=a7.trans y;have R7:=Rg.up y;have de:=gc.le y
 have dM:hh.next≠M:=fun e=>by have:=Rg.oM;grind
 have dj:blk cv≠some hh.next:=fun e=>GS.Sy gc e cq
 have dO:∀(j:Nat) u,us[j]?=some u->blk u≠some hh.next:=fun j u s e=>by
  have a8:∃q,(grpsM fr es [] i)[j]?=some q:=⟨_,CA (by grind [abJ.len])⟩;obtain⟨q,m⟩:=a8;exact GS.Sy (Rg.gp j u q s m) e cq
 generalize hh.next=E at*
 have dk:=uM o7;simp only[HO,Nat.reduceLT,↓reduceIte,Nat.reduceEqDiff,reduceCtorEq,ad,ld,e7,dd,dk];refine TC.intro PJ ⟨Tryz.func85,rfl,WY⟩ (NU W0 n L S a c ls Q R.len (X.own _ _ c0) (X.own _ _ cZ) NH NH) ?_;rintro x h9 av ⟨rfl,I⟩;have hle:pK ls ((a:Int),(c:Int))<n:=by grind [pK]
 have aK:=X.trans I;have R9:=R7.up I;have bk:=de.le I;have o9:=I.own _ _ o7;have bm:=bZ h9 H _ (aK.own _ _ oC) aX hle;have c1:((a:Int),(c:Int))∉([]:List Pr):=by simp
 obtain⟨nd,b9,aH,c4,cc⟩:=Pt fr es [] i;have aL:=dh (fr:=fr) az c1;have dm:fr ((a:Int),(c:Int)) i=H.getD (pK ls ((a:Int),(c:Int))) 0:=by rw[<-c3]
 rw[<-dm]at bm;have K:=RY (grpsM fr es [] i) (fr ((a:Int),(c:Int)) i) ((a:Int),(c:Int));have cr:=rV (f:=fr ((a:Int),(c:Int)) i) b9;have dQ:=Ft (fr ((a:Int),(c:Int)) i) _ _ aH;have cx:=Z .i64 _ hle;generalize a8:grpsM fr es [] i=gs at*;generalize fr ((a:Int),(c:Int)) i=f at*;generalize pK ls ((a:Int),(c:Int))=lw at*;have cd:(Ea gs).length<=1000:=by grind [Ea]
 obtain⟨u,s,gu⟩:=R9.look f;have lu:=fun g=>gu.pr.len g;have bo:∀(j:Nat) a b,us[j]?=some a->blk a=some b->∃o,h9.own b=some o:=fun j a b ha hb=>by
  have m:∃q,gs[j]?=some q:=⟨_,CA (by rw[<-R9.len];grind)⟩;obtain⟨q,m⟩:=m;exact N8.1 (GS.Sy (R9.gp j a q ha m) hb)
 by_cases c2:lstG gs f=[]
 .have dp : ∀ g, aLen Tryz.prog g 22 u = some (.int .i64 0) := fun g => by rw [lu g, c2]; rfl
  have dq:f∉Ea gs:=fun hm=>cr.1 hm c2;rw[if_neg dq]at K;obtain⟨aC,g4,g5,e4,e5,br,w5,l4,dv,aD⟩:=bk.push av f NH;obtain⟨l5,a5⟩:=dv m aK ac;have R5:abJ m g5 M us gs:=R9.keep l5 fun b o N hb=>(aD b o N (by
   rcases hb with rfl|⟨j,a,ha,hb⟩
   .exact nc
   grind)).1
  obtain⟨dw,dS⟩:=aD E _ o9 dj;have bx:=(aD M _ R9.oM nc).2;obtain⟨u2,dz,q4,q5,q6,bB,eu,eb,ea,em,Rn,wn,dA,kq⟩:=R5.push w5 f ((a:Int),(c:Int)) (by rw[c2];simp);have bF:=uM dw;rw[<-K]at br;have ku:∀(j:Nat) a b,us[j]?=some a->blk a=some b->blk aC≠some b:=fun j a b ha hb=>by
   obtain⟨o,N⟩:=bo j a b ha hb;exact(aD b o N (dc j a b ha hb)).2
  have bH:GI q6 aC (Ea (addG gs f ((a:Int),(c:Int)))):=GS.kept br fun b o hb N=>(kq b o N (fun e=>bx (by grind)) (fun j a ha J=>ku j a b ha J hb)).2.1;simp only[HO,Nat.reduceLT,↓reduceIte,Nat.reduceEqDiff,reduceCtorEq,cx,bm,s,dp,e4,e5,eu,bF,eb,ea,em,Tw i NH];refine tn (es.length-(i+1)) [(7,.slice (some ⟨C,0,none⟩) n n),(11,.func (.func 85) #[] #[.pointer (some ⟨S,0,none⟩)]),(12,.map (some M)),(13,aC),(74,ev),(75,.int .i64 es.length),(76,.int .i64 (i+1:Nat))] NH fD
   ⟨i+1,aC,bB,rfl,d,rfl,?_⟩
  rw[aL];refine⟨Rn,bH,bx,fun j a b ha hb hc=>?_,a5⟩;obtain⟨o,N⟩:=N8.1 (GS.Sy br hc);exact(kq b o N (fun e=>bx (by grind)) (fun j a ha J=>ku j a b ha J hc)).2.2 j a ha hb
 .have hz : (((lstG gs f).length : Nat) : Int) ≠ 0 := by grind [List.length_eq_zero_iff]
  rw[if_pos (cr.2 c2)]at K;obtain⟨u2,dz,q4,q5,q6,bB,eu,eb,ea,em,Rn,wn,dA,kq⟩:=R9.push av f ((a:Int),(c:Int)) NH;obtain rfl:u=u2:=pw;have bF:=uM o9;have bH:GI q6 cv (Ea (addG gs f ((a:Int),(c:Int)))):=by
   rw[K];exact GS.kept bk fun b o hb N=>(kq b o N (fun e=>nc (by grind)) (fun j a ha J=>dc j a b ha J hb)).2.1
  simp only[HO,Nat.reduceLT,↓reduceIte,Nat.reduceEqDiff,reduceCtorEq,cx,bm,s,lu,eq_false hz,bF,eb,ea,em,Tw i NH];refine tn (es.length-(i+1)) [(7,.slice (some ⟨C,0,none⟩) n n),(11,.func (.func 85) #[] #[.pointer (some ⟨S,0,none⟩)]),(12,.map (some M)),(13,cv),(74,ev),(75,.int .i64 es.length),(76,.int .i64 (i+1:Nat))] NH fD
   ⟨i+1,cv,bB,rfl,d,rfl,?_⟩
  rw[aL];refine⟨Rn,bH,nc,fun j a b ha hb hc=>?_,ac⟩;obtain⟨o,N⟩:=N8.1 (GS.Sy bk hc);exact(kq b o N (fun e=>nc (by grind)) (fun j a ha J=>dc j a b ha J hc)).2.2 j a ha hb
end
end Go.Fw
