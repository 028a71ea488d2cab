/- A text. -/
import Derived.Test.YtkccdnmaaelbiaaGreatFwLJ22
set_option linter.all false
set_option maxRecDepth 99999
set_option maxHeartbeats 9999999
namespace Go.Fw
section
attribute [local irreducible] Kp MQ lU rS KO KN KX KE VK Kl ZJ TC gU
attribute [local irreducible] Jz JL vq cQ
open Go.Proofs
def OC (k id n:Nat) (a:n<1000000):Ov k (.slice (some ⟨id,0,none⟩) n n):=⟨_,_,_,rfl,.inl ⟨vT _,Ki a WY⟩⟩
theorem jS (c:LA) (h:AHeap):AC Tryz.prog c 17 [] h fun x h'=>x=.bool true/\Le h h':=by
 refine AC.vE ⟨iZ,rfl,WY⟩ Tryz.ntmps17 Tryz.results17 fun N=>?_;simp only[Br,Nat.reduceAdd];have bP:∀a b:Int,aBuild Tryz.prog 38 [(0,.int .i64 a),(1,.int .i64 b)]=some (UI (a,b)):=fun _ _=>rfl;have fV:∀x e:Value,aFieldV Tryz.prog 24 (.agg #[x,e]) 1=some e:=fun _ _=>rfl;obtain⟨h1,e1,l1,w1,o1⟩:=Tt N (Iu LO);have m1:=mkP4 h (0,1) (0,3) (1,2) (2,3);have O:Iu [(0,1),(0,3),(1,2),(2,3)]=Iu LO:=rfl;rw[O,e1]at m1
 have Q:PR h1 (.slice (some ⟨h.next,0,none⟩) 4 4) LO:=PR.made o1 rfl
 obtain⟨h2,h3,a2,s2,l3,w3,lG⟩:=newG (n:=4) w1 Q;have R:=Wj (n:=4) Q.sl;refine Sk (bG @bP m1 R a2 s2 ((lG h3 (Le.refl _)).1)) ?_
 generalize h1.next=G1 at*
 have g1:Ux h3 (.agg #[.int .i64 4,.slice (some ⟨h.next,0,none⟩) 4 4]) ⟨((4:Nat):Int),LO⟩:=⟨_,rfl,Q.le l3,OC _ _ _ WY⟩
 refine TC.intro PJ ⟨KT,rfl,WY⟩ (Im c _ ⟨((4:Nat):Int),LO⟩ h3 g1) ?_;rintro x h4 w4 ⟨l4,r1,aP,rfl,I1⟩;obtain⟨d,-,M,F1,rfl,f⟩:=I1.XK c4R c4T c4P;refine Uy ?_;refine TC.intro PJ ⟨Tryz.func30,rfl,WY⟩ (XE c h4) ?_;rintro x h5 w5 ⟨⟨aT,rfl,p5,c5⟩,l5⟩;obtain⟨S,l,o,T⟩:=p5.cut c5 (i:=1) WY;have U:=Wj (n:=5) o.sl;simp only[Ng]at l;refine Sk (Yb fV l U) ?_;refine TC.intro PJ ⟨KT,rfl,WY⟩ (Im c _ ⟨((5:Nat):Int),m5E⟩ h5 ⟨S,rfl,o,T⟩) ?_;rintro x h6 w6 ⟨l6,r2,aW,rfl,I2⟩;obtain⟨V,-,R2,F2,rfl,W⟩:=I2.XK m5R m5T m5P;refine Uy ?_;refine TC.intro PJ ⟨Tryz.func30,rfl,WY⟩ (XE c h6) ?_;rintro x h7 w7 ⟨g7,l7⟩;refine Uy ?_;refine TC.intro PJ ⟨KT,rfl,WY⟩ (Im c _ ⟨((5:Nat):Int),k5L⟩ h7 g7) ?_;rintro x h8 w8 ⟨l8,r3,aX,rfl,I3⟩;obtain⟨rfl,rfl⟩:=I3.bad k5R k5T k5N;refine Uy ?_;refine TC.intro PJ ⟨Tryz.func31,rfl,WY⟩ (six_any c h8) ?_;rintro x h9 w9 ⟨g9,l9⟩;refine Uy ?_;refine TC.intro PJ ⟨KT,rfl,WY⟩ (Im c _ ⟨((6:Nat):Int),E9⟩ h9 g9) ?_;rintro x p X ⟨q,r4,a1,rfl,I4⟩;obtain⟨rfl,rfl⟩:=I4.bad k33R k33T k33N;obtain⟨r,Y,s,a6,Z⟩:=Tt X (Iu p3E);have t:=mkP2 p (0,1) (1,2);have ad:Iu [(0,1),(1,2)]=Iu p3E:=rfl;rw[ad,Y]at t
 have w:PR r (.slice (some ⟨p.next,0,none⟩) 2 2) p3E:=PR.made Z rfl
 have y:=Wj (n:=3) w.sl;refine Sk (Yb @bP t y) ?_;refine TC.intro PJ ⟨KT,rfl,WY⟩ (Im c _ ⟨((3:Nat):Int),p3E⟩ r ⟨_,rfl,w,OC _ _ _ WY⟩) ?_;rintro x z ag ⟨A,r5,a7,rfl,I5⟩;obtain⟨rfl,rfl⟩:=I5.no p3R p3T;obtain⟨B,aj,C,a8,al⟩:=Tt ag (Iu Rj);have D:=mkP6 z (0,1) (0,2) (1,2) (2,3) (2,4) (3,4);have aq:Iu [(0,1),(0,2),(1,2),(2,3),(2,4),(3,4)]=Iu Rj:=rfl;rw[aq,aj]at D
 have E:PR B (.slice (some ⟨z.next,0,none⟩) 6 6) Rj:=PR.made al rfl
 have F:=Wj (n:=5) E.sl;refine Sk (Yb @bP D F) ?_;refine TC.intro PJ ⟨KT,rfl,WY⟩ (Im c _ ⟨((5:Nat):Int),Rj⟩ B ⟨_,rfl,E,OC _ _ _ WY⟩) ?_;rintro x j bh ⟨G,r6,bo,rfl,I6⟩;obtain⟨rfl,rfl⟩:=I6.no bowR bowT;have k:Le h4 j:=l5.trans (l6.trans (l7.trans (l8.trans (l9.trans (q.trans (s.trans (A.trans (C.trans G))))))));have br:Le h6 j:=l7.trans (l8.trans (l9.trans (q.trans (s.trans (A.trans (C.trans G))))));have H:=(lG j (l4.trans k)).1;have ar:awrap .i64 (0+0)=0:=by decide
 have d0:decide ((0:Int)=0)=true:=by decide
 have av:decide ((90:Int)=90)=true:=by decide
 have ay:decide ((60:Int)=60)=true:=by decide
 refine Sk (IX ar d0 av ay H) ?_;refine TC.intro PJ ⟨Tryz.func27,rfl,WY⟩ (VS c _ r1 ⟨((4:Nat):Int),LO⟩ d j ((g1.gr.le l4).le k) (f.le (Nn.RL Nn.RP) k)) ?_;rintro x aD bx ⟨⟨bb,rfl,aH⟩,aJ⟩;have hb:bb=true:=aH.2 ⟨c4R,M,(En c4R.GD c4R.q9 M).2 F1⟩;subst hb;have I:=fun g=>f.len (P:=Tryz.prog) UP g;have J:=fun g=>W.len (P:=Tryz.prog) UP g;have m:0<d.length:=by grind [Av.len]
 have K:=f.qP6 0 m;obtain⟨u,lu,hu⟩:=f.NS 0 m;have aK:d[0].length=2:=by
  have:=M.J9 (v:=0) WY;rw[D4 m]at this;rw[this];decide+kernel
 have L:=fun g=>hu.Uc g;rw[aK]at L;have e4:d.length=4:=M.len;have e5:V.length=5:=R2.len;rw[e4]at I;rw[e5]at J;simp only[fE]at K;have d4:decide (((4:Nat):Int)=4)=true:=by decide
 have d5:decide (((5:Nat):Int)=5)=true:=by decide
 have d2:decide (((2:Nat):Int)=2)=true:=by decide
 simp only[HO,Nat.reduceLT,↓reduceIte,Nat.reduceEqDiff,reduceCtorEq,I,J,d4,d5,d2,K,lu aD (k.trans aJ),L]
 grind [Le.trans]
variable {h:AHeap} {v:Value}
def two_any (i:LA) (v:Value) (n:Nat) (es:List Pr) (h:AHeap) (hg:GR h v ⟨(n:Int),es⟩) (d:bX ⟨(n:Int),es⟩):
  AC Tryz.prog i 25 [v] h fun x h'=>RR (zW n es) x/\Le h h':=by
 have c:=hg
 obtain⟨ev,rfl,z⟩:=hg.open
 refine AC.vE ⟨Tryz.func25,rfl,WY⟩ Tryz.ntmps25 Tryz.results25 fun j=>?_;simp only[Br,Nat.reduceAdd];obtain⟨r,A,a,C,-,s⟩:=r8 (n:=(n:Int)) j z
 generalize h.next=B at*
 have k:=s r (Le.refl _);refine Sk (XC A k.1) ?_;refine TC.intro PJ ⟨Tryz.func46,rfl,WY⟩ (Cw i _ ⟨(n:Int),es⟩ r (c.le a)) ?_;rintro x t F ⟨l5,⟨D,_⟩|⟨_,G,rfl,u⟩⟩
 .exact absurd d D
 simp only[yY]at u;have w:=fun g=>u.len (P:=Tryz.prog) TX g;have b:=s t l5;have l:decide ((0:Int)=0)=true:=by decide
 by_cases m:(n:Int)>=3
 rotate_left
 .have e : decide ((n : Int) >= 3) = false := decide_eq_false m
  refine Sk (bG l @Ii @Ip.eq_1 @BS b.2.1 e) ?_;exact⟨RR.f fun T=>m (by have:=T.n3;omega),a.trans l5⟩
 have e:decide ((n:Int)>=3)=true:=decide_eq_true m;by_cases c1:((vq n es).length:Int)=1
 rotate_left
 .have o : decide (((vq n es).length : Int) = 1) = false := decide_eq_false c1
  refine Sk (s9 l @Ii @Ip.eq_1 @BS b.2.1 e w o) ?_;exact⟨RR.f fun T=>c1 (by have:=(Uv d T.n3 T.one).2 T;omega),a.trans l5⟩
 have o:decide (((vq n es).length:Int)=1)=true:=decide_eq_true c1;refine Sk (xL l @Ii @Ip.eq_1 @BS b.2.1 b.1 e w o) ?_;refine TC.intro PJ ⟨Tryz.func64,rfl,WY⟩ (It i _ ⟨(n:Int),es⟩ t (c.le (a.trans l5)) d) ?_;rintro pv H I ⟨gp,l4,-⟩;simp only[yY]at gp;have E:=gp.rl (Nn.RL Nn.RP);have y:=fun g=>E.fy g;have p:((Gx n es n).map kz).length=(Es n es).length:=by simp[Gx]
 rw[p]at y;refine Sk y ?_;refine⟨⟨_,rfl,?_⟩,(a.trans l5).trans l4⟩;simp only[decide_eq_true_eq];constructor
 .intro q;exact(Uv d NH NH).1 NH
 .intro T;have:=T.one;omega
theorem GRC.c {G:GM} (g:GRC h v G):Ux h v G:=by
 obtain⟨ev,d,h2,a,cap,h3,b⟩:=g;refine⟨ev,d,h2,a,_,cap,h3,?_⟩;rcases b with⟨e,f⟩|b
 .exact .inl ⟨f,e⟩
 .exact .inr b
end
section
attribute [local instance] Classical.propDecidable
open Go.Proofs
variable {es:List Pr} {n:Nat}
theorem jt (c:0<n) (h:∀u v,u<n->v<n->Pu es u v):(Es n es).length=1:=by
 have m0:0∈Es n es:=QO.2 ⟨c,fun u d=>by omega⟩;have nd:=qD n es
 match hh:Es n es with
 |[]=>grind
 |[_]=>rfl
 |a::b::l=>
  rw[hh]at nd;have ha:a∈Es n es:=by rw[hh];simp
  have hb:b∈Es n es:=by rw[hh];simp
  grind [QO]
end
end Go.Fw
namespace Go.Fw
open Go.Proofs
attribute [local instance] Classical.propDecidable
inductive Rc (A:Nat->Nat->Prop) (c:Nat):Nat->Nat->Prop
 |refl {u:Nat}:Rc A c u u
 |step {u v w:Nat}:Rc A c u v->A v w->v≠c->w≠c->Rc A c u w
section
variable {A B : Nat → Nat → Prop} {c u v w a b n : Nat}
theorem Rc.trans (h:Rc A c u v) (k:Rc A c v w):Rc A c u w:=by induction k with|refl=>exact h|step _ a d h2 e=>exact e.step a d h2
theorem Rc.one (h:A u v) (d:u≠c) (h2:v≠c):Rc A c u v:=Rc.refl.step h d h2
theorem Rc.symm (sy:∀x y,A x y->A y x) (h:Rc A c u v):Rc A c v u:=by
 induction h with
 |refl=>exact .refl
 |step _ a d h2 e=>exact(Rc.one (sy _ _ a) h2 d).trans e
theorem Rc.sub (h:∀x y,A x y->x≠c->y≠c->Rc B c x y) (k:Rc A c u v):Rc B c u v:=by
 induction k with|refl=>exact .refl|step _ a d h2 e=>exact e.trans (h _ _ a d h2)
structure TwR (n:Nat) (A:Nat->Nat->Prop):Prop where
 n3:3<=n
 rc:∀c u v,u<n->v<n->u≠c->v≠c->Rc A c u v
def upA (A:Nat->Nat->Prop) (a b m x y:Nat):Prop:=(A x y/\¬(x=a/\y=b)/\¬(x=b/\y=a))\/(x=m/\(y=a\/y=b))\/(y=m/\(x=a\/x=b))
theorem TwR.upon (T:TwR n A) (sy:∀x y,A x y->A y x) (lt:∀x y,A x y->x<n) (ab:A a b) (ne:a≠b) (hB:∀x y,B x y↔upA A a b n x y):TwR (n+1) B:=by
 have n3:=T.n3;have ha:=lt _ _ ab;have hb:=lt _ _ (sy _ _ ab);have f:∀x y,B x y->B y x:=fun x y h=>by rw[hB]at*;unfold upA at*;grind
 have j:∀c,c≠n->a≠c->b≠c->Rc B c a b:=fun c d h2 h3=>
  (Rc.one (v:=n) ((hB _ _).2 (.inr (.inr ⟨rfl,.inl rfl⟩))) h2 (LH d)).trans (Rc.one ((hB _ _).2 (.inr (.inl ⟨rfl,.inr rfl⟩))) (LH d) h3)
 have other:Rc B n a b:=by
  obtain⟨t,m,t1,k⟩:∃t,t<n/\t≠a/\t≠b:=by
   by_cases r:0≠a/\0≠b
   .exact⟨0,NH,r.1,r.2⟩
   by_cases c1:1≠a/\1≠b
   .exact⟨1,NH,c1.1,c1.2⟩
   exact⟨2,NH,NH,NH⟩
  have d:Rc B n a t:=by
   have:=T.rc b a t ha m ne k;clear m t1 k
   induction this with
   |refl=>exact .refl
   |step _ q g i o=>
    have l1:=lt _ _ q;have l2:=lt _ _ (sy _ _ q);exact o.trans ((Rc.one ((hB _ _).2 (.inl ⟨q,fun e=>i e.2,fun e=>g e.1⟩)) NH NH))
  have h2:Rc B n b t:=by
   have:=T.rc a b t hb m (LH ne) t1;clear m t1 k d
   induction this with
   |refl=>exact .refl
   |step _ q g i o=>
    have l1:=lt _ _ q;have l2:=lt _ _ (sy _ _ q);exact o.trans ((Rc.one ((hB _ _).2 (.inl ⟨q,fun e=>g e.1,fun e=>i e.2⟩)) NH NH))
  exact d.trans (h2.symm f)
 have l:∀c,a≠c->b≠c->Rc B c a b:=fun c d h2=>by
  by_cases h:c=n
  .subst h;exact other
  .exact j c h d h2
 have qi:∀c u v,u<n->v<n->u≠c->v≠c->Rc B c u v:=fun c u v d h2 h3 p=>by
  refine(T.rc c u v d h2 h3 p).sub fun x y q g i=>?_;by_cases z:x=a/\y=b
  .obtain⟨rfl,rfl⟩:=z;exact l c g i
  by_cases C:x=b/\y=a
  .obtain⟨rfl,rfl⟩:=C;exact(l c i g).symm f
  .exact Rc.one ((hB _ _).2 (.inl ⟨q,z,C⟩)) g i
 have D:∀c,n≠c->∃t,t<n/\t≠c/\Rc B c n t:=fun c h=>by
  by_cases e:a=c
  .exact⟨b,hb,fun q=>ne (e.trans q.symm),Rc.one ((hB _ _).2 (.inr (.inl ⟨rfl,.inr rfl⟩))) h fun q=>ne (e.trans q.symm)⟩
  .exact⟨a,ha,e,Rc.one ((hB _ _).2 (.inr (.inl ⟨rfl,.inl rfl⟩))) h e⟩
 refine⟨NH,fun c u v d h2 h3 p=>?_⟩;have new:∀u,u<n+1->u≠c->∃t,t<n/\t≠c/\Rc B c u t:=fun u d h3=>by
  by_cases e:u=n
  .subst e;exact D c h3
  .exact⟨u,NH,h3,.refl⟩
 obtain⟨t,t1,k,E⟩:=new u d h3;obtain⟨s,s1,s2,F⟩:=new v h2 p;exact(E.trans (qi c t s t1 s1 k s2)).trans (F.symm f)
end
section
variable {n : Nat} {es : List Pr}
def zW.twR (T:zW n es) (hR:aV n es):TwR n (Jp es):=by
 refine⟨T.n3,fun c u v e h2 h3 d=>?_⟩;have:=(T.Z7 hR).Z7 c u v h3 d ((aU hR).2 (T.ne hR e)) ((aU hR).2 (T.ne hR h2));clear h2 d
 induction this with
 |refl=>exact .refl
 |@step x y _ h2 f=>
  obtain⟨k1,k2,g⟩:=EM.1 h2;exact f.step ((vD hR).1 k1) k2 g
def TwR.twoG (T:TwR n (Jp es)) (hR:aV n es):zW n es:=by
 have n3:=T.n3;refine⟨n3,jt NH fun u v j k=>?_,fun c ⟨a,b,d,h2,h⟩=>h ?_⟩
 .have := T.rc n u v j k NH NH
  induction this with
  |refl=>exact Cn.refl rfl
  |step _ q l g f=>exact Cn.step (f (q.lt hR).1) q rfl
 .have n1 : a ≠ c := fun e => by rw [e] at d; exact Xa hR d
  have i:b≠c:=fun e=>by rw[e]at h2;exact Xa hR h2
  have:=T.rc c a b (d.lt hR).2 (h2.lt hR).2 n1 i;clear h h2 i
  induction this with
  |refl=>exact .refl (iO n1)
  |step _ q l g f=>exact .step f q (iO g)
abbrev sg (L:List Pr):List Pr:=sortP (L.map lZ)
def aal (L:List Pr) (x y:Nat):Jp (sg L) x y↔Jp L x y:=by
 have key:∀p:Pr,lZ p=((x:Int),(y:Int))->p=((x:Int),(y:Int))\/p=((y:Int),(x:Int)):=fun p h=>by
  obtain⟨a,b⟩:=p;simp only[lZ,vZ]at*;omega
 have f:∀p:Pr,lZ p=((y:Int),(x:Int))->p=((x:Int),(y:Int))\/p=((y:Int),(x:Int)):=fun p h=>by
  obtain⟨a,b⟩:=p;simp only[lZ,vZ]at*;omega
 have g:lZ ((x:Int),(y:Int))=((x:Int),(y:Int))\/lZ ((x:Int),(y:Int))=((y:Int),(x:Int)):=by simp only[lZ,vZ];omega
 have d:lZ ((y:Int),(x:Int))=lZ ((x:Int),(y:Int)):=by simp only[lZ,vZ];omega
 unfold Jp sg;simp only[Wb,EP];constructor
 .rintro (⟨p, i, e⟩ | ⟨p, i, e⟩)
  .rcases key p e with rfl|rfl<;>simp[i]
  .rcases f p e with rfl|rfl<;>simp[i]
 .rintro (h | h)
  .exact g.imp (fun e=>⟨_,h,e⟩) (fun e=>⟨_,h,e⟩)
  .exact g.imp (fun e=>⟨_,h,d.trans e⟩) (fun e=>⟨_,h,d.trans e⟩)
def adj_lt {L:List Pr} (k:YG (n:Int) L) {x y:Nat} (h:Jp L x y):x<n:=(((aal L x y).2 h).lt k.right.GD).1
theorem aV.up {m:Nat} (h:aV n es) (e:n<=m):aV m es:=fun p d=>by have:=h p d;omega
def aaD {L e:List Pr} {a b N:Nat} (k:YG (n:Int) L) (f:YG ((n+1:Nat):Int) e) (ab:Jp L a b) (hB:∀x y,Jp e x y↔upA (Jp L) a b n x y) (g:n+1<=N):
  XU N (eN N (sg e))↔XU N (eN N (sg L)):=by
 have d:=k.right.GD.up (m:=N) NH;have i:=f.right.GD.up (m:=N) g;have em:eN N (sg L) n=[]:=by
  rcases h:eN N (sg L) n with _|⟨w,l⟩
  .rfl
  .have := adj_lt k ((aal _ _ _).1 ((vD d).1 (show w ∈ eN N (sg L) n by rw [h]; simp)))
   omega
 exact aas.planar (n:=N) (a:=a) (b:=b) (m:=n) ⟨MG d k.right.q9,MG i f.right.q9,(vD d).2 ((aal _ _ _).2 ab),em,g,fun v w=>by rw[vD d,vD i,aal,aal,hB];rfl⟩
def aaO (hR:aV n es) {m:Nat} (d:n<=m):XU m (eN m es)↔XU n (eN n es):=by
 obtain⟨k,rfl⟩:=TV d;have:=XU.mores (n:=n) (E:=eN n es) (fun v w h=>(((vD hR).1 h).lt hR).1) k;rw[<-this];exact XU.congr fun v w=>by rw[vD hR,vD (hR.up d)]
end
end Go.Fw
namespace Go.Fw
open Go.Proofs
attribute [local irreducible] Kp MQ lU rS KO KN KX KE VK Kl ZJ TC gU
attribute [local instance] Classical.propDecidable
def aam {p:Pr} (h:p.1<p.2):lZ p=p:=by obtain⟨a,b⟩:=p;simp only[lZ,vZ]at*;omega
def bX.aaI {n:Nat} {L:List Pr} (h:bX ⟨(n:Int),L⟩):YG (n:Int) L:=by
 have e:L.map lZ=L:=by
  have:L.map lZ=L.map id:=mJ fun p c=>aam (h.GD p c).2.1;rw[this,ur]
 exact⟨h.n0,h.n1,h.len,fun p c=>by rw[aam (h.GD p c).2.1];have:=h.GD p c;omega,by rw[e];exact(show D3 L from h.q9).nodup⟩
section
variable {n a b : Nat} {L1 L2 : List Pr}
def aaJ (h:bX ⟨(n:Int),L1++((a:Int),(b:Int))::L2⟩) (j:n+1<=200) (i:(L1++((a:Int),(b:Int))::L2).length+1<=594):
  YG ((n+1:Nat):Int) (L1++L2++[((a:Int),(n:Int)),((b:Int),(n:Int))]):=by
 have hR:=h.GD;have k:=(h.sub (fs:=L1++L2) (List.Sublist.append (Ug _) (qL198 _ _))).aaI;have e:=hR _ (show((a:Int),(b:Int))∈L1++((a:Int),(b:Int))::L2 by simp);simp only at e;have n1:lZ ((a:Int),(n:Int))=((a:Int),(n:Int)):=aam (by simp only;omega);have f:lZ ((b:Int),(n:Int))=((b:Int),(n:Int)):=aam (by simp only;omega);refine⟨NH,NH,?_,fun p c=>?_,?_⟩
 .simp only[jf,uu,Fu]at i ⊢;omega
 .rw [Sb] at c
  rcases c with c|c
  .have:=k.ok p c;omega
  .simp only [Z6, jz, or_false] at c
   rcases c with rfl|rfl
   .rw[n1];simp only;omega
   .rw[f];simp only;omega
 .rw [OM, DF, DF, List.map_nil, n1, f]
  refine aab.2 ⟨k.nd,?_,fun p c q g e=>?_⟩
  .simp;omega
  .subst e
   obtain⟨q,d,rfl⟩:=EP.1 c;have:=k.ok q d;simp only[Z6,jz,or_false]at g;rcases g with h|h<;>rw[h]at this<;>simp only at this<;>omega
theorem aa2 (h:bX ⟨(n:Int),L1++((a:Int),(b:Int))::L2⟩) (x y:Nat):Jp (L1++L2) x y↔Jp (L1++((a:Int),(b:Int))::L2) x y/\¬(x=a/\y=b)/\¬(x=b/\y=a):=by
 have hR:=h.GD;have nd:=(show D3 (L1++((a:Int),(b:Int))::L2)from h.q9).nodup;have e:=hR _ (show((a:Int),(b:Int))∈L1++((a:Int),(b:Int))::L2 by simp);simp only at e;have no:((a:Int),(b:Int))∉L1++L2:=(Gw.1 (List.perm_middle.nodup_iff.1 nd)).1;have c:((b:Int),(a:Int))∉L1++L2:=fun q=>by
  have:=hR ((b:Int),(a:Int)) pw;simp only at this;omega
 unfold Jp;simp only[Sb,Z6,vZ]at no c ⊢;constructor
 .intro q
  refine⟨by rcases q with q|q<;>grind,fun w=>?_,fun w=>?_⟩
  .obtain⟨rfl,rfl⟩:=w;exact q.elim no c
  .obtain⟨rfl,rfl⟩:=w;exact q.elim c no
 .rintro ⟨q, d, h2⟩
  grind
theorem aa3 (h:bX ⟨(n:Int),L1++((a:Int),(b:Int))::L2⟩) (x y:Nat):Jp (L1++L2++[((a:Int),(n:Int)),((b:Int),(n:Int))]) x y↔upA (Jp (L1++((a:Int),(b:Int))::L2)) a b n x y:=by
 unfold upA;rw[<-aa2 h];unfold Jp;simp only[Sb,Z6,jz,or_false,vZ,Int.natCast_inj]
 grind
end
def aaP (f:LA) (v:Value) (ps:List Pr) (h:AHeap) (g:PR h v ps) (j:ps.length<=100000):AC Tryz.prog f 18 [v] h fun x h'=>GP h' x ps/\cu x/\Le h h'/\Z2 h x:=by
 refine AC.vE ⟨Tryz.func18,rfl,WY⟩ Tryz.ntmps18 Tryz.results18 fun d=>?_;simp only[Br,Nat.reduceAdd];obtain⟨v',k,e,i,m,hf,-⟩:=(GP.nil h).join d g (by simp;omega);obtain⟨l,a⟩:=hf h (Le.refl h) (fun b hb=>by simp[blk]at hb);have c:=uZ e (.inl rfl);refine Sk e ?_;exact⟨i,c,l,a⟩
def GP.lo {h:AHeap} {v:Value} {ps:List Pr} (g:GP h v ps) (j:cu v) {i:Nat} (hi:i<ps.length):∃v',aSlice Tryz.prog 22 v none (some (.int .i64 i)) none=some v'/\GP h v' (ps.take i)/\blk v'=blk v/\cu v':=by
 obtain⟨r,⟨rfl,f⟩|⟨id,c,cap,rfl,k,l,m⟩⟩:=g
 .omega
 have o:RA<=cap:=by
  rcases j with h|⟨a,n,c',e,h⟩
  .injection h with h;cases h
  .injection e with _ _ e;subst e;exact h
 obtain rfl:cap=RA+2:=by
  rcases m with rfl|⟨rfl,f⟩
  .rfl
  .exact absurd o (cJ.2 (Ki f WY))
 have n1:(0:Int)<=i:=NH;have p:(i:Int)<=ps.length:=NH;refine⟨.slice (some ⟨id,0,none⟩) i (RA+2),?_,?_,rfl,.inr ⟨_,_,_,rfl,Ex _ _⟩⟩
 .have q : Ip ⟨id, 0, none⟩ 0 = ⟨id, 0, none⟩ := rfl
  simp[aSlice,eY,yU,WE,aBounds,aBound,n1,p,q]
 .have d : (ps.take i).length = i := by rw [wV]; omega
  unfold GP;rw[d];refine⟨by rw[Ta,d],.inr ⟨id,c,_,rfl,k,?_,.inl rfl⟩⟩;have:Iu (ps.take i)=(Iu ps).take (i*2):=by
   have e:Iu ps=Iu (ps.take i)++Iu (ps.drop i):=by rw[<-mZ,MY]
   rw[e,js (by rw[Ta,d];omega)];exact(Og (by rw[Ta,d];omega)).symm
  rw[this,<-l,List.take_take,yQ NH]
def aaK {h:AHeap} (d:WF h) (p q:Pr):∃c,aBuildSlice Tryz.prog h 22 2 [(0,UI p),(1,UI q)]=some (.slice (some ⟨h.next,0,none⟩) 2 2,c)/\Le h c/\WF c/\PR c (.slice (some ⟨h.next,0,none⟩) 2 2) [p,q]:=by
 obtain⟨c,e,l1,w1,f⟩:=Tt d (Iu [p,q]);refine⟨c,by rw[mkP2,e],l1,w1,?_⟩;have:=CS.own (k:=2) (off:=0) (n:=2) (cap:=2) f (by simp[Iu,xM]);exact this
end Go.Fw
namespace Go.Fw
section
attribute [local irreducible] Kp MQ lU rS KO KN KX KE VK Kl ZJ TC gU
attribute [local irreducible] Jz JL vq cQ
open Go.Proofs
variable {es:List Pr} {ev:Value} {g h:AHeap} {n:Int}
def aax (hw:WF h):∃a,aAlloc Tryz.prog h 24=some (.pointer (some ⟨h.next,0,none⟩),a)/\Le h a/\WF a/\a.own h.next=some (.cells [.int .i64 0,.slice none 0 0]):=by
 obtain⟨a,b,l1,w1,c⟩:=Tt hw [.int .i64 0,.slice none 0 0];exact⟨a,by rw[Lo,b],l1,w1,c⟩
def putY {h a:AHeap} (hw:WF h) {Y:Nat} (o:h.own Y=some (.cells [.int .i64 0,.slice none 0 0])) (g:GP h ev es) (b:blk ev≠some Y) (l:Le a h) (n0:a.own Y=none):
  ∃h',aStore Tryz.prog h 24 (.pointer (some ⟨Y,0,none⟩)) (.agg #[.int .i64 n,ev])=some h'/\Le a h'/\WF h'/\GP h' ev es/\∀q,Le h' q->aload Tryz.prog q 24 ⟨Y,0,none⟩=some (.agg #[.int .i64 n,ev]):=by
 obtain⟨_,_,e,-⟩:=g.pr.sl;refine⟨_,DG o g.pr.sl.one (by rw[e];rfl),l.put _ n0,hw.put _ (hw.lt o),GS.put g _ b,fun q c=>tY (c.own _ _ (AHeap.Y3 _ _ _)) ⟨_,_,_,e⟩⟩
def newGo (hw:WF h) (r:PR h ev es):∃a h2,aAlloc Tryz.prog h 24=some (.pointer (some ⟨h.next,0,none⟩),a)/\aStore Tryz.prog a 24 (.pointer (some ⟨h.next,0,none⟩)) (.agg #[.int .i64 n,ev])=some h2/\Le h h2/\WF h2/\
  h2.own h.next=some (.cells [.int .i64 n,ev])/\Le h a:=by
 obtain⟨a,c,l1,w1,b⟩:=aax hw;obtain⟨_,_,e,-⟩:=r.sl
 exact⟨a,_,c,DG b r.sl.one (by rw[e];rfl),l1.put _ ((Le.refl h).next hw (vT _)),w1.put _ (w1.lt b),AHeap.Y3 _ _ _,l1⟩
def ldGo {X:Nat} (r:PR h ev es) (o:g.own X=some (.cells [.int .i64 n,ev])):aload Tryz.prog g 24 ⟨X,0,none⟩=some (.agg #[.int .i64 n,ev]):=by
 obtain⟨_,_,e,-⟩:=r.sl;exact tY o ⟨_,_,_,e⟩
theorem aa4 (W0:LA) (v:Value) (G:GM) (at_:Int) (h:AHeap) (hg:GRC h v G):
  AC Tryz.prog W0 5 [v,.int .i64 at_] h fun x h'=>x=.bool true:=by
 have hc:=hg.c;have hgr:=hc.gr;obtain⟨gn,es⟩:=G;obtain⟨ev,rfl,hp,-⟩:=hg;simp only at hp;refine AC.vE ⟨Tryz.func5,rfl,WY⟩ Tryz.ntmps5 Tryz.results5 fun hwf=>?_;simp only[Br,Nat.reduceAdd];obtain⟨h1,b1,le1,wf1,-,lA⟩:=r8 (n:=gn) hwf hp
 generalize h.next=B at*
 have lA1:=lA h1 (Le.refl _);simp only[HO,Nat.reduceLT,↓reduceIte,Nat.reduceEqDiff,reduceCtorEq,b1,lA1.1];refine TC.intro PJ ⟨YW,rfl,WY⟩ (ak W0 _ _ h1 (hgr.le le1)) ?_;rintro x h2 wf2 ⟨⟨bb,rfl,hbb⟩,le2⟩;have lA2:=lA h2 le2;have wake:∀g:AHeap,True:=fun _=>trivial;cases bb with
 |false=>
  simp only[HO,Nat.reduceLT,↓reduceIte,Nat.reduceEqDiff,reduceCtorEq];refine TC.intro PJ ⟨iZ,rfl,WY⟩ (jS W0 h2) ?_;rintro x h3 w3 ⟨rfl,l3⟩;simp only[HO,Nat.reduceLT,↓reduceIte,Nat.reduceEqDiff,reduceCtorEq]
 |true=>
 have hr:=hbb.1 rfl;clear hbb;have h0:0≤gn:=hr.n0;obtain⟨n,rfl⟩:=HV h0;by_cases c40:(n:Int)>40
 ·have d40 : decide ((n : Int) > 40) = true := decide_eq_true c40
  simp only[HO,Nat.reduceLT,↓reduceIte,Nat.reduceEqDiff,reduceCtorEq,Ii,Ip,BS,lA2.2.1,d40];refine TC.intro PJ ⟨iZ,rfl,WY⟩ (jS W0 h2) ?_;rintro x h3 w3 ⟨rfl,l3⟩;simp only[HO,Nat.reduceLT,↓reduceIte,Nat.reduceEqDiff,reduceCtorEq]
 have d40:decide ((n:Int)>40)=false:=decide_eq_false c40;have le12:=le1.trans le2;simp only[HO,Nat.reduceLT,↓reduceIte,Nat.reduceEqDiff,reduceCtorEq,Ii,Ip,BS,lA2.2.1,lA2.1,d40];refine TC.intro PJ ⟨Tryz.func25,rfl,WY⟩ (two_any W0 _ n es h2 (hgr.le le12) hr) ?_;rintro x h3 w3 ⟨⟨bb,rfl,hbb⟩,l3⟩;have le13:=le12.trans l3;have le23:=le2.trans l3;have fT:=lA h3 le23;cases bb with
 |false=>
  simp only[HO,Nat.reduceLT,↓reduceIte,Nat.reduceEqDiff,reduceCtorEq];refine TC.intro PJ ⟨iZ,rfl,WY⟩ (jS W0 h3) ?_;rintro x h4 w4 ⟨rfl,l4⟩;simp only[HO,Nat.reduceLT,↓reduceIte,Nat.reduceEqDiff,reduceCtorEq]
 |true=>
 have hT:=hbb.1 rfl;clear hbb;have hR:=hr.GD;have h594:es.length≤594:=hr.len;have lP:=fun g=>hp.len g;by_cases c594:(es.length:Int)=594
 ·have d594 : decide ((es.length : Int) = 594) = true := decide_eq_true c594
  simp only[HO,Nat.reduceLT,↓reduceIte,Nat.reduceEqDiff,reduceCtorEq,Di,Ip,BS,fT.2.2,lP,d594];refine TC.intro PJ ⟨iZ,rfl,WY⟩ (jS W0 h3) ?_;rintro x h4 w4 ⟨rfl,l4⟩;simp only[HO,Nat.reduceLT,↓reduceIte,Nat.reduceEqDiff,reduceCtorEq]
 have d594:decide ((es.length:Int)=594)=false:=decide_eq_false c594;have e0:0<es.length:=Q9.2 (hT.aa1 hR);simp only[HO,Nat.reduceLT,↓reduceIte,Nat.reduceEqDiff,reduceCtorEq,Di,Ip,BS,fT.2.2,lP,d594];refine TC.intro PJ ⟨Tryz.func28,rfl,WY⟩ (aa0 W0 at_ es.length e0 NH h3) ?_;rintro x h3' w3' ⟨⟨k,hk,rfl⟩,rfl⟩;simp only[HO,Nat.reduceLT,↓reduceIte,Nat.reduceEqDiff,reduceCtorEq,Di,Ip,BS,fT.2.2];refine TC.intro PJ ⟨Tryz.func18,rfl,WY⟩ (aaP W0 ev es h3' (hp.le le13) NH) ?_;rintro lv h4 w4 ⟨gl,ul,l4,al⟩;have le14:=le13.trans l4;have le24:=le23.trans l4;have ad:=gl.pr.addr (k:=.i64) k hk;have hpk:=CA hk;have ld:=gl.pr.load hpk;have esk:es=es.take k++es[k]::es.drop (k+1):=by rw[←j3 hk,MY]
 obtain⟨p1,p2,p3⟩:=hR es[k] (eR hk);obtain⟨a,b,hab⟩:∃a b:Nat,es[k]=((a:Int),(b:Int)):=⟨es[k].1.toNat,es[k].2.toNat,Fk (by simp only;omega) (by simp only;omega)⟩;rw[hab]at ld p1 p2 p3 esk;simp only at p1 p2 p3;obtain⟨h5,h6,q5,q6,l6,w6,o6⟩:=Ut w4 ((a:Int),(b:Int))
 have lE:∀g,Le h6 g→aload Tryz.prog g 3 ⟨h4.next,0,none⟩=some (.int .i64 (a:Int))∧aload Tryz.prog g 3 ⟨h4.next,1,none⟩=some (.int .i64 (b:Int)):=fun g l=>⟨lK (l.own _ _ o6),HY (l.own _ _ o6)⟩
 have nE:h4.own h4.next=none:=(Le.refl h4).next w4 (vT _)
 generalize h4.next=E at*
 have le26:=le24.trans l6;have lA6:=lA h6 le26;have le16:=le14.trans l6;simp only[HO,Nat.reduceLT,↓reduceIte,Nat.reduceEqDiff,reduceCtorEq,ad,ld,q5,q6,lA6.1];refine TC.intro PJ ⟨KT,rfl,WY⟩ (Im W0 _ ⟨(n:Int),es⟩ h6 (hc.le le16)) ?_;rintro x h7 w7 ⟨l7,rv,was,rfl,IE⟩;have l47:=l6.trans l7;have gl7:=gl.le l47;have awk:=Tw k NH;obtain⟨v1,s1,g1,bl1,u1⟩:=gl7.lo ul hk;obtain⟨v2,s2,g2,-⟩:=gl7.pr.cut (GS.Ov gl7) (i:=k+1) hk;obtain⟨v3,h8,s3,g3,w8,f3,k3⟩:=g1.join w7 g2 (by rw[wV,Yl];omega);obtain⟨l38,a3⟩:=f3 h3' (l4.trans l47) (fun b hb=>al b (by rw[←bl1];exact hb));have hv1:∀b,blk v1=some b→b≠E:=fun b hb e=>by
  subst e;exact GS.Sy (gl) (bl1▸hb) nE
 have oE8:=(k3 E _ (l7.own _ _ o6) fun e=>hv1 _ e rfl).1;have l18:=le23.trans l38;have lA8:=lA h8 l18;simp only[HO,Nat.reduceLT,↓reduceIte,Nat.reduceEqDiff,reduceCtorEq];refine gh (tA [0,1,2,3,4,5,6] (JQ 7 [2,6] (JQ 8 [0,1,2,3,4,5,6,7] .done))) ?_;simp only[HO,Nat.reduceLT,↓reduceIte,Nat.reduceEqDiff,reduceCtorEq,Nat.reduceBEq,Qg,awk,s1,s2,s3,Ii,Ip,BS,lA8.2.1];have hr':=hr;rw[esk]at hr';have rL:bX ⟨(n:Int),es.take k++es.drop (k+1)⟩:=hr'.sub (List.Sublist.append (Ug _) (qL198 _ _));have hlen:(es.take k++es.drop (k+1)).length+1=es.length:=by rw[jf,wV,Yl];omega
 refine TC.intro PJ ⟨Gs,rfl,WY⟩ (gZ W0 (n:Int) v3 _ h8 g3.pr NH) ?_;rintro x h9 w9 ⟨l9,⟨hno,-⟩|⟨ok1,ev1,rfl,ge1,ae1⟩⟩
 ·exact absurd rL.aaI hno
 obtain⟨h10,h11,e10,e11,l11,w11,oX11,-⟩:=newGo w9 (n:=(n:Int)) ge1.pr
 have nX:h9.own h9.next=none:=(Le.refl h9).next w9 (vT _)
 have ge11:=ge1.le l11;have l811:=l9.trans l11;have hv3:∀b,blk v3=some b→h8.own b≠none:=fun b hb=>GS.Sy g3 hb
 generalize h9.next=X at*
 obtain⟨r,rdef⟩:∃r,r=rem (bl v3) h11:=⟨_,rfl⟩;have lr:Le r h11:=rdef▸Sa _ _;have ar:Z2 r v3:=fun b hb=>by rw[rdef,DC,if_pos (Zr.2 hb)]
 have lr3:Le h3' r:=rdef▸(l38.trans l811).iV fun b hb=>a3 b (Zr.1 hb);have gr1:GP r ev1 (sg (es.take k++es.drop (k+1))):=by
  rw[rdef];exact GS.Fi ge11 fun b hb hm=>hv3 b (Zr.1 hm) (ae1 b hb)
 have oEr:r.own E=some (.cells (xM ((a:Int),(b:Int)))):=by
  rw[rdef];exact Th.2 ⟨l811.own _ _ oE8,fun hm=>(k3 E _ (l7.own _ _ o6) fun e=>hv1 _ e rfl).2 (Zr.1 hm)⟩
 have oXr:r.own X=some (.cells [.int .i64 (n:Int),ev1]):=by
  rw[rdef];refine Th.2 ⟨oX11,fun hm=>?_⟩;obtain⟨o,ho⟩:=iy.1 (hv3 _ (Zr.1 hm));have:=l9.own _ _ ho;rw[nX]at this;cases this
 have L1:∀g,Le r g→aload Tryz.prog g 3 ⟨B,0,none⟩=some (.int .i64 (n:Int))∧aload Tryz.prog g 3 ⟨E,0,none⟩=some (.int .i64 (a:Int))∧aload Tryz.prog g 3 ⟨E,1,none⟩=some (.int .i64 (b:Int)):=fun g l=>
  ⟨(lA g ((le23.trans lr3).trans l)).2.1,lK (l.own _ _ oEr),HY (l.own _ _ oEr)⟩
 have g311:=g3.le l811;have awn:=Tw n NH;have hn2:(es.take k++es.drop (k+1)).length+2≤100000:=NH;simp only[HO,Nat.reduceLT,↓reduceIte,Nat.reduceEqDiff,reduceCtorEq,e10,e11];apply Ya (F:=fun(fr:lC) (h':AHeap)=>∃(Y:Nat) (ev2:Value),Fj fr [(2,.pointer (some ⟨B,0,none⟩)),(9,.int .i64 was),(10,.pointer (some ⟨X,0,none⟩)),(11,.int .i64 0),(12,.pointer (some ⟨Y,0,none⟩)),(13,.int .i64 0)]∧Le r h'∧WF h'∧
  GP h' ev2 (sg (es.take k++es.drop (k+1)++[((a:Int),(n:Int)),((b:Int),(n:Int))]))∧∀g,Le h' g→aload Tryz.prog g 24 ⟨Y,0,none⟩=some (.agg #[.int .i64 ((n+1:Nat):Int),ev2]))
 ·intro cont
  refine gh (tA [0,1,2,3,4,5,6,7,8,9,10,11,12,13] (.ch 14 [8,13] (.ch 15 [3,14] (.ch 16 [2,15] (tA [17,18,19] (JQ 20 [] (JQ 21 [0,1,2,3,4,5,6,7,8,9,10,11,12,13,14,15,16,17,18,20] (tA [22] .done)))) (JQ 20 [] (JQ 16 [2,15] (tA [17,18,19] (JQ 21 [0,1,2,3,4,5,6,7,8,9,10,11,12,13,14,15,16,17,18,20] (tA [22] .done)))))) (JQ 20 [] (JQ 15 [3,14] (JQ 16 [2,15] (tA [17,18,19] (JQ 21 [0,1,2,3,4,5,6,7,8,9,10,11,12,13,14,15,16,17,18,20] (tA [22] .done))))))) (JQ 20 [] (JQ 14 [8,13] (JQ 15 [3,14] (JQ 16 [2,15] (tA [17,18,19] (JQ 21 [0,1,2,3,4,5,6,7,8,9,10,11,12,13,14,15,16,17,18,20] (tA [22] .done))))))))) ?_;have B1:=L1 h11 lr;obtain⟨hs1,es1,ls1,ws1,ps1⟩:=aaK w11 ((a:Int),(n:Int)) ((b:Int),(n:Int));obtain⟨ha1,ea1,la1,wa1,oa1⟩:=aax w11;have S1:=L1 hs1 (lr.trans ls1);have A1:=L1 ha1 (lr.trans la1);obtain⟨v4,hs2,es2,gs2,ws2,fs2,ks2⟩:=(g311.le ls1).join ws1 ps1 (by simp only[uu,Fu];omega);obtain⟨lrs2,as2⟩:=fs2 r (lr.trans ls1) ar;have S2:=L1 hs2 lrs2;have bld1:aBuild Tryz.prog 38 [(0,.int .i64 (a:Int)),(1,.int .i64 (n:Int))]=some (UI ((a:Int),(n:Int))):=xe _ _;have bld2:aBuild Tryz.prog 38 [(0,.int .i64 (b:Int)),(1,.int .i64 (n:Int))]=some (UI ((b:Int),(n:Int))):=xe _ _;simp only[qj,Nat.reduceLT,↓reduceIte,Nat.reduceEqDiff,reduceCtorEq,Nat.reduceBEq,Qg,Ii,Ip,BS,Dh,Z0,B1,S1,S2,A1,awn,bld1,bld2,es1,ea1,es2];have okU:=aaJ hr' NH (by rw[←esk];omega);have hlU:(es.take k++es.drop (k+1)++[((a:Int),(n:Int)),((b:Int),(n:Int))]).length≤100000:=by rw[jf];simp only[uu,Fu];omega
  have late:∀{g:AHeap} (Y:Nat) (ev2:Value) {g0:AHeap},Le r g→WF g→g.own Y=some (.cells [.int .i64 0,.slice none 0 0])→GP g ev2 (sg (es.take k++es.drop (k+1)++[((a:Int),(n:Int)),((b:Int),(n:Int))]))→g0.own Y≠none→Z2 g0 ev2→r.own Y=none→
    ∃g',aStore Tryz.prog g 24 (.pointer (some ⟨Y,0,none⟩)) (.agg #[.int .i64 ((n+1:Nat):Int),ev2])=some g'∧Le r g'∧WF g'∧GP g' ev2 (sg (es.take k++es.drop (k+1)++[((a:Int),(n:Int)),((b:Int),(n:Int))]))∧∀q,Le g' q→aload Tryz.prog q 24 ⟨Y,0,none⟩=some (.agg #[.int .i64 ((n+1:Nat):Int),ev2]):=
   fun Y ev2 g0 l w o g hY ha nr=>putY w o g (fun e=>hY (ha _ e)) l nr
  have nv3:∀{g:AHeap},Le h8 g→WF g→blk v3≠some g.next:=fun l w e=>hv3 _ e (l.next w (vT _))
  obtain⟨hc1,ec1,lc1,wc1,oc1⟩:=aax ws2;have C1:=L1 hc1 (lrs2.trans lc1);have gc1:=gs2.le lc1;obtain⟨hb1,eb1,lb1,wb1,ob1⟩:=aax ws1;obtain⟨v5,hb2,eb2,gb2,wb2,fb2,kb2⟩:=(g311.le (ls1.trans lb1)).join wb1 (ps1.le lb1) (by simp only[uu,Fu];omega);obtain⟨lrb2,-⟩:=fb2 r (lr.trans (ls1.trans lb1)) ar;have oYb:=(kb2 _ _ ob1 (nv3 (l811.trans ls1) ws1)).1;have B2:=L1 hb1 (lr.trans (ls1.trans lb1));have B3:=L1 hb2 lrb2;obtain⟨ha2,ea2,la2,wa2,pa2⟩:=aaK wa1 ((a:Int),(n:Int)) ((b:Int),(n:Int));obtain⟨v6,ha3,ea3,ga3,wa3,fa3,ka3⟩:=(g311.le (la1.trans la2)).join wa2 pa2 (by simp only[uu,Fu];omega);obtain⟨lra3,-⟩:=fa3 r (lr.trans (la1.trans la2)) ar;have oYa:=(ka3 _ _ (la2.own _ _ oa1) (nv3 l811 w11)).1;have A2:=L1 ha2 (lr.trans (la1.trans la2));have A3:=L1 ha3 lra3;simp only[qj,Nat.reduceLT,↓reduceIte,Nat.reduceEqDiff,reduceCtorEq,Nat.reduceBEq,Qg,Ii,Ip,BS,Dh,Z0,C1,ec1,B2,B3,eb1,eb2,A2,A3,bld1,bld2,awn,ea2,ea3];refine⟨⟨⟨?_,?_⟩,?_⟩,?_⟩
  ·refine VA.intro PJ ⟨Gs, rfl, WY⟩ (gZ W0 ((n + 1 : Nat) : Int) v4 _ hs2 gs2.pr hlU) ?_
   rintro x q1 y1 ⟨m1,⟨hno,-⟩|⟨-,ev2,rfl,ge2,ae2⟩⟩
   ·exact absurd okU hno
   obtain⟨q2,q3,f2,f3',m3,y3,oY,m2⟩:=newGo y1 (n:=((n+1:Nat):Int)) ge2.pr;have Q1:=L1 q1 (lrs2.trans m1);have Q2:=L1 q2 (lrs2.trans (m1.trans m2));have Q3:=L1 q3 (lrs2.trans (m1.trans m3));simp only[qj,Nat.reduceLT,↓reduceIte,Nat.reduceEqDiff,reduceCtorEq,Nat.reduceBEq,Qg,Ii,Ip,BS,Dh,Z0,Q1,Q2,Q3,awn,f2,f3'];refine KN.UJ fun fr' h' x y=>cont fr' h' ?_;rw[x,y];exact⟨_,ev2,fD,lrs2.trans (m1.trans m3),y3,ge2.le m3,fun g l=>ldGo ge2.pr (l.own _ _ oY)⟩
  ·refine VA.intro PJ ⟨Gs, rfl, WY⟩ (gZ W0 ((n + 1 : Nat) : Int) v4 _ hc1 (gc1).pr hlU) ?_
   rintro x q1 y1 ⟨m1,⟨hno,-⟩|⟨-,ev2,rfl,ge2,ae2⟩⟩
   ·exact absurd okU hno
   obtain⟨q2,f2,m2,y2,ge3,ld2⟩:=late _ ev2 ((lrs2.trans lc1).trans m1) y1 (m1.own _ _ oc1) ge2 (by rw[oc1];simp) ae2 (lrs2.next ws2 (vT _))
   have Q1:=L1 q1 ((lrs2.trans lc1).trans m1);have Q2:=L1 q2 m2;simp only[qj,Nat.reduceLT,↓reduceIte,Nat.reduceEqDiff,reduceCtorEq,Nat.reduceBEq,Qg,Ii,Ip,BS,Dh,Z0,Q1,Q2,awn,f2];refine KN.UJ fun fr' h' x y=>cont fr' h' ?_;rw[x,y];exact⟨_,ev2,fD,m2,y2,ge3,ld2⟩
  ·refine VA.intro PJ ⟨Gs, rfl, WY⟩ (gZ W0 ((n + 1 : Nat) : Int) v5 _ hb2 (gb2).pr hlU) ?_
   rintro x q1 y1 ⟨m1,⟨hno,-⟩|⟨-,ev2,rfl,ge2,ae2⟩⟩
   ·exact absurd okU hno
   obtain⟨q2,f2,m2,y2,ge3,ld2⟩:=late _ ev2 (lrb2.trans m1) y1 (m1.own _ _ oYb) ge2 (by rw[oYb];simp) ae2 ((lr.trans ls1).next ws1 (vT _))
   have Q1:=L1 q1 (lrb2.trans m1);have Q2:=L1 q2 m2;simp only[qj,Nat.reduceLT,↓reduceIte,Nat.reduceEqDiff,reduceCtorEq,Nat.reduceBEq,Qg,Ii,Ip,BS,Dh,Z0,Q1,Q2,awn,f2];refine KN.UJ fun fr' h' x y=>cont fr' h' ?_;rw[x,y];exact⟨_,ev2,fD,m2,y2,ge3,ld2⟩
  ·refine VA.intro PJ ⟨Gs, rfl, WY⟩ (gZ W0 ((n + 1 : Nat) : Int) v6 _ ha3 (ga3).pr hlU) ?_
   rintro x q1 y1 ⟨m1,⟨hno,-⟩|⟨-,ev2,rfl,ge2,ae2⟩⟩
   ·exact absurd okU hno
   obtain⟨q2,f2,m2,y2,ge3,ld2⟩:=late _ ev2 (lra3.trans m1) y1 (m1.own _ _ oYa) ge2 (by rw[oYa];simp) ae2 (lr.next w11 (vT _))
   have Q1:=L1 q1 (lra3.trans m1);have Q2:=L1 q2 m2;simp only[qj,Nat.reduceLT,↓reduceIte,Nat.reduceEqDiff,reduceCtorEq,Nat.reduceBEq,Qg,Ii,Ip,BS,Dh,Z0,Q1,Q2,awn,f2];refine KN.UJ fun fr' h' x y=>cont fr' h' ?_;rw[x,y];exact⟨_,ev2,fD,m2,y2,ge3,ld2⟩
 rintro fr h12 ⟨Y,ev2,hfr,l12,w12,ge2,lY⟩;simp only[Fj]at hfr;obtain⟨f2,f9,f10,f11,f12,f13,-⟩:=hfr;have gl12:=gr1.le l12;have lX:=ldGo gr1.pr (l12.own _ _ oXr);simp only[HO,Nat.reduceLT,↓reduceIte,Nat.reduceEqDiff,reduceCtorEq,f10,lX];refine TC.intro PJ ⟨KT,rfl,WY⟩ (Im W0 _ ⟨(n:Int),sg (es.take k++es.drop (k+1))⟩ h12 ⟨ev1,rfl,gl12.pr,GS.Ov gl12⟩) ?_;rintro x h13 w13 ⟨l13,rv1,now,rfl,I1⟩;have ge13:=ge2.le l13;simp only[HO,Nat.reduceLT,↓reduceIte,Nat.reduceEqDiff,reduceCtorEq,f12,lY h13 l13];refine TC.intro PJ ⟨KT,rfl,WY⟩ (Im W0 _ ⟨((n+1:Nat):Int),sg (es.take k++es.drop (k+1)++[((a:Int),(n:Int)),((b:Int),(n:Int))])⟩ h13 ⟨ev2,rfl,ge13.pr,GS.Ov ge13⟩) ?_;rintro x h14 w14 ⟨l14,rv2,thn,rfl,I2⟩;have r1:=rL.aaI.right;have okU:=aaJ hr' NH (by rw[←esk];omega);have r2:=okU.right;have adU:=fun x y=>aa3 hr' x y;have hab':Jp (es.take k++((a:Int),(b:Int))::es.drop (k+1)) a b:=.inl Ma;rw[←esk]at adU hab' hr';have sge:sg es=es:=by
  have:es.map lZ=es.map id:=mJ fun p hp=>aam (hR p hp).2.1;unfold sg;rw[this,ur];exact Ml _ _ (((VH es).and ((YA es).nodup_iff.2 (show D3 es from hr.q9).nodup)).imp fun{x y} h=>by
   obtain⟨h1,h2⟩:=h;rcases h1 with h1|⟨h1,h3⟩
   ·exact .inl h1
   ·exact .inr ⟨h1,by have:x.2≠y.2:=fun e=>h2 (Fk h1 e);omega⟩) (Nl.1 hr.q9) fun p=>by rw[Wb]
 have tU:zW (n+1) (sg (es.take k++es.drop (k+1)++[((a:Int),(n:Int)),((b:Int),(n:Int))])):=by
  refine TwR.twoG ((hT.twR hR).upon (a:=a) (b:=b) (fun x y h=>h.symm) (fun x y h=>(h.lt hR).1) hab' NH fun x y=>?_) r2.GD;rw[aal,adU]
 have pU:XU (n+1) (eN (n+1) (sg (es.take k++es.drop (k+1)++[((a:Int),(n:Int)),((b:Int),(n:Int))])))↔XU n (eN n es):=by
  have:=aaD (n:=n) (L:=es) (a:=a) (b:=b) (N:=n+1) hr.aaI okU hab' adU (vT _);rw[this,sge];exact aaO hR (Bc n)
 have pL:XU n (eN n es)→XU n (eN n (sg (es.take k++es.drop (k+1)))):=fun P=>by
  refine P.less (fun v w h=>?_) fun v w h=>?_
  ·rw [vD r1.GD, aal] at h
   rw[vD hR];rcases h with h|h
   ·exact .inl (by rw[esk];grind)
   ·exact .inr (by rw[esk];grind)
  ·rw[vD r1.GD]at h ⊢;exact h.symm
 simp only[Hw,yY]at IE I1 I2;have hwas:thn=was∧(was=0∨was=90)∧(now=0∨now=60∨(now=90∧was=90)):=by
  rcases IE with⟨q,-⟩|⟨-,q,-⟩|⟨-,-,-,q1,rfl,-⟩|⟨-,-,rs,-,R1,F1,rfl,-⟩
  ·exact absurd hr q
  ·exact absurd hT q
  ·refine ⟨?_, .inr rfl, ?_⟩
   ·rcases I2 with ⟨q, -⟩ | ⟨-, q, -⟩ | ⟨-, -, -, -, rfl, -⟩ | ⟨-, -, rs2, -, R2, F2, -, -⟩
    ·exact absurd r2 q
    ·exact absurd tU q
    ·rfl
    ·exact absurd (pU.1 (Vg r2.GD r2.q9 R2 F2)) q1
   ·rcases I1 with ⟨q, -⟩ | ⟨-, q, rfl, -⟩ | ⟨-, -, -, -, rfl, -⟩ | ⟨-, -, rs2, -, R2, F2, rfl, -⟩
    ·exact absurd r1 q
    ·exact .inr (.inl rfl)
    ·exact .inr (.inr ⟨rfl,rfl⟩)
    ·exact .inl rfl
  ·have P := Vg hR hr.q9 R1 F1
   refine⟨?_,.inl rfl,?_⟩
   ·rcases I2 with ⟨q, -⟩ | ⟨-, q, -⟩ | ⟨-, -, -, q, rfl, -⟩ | ⟨-, -, rs2, -, R2, F2, rfl, -⟩
    ·exact absurd r2 q
    ·exact absurd tU q
    ·exact absurd (pU.2 P) q
    ·rfl
   ·rcases I1 with ⟨q, -⟩ | ⟨-, q, rfl, -⟩ | ⟨-, -, -, q, rfl, -⟩ | ⟨-, -, rs2, -, R2, F2, rfl, -⟩
    ·exact absurd r1 q
    ·exact .inr (.inl rfl)
    ·exact absurd (pL P) q
    ·exact .inl rfl
 obtain⟨rfl,hw,hn⟩:=hwas;clear IE I1 I2;have d00:decide ((0:Int)=0)=true:=by decide
 have d600:decide ((60:Int)=0)=false:=by decide
 have d900:decide ((90:Int)=0)=false:=by decide
 have d660:decide ((60:Int)=60)=true:=by decide
 have d990:decide ((90:Int)=90)=true:=by decide
 have d960:decide ((90:Int)=60)=false:=by decide
 have aw0:awrap .i64 ((0:Int)+0)=0:=ie _ NH NH;have dtt:decide (thn=thn)=true:=decide_eq_true rfl
 rcases hw with rfl|rfl<;>rcases hn with rfl|rfl|⟨rfl,he⟩<;>try (cases he)
 all_goals simp only[HO,Nat.reduceLT,↓reduceIte,Nat.reduceEqDiff,reduceCtorEq,f9,f11,f13,bne,aw0,d00,d600,d900,d660,d990,d960]
 all_goals
  refine TC.intro PJ ⟨iZ,rfl,WY⟩ (jS W0 h14) ?_;rintro x h15 w15 ⟨rfl,l15⟩;simp only[HO,Nat.reduceLT,↓reduceIte,Nat.reduceEqDiff,reduceCtorEq]
end
section
open Go.Proofs Go.ChangeShapes Go.WideShapes Go.RowKit Go.ChangeAt
open Go.Proofs.YtkccdnmaaelbiaaGreat
theorem aaQ (W0:LA) (v:Value) (G:GM) (at_:Int) (h:AHeap) (hg:GRC h v G) (_hw:(Lit.int .i64 at_).wf=true):
  AC Tryz.prog W0 5 [v,.int .i64 at_] h fun x h'=>x=.bool true:=aa4 W0 v G at_ h hg
def aan (os:Os) (started:os.Started) (H:Type) (enc:TypeId×Value->H):
  ReturnsInHanded {} Tryz.checked os 5 .any (Rows.embedLessSpec.pre6 enc Tryz.prog Tryz.f5 Rows.embedLessRow.domain false) (Rows.embedLessSpec.post enc Tryz.prog Tryz.f5 false true false false):=by
 have own:ownKnob Tryz.prog.godebug=Option.none:=Ji;have laidOut:laidOutB Tryz.prog=true:=Ji;refine returnsInHanded_of_change (C:=Tryz.checked) own started Ji Tryz.func5
  (ChangeSpec.witness6 (enc:=enc) (C:=Tryz.checked) false ⟨#[],#[.agg #[.int .i64 0,.slice Option.none 0 0],.int .i64 0],[]⟩ 8 Ji Ji Ji Ji) ?_
 intro W base args ds gs before c n o _;have b:∀(j:Nat) t v,Tryz.f5.params[j]?=some t->args[j]?=some v->Value.okWide Tryz.prog W .any base t v:=c;have f:=n;obtain⟨p,q,h,w,rfl,z,A⟩:=n;have hA:DataW.TrodAll enc Tryz.prog W 0 (fun _=>true) true Tryz.f5.params.toList args.toList ds p:=h;rw[Tryz.params5]at hA b;obtain⟨i,I,J,K,B,L,a,rfl,rfl,r,hA⟩:=trodAll_cons hA;obtain⟨s,w1,d1,M,N,O,rfl,rfl,rfl,u,hA⟩:=trodAll_cons hA;obtain⟨rfl,rfl,rfl⟩:=trodAll_nil hA;obtain rfl:args=#[i,s]:=by cases args;simp_all
 obtain⟨rfl,rfl⟩:=trodVars_none w;obtain⟨D,x0,k,l⟩:=Ia (b 0 24 i rfl rfl) r (fun _=>⟨0,0,0⟩);obtain⟨x1,rfl,rfl,rfl,m⟩:=open_int Ac (b 1 3 s rfl rfl) u;refine(aaQ (LA.of W) D x0 x1 (MR W) l m [] (fun _=>⟨0,0,0⟩) W [i,.int .i64 x1] (Rel.start W _) ?_).mono ?_
 .exact .cons k (.cons (.flat rfl) ((.nil _ _)))
 .rintro e E ⟨x, x', P, h', rfl, R, -, -, F, rfl, -⟩
  obtain rfl:=F.YE;have hb:=R.below;have g:∀y∈B,y.block<W.heap.size:=fun y G=>f.lt y (by simp[G]);have d:DataW.Trod enc Tryz.prog E W.heap.size (fun _=>false) false 4 (.bool true) (.lit (.bool true)) []:=⟨1,by simp[DataW.trod,Value.cells,AV]⟩;have a:=
   tcons (Below.trod laidOut Ji (of_decide_eq_true Ji) r hb g) (tcons (Below.trod laidOut Ji (of_decide_eq_true Ji) u hb Ma) (trodAll_mk0))
  try simp only[aaz,Gq]at a
  exact⟨_,rfl,_,_,_,[],_,[],f,trodAll_mk1 d,a,rfl,hb.frame _,fun e=>by cases e⟩
def embedLess_said:Rows.EmbedLessSaid:=
 OpenClaim.holds_of_wide 5 Tryz.f5 rfl rfl rfl rfl rfl rfl rfl ⟨rfl,rfl,rfl,rfl,rfl⟩ rfl rfl rfl rfl rfl Ji Tryz.func5 Ji
  (of_decide_eq_true Ji) (by unfold Func.isWrapper;first|(rw[if_pos iw];kernel_rfl)|(rw[if_neg iw];exact⟨rfl,rfl⟩))
  (fun os started H enc _=>aan os started H enc)
end
end Go.Fw
