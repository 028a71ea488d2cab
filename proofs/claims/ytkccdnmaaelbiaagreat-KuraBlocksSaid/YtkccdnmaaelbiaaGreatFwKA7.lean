/- A text. -/
import Derived.Test.YtkccdnmaaelbiaaGreatFwKA5
import Derived.Test.YtkccdnmaaelbiaaGreatFwKA6
set_option linter.all false
set_option maxRecDepth 99999
set_option maxHeartbeats 9999999
namespace Go.Fw
section
attribute [local irreducible] Kp MQ lU rS KO KN KX KE VK Kl ZJ TC aat
attribute [local irreducible] Jz aaR JL vq cQ
open Go.Proofs
variable {a j:Nat}
def acD (a j:Nat):List Pr:=(List.range (j-(a+1))).map fun t=>((a:Int),((a+1+t:Nat):Int))
def eachF (f n:Nat):Nat->List Pr
 |0=>[]
 |k+1=>eachF f n k++acD (f+k) n
def aea (h:a+1<=j):acD a (j+1)=acD a j++[((a:Int),(j:Int))]:=by
 unfold acD;rw[show j+1-(a+1)=(j-(a+1))+1 by omega,acG,pz];simp;omega
def ac2 (a j:Nat):(acD a j).length<=j:=by simp[acD]
def ac3 (f n:Nat):∀k,(eachF f n k).length<=n*k
 |0=>Ny _
 |k+1=>by
  have:=ac3 f n k;have:=ac2 (f+k) n;rw[eachF,Eh,Nat.mul_add];omega
def adM (f n:Nat):List Pr:=eachF f n (n-f)
def acm (y:LA) (f n:Nat) (h:AHeap) (u:n<=100) (hf:f<=n):AC Tryz.prog y 44 [.int .i64 (f:Int),.int .i64 (n:Int)] h fun x h'=>GP h' x (adM f n)/\Le h h'/\Z2 h x:=by
 refine AC.vE ⟨Tryz.func44,rfl,WY⟩ Tryz.ntmps44 Tryz.results44 fun z=>?_;simp only[kAr,Nat.reduceAdd];have m:∀k,k<=n->(eachF f n k).length<=10000:=fun k A=>VU (ac3 f n k) (Ex u (VU A u));refine Uy ?_;refine aat.intro (fun k fr l=>∃(i:Nat) (v:Value),k=n-f-i/\f+i<=n/\fr=mkF [(1,.int .i64 (n:Nat)),(5,v),(6,.int .i64 (f+i:Nat))]/\GP l v (eachF f n i)/\Le h l/\Z2 h v)
  (n-f) [(1,.int .i64 (n:Nat)),(5,.slice none 0 0),(6,.int .i64 (f:Nat))] fD ⟨0,_,rfl,hf,rfl,GP.nil h,Le.refl _,fun b hb=>by simp[blk]at hb⟩ ?_
 rintro k fr l o ⟨i,v,rfl,hi,rfl,g,d,ap⟩;by_cases c:f+i<n
 rotate_left
 .have dc : decide (((f + i : Nat) : Int) < (n : Int)) = false := decide_eq_false NH
  have a:(((f+i:Nat):Int)<(n:Int))=False:=eq_false NH;have e:n-f=i:=NH;refine Sk (XC dc a) ?_;exact⟨by rw[adM,e];exact g,d,ap⟩
 have dc:decide (((f+i:Nat):Int)<(n:Int))=true:=decide_eq_true NH;have a:(((f+i:Nat):Int)<(n:Int))=True:=eq_true NH;have aw:=Tw (f+i) NH;have B:=m i NH;simp only[HO,Nat.reduceLT,↓reduceIte,Nat.reduceEqDiff,reduceCtorEq,dc,a,aw];refine aat.intro (fun k fr p=>∃(j:Nat) (v:Value),k=n-j/\f+i+1<=j/\j<=n/\fr=mkF [(1,.int .i64 (n:Nat)),(5,v),(6,.int .i64 (f+i:Nat)),(7,.int .i64 (j:Nat))]/\GP p v (eachF f n i++acD (f+i) j)/\Le h p/\Z2 h v)
  (n-(f+i+1)) [(1,.int .i64 (n:Nat)),(5,v),(6,.int .i64 (f+i:Nat)),(7,.int .i64 (f+i+1:Nat))] fD ⟨f+i+1,v,rfl,Ny _,NH,rfl,by simpa[acD]using g,d,ap⟩ ?_
 clear g d ap o;clear l v;rintro k fr p q ⟨j,v,rfl,C,D,rfl,g,d,ap⟩;by_cases c2:j<n
 rotate_left
 .have dc : decide (((j : Nat) : Int) < (n : Int)) = false := decide_eq_false NH
  have a:(((j:Nat):Int)<(n:Int))=False:=eq_false NH;obtain rfl:j=n:=NH;simp only[HO,Nat.reduceLT,↓reduceIte,Nat.reduceEqDiff,reduceCtorEq,dc,a,aw];exact tn (j-f-(i+1)) [(1,.int .i64 (j:Nat)),(5,v),(6,.int .i64 (f+i+1:Nat))] NH fD ⟨i+1,v,rfl,NH,rfl,g,d,ap⟩
 have dc:decide (((j:Nat):Int)<(n:Int))=true:=decide_eq_true NH;have a:(((j:Nat):Int)<(n:Int))=True:=eq_true NH;have r:=Tw j NH;have E:=ac2 (f+i) j;obtain⟨v',I,J,F,G,w,K,l4,s,-⟩:=g.push q (((f+i:Nat):Int),(j:Int)) (by rw[Eh];omega);obtain⟨l5,H⟩:=s h d ap;rw[Bn,<-aea C]at w;have t:=xe ((f+i:Nat):Int) (j:Int);refine Sk (bG dc a t F G r) ?_;exact tn (n-(j+1)) [(1,.int .i64 (n:Nat)),(5,v'),(6,.int .i64 (f+i:Nat)),(7,.int .i64 (j+1:Nat))] NH fD ⟨j+1,v',rfl,NH,NH,rfl,w,l5,H⟩
def mkP9 (h:AHeap) (a b c d e f g i j:Pr):aBuildSlice Tryz.prog h 22 9 [(0,UI a),(1,UI b),(2,UI c),(3,UI d),(4,UI e),(5,UI f),(6,UI g),(7,UI i),(8,UI j)]=some (.slice (some ⟨h.next,0,none⟩) 9 9,h.alloc (.cells (Iu [a,b,c,d,e,f,g,i,j]))):=Ji
def acE (c:LA) (h:AHeap):AC Tryz.prog c 71 [] h fun x h'=>GP h' x E9/\Le h h'/\Z2 h x:=by
 refine AC.vE ⟨Tryz.func71,rfl,WY⟩ Tryz.ntmps71 Tryz.results71 fun a=>?_;simp only[kAr,Nat.reduceAdd];obtain⟨i,d,l1,w1,e⟩:=Tt a (Iu E9);have m:=mkP9 h (0,3) (0,4) (0,5) (1,3) (1,4) (1,5) (2,3) (2,4) (2,5);have f:Iu [(0,3),(0,4),(0,5),(1,3),(1,4),(1,5),(2,3),(2,4),(2,5)]=Iu E9:=rfl;rw[f,d]at m
 have g:h.own h.next=none:=(Le.refl h).next a (Ny _)
 refine Sk (XC @xe m) ?_;exact⟨GS.full e rfl WY,l1,fun b hb=>by injection hb with hb;subst hb;exact g⟩
def acF (a:LA) (h:AHeap):AC Tryz.prog a 34 [] h fun x h'=>x=.bool true/\Le h h':=by
 refine AC.vE ⟨Tryz.func34,rfl,WY⟩ Tryz.ntmps34 Tryz.results34 fun aW=>?_;simp only[kAr,Nat.reduceAdd];have P:decide ((0:Int)=0)=true:=by decide
 have d5:decide ((5:Int)=5)=true:=by decide
 have S:decide ((33:Int)=33)=true:=by decide
 have T:awrap .i64 (0+0)=0:=by decide
 have E5:adM 0 5=k5L:=by decide
 have E6:adM 0 6=k6L:=by decide
 have EU:adM 1 6=k5U:=by decide
 refine Uy ?_;refine TC.intro PJ ⟨Tryz.func44,rfl,WY⟩ (acm a 0 5 h WY WY) ?_;rintro U h1 w1 ⟨Q,l1,-⟩;rw[E5]at Q;refine Uy ?_;refine TC.intro PJ ⟨Tryz.func44,rfl,WY⟩ (acm a 0 6 h1 WY WY) ?_;rintro v6 h2 w2 ⟨V,l2,-⟩;rw[E6]at V;have j:=Q.le l2;have y:=Wj (n:=5) Q.pr.sl;refine Sk y ?_;refine TC.intro PJ ⟨abr,rfl,WY⟩ (acb a _ ⟨((5:Nat):Int),k5L⟩ h2 ⟨U,rfl,j.pr⟩) ?_;rintro x h3 w3 ⟨l3,⟨k,-⟩|⟨-,a5,rfl,f5⟩⟩
 .exact absurd k5R k
 rw[fnd_k5]at f5;have W:=Wj (n:=6) V.pr.sl;refine Sk W ?_;refine TC.intro PJ ⟨abr,rfl,WY⟩ (acb a _ ⟨((6:Nat):Int),k6L⟩ h3 ⟨v6,rfl,(V.le l3).pr⟩) ?_;rintro x h4 w4 ⟨l4,⟨k,-⟩|⟨-,a6,rfl,f6⟩⟩
 .exact absurd k6R k
 rw[fnd_k6]at f6;refine Uy ?_;refine TC.intro PJ ⟨Tryz.func71,rfl,WY⟩ (acE a h4) ?_;rintro v3 h5 w5 ⟨g3,l5,-⟩;have X:=Wj (n:=6) g3.pr.sl;refine Sk X ?_;refine TC.intro PJ ⟨abr,rfl,WY⟩ (acb a _ ⟨((6:Nat):Int),E9⟩ h5 ⟨v3,rfl,g3.pr⟩) ?_;rintro x Y w6 ⟨l6,⟨k,-⟩|⟨-,a3,rfl,Z⟩⟩
 .exact absurd k33R k
 rw[fnd_k33]at Z;obtain⟨h7,e7,R,w7,o7⟩:=Tt w6 (Iu LO);have m7:=mkP4 Y (0,1) (0,3) (1,2) (2,3);have ag:Iu [(0,1),(0,3),(1,2),(2,3)]=Iu LO:=rfl;rw[ag,e7]at m7
 have p7:PR h7 (.slice (some ⟨Y.next,0,none⟩) 4 4) LO:=PR.made o7 rfl
 obtain⟨h8,h9,a8,s8,z,w9,lG⟩:=newG (n:=4) w7 p7;have aj:=Wj (n:=4) p7.sl;refine Sk (bG @xe m7 aj a8 s8 ((lG h9 (Le.refl _)).1)) ?_
 generalize Y.next=R4 at*
 generalize h7.next=G4 at*
 have p9:=p7.le z;refine TC.intro PJ ⟨abr,rfl,WY⟩ (acb a _ ⟨((4:Nat):Int),LO⟩ h9 ⟨_,rfl,p9⟩) ?_;rintro x A aX ⟨b,⟨k,-⟩|⟨-,a4,rfl,f4⟩⟩
 .exact absurd c4R k
 rw[fnd_c4]at f4;have m:=l3.trans (l4.trans (l5.trans (l6.trans (R.trans (z.trans b)))));refine Sk (XC T P) ?_;refine TC.intro PJ ⟨Tryz.func39,rfl,WY⟩ (abX a a5 U k5L k5L A (f5.le (l4.trans (l5.trans (l6.trans (R.trans (z.trans b)))))) (j.pr.le m) WY) ?_;rintro x B a7 ⟨rfl,al⟩;have o:Le A B:=by rw[al];exact Le.refl _
 have sp:∀l:List Pr,decide (l=l)=true:=fun l=>decide_eq_true rfl;simp only[HO,Nat.reduceLT,↓reduceIte,Nat.reduceEqDiff,reduceCtorEq,sp];refine TC.intro PJ ⟨Tryz.func44,rfl,WY⟩ (acm a 1 6 B WY WY) ?_;rintro vU C bg ⟨gU,p,-⟩;rw[EU]at gU;refine Uy ?_;have D:=f6.le (l5.trans (l6.trans (R.trans (z.trans (b.trans (o.trans p))))));refine TC.intro PJ ⟨Tryz.func39,rfl,WY⟩ (abX a a6 vU k5U k5U C D gU.pr WY) ?_;rintro x E bh ⟨rfl,aq⟩;have q:Le C E:=by rw[aq];exact Le.refl _
 simp only[HO,Nat.reduceLT,↓reduceIte,Nat.reduceEqDiff,reduceCtorEq,sp];refine TC.intro PJ ⟨Tryz.func71,rfl,WY⟩ (acE a E) ?_;rintro vT F bk ⟨gT,r,-⟩;refine Uy ?_;have G:=R.trans (z.trans (b.trans (o.trans (p.trans (q.trans r)))));refine TC.intro PJ ⟨Tryz.func39,rfl,WY⟩ (abX a a3 vT E9 E9 F (Z.le G) gT.pr WY) ?_;rintro x H bm ⟨rfl,ar⟩;have s:Le F H:=by rw[ar];exact Le.refl _
 have c:=o.trans (p.trans (q.trans (r.trans s)));have av:=fun g=>f4.len g;have t:=j.pr.le (m.trans c);simp only[HO,Nat.reduceLT,↓reduceIte,Nat.reduceEqDiff,reduceCtorEq,sp,av,aa2,qQ,P];refine TC.intro PJ ⟨iZ,rfl,WY⟩ (ab7 a U k5L H t) ?_;rintro x ay bo ⟨rfl,u⟩;obtain⟨cv,cut,pc,cc⟩:=t.cut (GS.okc Q) (i:=1) WY;simp only[aeS]at cut;simp only[HO,Nat.reduceLT,↓reduceIte,Nat.reduceEqDiff,reduceCtorEq,kind_k5,d5,cut];refine TC.intro PJ ⟨iZ,rfl,WY⟩ (ab7 a cv m5E ay (pc.le u)) ?_;rintro x az br ⟨rfl,I⟩;refine Sk (XC @kind_m5 P) ?_;refine TC.intro PJ ⟨iZ,rfl,WY⟩ (ab7 a a6 k5U az ((D.le (q.trans (r.trans s))).le (u.trans I))) ?_;rintro x aC bx ⟨rfl,aD⟩;have d:=u.trans (I.trans aD);refine Sk (XC @afl d5) ?_;refine TC.intro PJ ⟨iZ,rfl,WY⟩ (ab7 a a3 E9 aC ((Z.le (G.trans s)).le d)) ?_;rintro x J bB ⟨rfl,K⟩;have f:=b.trans (c.trans (d.trans K));refine Sk (bG @afm S @Di @Ip.eq_1 @XJ ((lG J f).2.2)) ?_;refine TC.intro PJ ⟨iZ,rfl,WY⟩ (ab7 a _ LO J (p9.le f)) ?_;rintro x L bF ⟨rfl,v⟩;refine Sk (Yb @kind_c4 P ((lG L (f.trans v)).1)) ?_;refine TC.intro PJ ⟨Xv,rfl,WY⟩ (abF a _ ⟨((4:Nat):Int),LO⟩ L ⟨_,rfl,p9.le (f.trans v)⟩) ?_;rintro x aH bH ⟨⟨w,rfl,aJ⟩,aK⟩;obtain rfl:w=true:=aJ.2 ⟨c4R,aes⟩;have e:=d.trans (K.trans (v.trans aK));have aL:=Wj (n:=5) pc.sl;simp only[HO,Nat.reduceLT,↓reduceIte,Nat.reduceEqDiff,reduceCtorEq,cut,aL];refine TC.intro PJ ⟨Xv,rfl,WY⟩ (abF a _ ⟨((5:Nat):Int),m5E⟩ aH ⟨_,rfl,pc.le e⟩) ?_;rintro x aN bI ⟨⟨w,rfl,M⟩,N⟩;obtain rfl:w=true:=M.2 ⟨m5R,m5_plan⟩;refine Sk y ?_;refine TC.intro PJ ⟨Xv,rfl,WY⟩ (abF a _ ⟨((5:Nat):Int),k5L⟩ aN ⟨_,rfl,t.le (e.trans N)⟩) ?_;rintro x bN bQ ⟨⟨w,rfl,O⟩,aP⟩;have aT:w=false:=by
  cases w with
  |false=>rfl
  |true=>exact absurd (O.1 rfl).2 k5_np
 subst aT;refine Uy ?_;exact⟨trivial,(l1.trans (l2.trans (m.trans c))).trans (e.trans (N.trans aP))⟩
end
end Go.Fw
namespace Go.Fw
open Go.Proofs
attribute [local irreducible] Jz aaR JL vq cQ
attribute [local instance] Classical.propDecidable
def aev {on on':Nat->Bool} (b:∀u,on u=false->on' u=false) {es:List Pr} {u w:Nat} (h:Cn on es u w):Cn on' es u w:=by
 induction h with
 |refl h=>exact .refl (b _ h)
 |step _ a o c=>exact .step c a (b _ o)
def aeG {on:Nat->Bool} {es:List Pr} {S:Nat->Prop} {x0 c:Nat} (h:Cn on es x0 c) (e:S x0) (b:¬S c):∃x y,S x/\¬S y/\Jp es x y/\Cn (fun u=>on u||decide (S u)) es y c:=by
 induction h with
 |refl _=>exact absurd e b
 |@step w x h a o f=>
  have d:(on x||decide (S x))=false:=by rw[o,decide_eq_false b];rfl
  by_cases hw:S w
  .exact⟨w,x,hw,b,a,.refl d⟩
  .obtain ⟨p, q, g, h2, h3, i⟩ := f hw
   exact⟨p,q,g,h2,h3,.step i a d⟩
def afq {on:Nat->Bool} {es:List Pr} {t a w:Nat} (ne:a≠t) (h:Cn on es a w):Cn (fun u=>on u||decide (u=t)) es a w\/∃z,Jp es z t/\Cn (fun u=>on u||decide (u=t)) es a z:=by
 induction h with
 |refl h=>exact .inl (.refl (by rw[h,decide_eq_false ne];rfl))
 |@step w x h a o b=>
  rcases b with q|q
  .by_cases e : x = t
   .subst e;exact .inr ⟨w,a,q⟩
   .exact .inl (.step q a (by rw[o,decide_eq_false e];rfl))
  .exact .inr q
def abQ (n:Nat) (es:List Pr) (k:Int):List Pr:=es.filter fun p=>decide (cQ n es p=k)
section
variable {n : Nat} {es : List Pr} (hr : aV n es)
def abE {k:Int} {p:Pr}:p∈abQ n es k↔p∈es/\cQ n es p=k:=by simp[abQ]
def adN (k:Int):(abQ n es k).Sublist es:=vZ
include hr
def aew (k:Int):aV n (abQ n es k):=fun p a=>hr p (abE.1 a).1
def acu {k:Int} {u w:Nat}:Jp (abQ n es k) u w↔Jp es u w/\cQ n es (GW u w)=k:=by
 constructor
 .intro h
  have a:=abE.1 (H4 (aew hr k) h);exact⟨h.imp (fun q=>(abE.1 q).1) (fun q=>(abE.1 q).1),a.2⟩
 .rintro ⟨a, h2⟩
  have b:=abE.2 ⟨H4 hr a,h2⟩;have ne:u≠w:=fun e=>by subst e;exact Xa hr a
  rcases C2 ne with c|c
  .left;rwa[GW,Int.min_eq_left NH,Int.max_eq_right NH]at b
  .right;rwa[GW,Int.min_eq_right NH,Int.max_eq_left NH]at b
def afr {v a c:Nat} (ha:Jp es v a) (r:Jp es v c) (h:Cn (wo v) es a c):Cn (wo v) (abQ n es (cQ n es (GW v a))) a c:=by
 generalize s:cQ n es (GW v a)=K;have nva:a≠v:=fun e=>by subst e;exact Xa hr ha
 refine fR fun t=>?_;have i:Cn (wo v) (abQ n es K) a a:=.refl (iO nva);obtain⟨x,y,g,w,b,f⟩:=aeG (S:=fun u=>Cn (wo v) (abQ n es K) a u) h i t;have j:y≠v:=fun e=>by have:=f.off1;rw[e]at this;simp[wo]at this
 have key:cQ n es (GW x y)=K:=by
  have off:∀u,(wo v u||decide (Cn (wo v) (abQ n es K) a u))=false->wo x u=false:=fun u d=>by
   rw[Bool.or_eq_false_iff]at d;exact iO fun e=>by rw[e]at d;exact of_decide_eq_false d.2 g
  have k:v≠x:=fun e=>by have:=g.AB;rw[<-e]at this;simp[wo]at this
  have o:Cn (wo x) es y v:=.step (aev off f) r.symm (iO k);by_cases e:x=a
  .subst e
   rw[(dR hr b ha.symm).2 o,so];exact s
  .rcases afq (Hs e) g with q | ⟨z, A, q⟩
   .have:=q.AB;simp at this
   .obtain ⟨l, m⟩ := (acu hr).1 A
    have B:Cn (wo x) es a z:=by
     have:Cn (wo x) (abQ n es K) a z:=aev (fun u d=>iO fun e=>by rw[e]at d;simp at d) q;exact this.mono fun p C=>(abE.1 C).1
    have ya:Cn (wo x) es y z:=(Cn.step o ha (iO (Hs e))).trans B;rw[(dR hr b l.symm).2 ya,so];exact m
 exact w (.step g ((acu hr).2 ⟨b,key⟩) (iO j))
def blk_one {k:Int} {p q:Pr} (d:p∈abQ n es k) (f:q∈abQ n es k):cQ n (abQ n es k) p=cQ n (abQ n es k) q:=by
 have hb:=aew hr k
 have:=acq hr (fun r=>if r∈abQ n es k then cQ n (abQ n es k) r else-1) (fun v a c ha b h=>?_) (abE.1 d).1 (abE.1 f).1 ((abE.1 d).2.trans (abE.1 f).2.symm)
 .rw[if_pos d,if_pos f]at this;exact this
 have e:=(dR hr ha b).2 h;have m1:GW v a∈abQ n es k↔cQ n es (GW v a)=k:=by rw[abE];exact⟨fun q=>q.2,fun q=>⟨H4 hr ha,q⟩⟩
 have m2:GW v c∈abQ n es k↔cQ n es (GW v c)=k:=by rw[abE];exact⟨fun q=>q.2,fun q=>⟨H4 hr b,q⟩⟩
 by_cases c1:cQ n es (GW v a)=k
 .have c2 : cQ n es (GW v c) = k := e ▸ c1
  rw[if_pos (m1.2 c1),if_pos (m2.2 c2)];refine(dR hb ((acu hr).2 ⟨ha,c1⟩) ((acu hr).2 ⟨b,c2⟩)).2 ?_;have:=afr hr ha b h;rwa[c1]at this
 .rw[if_neg (fun q=>c1 (m1.1 q)),if_neg (fun q=>c1 (by rw[e];exact m2.1 q))]
def afs {es':List Pr} (hs:∀p∈es',p∈es) {c:Nat} (d:aV c es') {p q:Pr} (e:p∈es') (f:q∈es') (h:cQ c es' p=cQ c es' q):cQ n es p=cQ n es q:=
 acq d (fun r=>cQ n es r) (fun v a b ha hb g=>(dR hr (ha.imp (hs _) (hs _)) (hb.imp (hs _) (hs _))).2 (g.mono hs)) e f h
end
def abI {n:Nat} {es b:List Pr}:b∈vq n es↔∃p∈es,b=abQ n es (cQ n es p):=by
 rw[aai,jf];constructor
 .rintro ⟨k, c, rfl⟩
  obtain⟨p,a,rfl⟩:=((lQ (cQ n es) _ es rfl).2 k).1 c;exact⟨p,a,rfl⟩
 .rintro ⟨p, a, rfl⟩
  exact⟨cQ n es p,((lQ (cQ n es) _ es rfl).2 _).2 ⟨p,a,rfl⟩,rfl⟩
def adP {n:Nat} {es:List Pr} (h:∀p∈es,∀q∈es,cQ n es p=cQ n es q) {b:List Pr} (hb:b∈vq n es):b=es:=by
 obtain⟨p,a,rfl⟩:=abI.1 hb;exact AQ.2 fun q c=>decide_eq_true (h q c p a)
def aeH {n:Nat} {es:List Pr} (h:∀p∈es,∀q∈es,cQ n es p=cQ n es q) (a:es≠[]):es∈vq n es:=by
 obtain⟨p,l,rfl⟩:=iy a;exact abI.2 ⟨p,Ma,(AQ.2 fun q b=>decide_eq_true (h q b p Ma)).symm⟩
def aeb (n:Nat) (b:List Pr):Prop:=bX ⟨(n:Int),b⟩/\b≠[]/\∀p∈b,∀q∈b,cQ n b p=cQ n b q
def abM {n:Nat} {es b:List Pr} (hr:bX ⟨(n:Int),es⟩) (hb:b∈vq n es):aeb n b:=by
 obtain⟨p,d,rfl⟩:=abI.1 hb;exact⟨hr.sub (adN _),List.ne_nil_of_mem (abE.2 ⟨d,rfl⟩),fun a ha c e=>blk_one hr.GD ha e⟩
def abT {n:Nat} {b:List Pr} (h:aeb n b):abB n b↔abO n b:=
 ⟨fun q=>q.2 b (aeH h.2.2 h.2.1),fun q=>⟨h.1,fun c a=>by rw[adP h.2.2 a];exact q⟩⟩
def ab1 {n:Nat} {es:List Pr} (hr:bX ⟨(n:Int),es⟩):abB n es↔∀b∈vq n es,abB n b:=
 ⟨fun q b hb=>(abT (abM hr hb)).2 (q.2 b hb),fun q=>⟨hr,fun b hb=>(abT (abM hr hb)).1 (q b hb)⟩⟩
end Go.Fw
namespace Go.Fw
open Go.Proofs
attribute [local irreducible] Jz aaR JL vq cQ
attribute [local instance] Classical.propDecidable
section
variable {n : Nat} {b : List Pr} (hR : aV n b)
def acx (n:Nat) (b:List Pr):II:=aaC n b++(List.range n).filter fun(v:Nat)=>!b.any fun p=>aO p (v:Int)
def toV (n:Nat) (b:List Pr) (u:Nat):Nat:=(acx n b).idxOf u
def ofV (n:Nat) (b:List Pr) (i:Nat):Nat:=(acx n b).getD i 0
def acy:(acx n b).Perm (List.range n):=by
 unfold acx aaC;exact List.filter_append_perm _ _
def acQ:(acx n b).length=n:=by rw[(acy (n:=n) (b:=b)).length_eq,GK]
def ordL_nd:(acx n b).Nodup:=(acy (n:=n) (b:=b)).nodup_iff.2 qH
def acR {u:Nat}:u∈acx n b↔u<n:=by rw[(acy (n:=n) (b:=b)).mem_iff,ZT]
def toV_lt {u:Nat} (h:u<n):toV n b u<n:=by
 have:=aeK (acR (b:=b)|>.2 h);rwa[acQ]at this
def aec {i:Nat} (h:i<n):ofV n b i<n:=by
 have a:i<(acx n b).length:=by rw[acQ];exact h
 have:ofV n b i=(acx n b)[i]:=D4 a;rw[this];exact acR.1 (Gw a)
def abV {u:Nat} (h:u<n):ofV n b (toV n b u)=u:=by
 have c:=acR (b:=b)|>.2 h;have a:=aeK c;unfold ofV toV;rw[D4 a];exact List.getElem_idxOf a
def toV_ofV {i:Nat} (h:i<n):toV n b (ofV n b i)=i:=by
 have a:i<(acx n b).length:=by rw[acQ];exact h
 have e:ofV n b i=(acx n b)[i]:=D4 a;rw[e];exact List.Nodup.idxOf_getElem ordL_nd i a
def ren_V (n:Nat) (b:List Pr):Ren n (toV n b) (ofV n b):=⟨fun _ h=>toV_lt h,fun _ h=>aec h,fun _ h=>toV_ofV h,fun _ h=>abV h⟩
def toV_idx {u:Nat} (h:u∈aaC n b):toV n b u=ab4 n b (u:Int)/\toV n b u<(aaC n b).length:=by
 have a:=aeK h;have e:toV n b u=(aaC n b).idxOf u:=by unfold toV acx;rw[List.idxOf_append,if_pos h]
 refine⟨?_,by rw[e];exact a⟩;rw[e];refine idx_eq (n:=n) (b:=b) ?_;rw[aab,Ki,CA a];simp[List.getElem_idxOf a]
include hR
def abK {u:Nat}:u∈aaC n b↔∃w,Jp b u w:=by
 rw[adD];constructor
 .rintro ⟨f, p, e, h⟩
  obtain⟨a,c,ha,g,d,rfl⟩:=pair_ex hR e;have h':u=a\/u=c:=by simp only[aO,bj,aa1,decide_eq_true_eq]at h;omega
  rcases h' with rfl|rfl
  .exact⟨c,d⟩
  .exact⟨a,d.symm⟩
 .rintro ⟨w, h⟩
  refine⟨(h.lt hR).1,GW u w,H4 hR h,?_⟩;simp only[aO,bj,aa1,decide_eq_true_eq];omega
def ade {x y:Int}:(x,y)∈abD n b↔∃u w:Nat,((u:Int),(w:Int))∈b/\x=(toV n b u:Int)/\y=(toV n b w:Int):=by
 unfold abD;rw[jf];constructor
 .rintro ⟨p, a, e⟩
  obtain⟨c,h2,h3⟩:=hR p a;obtain⟨h,d⟩:=p;simp only at c h2 h3;obtain⟨u,rfl⟩:=yY c;obtain⟨w,rfl⟩:=yY (show 0<=d by omega);injection e with f g;have m1:=(toV_idx ((abK hR).2 ⟨w,.inl a⟩)).1;have m2:=(toV_idx ((abK hR).2 ⟨u,.inr a⟩)).1;exact⟨u,w,a,by rw[m1];exact f.symm,by rw[m2];exact g.symm⟩
 .rintro ⟨u, w, a, rfl, rfl⟩
  have m1:=(toV_idx ((abK hR).2 ⟨w,.inl a⟩)).1;have m2:=(toV_idx ((abK hR).2 ⟨u,.inr a⟩)).1;exact⟨_,a,by rw[m1,m2]⟩
def acd {v w:Nat}:Jp (abD n b) v w↔v<n/\w<n/\Jp b (ofV n b v) (ofV n b w):=by
 have one:∀v w:Nat,((v:Int),(w:Int))∈abD n b->v<n/\w<n/\((ofV n b v:Int),(ofV n b w:Int))∈b:=fun v w h=>by
  obtain⟨u,x,c,a,h2⟩:=(ade hR).1 h;have l1:=(show Jp b u x from .inl c).lt hR;obtain rfl:v=toV n b u:=NH;obtain rfl:w=toV n b x:=NH;rw[abV l1.1,abV l1.2];exact⟨toV_lt l1.1,toV_lt l1.2,c⟩
 constructor
 .rintro (h | h)
  .obtain⟨a,h2,h3⟩:=one _ _ h;exact⟨a,h2,.inl h3⟩
  .obtain⟨a,h2,h3⟩:=one _ _ h;exact⟨h2,a,.inr h3⟩
 .rintro ⟨a, h2, h3 | h3⟩
  .exact .inl ((ade hR).2 ⟨_,_,h3,by rw[toV_ofV a],by rw[toV_ofV h2]⟩)
  .exact .inr ((ade hR).2 ⟨_,_,h3,by rw[toV_ofV h2],by rw[toV_ofV a]⟩)
def afu {u w:Nat} (h:Jp b u w):Jp (abD n b) (toV n b u) (toV n b w):=by
 have l:=h.lt hR;exact(acd hR).2 ⟨toV_lt l.1,toV_lt l.2,by rw[abV l.1,abV l.2];exact h⟩
def vert_lt {u w:Nat} (h:Jp b u w):toV n b u<(aaC n b).length:=(toV_idx ((abK hR).2 ⟨w,h⟩)).2
omit hR in
theorem adg {x y:Nat} (e:x∈aaC n b) (d:x<y):ab4 n b (x:Int)<ab4 n b (y:Int):=by
 unfold ab4;have f:∀l:II,x∈l->l.countP (fun(v:Nat)=>decide ((v:Int)<(x:Int)))<l.countP fun(v:Nat)=>decide ((v:Int)<(y:Int)):=by
  intro l
  induction l with
  |nil=>intro h;cases h
  |cons a l g=>
   intro h;have mono:l.countP (fun(v:Nat)=>decide ((v:Int)<(x:Int)))<=l.countP fun(v:Nat)=>decide ((v:Int)<(y:Int)):=
    List.countP_mono_left fun v _ i=>by simp only[decide_eq_true_eq]at*;omega
   rw[abn,abn];rcases qy.1 h with rfl|q
   .rw[if_neg Ma,if_pos (by simpa using d)];omega
   .have := g q
    by_cases c:(a:Int)<(x:Int)
    .rw[if_pos (by simpa using c),if_pos (by simp only[decide_eq_true_eq];omega)];omega
    .rw[if_neg (by simpa using c)];split<;>omega
 exact f _ e
omit hR in
theorem ac4 (hr : bX ⟨(n : Int), b⟩) : bX ⟨((aaC n b).length : Int), abD n b⟩ := by
 have hR := hr.GD
 have hvl : (aaC n b).length ≤ n := Nat.le_trans (List.length_filter_le _ _) (by simp)
 have vm : ∀ p ∈ b, ∃ u w : Nat, p = ((u : Int), (w : Int)) ∧ u < w ∧ u ∈ aaC n b ∧ w ∈ aaC n b := fun p hp => by
  obtain ⟨h1, h2, h3⟩ := hR p hp
  obtain ⟨p1, p2⟩ := p
  simp only at h1 h2 h3
  obtain ⟨u, rfl⟩ := Int.eq_ofNat_of_zero_le h1
  obtain ⟨w, rfl⟩ := Int.eq_ofNat_of_zero_le (show 0 ≤ p2 by omega)
  exact ⟨u, w, rfl, by omega, (abK hR).2 ⟨w, .inl hp⟩, (abK hR).2 ⟨u, .inr hp⟩⟩
 refine bX.of (Nat.le_trans hvl (by have : (n : Int) ≤ 200 := hr.n1; omega)) (by rw [abD, List.length_map]; exact hr.len) (fun q hq => ?_) ?_
 ·obtain ⟨p, hp, rfl⟩ := List.mem_map.1 hq
  obtain ⟨u, w, rfl, huw, hu, hw⟩ := vm p hp
  have h1 := adg hu huw
  have h2 := toV_idx hw
  rw [h2.1] at h2
  exact ⟨by simp, by simpa using h1, by simpa using h2.2⟩
 ·have ha : D3 b := hr.q9
  rw [Nl] at ha ⊢
  unfold abD
  rw [List.pairwise_map]
  refine ha.imp_of_mem fun {p q} hp hq hpq => ?_
  obtain ⟨u, w, rfl, -, hu, hw⟩ := vm p hp
  obtain ⟨x, y, rfl, -, hx, hy⟩ := vm q hq
  simp only at hpq ⊢
  rcases hpq with h | ⟨h, h'⟩
  ·left; have := adg hu (show u < x by omega); omega
  ·right
   have := adg hw (show w < y by omega)
   obtain rfl : u = x := by omega
   exact ⟨rfl, by omega⟩
theorem aed : XU (aaC n b).length (eN (aaC n b).length (abD n b)) ↔ XU n (eN n b) := by
 have hvl : (aaC n b).length ≤ n := Nat.le_trans (List.length_filter_le _ _) (by simp)
 have hlt : ∀ v w, Jp (abD n b) v w → v < (aaC n b).length := fun v w h => by
  obtain ⟨h1, h2, h3⟩ := (acd hR).1 h
  have := vert_lt hR h3
  rwa [toV_ofV h1] at this
 have GD : ∀ {m}, (∀ v w, Jp (abD n b) v w → v < m) → aV m (abD n b) := fun {m} h p hp => by
  obtain ⟨q, hq, rfl⟩ := List.mem_map.1 hp
  obtain ⟨h1, h2, h3⟩ := hR q hq
  obtain ⟨p1, p2⟩ := q
  simp only at h1 h2 h3
  obtain ⟨u, rfl⟩ := Int.eq_ofNat_of_zero_le h1
  obtain ⟨w, rfl⟩ := Int.eq_ofNat_of_zero_le (show 0 ≤ p2 by omega)
  have hu := (abK hR).2 ⟨w, .inl hq⟩
  have := adg hu (show u < w by omega)
  have ha : Jp (abD n b) (ab4 n b (w : Int)) (ab4 n b (u : Int)) := .inr (List.mem_map.2 ⟨_, hq, rfl⟩)
  have := h _ _ ha
  exact ⟨by simp, by simp only; omega, by simp only; omega⟩
 have i1 := GD hlt
 have i2 : aV n (abD n b) := GD fun v w h => Nat.lt_of_lt_of_le (hlt v w h) hvl
 have e1 : XU (aaC n b).length (eN (aaC n b).length (abD n b)) ↔ XU n (eN n (abD n b)) := by
  have h1 : XU (aaC n b).length (eN (aaC n b).length (abD n b)) ↔ XU (aaC n b).length (eN n (abD n b)) :=
   (XU.congr fun v w => by rw [vD i1, vD i2])
  rw [h1, ← XU.mores (fun v w h => hlt v w ((vD i2).1 h)) (n - (aaC n b).length), show (aaC n b).length + (n - (aaC n b).length) = n by omega]
 rw [e1]
 have N := ren_V n b
 constructor
 ·intro h
  refine h.ren (p := ofV n b) (q := toV n b) ⟨N.ql, N.pl, N.qp, N.pq⟩ fun v w => ?_
  rw [vD hR, vD i2]
  constructor
  ·intro a; exact ⟨(a.lt hR).1, (a.lt hR).2, afu hR a⟩
  ·rintro ⟨h1, h2, h3⟩
   have := ((acd hR).1 h3).2.2
   rwa [abV h1, abV h2] at this
 ·intro h
  refine h.ren N fun v w => ?_
  rw [vD hR, vD i2]
  exact acd hR
end
section
variable {n : Nat} {b : List Pr} (O : aeb n b)
include O
theorem aeb.bp {u w x y:Nat} (d:Jp b u w) (h2:Jp b x y):Pu b u x:=by
 have hR:=O.1.GD;have:=acq hR (fun p=>Pu b u p.1.toNat) (fun v a c ha e _=>?_) (H4 hR d) (H4 hR h2) (O.2.2 _ (H4 hR d) _ (H4 hR h2))
 .have c1:∀{v a},Jp b v a->Pu b v (GW v a).1.toNat:=fun{v a} h=>by
   rw[bj];simp only[Sb];rcases aeY v a with q|q
   .rw[Ua q];exact Pu.refl _ _
   .rw[NC q];exact abU h
  have:=this▸c1 d;exact this.trans (c1 h2).symm
 .have c1:∀{v a},Jp b v a->Pu b v (GW v a).1.toNat:=fun{v a} h=>by
   rw[bj];simp only[Sb];rcases aeY v a with q|q
   .rw[Ua q];exact Pu.refl _ _
   .rw[NC q];exact abU h
  exact propext ⟨fun q=>(q.trans (c1 ha).symm).trans (c1 e),fun q=>(q.trans (c1 e).symm).trans (c1 ha)⟩
def aeb.Bi {v a c:Nat} (ha:Jp b v a) (d:Jp b v c):Cn (wo v) b a c:=
 (dR O.1.GD ha d).1 (O.2.2 _ (H4 O.1.GD ha) _ (H4 O.1.GD d))
def aeb.two (D:2<=b.length):zW (aaC n b).length (abD n b):=by
 have hR:=O.1.GD;have f:∀{v},v<(aaC n b).length->v<n:=fun h=>dZ h (VU (EH _ _) Ma);have back:∀{v},v<(aaC n b).length->ofV n b v∈aaC n b:=fun{v} h=>by
  have:ofV n b v=(aaC n b)[v]:=by
   unfold ofV acx;rw[uV,AE h,CA h];rfl
  rw[this];exact Gw h
 have d:∀{on on':Nat->Bool} {u w},(∀x,x<n->on x=false->on' (toV n b x)=false)->u<n->Cn on b u w->Cn on' (abD n b) (toV n b u) (toV n b w):=fun{on on' u w} g i h=>by
  induction h with
  |refl o=>exact .refl (g _ i o)
  |step _ a o r=>exact .step r (afu hR a) (g _ (a.lt hR).2 o)
 have h3:3<=(aaC n b).length:=by
  have k:=ac4 O.1;have E:(abD n b).length=b.length:=by rw[abD,wI]
  refine fR fun l=>?_;have e:∀p∈abD n b,p=((0:Int),(1:Int)):=fun p s=>by
   have h:=k.GD p s;obtain⟨t,z⟩:=p;simp only at h;exact mT (show t=0 by omega) (show z=1 by omega)
  have m:0<(abD n b).length:=NH;have j:1<(abD n b).length:=NH;have:=K4.1 (Nl.1 k.q9) 0 1 m j WY;rw[e _ (Gw m),e _ (Gw j)]at this;simp at this
 have bp:∀u v,u<(aaC n b).length->v<(aaC n b).length->Pu (abD n b) u v:=fun u v i q=>by
  obtain⟨w,hw⟩:=(abK hR).1 (back i);obtain⟨y,A⟩:=(abK hR).1 (back q);have:=d (on:=offA) (on':=offA) (fun _ _ _=>rfl) (aec (f i)) (O.bp hw A);rwa[toV_ofV (f i),toV_ofV (f q)]at this
 refine⟨h3,jt NH bp,fun v ⟨a,c,ha,l,B⟩=>B ?_⟩;obtain⟨F,a1,j⟩:=(acd hR).1 ha;obtain⟨_,c1,h2⟩:=(acd hR).1 l;have:=d (on:=wo (ofV n b v)) (on':=wo v) (fun x C g=>iO fun e=>by
  subst e;rw[abV C]at g;simp[wo]at g) (aec a1) (O.Bi j h2)
 rwa[toV_ofV a1,toV_ofV c1]at this
theorem aeb.flat:abO n b↔b.length<9\/XU n (eN n b):=by
 unfold abO;rw[aed O.1.GD];by_cases c:b.length<9
 .exact⟨fun _=>.inl c,fun _=>.inl c⟩
 .constructor
  .rintro (h | h)
   .exact .inl h
   .exact .inr h.2.2
  .rintro (h | h)
   .exact .inl h
   .exact .inr ⟨ac4 O.1,O.two NH,h⟩
end
def acS {n:Nat} {es es':List Pr} (hs:es'.Sublist es) (h:abB n es):abB n es':=by
 have d:=h.1;have a:=d.sub hs;have hR:=d.GD;have f:=a.GD;refine(ab1 a).2 fun b hb=>(abT (abM a hb)).2 ?_;have O:=abM a hb;obtain⟨p,g,rfl⟩:=abI.1 hb;have hB:abQ n es (cQ n es p)∈vq n es:=abI.2 ⟨p,hs.subset g,rfl⟩;have i:=abM d hB;have sub:(abQ n es' (cQ n es' p)).Sublist (abQ n es (cQ n es p)):=by
  have e:abQ n es' (cQ n es' p)=(es'.filter fun q=>decide (cQ n es q=cQ n es p)).filter fun q=>decide (cQ n es' q=cQ n es' p):=by
   rw[acI];refine fj fun q j=>?_;by_cases c:cQ n es' q=cQ n es' p
   .rw[decide_eq_true c,decide_eq_true (afs hR (fun r d=>hs.subset d) f j g c)];rfl
   .rw[decide_eq_false c];rfl
  rw[e];exact vZ.trans (hs.filter _)
 have hf:=(i.flat).1 (h.2 _ hB);refine O.flat.2 ?_;rcases hf with q|q
 .exact .inl (Tj sub.length_le q)
 .refine .inr (q.less (fun v w k => ?_) (fun v w k => ?_))
  .rw [vD i.1.GD]
   exact((vD O.1.GD).1 k).imp (fun x=>sub.subset x) (fun x=>sub.subset x)
  .exact(vD O.1.GD).2 ((vD O.1.GD).1 k).symm
end Go.Fw
namespace Go.Fw
section
attribute [local irreducible] Kp MQ lU rS KO KN KX KE VK Kl ZJ TC aat
attribute [local irreducible] Jz aaR JL vq cQ
open Go.Proofs
def aeI (n:Nat) (es:List Pr):List Pr:=es.filter fun p=>!decide (p∈aaR n es)
attribute [local instance] Classical.propDecidable in
theorem aee {n:Nat} {es:List Pr} (a:bX ⟨(n:Int),es⟩):abB n (aeI n es)↔abB n es:=by
 refine⟨fun h=>(ab1 a).2 fun b hb=>?_,acS vZ⟩;have O:=abM a hb;refine(abT O).2 ?_;by_cases c:b.length<9
 .exact .inl c
 refine(abT O).1 (acS ?_ h);obtain⟨p,g,rfl⟩:=abI.1 hb;have e:abQ n es (cQ n es p)=(aeI n es).filter fun q=>decide (cQ n es q=cQ n es p):=by
  unfold aeI abQ;rw[acI];refine fj fun q f=>?_;by_cases k:cQ n es q=cQ n es p
  .have nb:q∉aaR n es:=fun d=>by
    rw[acL a.GD a.q9,EP,decide_eq_true_eq]at d;have:=(ad4 a f).2 d.2;rw[k]at this;exact c (by rw[abQ,this];decide)
   rw[decide_eq_true k,decide_eq_false nb];rfl
  .rw[decide_eq_false k];rfl
 rw[e];exact vZ
def adQ (l:LA) (v:Value) (G:GM) (h:AHeap) (hg:GR h v G):AC Tryz.prog l 42 [v] h fun x h'=>RR (bX G/\G.n<=16/\G.es.length<=40) x/\Le h h':=by
 have i:=hg;obtain⟨e,es⟩:=G
 obtain⟨y,rfl,m⟩:=hg.open
 refine AC.vE ⟨Tryz.func42,rfl,WY⟩ Tryz.ntmps42 Tryz.results42 fun j=>?_;simp only[kAr,Nat.reduceAdd];obtain⟨o,r,a,s,-,p⟩:=r8 (n:=e) j m
 generalize h.next=B at*
 have k:=p o (Le.refl _);have t:=fun g=>m.len g;refine Sk (XC r k.1) ?_;refine TC.intro PJ ⟨qS8,rfl,WY⟩ (ak l _ _ o (i.le a)) ?_;rintro x h2 z ⟨⟨u,rfl,d⟩,l2⟩;have b:=p h2 l2;cases u with
 |false=>
  refine Uy ?_;exact⟨RR.f (fun q=>by cases d.2 q.1),a.trans l2⟩
 |true=>
 have w:=d.1 rfl;by_cases c:e<=16
 rotate_left
 .have dc : decide (e <= 16) = false := decide_eq_false c
  refine Sk (IX @Ii @Ip.eq_1 @XJ b.2.1 dc) ?_;exact⟨RR.f (fun q=>c q.2.1),a.trans l2⟩
 have dc:decide (e<=16)=true:=decide_eq_true c;refine Sk (s9 @Ii @Di @Ip.eq_1 @XJ b.2.1 b.2.2 t dc) ?_;refine⟨⟨_,rfl,?_⟩,a.trans l2⟩;rw[decide_eq_true_eq];exact⟨fun q=>⟨w,c,NH⟩,fun q=>by have:=q.2.2;omega⟩
def eqBo (a b:Bool):aEq Tryz.prog 4 (.bool a) (.bool b)=some (a==b):=by simp[aEq,AV]
def adR (j:LA) (v:Value) (G:GM) (h:AHeap) (hg:GR h v G):
  AC Tryz.prog j 13 [v] h fun x h'=>x=.bool true/\Le h h':=by
 have o:=hg;obtain⟨gn,es⟩:=G
 obtain⟨W,rfl,Y⟩:=hg.open
 refine AC.vE ⟨Tryz.func13,rfl,WY⟩ Tryz.ntmps13 Tryz.results13 fun ag=>?_;simp only[kAr,Nat.reduceAdd];obtain⟨h1,b1,e,bk,-,w⟩:=r8 (n:=gn) ag Y
 generalize h.next=B at*
 have aj:=w h1 (Le.refl _);have lP:=fun g=>Y.len g;refine Sk (XC b1 aj.1) ?_;refine TC.intro PJ ⟨Tryz.func42,rfl,WY⟩ (adQ j _ ⟨gn,es⟩ h1 (o.le e)) ?_;rintro x h2 w2 ⟨⟨y,rfl,d⟩,l2⟩;have H:=e.trans l2;cases y with
 |false=>
  refine Uy ?_;refine TC.intro PJ ⟨Tryz.func34,rfl,WY⟩ (acF j h2) ?_;rintro x h3 w3 ⟨rfl,l3⟩;refine Uy ?_;exact⟨trivial,H.trans l3⟩
 |true=>
 obtain⟨l,I,J⟩:=d.1 rfl;clear d;have h0:0<=gn:=l.n0;obtain⟨n,rfl⟩:=yY h0;simp only at I J;refine Sk ((w h2 l2).1) ?_;refine TC.intro PJ ⟨Tryz.func46,rfl,WY⟩ (Cw j _ ⟨(n:Int),es⟩ h2 (o.le H)) ?_;rintro x h3 w3 ⟨l3,⟨hn,-⟩|⟨-,Z,rfl,hk⟩⟩
 .exact absurd l hn
 simp only[Sb]at hk;have lk:=fun g=>hk.len (P:=Tryz.prog) yo g;have al:=ab1 l;have K:∀b∈vq n es,b.Sublist es:=fun b hb=>by
  obtain⟨p,-,rfl⟩:=abI.1 hb;exact adN _
 have bm:=acP n es;generalize vq n es=bs at*;have z:=l2.trans l3;have bo:=e.trans z;refine Sk lk ?_;refine aat.intro (fun k fr A=>∃(i:Nat) (m:Bool),k=bs.length-i/\i<=bs.length/\fr=mkF [(1,.pointer (some ⟨B,0,none⟩)),(4,.int .i64 0),(5,.bool m),(22,Z),(23,.int .i64 bs.length),(24,.int .i64 i)]/\Le h3 A/\(m=true↔∀b∈bs.take i,abB n b))
  bs.length [(1,.pointer (some ⟨B,0,none⟩)),(4,.int .i64 0),(5,.bool true),(22,Z),(23,.int .i64 bs.length),(24,.int .i64 (0:Nat))] fD
  ⟨0,true,rfl,yM _,rfl,Le.refl _,⟨fun _ b hb=>by simp at hb,fun _=>rfl⟩⟩ ?_
 rintro k fr A br ⟨i,m,rfl,hi,rfl,F,r⟩;refine Uy ?_;refine Kl.intro (fun L=>?_) (fun hf=>?_)
 .have a : i < bs.length := CC L
  clear L;have f:bs.take (i+1)=bs.take i++[bs[i]]:=EL a;have aq:=Gw a;have M:=hk.addr (P:=Tryz.prog) yo eY Ji (k:=.i64) i a;obtain⟨u,ar,hu⟩:=hk.ae2 (P:=Tryz.prog) eY rfl i a;have lu:=ar A F;generalize bs[i]=b at*;have hs:=K b aq;have av:=l.sub hs;have nx:∀{P:Prop},(P↔abB n b)->((m=true/\P)↔∀c∈bs.take (i+1),abB n c):=fun{P} hP=>by
   rw[f,r,hP];constructor
   .rintro ⟨q1, q2⟩ c hc
    rcases WA.1 hc with q|q
    .exact q1 c q
    .rw[j9.1 q];exact q2
   .intro q
    exact⟨fun c hc=>q c (WA.2 (.inl hc)),q b Ma⟩
  have aw:=Tw i NH;cases m with
  |false=>
   simp only[HO,Nat.reduceLT,↓reduceIte,Nat.reduceEqDiff,reduceCtorEq,M,lu,aw];exact tn (bs.length-(i+1)) [(1,.pointer (some ⟨B,0,none⟩)),(4,.int .i64 0),(5,.bool false),(22,Z),(23,.int .i64 bs.length),(24,.int .i64 (i+1:Nat))] (JS a) fD
    ⟨i+1,false,rfl,a,rfl,F,by rw[<-nx acW];simp⟩
  |true=>
   have ay:=Wj (n:=(n:Int)) hu.sl;simp only[HO,Nat.reduceLT,↓reduceIte,Nat.reduceEqDiff,reduceCtorEq,M,lu,Ii,Ip,XJ,(w A (z.trans F)).2.1,ay];refine TC.intro PJ ⟨Xv,rfl,WY⟩ (abF j _ ⟨(n:Int),b⟩ A ⟨u,rfl,hu.le F⟩) ?_;rintro x h5 w5 ⟨⟨y,rfl,d⟩,l5⟩;simp only[Sb]at d;simp only[HO,Nat.reduceLT,↓reduceIte,Nat.reduceEqDiff,reduceCtorEq,aw];exact tn (bs.length-(i+1)) [(1,.pointer (some ⟨B,0,none⟩)),(4,.int .i64 0),(5,.bool y),(22,Z),(23,.int .i64 bs.length),(24,.int .i64 (i+1:Nat))] (JS a) fD
    ⟨i+1,y,rfl,a,rfl,F.trans l5,by rw[<-nx acW,d];exact⟨fun q=>⟨rfl,q.2⟩,fun q=>⟨av,q.2⟩⟩⟩
 have C:bs.length<=i:=vp hf;rw[HV C,<-al]at r;have D:=z.trans F;have aC:=e.trans D;refine Sk ((w A D).1) ?_;refine TC.intro PJ ⟨Tryz.func47,rfl,WY⟩ (adB j _ ⟨(n:Int),es⟩ A (o.le aC)) ?_;rintro x t w4 ⟨l4,⟨hn,-⟩|⟨-,N,rfl,gr,-⟩⟩
 .exact absurd l hn
 simp only[Sb]at gr;have pr:=gr.pr;have aD:=aee l;have aH:aeI n es=es.filter fun p=>!decide (p∈aaR n es):=rfl;have aJ:(aaR n es).length<=1000000:=by
  rw[acL l.GD l.q9];exact VU (EH _ _) NH
 have aK:bX ⟨(n:Int),aeI n es⟩:=l.sub vZ;generalize aeI n es=nb at*;generalize aaR n es=rs at*;have E:=D.trans l4;obtain⟨g1,g2,e1,e2,m2,aL,nX,G0⟩:=GX.new w4 (n:Int);have aN:=w t E;have O:=w g2 (E.trans m2);refine Sk (Pj @Ii @Di @Ip.eq_1 @XJ aN.2.1 @Zp e1 e2 O.2.2 lP) ?_
 have aP:t.own t.next=none:=(Le.refl t).next w4 (Ny _)
 generalize t.next=X at*
 refine aat.intro (fun k fr Q=>∃(i:Nat) (R:Value),k=es.length-i/\i<=es.length/\fr=mkF [(1,.pointer (some ⟨B,0,none⟩)),(4,.int .i64 0),(5,.bool m),(8,N),(9,.int .i64 0),(10,.pointer (some ⟨X,0,none⟩)),(46,W),(47,.int .i64 es.length),(48,.int .i64 i)]/\GX Q X n R ((es.take i).filter fun p=>!decide (p∈rs))/\Le t Q/\Z2 t R)
  es.length [(1,.pointer (some ⟨B,0,none⟩)),(4,.int .i64 0),(5,.bool m),(8,N),(9,.int .i64 0),(10,.pointer (some ⟨X,0,none⟩)),(46,W),(47,.int .i64 es.length),(48,.int .i64 (0:Nat))] fD
  ⟨0,_,rfl,yM _,rfl,G0,m2,fun b hb=>by simp[blk]at hb⟩ ?_
 clear G0 aL m2 e2 e1 O;clear g1 g2;rintro k fr Q aT ⟨i,R,rfl,hi,rfl,GG,lz,az⟩;have s:=E.trans lz;refine Uy ?_;refine Kl.intro (fun L=>?_) (fun hf=>?_)
 .have a : i < es.length := CC L
  clear L;have aW:=CA a
  have f:(es.take (i+1)).filter (fun p=>!decide (p∈rs))=(es.take i).filter (fun p=>!decide (p∈rs))++if es[i]∈rs then[]else[es[i]]:=by
   rw[EL a,xD];by_cases c:es[i]∈rs
   .rw[if_pos c];simp[c]
   .rw[if_neg c];simp[c]
  have aX:((es.take i).filter fun p=>!decide (p∈rs)).length+1<=100000:=by
   have:=EH (fun p=>!decide (p∈rs)) (es.take i);rw[zx]at this;omega
  generalize es[i]=p at*;have ad:=Y.addr (k:=.i64) i a;have ld:=(Y.le (e.trans s)).load aW;obtain⟨bx,h6,e6,s6,l6,w6,o6⟩:=Ut aT p;have a6:=uM o6;have aw:=Tw i NH;simp only[HO,Nat.reduceLT,↓reduceIte,Nat.reduceEqDiff,reduceCtorEq,ad,ld,e6,s6,a6];refine TC.intro PJ ⟨Tryz.func48,rfl,WY⟩ (ac8 j N rs p h6 (pr.le (lz.trans l6)) aJ) ?_;rintro x h7 w7 ⟨rfl,l7⟩;have G7:=GG.le (l6.trans l7);have S:=lz.trans (l6.trans l7);by_cases c:p∈rs
  .have dc : decide (p ∈ rs) = true := decide_eq_true c
   rw[if_pos c,Gg]at f;rw[<-f]at G7;simp only[HO,Nat.reduceLT,↓reduceIte,Nat.reduceEqDiff,reduceCtorEq,dc,aw];exact tn (es.length-(i+1)) [(1,.pointer (some ⟨B,0,none⟩)),(4,.int .i64 0),(5,.bool m),(8,N),(9,.int .i64 0),(10,.pointer (some ⟨X,0,none⟩)),(46,W),(47,.int .i64 es.length),(48,.int .i64 (i+1:Nat))] (JS a) fD
    ⟨i+1,R,rfl,a,rfl,G7,S,az⟩
  .have dc : decide (p ∈ rs) = false := decide_eq_false c
   rw[if_neg c]at f;obtain⟨v',g4,g5,g6,q4,q5,q6,T,w8,l8,f8,-⟩:=G7.push' w7 p aX;obtain⟨a7,a8⟩:=f8 t S aP az;rw[<-f]at T;have U:=uM (l7.own _ _ o6);simp only[HO,Nat.reduceLT,↓reduceIte,Nat.reduceEqDiff,reduceCtorEq,dc,Di,Ip,XJ,G7.ld.2.2,U,q4,q5,q6,aw];exact tn (es.length-(i+1)) [(1,.pointer (some ⟨B,0,none⟩)),(4,.int .i64 0),(5,.bool m),(8,N),(9,.int .i64 0),(10,.pointer (some ⟨X,0,none⟩)),(46,W),(47,.int .i64 es.length),(48,.int .i64 (i+1:Nat))] (JS a) fD
    ⟨i+1,v',rfl,a,rfl,T,a7,a8⟩
 have C:es.length<=i:=vp hf;rw[HV C,<-aH]at GG;have bg:awrap .i64 (0+0)=0:=by decide
 have d0:decide ((0:Int)=0)=true:=by decide
 refine Sk (Yb bg d0 ((w Q s).1)) ?_;refine TC.intro PJ ⟨Xv,rfl,WY⟩ (abF j _ ⟨(n:Int),es⟩ Q (o.le (e.trans s))) ?_;rintro x h8 w8 ⟨⟨y,rfl,d⟩,l8⟩;simp only[Sb]at d;have e1:y=m:=by
  rw[adi,r,d];exact⟨fun q=>q.2,fun q=>⟨l,q⟩⟩
 subst e1;have db:∀b:Bool,decide (b=b)=true:=fun b=>decide_eq_true rfl;have T:=GG.le l8;refine Sk (xU @eqBo @beq_self_eq_true.{0} db T.ld.1) ?_
 refine TC.intro PJ ⟨Xv,rfl,WY⟩ (abF j _ ⟨(n:Int),nb⟩ h8 ⟨R,rfl,T.gp.pr⟩) ?_;rintro x h9 w9 ⟨⟨b2,rfl,V⟩,l9⟩;simp only[Sb]at V;have e2:b2=y:=by
  rw[adi,r,V,aD];exact⟨fun q=>q.2,fun q=>⟨aK,q⟩⟩
 subst e2;refine Sk (Yb @eqBo @beq_self_eq_true.{0} db) ?_
 refine TC.intro PJ ⟨Tryz.func34,rfl,WY⟩ (acF j h9) ?_;rintro x bB bF ⟨rfl,bh⟩;refine Uy ?_;exact⟨trivial,(((e.trans s).trans l8).trans l9).trans bh⟩
end
section
open Go.Proofs Go.ChangeShapes Go.WideShapes Go.RowKit Go.ChangeAt
open Go.Proofs.YtkccdnmaaelbiaaGreat
def acv (os:Os) (started:os.Started) (H:Type) (enc:TypeId×Value->H):
  ReturnsInHanded {} Tryz.checked os 13 .any (Rows.kuraBlocksSpec.pre6 enc Tryz.prog Tryz.f13 Rows.kuraBlocksRow.domain false) (Rows.kuraBlocksSpec.post enc Tryz.prog Tryz.f13 false true false false):=by
 have own:ownKnob Tryz.prog.godebug=Option.none:=Ji;have laidOut:laidOutB Tryz.prog=true:=Ji;refine returnsInHanded_of_change (C:=Tryz.checked) own started Ji Tryz.func13
  (ChangeSpec.witness6 (enc:=enc) (C:=Tryz.checked) false ⟨#[],#[.agg #[.int .i64 0,.slice Option.none 0 0]],[]⟩ 8 Ji Ji Ji Ji) ?_
 intro W base args ds gs before c m n _;have b:∀(j:Nat) t v,Tryz.f13.params[j]?=some t->args[j]?=some v->Value.okWide Tryz.prog W .any base t v:=c;have f:=m;obtain⟨p,q,h,r,rfl,s,u⟩:=m;have hA:DataW.TrodAll enc Tryz.prog W 0 (fun _=>true) true Tryz.f13.params.toList args.toList ds p:=h;rw[Tryz.params13]at hA b;obtain⟨i,E,F,G,w,I,a,rfl,rfl,o,hA⟩:=trodAll_cons hA;obtain⟨rfl,rfl,rfl⟩:=trodAll_nil hA;obtain rfl:args=#[i]:=by cases args;simp_all
 obtain⟨rfl,rfl⟩:=trodVars_none r;obtain⟨z,x0,k,l⟩:=adZ (b 0 24 i rfl rfl) o (fun _=>⟨0,0,0⟩);refine(adR (LA.of W) z x0 (MR W) l [] (fun _=>⟨0,0,0⟩) W [i] (Rel.start W _) ?_).mono ?_
 .exact .cons k ((.nil _ _))
 .rintro e A ⟨x, x', J, h', rfl, R, -, -, B, rfl, -⟩
  obtain rfl:=B.YE;have hb:=R.below;have g:∀y∈w,y.block<W.heap.size:=fun y D=>f.lt y (by simp[D]);have d:DataW.Trod enc Tryz.prog A W.heap.size (fun _=>false) false 4 (.bool true) (.lit (.bool true)) []:=⟨1,by simp[DataW.trod,Value.cells,AV]⟩;have a:=
   tcons (Below.trod laidOut Ji (of_decide_eq_true Ji) o hb g) (trodAll_mk0)
  try simp only[Gg,cJ]at a
  exact⟨_,rfl,_,_,_,[],_,[],f,trodAll_mk1 d,a,rfl,hb.frame _,fun e=>by cases e⟩
def kuraBlocks_said:Rows.KuraBlocksSaid:=
 OpenClaim.holds_of_wide 13 Tryz.f13 rfl rfl rfl rfl rfl rfl rfl ⟨rfl,rfl,rfl,rfl,rfl⟩ rfl rfl rfl rfl rfl Ji Tryz.func13 Ji
  (of_decide_eq_true Ji) (by unfold Func.isWrapper;first|(rw[if_pos iw];kernel_rfl)|(rw[if_neg iw];exact⟨rfl,rfl⟩))
  (fun os started H enc _=>acv os started H enc)
end
end Go.Fw
