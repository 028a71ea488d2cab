/- A text. -/
import Derived.Test.YtkccdnmaaelbiaaGreatFwKA5
import Derived.Test.YtkccdnmaaelbiaaGreatFwKA6
set_option linter.all false
set_option maxRecDepth 99999
set_option maxHeartbeats 9999999
namespace Go.Fw
section
attribute [local irreducible] Kp MQ lU rS KO KN KX KE VK Kl ZJ TC aat
attribute [local irreducible] Jz JL vq cQ
open Go.Proofs
variable {a j:Nat}
def acT (a j:Nat):List Pr:=(List.range (j-(a+1))).map fun t=>((a:Int),((a+1+t:Nat):Int))
def eachF (f n:Nat):Nat->List Pr
 |0=>[]
 |k+1=>eachF f n k++acT (f+k) n
def aeH (h:a+1<=j):acT a (j+1)=acT a j++[((a:Int),(j:Int))]:=by
 unfold acT;rw[show j+1-(a+1)=(j-(a+1))+1 by omega,b7,AQ];simp;omega
def adC (a j:Nat):(acT a j).length<=j:=by simp[acT]
def adD (f n:Nat):∀k,(eachF f n k).length<=n*k
 |0=>qL0 _
 |k+1=>by
  have:=adD f n k;have:=adC (f+k) n;rw[eachF,Eh,Nat.mul_add];omega
def aeh (f n:Nat):List Pr:=eachF f n (n-f)
def acy (y:LA) (f n:Nat) (h:AHeap) (u:n<=100) (hf:f<=n):AC Tryz.prog y 44 [.int .i64 (f:Int),.int .i64 (n:Int)] h fun x h'=>GP h' x (aeh f n)/\Le h h'/\Z2 h x:=by
 refine AC.vE ⟨Tryz.func44,rfl,WY⟩ Tryz.ntmps44 Tryz.results44 fun z=>?_;simp only[Br,Nat.reduceAdd];have m:∀k,k<=n->(eachF f n k).length<=10000:=fun k A=>EP (adD f n k) (To u (EP A u));refine Uy ?_;refine aat.intro (fun k fr l=>∃(i:Nat) (v:Value),k=n-f-i/\f+i<=n/\fr=mkF [(1,.int .i64 (n:Nat)),(5,v),(6,.int .i64 (f+i:Nat))]/\GP l v (eachF f n i)/\Le h l/\Z2 h v)
  (n-f) [(1,.int .i64 (n:Nat)),(5,.slice none 0 0),(6,.int .i64 (f:Nat))] fD ⟨0,_,rfl,hf,rfl,GP.nil h,Le.refl _,fun b hb=>by simp[blk]at hb⟩ ?_
 rintro k fr l o ⟨i,v,rfl,hi,rfl,g,d,ap⟩;by_cases c:f+i<n
 rotate_left
 .have dc : decide (((f + i : Nat) : Int) < (n : Int)) = false := decide_eq_false NH
  have a:(((f+i:Nat):Int)<(n:Int))=False:=eq_false NH;have e:n-f=i:=NH;refine Sk (XC dc a) ?_;exact⟨by rw[aeh,e];exact g,d,ap⟩
 have dc:decide (((f+i:Nat):Int)<(n:Int))=true:=decide_eq_true NH;have a:(((f+i:Nat):Int)<(n:Int))=True:=eq_true NH;have aw:=Tw (f+i) NH;have B:=m i NH;simp only[HO,Nat.reduceLT,↓reduceIte,Nat.reduceEqDiff,reduceCtorEq,dc,a,aw];refine aat.intro (fun k fr p=>∃(j:Nat) (v:Value),k=n-j/\f+i+1<=j/\j<=n/\fr=mkF [(1,.int .i64 (n:Nat)),(5,v),(6,.int .i64 (f+i:Nat)),(7,.int .i64 (j:Nat))]/\GP p v (eachF f n i++acT (f+i) j)/\Le h p/\Z2 h v)
  (n-(f+i+1)) [(1,.int .i64 (n:Nat)),(5,v),(6,.int .i64 (f+i:Nat)),(7,.int .i64 (f+i+1:Nat))] fD ⟨f+i+1,v,rfl,qL0 _,NH,rfl,by simpa[acT]using g,d,ap⟩ ?_
 clear g d ap o;clear l v;rintro k fr p q ⟨j,v,rfl,C,D,rfl,g,d,ap⟩;by_cases c2:j<n
 rotate_left
 .have dc : decide (((j : Nat) : Int) < (n : Int)) = false := decide_eq_false NH
  have a:(((j:Nat):Int)<(n:Int))=False:=eq_false NH;obtain rfl:j=n:=NH;simp only[HO,Nat.reduceLT,↓reduceIte,Nat.reduceEqDiff,reduceCtorEq,dc,a,aw];exact tn (j-f-(i+1)) [(1,.int .i64 (j:Nat)),(5,v),(6,.int .i64 (f+i+1:Nat))] NH fD ⟨i+1,v,rfl,NH,rfl,g,d,ap⟩
 have dc:decide (((j:Nat):Int)<(n:Int))=true:=decide_eq_true NH;have a:(((j:Nat):Int)<(n:Int))=True:=eq_true NH;have r:=Tw j NH;have E:=adC (f+i) j;obtain⟨v',H,I,e4,F,w,J,l4,s,-⟩:=g.push q (((f+i:Nat):Int),(j:Int)) (by rw[Eh];omega);obtain⟨l5,G⟩:=s h d ap;rw[Bx,<-aeH C]at w;have t:=xe ((f+i:Nat):Int) (j:Int);refine Sk (bG dc a t e4 F r) ?_;exact tn (n-(j+1)) [(1,.int .i64 (n:Nat)),(5,v'),(6,.int .i64 (f+i:Nat)),(7,.int .i64 (j+1:Nat))] NH fD ⟨j+1,v',rfl,NH,NH,rfl,w,l5,G⟩
def mkP9 (h:AHeap) (a b c d e f g i j:Pr):aBuildSlice Tryz.prog h 22 9 [(0,UI a),(1,UI b),(2,UI c),(3,UI d),(4,UI e),(5,UI f),(6,UI g),(7,UI i),(8,UI j)]=some (.slice (some ⟨h.next,0,none⟩) 9 9,h.alloc (.cells (Iu [a,b,c,d,e,f,g,i,j]))):=Ji
def acU (c:LA) (h:AHeap):AC Tryz.prog c 71 [] h fun x h'=>GP h' x E9/\Le h h'/\Z2 h x:=by
 refine AC.vE ⟨Tryz.func71,rfl,WY⟩ Tryz.ntmps71 Tryz.results71 fun a=>?_;simp only[Br,Nat.reduceAdd];obtain⟨i,d,l1,w1,e⟩:=Tt a (Iu E9);have m:=mkP9 h (0,3) (0,4) (0,5) (1,3) (1,4) (1,5) (2,3) (2,4) (2,5);have f:Iu [(0,3),(0,4),(0,5),(1,3),(1,4),(1,5),(2,3),(2,4),(2,5)]=Iu E9:=rfl;rw[f,d]at m
 have g:h.own h.next=none:=(Le.refl h).next a (qL0 _)
 refine Sk (XC @xe m) ?_;exact⟨GS.full e rfl WY,l1,fun b hb=>by injection hb with hb;subst hb;exact g⟩
def acj (a:LA) (h:AHeap):AC Tryz.prog a 34 [] h fun x h'=>x=.bool true/\Le h h':=by
 refine AC.vE ⟨Tryz.func34,rfl,WY⟩ Tryz.ntmps34 Tryz.results34 fun aT=>?_;simp only[Br,Nat.reduceAdd];have P:decide ((0:Int)=0)=true:=by decide
 have d5:decide ((5:Int)=5)=true:=by decide
 have S:decide ((33:Int)=33)=true:=by decide
 have T:awrap .i64 (0+0)=0:=by decide
 have E5:aeh 0 5=k5L:=by decide
 have E6:aeh 0 6=k6L:=by decide
 have EU:aeh 1 6=k5U:=by decide
 refine Uy ?_;refine TC.intro PJ ⟨Tryz.func44,rfl,WY⟩ (acy a 0 5 h WY WY) ?_;rintro U h1 w1 ⟨Q,l1,-⟩;rw[E5]at Q;refine Uy ?_;refine TC.intro PJ ⟨Tryz.func44,rfl,WY⟩ (acy a 0 6 h1 WY WY) ?_;rintro v6 h2 w2 ⟨V,l2,-⟩;rw[E6]at V;have j:=Q.le l2;have y:=Wj (n:=5) Q.pr.sl;refine Sk y ?_;refine TC.intro PJ ⟨abr,rfl,WY⟩ (aco a _ ⟨((5:Nat):Int),k5L⟩ h2 ⟨U,rfl,j.pr⟩) ?_;rintro x h3 w3 ⟨l3,⟨k,-⟩|⟨-,a5,rfl,f5,-⟩⟩
 .exact absurd k5R k
 rw[fnd_k5]at f5;have W:=Wj (n:=6) V.pr.sl;refine Sk W ?_;refine TC.intro PJ ⟨abr,rfl,WY⟩ (aco a _ ⟨((6:Nat):Int),k6L⟩ h3 ⟨v6,rfl,(V.le l3).pr⟩) ?_;rintro x h4 w4 ⟨l4,⟨k,-⟩|⟨-,a6,rfl,f6,-⟩⟩
 .exact absurd k6R k
 rw[fnd_k6]at f6;refine Uy ?_;refine TC.intro PJ ⟨Tryz.func71,rfl,WY⟩ (acU a h4) ?_;rintro v3 h5 w5 ⟨g3,l5,-⟩;have X:=Wj (n:=6) g3.pr.sl;refine Sk X ?_;refine TC.intro PJ ⟨abr,rfl,WY⟩ (aco a _ ⟨((6:Nat):Int),E9⟩ h5 ⟨v3,rfl,g3.pr⟩) ?_;rintro x Y w6 ⟨l6,⟨k,-⟩|⟨-,a3,rfl,Z,-⟩⟩
 .exact absurd k33R k
 rw[fnd_k33]at Z;obtain⟨h7,e7,R,w7,o7⟩:=Tt w6 (Iu LO);have m7:=mkP4 Y (0,1) (0,3) (1,2) (2,3);have ag:Iu [(0,1),(0,3),(1,2),(2,3)]=Iu LO:=rfl;rw[ag,e7]at m7
 have p7:PR h7 (.slice (some ⟨Y.next,0,none⟩) 4 4) LO:=PR.made o7 rfl
 obtain⟨h8,h9,a8,s8,z,w9,lG⟩:=afN (n:=4) w7 p7;have aj:=Wj (n:=4) p7.sl;refine Sk (bG @xe m7 aj a8 s8 ((lG h9 (Le.refl _)).1)) ?_
 generalize Y.next=R4 at*
 generalize h7.next=G4 at*
 have p9:=p7.le z;refine TC.intro PJ ⟨abr,rfl,WY⟩ (aco a _ ⟨((4:Nat):Int),LO⟩ h9 ⟨_,rfl,p9⟩) ?_;rintro x A aW ⟨b,⟨k,-⟩|⟨-,a4,rfl,f4,-⟩⟩
 .exact absurd c4R k
 rw[fnd_c4]at f4;have m:=l3.trans (l4.trans (l5.trans (l6.trans (R.trans (z.trans b)))));refine Sk (XC T P) ?_;refine TC.intro PJ ⟨Tryz.func39,rfl,WY⟩ (ab5 a a5 U k5L k5L A (f5.le (l4.trans (l5.trans (l6.trans (R.trans (z.trans b)))))) (j.pr.le m) WY) ?_;rintro x B aX ⟨rfl,al⟩;have o:Le A B:=by rw[al];exact Le.refl _
 have sp:∀l:List Pr,decide (l=l)=true:=fun l=>decide_eq_true rfl;simp only[HO,Nat.reduceLT,↓reduceIte,Nat.reduceEqDiff,reduceCtorEq,sp];refine TC.intro PJ ⟨Tryz.func44,rfl,WY⟩ (acy a 1 6 B WY WY) ?_;rintro vU C a7 ⟨gU,p,-⟩;rw[EU]at gU;refine Uy ?_;have D:=f6.le (l5.trans (l6.trans (R.trans (z.trans (b.trans (o.trans p))))));refine TC.intro PJ ⟨Tryz.func39,rfl,WY⟩ (ab5 a a6 vU k5U k5U C D gU.pr WY) ?_;rintro x E bg ⟨rfl,aq⟩;have q:Le C E:=by rw[aq];exact Le.refl _
 simp only[HO,Nat.reduceLT,↓reduceIte,Nat.reduceEqDiff,reduceCtorEq,sp];refine TC.intro PJ ⟨Tryz.func71,rfl,WY⟩ (acU a E) ?_;rintro vT F bh ⟨gT,r,-⟩;refine Uy ?_;have G:=R.trans (z.trans (b.trans (o.trans (p.trans (q.trans r)))));refine TC.intro PJ ⟨Tryz.func39,rfl,WY⟩ (ab5 a a3 vT E9 E9 F (Z.le G) gT.pr WY) ?_;rintro x H bk ⟨rfl,ar⟩;have s:Le F H:=by rw[ar];exact Le.refl _
 have c:=o.trans (p.trans (q.trans (r.trans s)));have av:=fun g=>f4.len g;have t:=j.pr.le (m.trans c);simp only[HO,Nat.reduceLT,↓reduceIte,Nat.reduceEqDiff,reduceCtorEq,sp,av,adg,aaQ,P];refine TC.intro PJ ⟨YW,rfl,WY⟩ (abY a U k5L H t) ?_;rintro x ay bm ⟨rfl,u⟩;obtain⟨cv,cut,pc,cc⟩:=t.cut (GS.okc Q) (i:=1) WY;simp only[afz]at cut;simp only[HO,Nat.reduceLT,↓reduceIte,Nat.reduceEqDiff,reduceCtorEq,kind_k5,d5,cut];refine TC.intro PJ ⟨YW,rfl,WY⟩ (abY a cv m5E ay (pc.le u)) ?_;rintro x az bo ⟨rfl,I⟩;refine Sk (XC @kind_m5 P) ?_;refine TC.intro PJ ⟨YW,rfl,WY⟩ (abY a a6 k5U az ((D.le (q.trans (r.trans s))).le (u.trans I))) ?_;rintro x aC br ⟨rfl,aD⟩;have d:=u.trans (I.trans aD);refine Sk (XC @afV d5) ?_;refine TC.intro PJ ⟨YW,rfl,WY⟩ (abY a a3 E9 aC ((Z.le (G.trans s)).le d)) ?_;rintro x J bx ⟨rfl,K⟩;have f:=b.trans (c.trans (d.trans K));refine Sk (bG @afW S @Di @Ip.eq_1 @BS ((lG J f).2.2)) ?_;refine TC.intro PJ ⟨YW,rfl,WY⟩ (abY a _ LO J (p9.le f)) ?_;rintro x L bB ⟨rfl,v⟩;refine Sk (Yb @kind_c4 P ((lG L (f.trans v)).1)) ?_;refine TC.intro PJ ⟨zL,rfl,WY⟩ (abJ a _ ⟨((4:Nat):Int),LO⟩ L ⟨_,rfl,p9.le (f.trans v)⟩) ?_;rintro x aF bF ⟨⟨w,rfl,aH⟩,aJ⟩;obtain rfl:w=true:=aH.2 ⟨c4R,ae0⟩;have e:=d.trans (K.trans (v.trans aJ));have aK:=Wj (n:=5) pc.sl;simp only[HO,Nat.reduceLT,↓reduceIte,Nat.reduceEqDiff,reduceCtorEq,cut,aK];refine TC.intro PJ ⟨zL,rfl,WY⟩ (abJ a _ ⟨((5:Nat):Int),m5E⟩ aF ⟨_,rfl,pc.le e⟩) ?_;rintro x aL bH ⟨⟨w,rfl,M⟩,N⟩;obtain rfl:w=true:=M.2 ⟨m5R,m5_plan⟩;refine Sk y ?_;refine TC.intro PJ ⟨zL,rfl,WY⟩ (abJ a _ ⟨((5:Nat):Int),k5L⟩ aL ⟨_,rfl,t.le (e.trans N)⟩) ?_;rintro x bI bN ⟨⟨w,rfl,O⟩,aN⟩;have aP:w=false:=by
  cases w with
  |false=>rfl
  |true=>exact absurd (O.1 rfl).2 k5_np
 subst aP;refine Uy ?_;exact⟨trivial,(l1.trans (l2.trans (m.trans c))).trans (e.trans (N.trans aN))⟩
end
end Go.Fw
namespace Go.Fw
open Go.Proofs
attribute [local irreducible] Jz JL vq cQ
attribute [local instance] Classical.propDecidable
def ae3 {on on':Nat->Bool} (b:∀u,on u=false->on' u=false) {es:List Pr} {u w:Nat} (h:Cn on es u w):Cn on' es u w:=by
 induction h with
 |refl h=>exact .refl (b _ h)
 |step _ a o c=>exact .step c a (b _ o)
def afj {on:Nat->Bool} {es:List Pr} {S:Nat->Prop} {x0 c:Nat} (h:Cn on es x0 c) (e:S x0) (b:¬S c):∃x y,S x/\¬S y/\Jp es x y/\Cn (fun u=>on u||decide (S u)) es y c:=by
 induction h with
 |refl _=>exact absurd e b
 |@step w x h a o f=>
  have d:(on x||decide (S x))=false:=by rw[o,decide_eq_false b];rfl
  by_cases hw:S w
  .exact⟨w,x,hw,b,a,.refl d⟩
  .obtain ⟨p, q, g, h2, h3, i⟩ := f hw
   exact⟨p,q,g,h2,h3,.step i a d⟩
def afZ {on:Nat->Bool} {es:List Pr} {t a w:Nat} (ne:a≠t) (h:Cn on es a w):Cn (fun u=>on u||decide (u=t)) es a w\/∃z,Jp es z t/\Cn (fun u=>on u||decide (u=t)) es a z:=by
 induction h with
 |refl h=>exact .inl (.refl (by rw[h,decide_eq_false ne];rfl))
 |@step w x h a o b=>
  rcases b with q|q
  .by_cases e : x = t
   .subst e;exact .inr ⟨w,a,q⟩
   .exact .inl (.step q a (by rw[o,decide_eq_false e];rfl))
  .exact .inr q
def abW (n:Nat) (es:List Pr) (k:Int):List Pr:=es.filter fun p=>decide (cQ n es p=k)
section
variable {n : Nat} {es : List Pr} (hr : aV n es)
def abG {k:Int} {p:Pr}:p∈abW n es k↔p∈es/\cQ n es p=k:=by simp[abW]
def af0 (k:Int):(abW n es k).Sublist es:=fR
include hr
def acW (k:Int):aV n (abW n es k):=fun p a=>hr p (abG.1 a).1
def aca {k:Int} {u w:Nat}:Jp (abW n es k) u w↔Jp es u w/\cQ n es (GW u w)=k:=by
 constructor
 .intro h
  have a:=abG.1 (H4 (acW hr k) h);exact⟨h.imp (fun q=>(abG.1 q).1) (fun q=>(abG.1 q).1),a.2⟩
 .rintro ⟨a, h2⟩
  have b:=abG.2 ⟨H4 hr a,h2⟩;have ne:u≠w:=fun e=>by subst e;exact Xa hr a
  rcases Gq ne with c|c
  .left;rwa[GW,Int.min_eq_left NH,Int.max_eq_right NH]at b
  .right;rwa[GW,Int.min_eq_right NH,Int.max_eq_left NH]at b
def af1 {v a c:Nat} (ha:Jp es v a) (r:Jp es v c) (h:Cn (wo v) es a c):Cn (wo v) (abW n es (cQ n es (GW v a))) a c:=by
 generalize s:cQ n es (GW v a)=K;have nva:a≠v:=fun e=>by subst e;exact Xa hr ha
 refine j9 fun t=>?_;have i:Cn (wo v) (abW n es K) a a:=.refl (iO nva);obtain⟨x,y,g,w,b,f⟩:=afj (S:=fun u=>Cn (wo v) (abW n es K) a u) h i t;have j:y≠v:=fun e=>by have:=f.off1;rw[e]at this;simp[wo]at this
 have key:cQ n es (GW x y)=K:=by
  have off:∀u,(wo v u||decide (Cn (wo v) (abW n es K) a u))=false->wo x u=false:=fun u d=>by
   rw[Bool.or_eq_false_iff]at d;exact iO fun e=>by rw[e]at d;exact of_decide_eq_false d.2 g
  have k:v≠x:=fun e=>by have:=g.AB;rw[<-e]at this;simp[wo]at this
  have o:Cn (wo x) es y v:=.step (ae3 off f) r.symm (iO k);by_cases e:x=a
  .subst e
   rw[(dR hr b ha.symm).2 o,so];exact s
  .rcases afZ (ff e) g with q | ⟨z, A, q⟩
   .have:=q.AB;simp at this
   .obtain ⟨l, m⟩ := (aca hr).1 A
    have B:Cn (wo x) es a z:=by
     have:Cn (wo x) (abW n es K) a z:=ae3 (fun u d=>iO fun e=>by rw[e]at d;simp at d) q;exact this.mono fun p C=>(abG.1 C).1
    have ya:Cn (wo x) es y z:=(Cn.step o ha (iO (ff e))).trans B;rw[(dR hr b l.symm).2 ya,so];exact m
 exact w (.step g ((aca hr).2 ⟨b,key⟩) (iO j))
def blk_one {k:Int} {p q:Pr} (d:p∈abW n es k) (f:q∈abW n es k):cQ n (abW n es k) p=cQ n (abW n es k) q:=by
 have hb:=acW hr k
 have:=ac0 hr (fun r=>if r∈abW n es k then cQ n (abW n es k) r else-1) (fun v a c ha b h=>?_) (abG.1 d).1 (abG.1 f).1 ((abG.1 d).2.trans (abG.1 f).2.symm)
 .rw[if_pos d,if_pos f]at this;exact this
 have e:=(dR hr ha b).2 h;have m1:GW v a∈abW n es k↔cQ n es (GW v a)=k:=by rw[abG];exact⟨fun q=>q.2,fun q=>⟨H4 hr ha,q⟩⟩
 have m2:GW v c∈abW n es k↔cQ n es (GW v c)=k:=by rw[abG];exact⟨fun q=>q.2,fun q=>⟨H4 hr b,q⟩⟩
 by_cases c1:cQ n es (GW v a)=k
 .have c2 : cQ n es (GW v c) = k := e ▸ c1
  rw[if_pos (m1.2 c1),if_pos (m2.2 c2)];refine(dR hb ((aca hr).2 ⟨ha,c1⟩) ((aca hr).2 ⟨b,c2⟩)).2 ?_;have:=af1 hr ha b h;rwa[c1]at this
 .rw[if_neg (fun q=>c1 (m1.1 q)),if_neg (fun q=>c1 (by rw[e];exact m2.1 q))]
end
def abT {n:Nat} {es b:List Pr}:b∈vq n es↔∃p∈es,b=abW n es (cQ n es p):=by
 rw[aai,yM];constructor
 .rintro ⟨k, c, rfl⟩
  obtain⟨p,a,rfl⟩:=((lQ (cQ n es) _ es rfl).2 k).1 c;exact⟨p,a,rfl⟩
 .rintro ⟨p, a, rfl⟩
  exact⟨cQ n es p,((lQ (cQ n es) _ es rfl).2 _).2 ⟨p,a,rfl⟩,rfl⟩
def aei {n:Nat} {es:List Pr} (h:∀p∈es,∀q∈es,cQ n es p=cQ n es q) {b:List Pr} (hb:b∈vq n es):b=es:=by
 obtain⟨p,a,rfl⟩:=abT.1 hb;exact OM.2 fun q c=>decide_eq_true (h q c p a)
def afk {n:Nat} {es:List Pr} (h:∀p∈es,∀q∈es,cQ n es p=cQ n es q) (a:es≠[]):es∈vq n es:=by
 obtain⟨p,l,rfl⟩:=iy a;exact abT.2 ⟨p,Ma,(OM.2 fun q b=>decide_eq_true (h q b p Ma)).symm⟩
def aeI (n:Nat) (b:List Pr):Prop:=bX ⟨(n:Int),b⟩/\b≠[]/\∀p∈b,∀q∈b,cQ n b p=cQ n b q
def ab1 {n:Nat} {es b:List Pr} (hr:bX ⟨(n:Int),es⟩) (hb:b∈vq n es):aeI n b:=by
 obtain⟨p,d,rfl⟩:=abT.1 hb;exact⟨hr.sub (af0 _),List.ne_nil_of_mem (abG.2 ⟨d,rfl⟩),fun a ha c e=>blk_one hr.GD ha e⟩
def acz {n:Nat} {b:List Pr} (h:aeI n b):abE n b↔abP n b:=
 ⟨fun q=>q.2 b (afk h.2.2 h.2.1),fun q=>⟨h.1,fun c a=>by rw[aei h.2.2 a];exact q⟩⟩
def adQ {n:Nat} {es:List Pr} (hr:bX ⟨(n:Int),es⟩):abE n es↔∀b∈vq n es,abE n b:=
 ⟨fun q b hb=>(acz (ab1 hr hb)).2 (q.2 b hb),fun q=>⟨hr,fun b hb=>(acz (ab1 hr hb)).1 (q b hb)⟩⟩
end Go.Fw
namespace Go.Fw
open Go.Proofs
attribute [local irreducible] Jz JL vq cQ
attribute [local instance] Classical.propDecidable
section
variable {n : Nat} {b : List Pr} (hR : aV n b)
def acL (n:Nat) (b:List Pr):II:=aaR n b++(List.range n).filter fun(v:Nat)=>!b.any fun p=>aO p (v:Int)
def toV (n:Nat) (b:List Pr) (u:Nat):Nat:=(acL n b).idxOf u
def ofV (n:Nat) (b:List Pr) (i:Nat):Nat:=(acL n b).getD i 0
def acM:(acL n b).Perm (List.range n):=by
 unfold acL aaR;exact qL202 _ _
def ac5:(acL n b).length=n:=by rw[(acM (n:=n) (b:=b)).length_eq,iB]
def ordL_nd:(acL n b).Nodup:=(acM (n:=n) (b:=b)).nodup_iff.2 Hs
def ac6 {u:Nat}:u∈acL n b↔u<n:=by rw[(acM (n:=n) (b:=b)).mem_iff,ZT]
def toV_lt {u:Nat} (h:u<n):toV n b u<n:=by
 have:=Dl (ac6 (b:=b)|>.2 h);rwa[ac5]at this
def aeJ {i:Nat} (h:i<n):ofV n b i<n:=by
 have a:i<(acL n b).length:=by rw[ac5];exact h
 have:ofV n b i=(acL n b)[i]:=D4 a;rw[this];exact ac6.1 (Gw a)
def ab2 {u:Nat} (h:u<n):ofV n b (toV n b u)=u:=by
 have c:=ac6 (b:=b)|>.2 h;have a:=Dl c;unfold ofV toV;rw[D4 a];exact List.getElem_idxOf a
def toV_ofV {i:Nat} (h:i<n):toV n b (ofV n b i)=i:=by
 have a:i<(acL n b).length:=by rw[ac5];exact h
 have e:ofV n b i=(acL n b)[i]:=D4 a;rw[e];exact List.Nodup.idxOf_getElem ordL_nd i a
def ren_V (n:Nat) (b:List Pr):Ren n (toV n b) (ofV n b):=⟨fun _ h=>toV_lt h,fun _ h=>aeJ h,fun _ h=>toV_ofV h,fun _ h=>ab2 h⟩
def toV_idx {u:Nat} (h:u∈aaR n b):toV n b u=acf n b (u:Int)/\toV n b u<(aaR n b).length:=by
 have a:=Dl h;have e:toV n b u=(aaR n b).idxOf u:=by unfold toV acL;rw[List.idxOf_append,if_pos h]
 refine⟨?_,by rw[e];exact a⟩;rw[e];refine idx_eq (n:=n) (b:=b) ?_;rw[aab,Yq,CA a];simp[List.getElem_idxOf a]
include hR
def abL {u:Nat}:u∈aaR n b↔∃w,Jp b u w:=by
 rw[aec];constructor
 .rintro ⟨f, p, e, h⟩
  obtain⟨a,c,ha,g,d,rfl⟩:=adN hR e;have h':u=a\/u=c:=by simp only[aO,bj,V9,decide_eq_true_eq]at h;omega
  rcases h' with rfl|rfl
  .exact⟨c,d⟩
  .exact⟨a,d.symm⟩
 .rintro ⟨w, h⟩
  refine⟨(h.lt hR).1,GW u w,H4 hR h,?_⟩;simp only[aO,bj,V9,decide_eq_true_eq];omega
def adR {x y:Int}:(x,y)∈abF n b↔∃u w:Nat,((u:Int),(w:Int))∈b/\x=(toV n b u:Int)/\y=(toV n b w:Int):=by
 unfold abF;rw[yM];constructor
 .rintro ⟨p, a, e⟩
  obtain⟨c,h2,h3⟩:=hR p a;obtain⟨h,d⟩:=p;simp only at c h2 h3;obtain⟨u,rfl⟩:=yY c;obtain⟨w,rfl⟩:=yY (show 0<=d by omega);injection e with f g;have m1:=(toV_idx ((abL hR).2 ⟨w,.inl a⟩)).1;have m2:=(toV_idx ((abL hR).2 ⟨u,.inr a⟩)).1;exact⟨u,w,a,by rw[m1];exact f.symm,by rw[m2];exact g.symm⟩
 .rintro ⟨u, w, a, rfl, rfl⟩
  have m1:=(toV_idx ((abL hR).2 ⟨w,.inl a⟩)).1;have m2:=(toV_idx ((abL hR).2 ⟨u,.inr a⟩)).1;exact⟨_,a,by rw[m1,m2]⟩
def acp {v w:Nat}:Jp (abF n b) v w↔v<n/\w<n/\Jp b (ofV n b v) (ofV n b w):=by
 have one:∀v w:Nat,((v:Int),(w:Int))∈abF n b->v<n/\w<n/\((ofV n b v:Int),(ofV n b w:Int))∈b:=fun v w h=>by
  obtain⟨u,x,c,a,h2⟩:=(adR hR).1 h;have l1:=(show Jp b u x from .inl c).lt hR;obtain rfl:v=toV n b u:=NH;obtain rfl:w=toV n b x:=NH;rw[ab2 l1.1,ab2 l1.2];exact⟨toV_lt l1.1,toV_lt l1.2,c⟩
 constructor
 .rintro (h | h)
  .obtain⟨a,h2,h3⟩:=one _ _ h;exact⟨a,h2,.inl h3⟩
  .obtain⟨a,h2,h3⟩:=one _ _ h;exact⟨h2,a,.inr h3⟩
 .rintro ⟨a, h2, h3 | h3⟩
  .exact .inl ((adR hR).2 ⟨_,_,h3,by rw[toV_ofV a],by rw[toV_ofV h2]⟩)
  .exact .inr ((adR hR).2 ⟨_,_,h3,by rw[toV_ofV h2],by rw[toV_ofV a]⟩)
def af2 {u w:Nat} (h:Jp b u w):Jp (abF n b) (toV n b u) (toV n b w):=by
 have l:=h.lt hR;exact(acp hR).2 ⟨toV_lt l.1,toV_lt l.2,by rw[ab2 l.1,ab2 l.2];exact h⟩
def vert_lt {u w:Nat} (h:Jp b u w):toV n b u<(aaR n b).length:=(toV_idx ((abL hR).2 ⟨w,h⟩)).2
omit hR in
theorem adS {x y:Nat} (e:x∈aaR n b) (d:x<y):acf n b (x:Int)<acf n b (y:Int):=by
 unfold acf;have f:∀l:II,x∈l->l.countP (fun(v:Nat)=>decide ((v:Int)<(x:Int)))<l.countP fun(v:Nat)=>decide ((v:Int)<(y:Int)):=by
  intro l
  induction l with
  |nil=>intro h;cases h
  |cons a l g=>
   intro h;have mono:l.countP (fun(v:Nat)=>decide ((v:Int)<(x:Int)))<=l.countP fun(v:Nat)=>decide ((v:Int)<(y:Int)):=
    List.countP_mono_left fun v _ i=>by simp only[decide_eq_true_eq]at*;omega
   rw[aaS,aaS];rcases aaW.1 h with rfl|q
   .rw[if_neg Ma,if_pos (by simpa using d)];omega
   .have := g q
    by_cases c:(a:Int)<(x:Int)
    .rw[if_pos (by simpa using c),if_pos (by simp only[decide_eq_true_eq];omega)];omega
    .rw[if_neg (by simpa using c)];split<;>omega
 exact f _ e
omit hR in
theorem adE (d:bX ⟨(n:Int),b⟩):bX ⟨((aaR n b).length:Int),abF n b⟩:=by
 have hR:=d.GD;have f:(aaR n b).length<=n:=EP (im _ _) Ma;have g:∀p∈b,∃u w:Nat,p=((u:Int),(w:Int))/\u<w/\u∈aaR n b/\w∈aaR n b:=fun p a=>by
  obtain⟨e,h2,h3⟩:=hR p a;obtain⟨m,l⟩:=p;simp only at e h2 h3;obtain⟨u,rfl⟩:=yY e;obtain⟨w,rfl⟩:=yY (show 0<=l by omega);exact⟨u,w,rfl,NH,(abL hR).2 ⟨w,.inl a⟩,(abL hR).2 ⟨u,.inr a⟩⟩
 refine bX.of (EP f (by have:(n:Int)<=200:=d.n1;omega)) (by rw[abF,jz];exact d.len) (fun q i=>?_) ?_
 .obtain ⟨p, a, rfl⟩ := yM.1 i
  obtain⟨u,w,rfl,j,k,hw⟩:=g p a;have e:=adS k j;have h2:=toV_idx hw;rw[h2.1]at h2;exact⟨Ma,by simpa using e,by simpa using h2.2⟩
 .have ha : D3 b := d.q9
  rw[Nl]at ha ⊢;unfold abF;rw[j3];refine ha.imp_of_mem fun{p q} a i c=>?_;obtain⟨u,w,rfl,-,k,hw⟩:=g p a;obtain⟨x,y,rfl,-,o,r⟩:=g q i;simp only at c ⊢;rcases c with h|⟨h,h'⟩
  .left;have:=adS k (show u<x by omega);omega
  .right
   have:=adS hw (show w<y by omega);obtain rfl:u=x:=NH;exact⟨rfl,NH⟩
def aeK:XU (aaR n b).length (eN (aaR n b).length (abF n b))↔XU n (eN n b):=by
 have f:(aaR n b).length<=n:=EP (im _ _) Ma;have d:∀v w,Jp (abF n b) v w->v<(aaR n b).length:=fun v w h=>by
  obtain⟨c,h2,h3⟩:=(acp hR).1 h;have:=vert_lt hR h3;rwa[toV_ofV c]at this
 have GD:∀{m},(∀v w,Jp (abF n b) v w->v<m)->aV m (abF n b):=fun{m} h p i=>by
  obtain⟨q,g,rfl⟩:=yM.1 i;obtain⟨c,h2,h3⟩:=hR q g;obtain⟨r,j⟩:=q;simp only at c h2 h3;obtain⟨u,rfl⟩:=yY c;obtain⟨w,rfl⟩:=yY (show 0<=j by omega);have k:=(abL hR).2 ⟨w,.inl g⟩;have:=adS k (show u<w by omega);have ha:Jp (abF n b) (acf n b (w:Int)) (acf n b (u:Int)):=.inr (yM.2 ⟨_,g,rfl⟩);have:=h _ _ ha;exact⟨Ma,by simp only;omega,by simp only;omega⟩
 have l:=GD d;have e:aV n (abF n b):=GD fun v w h=>Ki (d v w h) f;have o:XU (aaR n b).length (eN (aaR n b).length (abF n b))↔XU n (eN n (abF n b)):=by
  have c:XU (aaR n b).length (eN (aaR n b).length (abF n b))↔XU (aaR n b).length (eN n (abF n b)):=
   (XU.congr fun v w=>by rw[vD l,vD e])
  rw[c,<-XU.mores (fun v w h=>d v w ((vD e).1 h)) (n-(aaR n b).length),show(aaR n b).length+(n-(aaR n b).length)=n by omega]
 rw[o];have N:=ren_V n b;constructor
 .intro h
  refine h.ren (p:=ofV n b) (q:=toV n b) ⟨N.ql,N.pl,N.qp,N.pq⟩ fun v w=>?_;rw[vD hR,vD e];constructor
  .intro a;exact⟨(a.lt hR).1,(a.lt hR).2,af2 hR a⟩
  .rintro ⟨c, h2, h3⟩
   have:=((acp hR).1 h3).2.2;rwa[ab2 c,ab2 h2]at this
 .intro h
  refine h.ren N fun v w=>?_;rw[vD hR,vD e];exact acp hR
end
section
variable {n : Nat} {b : List Pr} (O : aeI n b)
include O
theorem aeI.bp {u w x y:Nat} (d:Jp b u w) (h2:Jp b x y):Pu b u x:=by
 have hR:=O.1.GD;have:=ac0 hR (fun p=>Pu b u p.1.toNat) (fun v a c ha e _=>?_) (H4 hR d) (H4 hR h2) (O.2.2 _ (H4 hR d) _ (H4 hR h2))
 .have c1:∀{v a},Jp b v a->Pu b v (GW v a).1.toNat:=fun{v a} h=>by
   rw[bj];simp only[Sb];rcases ad4 v a with q|q
   .rw[acA q];exact Pu.refl _ _
   .rw[aaz q];exact acd h
  have:=this▸c1 d;exact this.trans (c1 h2).symm
 .have c1:∀{v a},Jp b v a->Pu b v (GW v a).1.toNat:=fun{v a} h=>by
   rw[bj];simp only[Sb];rcases ad4 v a with q|q
   .rw[acA q];exact Pu.refl _ _
   .rw[aaz q];exact acd h
  exact propext ⟨fun q=>(q.trans (c1 ha).symm).trans (c1 e),fun q=>(q.trans (c1 e).symm).trans (c1 ha)⟩
def aeI.Bi {v a c:Nat} (ha:Jp b v a) (d:Jp b v c):Cn (wo v) b a c:=
 (dR O.1.GD ha d).1 (O.2.2 _ (H4 O.1.GD ha) _ (H4 O.1.GD d))
def aeI.two (D:2<=b.length):zW (aaR n b).length (abF n b):=by
 have hR:=O.1.GD;have f:∀{v},v<(aaR n b).length->v<n:=fun h=>Ki h (EP (im _ _) Ma);have back:∀{v},v<(aaR n b).length->ofV n b v∈aaR n b:=fun{v} h=>by
  have:ofV n b v=(aaR n b)[v]:=by
   unfold ofV acL;rw[vg,si h,CA h];rfl
  rw[this];exact Gw h
 have d:∀{on on':Nat->Bool} {u w},(∀x,x<n->on x=false->on' (toV n b x)=false)->u<n->Cn on b u w->Cn on' (abF n b) (toV n b u) (toV n b w):=fun{on on' u w} g i h=>by
  induction h with
  |refl o=>exact .refl (g _ i o)
  |step _ a o r=>exact .step r (af2 hR a) (g _ (a.lt hR).2 o)
 have h3:3<=(aaR n b).length:=by
  have k:=adE O.1;have E:(abF n b).length=b.length:=by rw[abF,jz]
  refine j9 fun l=>?_;have e:∀p∈abF n b,p=((0:Int),(1:Int)):=fun p s=>by
   have h:=k.GD p s;obtain⟨t,z⟩:=p;simp only at h;exact aa5 (show t=0 by omega) (show z=1 by omega)
  have m:0<(abF n b).length:=NH;have j:1<(abF n b).length:=NH;have:=qH.1 (Nl.1 k.q9) 0 1 m j WY;rw[e _ (Gw m),e _ (Gw j)]at this;simp at this
 have bp:∀u v,u<(aaR n b).length->v<(aaR n b).length->Pu (abF n b) u v:=fun u v i q=>by
  obtain⟨w,hw⟩:=(abL hR).1 (back i);obtain⟨y,A⟩:=(abL hR).1 (back q);have:=d (on:=offA) (on':=offA) (fun _ _ _=>rfl) (aeJ (f i)) (O.bp hw A);rwa[toV_ofV (f i),toV_ofV (f q)]at this
 refine⟨h3,jt NH bp,fun v ⟨a,c,ha,l,B⟩=>B ?_⟩;obtain⟨F,a1,j⟩:=(acp hR).1 ha;obtain⟨_,c1,h2⟩:=(acp hR).1 l;have:=d (on:=wo (ofV n b v)) (on':=wo v) (fun x C g=>iO fun e=>by
  subst e;rw[ab2 C]at g;simp[wo]at g) (aeJ a1) (O.Bi j h2)
 rwa[toV_ofV a1,toV_ofV c1]at this
theorem aeI.flat:abP n b↔b.length<9\/XU n (eN n b):=by
 unfold abP;rw[aeK O.1.GD];by_cases c:b.length<9
 .exact⟨fun _=>.inl c,fun _=>.inl c⟩
 .constructor
  .rintro (h | h)
   .exact .inl h
   .exact .inr h.2.2
  .rintro (h | h)
   .exact .inl h
   .exact .inr ⟨adE O.1,O.two NH,h⟩
end
end Go.Fw
namespace Go.Fw
section
attribute [local irreducible] Kp MQ lU rS KO KN KX KE VK Kl ZJ TC aat
attribute [local irreducible] Jz JL vq cQ
open Go.Proofs
def aej (l:LA) (v:Value) (G:GM) (h:AHeap) (hg:GR h v G):AC Tryz.prog l 42 [v] h fun x h'=>RR (bX G/\G.n<=16/\G.es.length<=40) x/\Le h h':=by
 have i:=hg;obtain⟨e,es⟩:=G
 obtain⟨ev,rfl,m⟩:=hg.open
 refine AC.vE ⟨Tryz.func42,rfl,WY⟩ Tryz.ntmps42 Tryz.results42 fun j=>?_;simp only[Br,Nat.reduceAdd];obtain⟨o,r,a,s,-,p⟩:=r8 (n:=e) j m
 generalize h.next=B at*
 have k:=p o (Le.refl _);have t:=fun g=>m.len g;refine Sk (XC r k.1) ?_;refine TC.intro PJ ⟨qS8,rfl,WY⟩ (ak l _ _ o (i.le a)) ?_;rintro x h2 w2 ⟨⟨u,rfl,d⟩,l2⟩;have b:=p h2 l2;cases u with
 |false=>
  refine Uy ?_;exact⟨RR.f (fun q=>by cases d.2 q.1),a.trans l2⟩
 |true=>
 have w:=d.1 rfl;by_cases c:e<=16
 rotate_left
 .have dc : decide (e <= 16) = false := decide_eq_false c
  refine Sk (IX @Ii @Ip.eq_1 @BS b.2.1 dc) ?_;exact⟨RR.f (fun q=>c q.2.1),a.trans l2⟩
 have dc:decide (e<=16)=true:=decide_eq_true c;refine Sk (adJ @Ii @Di @Ip.eq_1 @BS b.2.1 b.2.2 t dc) ?_;refine⟨⟨_,rfl,?_⟩,a.trans l2⟩;rw[decide_eq_true_eq];exact⟨fun q=>⟨w,c,NH⟩,fun q=>by have:=q.2.2;omega⟩
def eqBo (a b:Bool):aEq Tryz.prog 4 (.bool a) (.bool b)=some (a==b):=by simp[aEq,AV]
end
end Go.Fw
namespace Go.Fw
open Go.Proofs
def acX {l m:II} (a:l.Nodup) (h2:m.Nodup) (h:∀x,x∈l↔x∈m):l.Perm m:=(js a h2).2 h
def af3 {π:Nat->Nat} {l:II} (nd:l.Nodup) (hi:∀a∈l,∀b∈l,π a=π b->a=b):(l.map π).Nodup:=by
 rw[IE,j3];exact(IE.1 nd).imp_of_mem fun{a b} ha hb ne e=>ne (hi a ha b hb e)
def ac7 (rows:AM) (v:Nat):II:=(rows.getD v []).map (·.toNat)
section
variable {n : Nat} {es fs : List Pr} {π : Nat → Nat}
def ack (hR:aV n es) {v w:Nat}:w∈ac7 (Zh n es) v↔Jp es v w:=by
 unfold ac7;rw[yM];constructor
 .rintro ⟨x, a, rfl⟩
  obtain⟨w,rfl,_⟩:=Ru hR a;exact(EW hR v w).1 a
 .intro h;exact⟨(w:Int),(EW hR v w).2 h,Ma⟩
def ae4 (hR:aV n es) (hA:D3 es) (v:Nat):(ac7 (Zh n es) v).Nodup:=by
 unfold ac7;rw[IE,j3];refine(KW es hR hA v).imp_of_mem fun{x y} b d h=>?_;obtain⟨a,rfl,_⟩:=Ru hR b;obtain⟨c,rfl,_⟩:=Ru hR d;simp;omega
def aek (rows:AM) (v:Nat):(ac7 rows v).length=(rows.getD v []).length:=by simp[ac7]
variable (I : abC n es fs π) (hA : D3 es) (hB : D3 fs)
include I hA hB
def ael {v:Nat} (c:v<n):(ac7 (Zh n fs) (π v)).Perm ((ac7 (Zh n es) v).map π):=by
 have lt:∀{w},w∈ac7 (Zh n es) v->w<n:=fun h=>(((ack I.r1).1 h).lt I.r1).2;refine acX (ae4 I.r2 hB _) (af3 (ae4 I.r1 hA _) fun a ha b hb=>I.inj a b (lt ha) (lt hb)) fun x=>?_;rw[ack I.r2,yM];constructor
 .intro h
  obtain⟨a,ha,rfl⟩:=I.aeB x (h.lt I.r2).2;exact⟨a,(ack I.r1).2 ((I.Jp v a c ha).1 h),rfl⟩
 .rintro ⟨a, ha, rfl⟩
  exact(I.Jp v a c (lt ha)).2 ((ack I.r1).1 ha)
def ab3 {v:Nat} (a:v<n):((Zh n fs).getD (π v) []).length=((Zh n es).getD v []).length:=by rw[<-aek,<-aek,(ael I hA hB a).length_eq,jz]
def aem:(abB (Zh n fs)).Perm ((abB (Zh n es)).map π):=by
 have nd:∀es:List Pr,(abB (Zh n es)).Nodup:=fun es=>Hs.filter _;have cb:∀v,v<n->abO (Zh n fs) (π v)=abO (Zh n es) v:=fun v d=>by rw[abO,abO,ab3 I hA hB d]
 have m1:=fun(es:List Pr) (v:Nat)=>show v∈abB (Zh n es)↔v<n/\abO (Zh n es) v=true by rw[abB,eR,ZT,Xq]
 refine acX (nd _) (af3 (nd _) fun a ha b hb=>I.inj a b ((m1 _ _).1 ha).1 ((m1 _ _).1 hb).1) fun x=>?_;rw[m1,yM];constructor
 .rintro ⟨c, h2⟩
  obtain⟨a,ha,rfl⟩:=I.aeB x c;exact⟨a,(m1 _ _).2 ⟨ha,by rw[<-cb a ha];exact h2⟩,rfl⟩
 .rintro ⟨a, ha, rfl⟩
  obtain⟨c,h2⟩:=(m1 _ _).1 ha;exact⟨I.lt a c,by rw[cb a c];exact h2⟩
theorem goS_iso {d:Nat×Nat} (v:Jp es d.1 d.2) (h2:((Zh n es).getD d.2 []).length=2):goS (Zh n fs) (π d.1,π d.2)=(π (goS (Zh n es) d).1,π (goS (Zh n es) d).2):=by
 have l1:=v.lt I.r1;have f:((Zh n fs).getD (π d.2) []).length=2:=by rw[ab3 I hA hB l1.2];exact h2
 obtain⟨a,b,e,ne,k1,k2,i⟩:=acB I.r1 hA h2;obtain⟨a',m,e',ne',j,k,c⟩:=acB I.r2 hB f;have g:=(k1.lt I.r1).2;have h:=(k2.lt I.r1).2;have ia:=(I.Jp d.2 a l1.2 g).2 k1;have ib:=(I.Jp d.2 b l1.2 h).2 k2;have l:=(I.Jp d.2 d.1 l1.2 l1.1).2 v.symm;have inj:=I.inj;have o:=c _ ia;have p:=c _ ib;have nab:π a≠π b:=fun q=>ne (inj a b g h q);have hd:=i d.1 v.symm;unfold goS;simp only;rw[e,e'];simp only[ti,Yl];refine aa5 rfl ?_;simp only;rcases hd with hd|hd
 .rw [if_pos (show ((a : Int) = (d.1 : Int)) by omega)]
  split<;>simp<;>grind
 .rw [if_neg (show ¬ ((a : Int) = (d.1 : Int)) by omega)]
  split<;>simp<;>grind
def ae5 (e:n<=200) {c v:Nat} (b:Jp es c v) (f:((Zh n es).getD c []).length≠2):abZ (Zh n fs) (π c,π v)=(π (abZ (Zh n es) (c,v)).1,(abZ (Zh n es) (c,v)).2):=by
 obtain⟨K,k,h2,h3,g⟩:=adM I.r1 hA e b f;have ha:=acJ I.r1 hA (d:=(c,v)) b;have st:∀i,i<=K->it (goS (Zh n fs)) i (π c,π v)=(π (it (goS (Zh n es)) i (c,v)).1,π (it (goS (Zh n es)) i (c,v)).2):=by
  intro i
  induction i with
  |zero=>intro _;rfl
  |succ i h=>
   intro hi;show goS (Zh n fs) (it (goS (Zh n fs)) i (π c,π v))=_;rw[h NH];exact goS_iso I hA hB (ha i fun q j=>h2 q NH) (h2 i NH)
 have a:∀i,i<=K->(it (goS (Zh n es)) i (c,v)).2<n:=fun i hi=>((ha i fun q j=>h2 q NH).lt I.r1).2;rw[g,abZ,aev _ K 40001 _ _ NH (fun i hi=>by rw[st i NH,ab3 I hA hB (a i NH)];exact h2 i hi) (by rw[st K (qL0 _),ab3 I hA hB (a K (qL0 _))];exact h3),st K (qL0 _),BS]
omit I hA hB in
theorem acN (rows:AM) (cs:II):abI rows cs=cs.flatMap fun c=>(ac7 rows c).map fun w=>(c,w):=by simp[abI,ac7,Function.comp_def]
omit I hA hB in
theorem afl {α β:Type} {f g:α->List β} {l:List α} (h:∀a∈l,(f a).Perm (g a)):(l.flatMap f).Perm (l.flatMap g):=by
 induction l with
 |nil=>exact .refl _
 |cons a l c=>
  rw[IK,IK];exact(h a Ma).append (c fun b hb=>h b (by simp[hb]))
def aen {cs a:II} (e:∀c∈cs,c<n) (f:a.Perm (cs.map π)):(abI (Zh n fs) a).Perm ((abI (Zh n es) cs).map fun d=>(π d.1,π d.2)):=by
 rw[acN,acN];refine(f.flatMap_right _).trans ?_;rw[List.flatMap_map,List.map_flatMap];refine afl fun c b=>?_;have:=(ael I hA hB (e c b)).map fun w=>(π c,w);rw[FD]at this;rw[FD];exact this
end
end Go.Fw
