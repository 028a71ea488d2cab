/- A text. -/
import Derived.Test.YtkccdnmaaelbiaaGreatFwKA5
import Derived.Test.YtkccdnmaaelbiaaGreatFwKA6
set_option linter.all false
set_option maxRecDepth 99999
set_option maxHeartbeats 9999999
namespace Go.Fw
section
attribute [local irreducible] Kp MQ lU rS KO KN KX KE VK Kl ZJ TC aat
attribute [local irreducible] Jz JL vq cQ
open Go.Proofs
variable {a j:Nat}
def ack (a j:Nat):List Pr:=(List.range (j-(a+1))).map fun t=>((a:Int),((a+1+t:Nat):Int))
def eachF (f n:Nat):Nat->List Pr
 |0=>[]
 |k+1=>eachF f n k++ack (f+k) n
def ac3 (h:a+1<=j):ack a (j+1)=ack a j++[((a:Int),(j:Int))]:=by
 unfold ack;rw[show j+1-(a+1)=(j-(a+1))+1 by omega,aaM,MY];simp;omega
def acD (a j:Nat):(ack a j).length<=j:=by simp[ack]
def acE (f n:Nat):∀k,(eachF f n k).length<=n*k
 |0=>Ny _
 |k+1=>by
  have:=acE f n k;have:=acD (f+k) n;rw[eachF,jf,Nat.mul_add];omega
def acF (f n:Nat):List Pr:=eachF f n (n-f)
def abL (y:LA) (f n:Nat) (h:AHeap) (u:n<=100) (hf:f<=n):AC Tryz.prog y 44 [.int .i64 (f:Int),.int .i64 (n:Int)] h fun x h'=>GP h' x (acF f n)/\Le h h'/\Z2 h x:=by
 refine AC.vE ⟨SV,rfl,WY⟩ Tryz.ntmps44 Tryz.results44 fun z=>?_;simp only[Br,Nat.reduceAdd];have m:∀k,k<=n->(eachF f n k).length<=10000:=fun k A=>Db (acE f n k) (Cj u (Db A u));refine Uy ?_;refine aat.intro (fun k fr l=>∃(i:Nat) (v:Value),k=n-f-i/\f+i<=n/\fr=mkF [(1,.int .i64 (n:Nat)),(5,v),(6,.int .i64 (f+i:Nat))]/\GP l v (eachF f n i)/\Le h l/\Z2 h v)
  (n-f) [(1,.int .i64 (n:Nat)),(5,.slice none 0 0),(6,.int .i64 (f:Nat))] fD ⟨0,_,rfl,hf,rfl,GP.nil h,Le.refl _,fun b hb=>by simp[blk]at hb⟩ ?_
 rintro k fr l o ⟨i,v,rfl,hi,rfl,g,d,ap⟩;by_cases c:f+i<n
 rotate_left
 .have dc : decide (((f + i : Nat) : Int) < (n : Int)) = false := decide_eq_false NH
  have a:(((f+i:Nat):Int)<(n:Int))=False:=eq_false NH;have e:n-f=i:=NH;refine Sk (XC dc a) ?_;exact⟨by rw[acF,e];exact g,d,ap⟩
 have dc:decide (((f+i:Nat):Int)<(n:Int))=true:=decide_eq_true NH;have a:(((f+i:Nat):Int)<(n:Int))=True:=eq_true NH;have aw:=Tw (f+i) NH;have B:=m i NH;simp only[HO,Nat.reduceLT,↓reduceIte,Nat.reduceEqDiff,reduceCtorEq,dc,a,aw];refine aat.intro (fun k fr p=>∃(j:Nat) (v:Value),k=n-j/\f+i+1<=j/\j<=n/\fr=mkF [(1,.int .i64 (n:Nat)),(5,v),(6,.int .i64 (f+i:Nat)),(7,.int .i64 (j:Nat))]/\GP p v (eachF f n i++ack (f+i) j)/\Le h p/\Z2 h v)
  (n-(f+i+1)) [(1,.int .i64 (n:Nat)),(5,v),(6,.int .i64 (f+i:Nat)),(7,.int .i64 (f+i+1:Nat))] fD ⟨f+i+1,v,rfl,Ny _,NH,rfl,by simpa[ack]using g,d,ap⟩ ?_
 clear g d ap o;clear l v;rintro k fr p q ⟨j,v,rfl,C,D,rfl,g,d,ap⟩;by_cases c2:j<n
 rotate_left
 .have dc : decide (((j : Nat) : Int) < (n : Int)) = false := decide_eq_false NH
  have a:(((j:Nat):Int)<(n:Int))=False:=eq_false NH;obtain rfl:j=n:=NH;simp only[HO,Nat.reduceLT,↓reduceIte,Nat.reduceEqDiff,reduceCtorEq,dc,a,aw];exact tn (j-f-(i+1)) [(1,.int .i64 (j:Nat)),(5,v),(6,.int .i64 (f+i+1:Nat))] NH fD ⟨i+1,v,rfl,NH,rfl,g,d,ap⟩
 have dc:decide (((j:Nat):Int)<(n:Int))=true:=decide_eq_true NH;have a:(((j:Nat):Int)<(n:Int))=True:=eq_true NH;have r:=Tw j NH;have E:=acD (f+i) j;obtain⟨v',I,J,F,G,w,K,l4,s,-⟩:=g.push q (((f+i:Nat):Int),(j:Int)) (by rw[jf];omega);obtain⟨l5,H⟩:=s h d ap;rw[im,<-ac3 C]at w;have t:=xe ((f+i:Nat):Int) (j:Int);refine Sk (bG dc a t F G r) ?_;exact tn (n-(j+1)) [(1,.int .i64 (n:Nat)),(5,v'),(6,.int .i64 (f+i:Nat)),(7,.int .i64 (j+1:Nat))] NH fD ⟨j+1,v',rfl,NH,NH,rfl,w,l5,H⟩
def mkP9 (h:AHeap) (a b c d e f g i j:Pr):aBuildSlice Tryz.prog h 22 9 [(0,UI a),(1,UI b),(2,UI c),(3,UI d),(4,UI e),(5,UI f),(6,UI g),(7,UI i),(8,UI j)]=some (.slice (some ⟨h.next,0,none⟩) 9 9,h.alloc (.cells (Iu [a,b,c,d,e,f,g,i,j]))):=Ji
def acm (c:LA) (h:AHeap):AC Tryz.prog c 71 [] h fun x h'=>GP h' x E9/\Le h h'/\Z2 h x:=by
 refine AC.vE ⟨Tryz.func71,rfl,WY⟩ Tryz.ntmps71 Tryz.results71 fun a=>?_;simp only[Br,Nat.reduceAdd];obtain⟨i,d,l1,w1,e⟩:=Tt a (Iu E9);have m:=mkP9 h (0,3) (0,4) (0,5) (1,3) (1,4) (1,5) (2,3) (2,4) (2,5);have f:Iu [(0,3),(0,4),(0,5),(1,3),(1,4),(1,5),(2,3),(2,4),(2,5)]=Iu E9:=rfl;rw[f,d]at m
 have g:h.own h.next=none:=(Le.refl h).next a (Ny _)
 refine Sk (XC @xe m) ?_;exact⟨GS.full e rfl WY,l1,fun b hb=>by injection hb with hb;subst hb;exact g⟩
def abN (a:LA) (h:AHeap):AC Tryz.prog a 34 [] h fun x h'=>x=.bool true/\Le h h':=by
 refine AC.vE ⟨XV,rfl,WY⟩ Tryz.ntmps34 Tryz.results34 fun aP=>?_;simp only[Br,Nat.reduceAdd];have P:decide ((0:Int)=0)=true:=by decide
 have d5:decide ((5:Int)=5)=true:=by decide
 have S:decide ((33:Int)=33)=true:=by decide
 have T:awrap .i64 (0+0)=0:=by decide
 have E5:acF 0 5=k5L:=by decide
 have E6:acF 0 6=k6L:=by decide
 have EU:acF 1 6=k5U:=by decide
 refine Uy ?_;refine TC.intro PJ ⟨SV,rfl,WY⟩ (abL a 0 5 h WY WY) ?_;rintro U h1 w1 ⟨Q,l1,-⟩;rw[E5]at Q;refine Uy ?_;refine TC.intro PJ ⟨SV,rfl,WY⟩ (abL a 0 6 h1 WY WY) ?_;rintro v6 h2 w2 ⟨V,l2,-⟩;rw[E6]at V;have j:=Q.le l2;have y:=Wj (n:=5) Q.pr.sl;refine Sk y ?_;refine TC.intro PJ ⟨iZ,rfl,WY⟩ (abS a _ ⟨((5:Nat):Int),k5L⟩ h2 ⟨U,rfl,j.pr⟩) ?_;rintro x h3 w3 ⟨l3,⟨k,-⟩|⟨-,a5,rfl,f5⟩⟩
 .exact absurd k5R k
 rw[fnd_k5]at f5;have W:=Wj (n:=6) V.pr.sl;refine Sk W ?_;refine TC.intro PJ ⟨iZ,rfl,WY⟩ (abS a _ ⟨((6:Nat):Int),k6L⟩ h3 ⟨v6,rfl,(V.le l3).pr⟩) ?_;rintro x h4 w4 ⟨l4,⟨k,-⟩|⟨-,a6,rfl,f6⟩⟩
 .exact absurd k6R k
 rw[fnd_k6]at f6;refine Uy ?_;refine TC.intro PJ ⟨Tryz.func71,rfl,WY⟩ (acm a h4) ?_;rintro v3 h5 w5 ⟨g3,l5,-⟩;have X:=Wj (n:=6) g3.pr.sl;refine Sk X ?_;refine TC.intro PJ ⟨iZ,rfl,WY⟩ (abS a _ ⟨((6:Nat):Int),E9⟩ h5 ⟨v3,rfl,g3.pr⟩) ?_;rintro x Y w6 ⟨l6,⟨k,-⟩|⟨-,a3,rfl,Z⟩⟩
 .exact absurd aga k
 rw[age]at Z;obtain⟨h7,e7,R,w7,o7⟩:=Tt w6 (Iu LO);have m7:=mkP4 Y (0,1) (0,3) (1,2) (2,3);have ad:Iu [(0,1),(0,3),(1,2),(2,3)]=Iu LO:=rfl;rw[ad,e7]at m7
 have p7:PR h7 (.slice (some ⟨Y.next,0,none⟩) 4 4) LO:=PR.made o7 rfl
 obtain⟨h8,h9,a8,s8,z,w9,lG⟩:=newG (n:=4) w7 p7;have ag:=Wj (n:=4) p7.sl;refine Sk (bG @xe m7 ag a8 s8 ((lG h9 (Le.refl _)).1)) ?_
 generalize Y.next=R4 at*
 generalize h7.next=G4 at*
 have p9:=p7.le z;refine TC.intro PJ ⟨iZ,rfl,WY⟩ (abS a _ ⟨((4:Nat):Int),LO⟩ h9 ⟨_,rfl,p9⟩) ?_;rintro x A aT ⟨b,⟨k,-⟩|⟨-,a4,rfl,f4⟩⟩
 .exact absurd c4R k
 rw[fnd_c4]at f4;have m:=l3.trans (l4.trans (l5.trans (l6.trans (R.trans (z.trans b)))));refine Sk (XC T P) ?_;refine TC.intro PJ ⟨Tryz.func39,rfl,WY⟩ (abP a a5 U k5L k5L A (f5.le (l4.trans (l5.trans (l6.trans (R.trans (z.trans b)))))) (j.pr.le m) WY) ?_;rintro x B aW ⟨rfl,aj⟩;have o:Le A B:=by rw[aj];exact Le.refl _
 have sp:∀l:List Pr,decide (l=l)=true:=fun l=>decide_eq_true rfl;simp only[HO,Nat.reduceLT,↓reduceIte,Nat.reduceEqDiff,reduceCtorEq,sp];refine TC.intro PJ ⟨SV,rfl,WY⟩ (abL a 1 6 B WY WY) ?_;rintro vU C aX ⟨gU,p,-⟩;rw[EU]at gU;refine Uy ?_;have D:=f6.le (l5.trans (l6.trans (R.trans (z.trans (b.trans (o.trans p))))));refine TC.intro PJ ⟨Tryz.func39,rfl,WY⟩ (abP a a6 vU k5U k5U C D gU.pr WY) ?_;rintro x E a1 ⟨rfl,al⟩;have q:Le C E:=by rw[al];exact Le.refl _
 simp only[HO,Nat.reduceLT,↓reduceIte,Nat.reduceEqDiff,reduceCtorEq,sp];refine TC.intro PJ ⟨Tryz.func71,rfl,WY⟩ (acm a E) ?_;rintro vT F a7 ⟨gT,r,-⟩;refine Uy ?_;have G:=R.trans (z.trans (b.trans (o.trans (p.trans (q.trans r)))));refine TC.intro PJ ⟨Tryz.func39,rfl,WY⟩ (abP a a3 vT E9 E9 F (Z.le G) gT.pr WY) ?_;rintro x H bg ⟨rfl,aq⟩;have s:Le F H:=by rw[aq];exact Le.refl _
 have c:=o.trans (p.trans (q.trans (r.trans s)));have ar:=fun g=>f4.len g;have t:=j.pr.le (m.trans c);simp only[HO,Nat.reduceLT,↓reduceIte,Nat.reduceEqDiff,reduceCtorEq,sp,ar,iB,gX,P];refine TC.intro PJ ⟨YW,rfl,WY⟩ (abK a U k5L H t) ?_;rintro x av bh ⟨rfl,u⟩;obtain⟨cv,cut,pc,cc⟩:=t.cut (GS.okc Q) (i:=1) WY;simp only[adY]at cut;simp only[HO,Nat.reduceLT,↓reduceIte,Nat.reduceEqDiff,reduceCtorEq,agf,d5,cut];refine TC.intro PJ ⟨YW,rfl,WY⟩ (abK a cv m5E av (pc.le u)) ?_;rintro x ay bk ⟨rfl,I⟩;refine Sk (XC @agh P) ?_;refine TC.intro PJ ⟨YW,rfl,WY⟩ (abK a a6 k5U ay ((D.le (q.trans (r.trans s))).le (u.trans I))) ?_;rintro x az bm ⟨rfl,aC⟩;have d:=u.trans (I.trans aC);refine Sk (XC @aer d5) ?_;refine TC.intro PJ ⟨YW,rfl,WY⟩ (abK a a3 E9 az ((Z.le (G.trans s)).le d)) ?_;rintro x J bo ⟨rfl,K⟩;have f:=b.trans (c.trans (d.trans K));refine Sk (bG @aes S @Di @Ip.eq_1 @XJ ((lG J f).2.2)) ?_;refine TC.intro PJ ⟨YW,rfl,WY⟩ (abK a _ LO J (p9.le f)) ?_;rintro x L br ⟨rfl,v⟩;refine Sk (Yb @agi P ((lG L (f.trans v)).1)) ?_;refine TC.intro PJ ⟨zL,rfl,WY⟩ (abE a _ ⟨((4:Nat):Int),LO⟩ L ⟨_,rfl,p9.le (f.trans v)⟩) ?_;rintro x aD bx ⟨⟨w,rfl,aF⟩,aH⟩;obtain rfl:w=true:=aF.2 ⟨c4R,adA⟩;have e:=d.trans (K.trans (v.trans aH));have aJ:=Wj (n:=5) pc.sl;simp only[HO,Nat.reduceLT,↓reduceIte,Nat.reduceEqDiff,reduceCtorEq,cut,aJ];refine TC.intro PJ ⟨zL,rfl,WY⟩ (abE a _ ⟨((5:Nat):Int),m5E⟩ aD ⟨_,rfl,pc.le e⟩) ?_;rintro x aK bB ⟨⟨w,rfl,M⟩,N⟩;obtain rfl:w=true:=M.2 ⟨m5R,agd⟩;refine Sk y ?_;refine TC.intro PJ ⟨zL,rfl,WY⟩ (abE a _ ⟨((5:Nat):Int),k5L⟩ aK ⟨_,rfl,t.le (e.trans N)⟩) ?_;rintro x bF bH ⟨⟨w,rfl,O⟩,aL⟩;have aN:w=false:=by
  cases w with
  |false=>rfl
  |true=>exact absurd (O.1 rfl).2 k5_np
 subst aN;refine Uy ?_;exact⟨trivial,(l1.trans (l2.trans (m.trans c))).trans (e.trans (N.trans aL))⟩
variable {h:AHeap} {i:Nat} {ps:List Pr} {v:Value}
def ac4 (hi:i<ps.length) (p:Pr) (rest:List Value):putCells (Iu ps++rest) (i*2) [.int .i64 p.1,.int .i64 p.2]=Iu (ps.set i p)++rest:=by
 have a:=Ta ps;rw[IW _ _ _ (by rw[jf,a];simp;omega)];have b:ps.set i p=ps.take i++[p]++ps.drop (i+1):=by rw[List.set_eq_take_append_cons_drop,if_pos hi];simp
 rw[b,mZ,mZ,acr,za,mg (by rw[a];omega),qL168 (by rw[a];simp;omega)];simp[Iu,xM,iU]
def GP.stK (g:GP h v ps) (hw:WF h) (hi:i<ps.length) (p:Pr):
  ∃h',aStore Tryz.prog h 38 (.pointer (some (FK v i))) (UI p)=some h'/\GP h' v (ps.set i p)/\WF h'/\∀f,Le f h->Z2 f v->Le f h':=by
 obtain⟨l,⟨rfl,q⟩|⟨id,c,cap,rfl,j,k,m⟩⟩:=g
 .omega
 have n:ps.length*2<=c.length:=by
  have:=congrArg List.length k;rw[Cg,l]at this;omega
 have d:c=Iu ps++c.drop (ps.length*2):=by rw[<-k,qL87]
 have e:putCells c (i*2) [.int .i64 p.1,.int .i64 p.2]=Iu (ps.set i p)++c.drop (ps.length*2):=by
  conv=>lhs;rw[d]
  rw[ac4 hi]
 have a:(Iu (ps.set i p)).length=ps.length*2:=by rw[Ta,uu]
 refine⟨h.put id (.cells (Iu (ps.set i p)++c.drop (ps.length*2))),?_,⟨?_,.inr ⟨id,_,cap,by rw[uu],AHeap.Y3 _ _ _,?_,?_⟩⟩,hw.put _ (hw.lt j),fun f o af=>o.put _ (af id rfl)⟩
 .rw [<- e]
  have hb:i*2+2<=c.length:=NH;have ea:FK (.slice (some ⟨id,0,none⟩) ps.length cap) i=⟨id,i*2,none⟩:=by simp[FK,elemAddr,Ip]
  rw[ea];have b:(UI p).cells.size=UA Tryz.prog 38/\(Tryz.prog.underlying 38).isSome/\i*2+(UI p).cells.size<=c.length/\(UI p).cells.toList.all (·.oneCell'):=by
   refine⟨by rw[WE];rfl,by rw[pE];rfl,hb,rfl⟩
  show(match h.own id with|some (.cells c)=>_|_=>none)=_
  rw[j];exact if_pos b
 .rw[a,uu]
 .rw [uu]
  exact List.take_left' a
 .rw[uu];exact m
def ac5 (c:LA) (v:Value) (G:GM) (h:AHeap) (hg:GR h v G):
  AC Tryz.prog c 11 [v] h fun x h'=>x=.bool true/\Le h h':=by
 have j:=hg;obtain⟨l,es⟩:=G
 obtain⟨ev,rfl,R⟩:=hg.open
 refine AC.vE ⟨Tryz.func11,rfl,WY⟩ Tryz.ntmps11 Tryz.results11 fun A=>?_;simp only[Br,Nat.reduceAdd];obtain⟨w,C,d,ad,-,D⟩:=r8 (n:=l) A R
 generalize h.next=B at*
 have b:=D w (Le.refl _);have E:=fun g=>R.len g;have F:decide ((0:Int)=0)=true:=by decide
 have d20:decide ((20:Int)=20)=true:=by decide
 by_cases r:(es.length:Int)>60
 .have e : decide ((es.length : Int) > 60) = true := decide_eq_true r
  refine Sk (rE C @Di @Ip.eq_1 @XJ b.2.2 E e) ?_;refine TC.intro PJ ⟨XV,rfl,WY⟩ (abN c w) ?_;rintro x h3 y ⟨rfl,l3⟩;refine Uy ?_;exact⟨trivial,d.trans l3⟩
 have e:decide ((es.length:Int)>60)=false:=decide_eq_false r;by_cases s:l>16
 .have m : decide (l > 16) = true := decide_eq_true s
  refine Sk (Pj C @Ii @Di @Ip.eq_1 @XJ b.2.2 b.2.1 E e m) ?_;refine TC.intro PJ ⟨XV,rfl,WY⟩ (abN c w) ?_;rintro x h3 y ⟨rfl,l3⟩;refine Uy ?_;exact⟨trivial,d.trans l3⟩
 have m:decide (l>16)=false:=decide_eq_false s;refine Sk (rk C @Ii @Di @Ip.eq_1 @XJ b.2.2 b.2.1 b.1 E e m) ?_;refine TC.intro PJ ⟨qS8,rfl,WY⟩ (ak c _ _ w (j.le d)) ?_;rintro x h2 w2 ⟨⟨z,rfl,H⟩,l2⟩;have f:=d.trans l2;cases z with
 |false=>
  have S:¬bX ⟨l,es⟩:=fun q=>by cases H.2 q
  refine Sk ((D h2 l2).1) ?_;refine TC.intro PJ ⟨iZ,rfl,WY⟩ (abS c _ ⟨l,es⟩ h2 (j.le f)) ?_;rintro x h3 y ⟨l3,⟨-,rfl⟩|⟨q,-⟩⟩
  rotate_left
  .exact absurd q S
  have I:∀g,aLen Tryz.prog g 22 (.slice none 0 0)=some (.int .i64 0):=fun g=>Jg (P:=Tryz.prog) (t:=22) (a:=none) (n:=0) (cap:=0) eY g;refine Sk (xU @d20 I F ((D h3 (l2.trans l3)).1)) ?_;refine TC.intro PJ ⟨zL,rfl,WY⟩ (abE c _ ⟨l,es⟩ h3 (j.le (f.trans l3))) ?_;rintro x T U ⟨⟨z,rfl,J⟩,l4⟩;have hb:z=false:=by
   cases z with
   |false=>rfl
   |true=>exact absurd (J.1 rfl).1 S
  subst hb;refine Uy ?_;refine TC.intro PJ ⟨XV,rfl,WY⟩ (abN c T) ?_;rintro x V w5 ⟨rfl,l5⟩;refine Uy ?_;exact⟨trivial,((f.trans l3).trans l4).trans l5⟩
 |true=>
 have W:acF 0 5=k5L:=by decide
 refine Uy ?_;refine TC.intro PJ ⟨SV,rfl,WY⟩ (abL c 0 5 h2 WY WY) ?_;rintro v5 h3 y ⟨o,l3,X⟩;rw[W]at o;have ad3:=o.pr.addr (k:=.i64) 3 WY;have u:=o.pr.addr (k:=.i64) 4 WY;have K:=o.pr.load (i:=3) (p:=(0,4)) rfl;have L:=o.pr.load (i:=4) (p:=(1,2)) rfl;obtain⟨T,s4,g4,U,k4⟩:=o.stK y (i:=3) WY (1,2);obtain⟨V,s5,g6,w5,k5⟩:=g4.stK U (i:=4) WY (0,4);have l4:=k4 h2 l3 X;have l5:=k5 h2 l4 X;simp only[aa6]at ad3 u;refine Uy ?_;refine gh (tA [0,1,2,3,4,5,6,7,8] (JQ 9 [0,2,3,4,7,8] (tA [10] (JQ 11 [0,1,2,3,4,5,6,7,8,9,10] .done)))) ?_;simp only[HO,Nat.reduceLT,↓reduceIte,Nat.reduceEqDiff,reduceCtorEq,Nat.reduceBEq,Qg,ad3,u,K,L,s4,s5];have n1:¬bX ⟨200,(k5L.set 3 (1,2)).set 4 (0,4)⟩:=fun q=>by
  have:=(q.ok 4 WY (0,4) rfl).2 (1,2) WY rfl;rw[Hv]at this;omega
 have k1:abV ((k5L.set 3 (1,2)).set 4 (0,4))=0:=if_neg n1;refine TC.intro PJ ⟨YW,rfl,WY⟩ (abK c v5 _ V g6.pr) ?_;rintro x Y w6 ⟨rfl,l6⟩;rw[k1];refine Sk F ?_;refine TC.intro PJ ⟨SV,rfl,WY⟩ (abL c 0 5 Y WY WY) ?_;rintro v7 h7 w7 ⟨Z,l7,a7⟩;rw[W]at Z;obtain⟨v8,h8,h9,e8,e9,g9,w9,-,M,-⟩:=Z.push w7 (3,4) WY;obtain⟨l9,-⟩:=M Y l7 a7;have n2:¬bX ⟨200,k5L++[(3,4)]⟩:=fun q=>by
  have:=(q.ok 10 WY (3,4) rfl).2 (3,4) WY rfl;rw[Hv]at this;omega
 have k2:abV (k5L++[(3,4)])=0:=if_neg n2;refine Sk (Yb @xe e8 e9) ?_;refine TC.intro PJ ⟨YW,rfl,WY⟩ (abK c v8 _ h9 g9.pr) ?_;rintro x N ag ⟨rfl,O⟩;rw[k2];refine Sk F ?_;refine TC.intro PJ ⟨XV,rfl,WY⟩ (abN c N) ?_;rintro x aj al ⟨rfl,Q⟩;refine Uy ?_;exact⟨trivial,(((f.trans l5).trans l6).trans l9).trans (O.trans Q)⟩
end
section
open Go.Proofs Go.ChangeShapes Go.WideShapes Go.RowKit Go.ChangeAt
open Go.Proofs.YtkccdnmaaelbiaaGreat
def ace (os:Os) (started:os.Started) (H:Type) (enc:TypeId×Value->H):
  ReturnsInHanded {} Tryz.checked os 11 .any (Rows.kuraWrongSpec.pre6 enc Tryz.prog Tryz.f11 Rows.kuraWrongRow.domain false) (Rows.kuraWrongSpec.post enc Tryz.prog Tryz.f11 false true false false):=by
 have own:ownKnob Tryz.prog.godebug=Option.none:=Ji;have laidOut:laidOutB Tryz.prog=true:=Ji;refine returnsInHanded_of_change (C:=Tryz.checked) own started Ji Tryz.func11
  (ChangeSpec.witness6 (enc:=enc) (C:=Tryz.checked) false ⟨#[],#[.agg #[.int .i64 0,.slice Option.none 0 0]],[]⟩ 8 Ji Ji Ji Ji) ?_
 intro W base args ds gs before c m n _;have b:∀(j:Nat) t v,Tryz.f11.params[j]?=some t->args[j]?=some v->Value.okWide Tryz.prog W .any base t v:=c;have f:=m;obtain⟨p,q,h,r,rfl,s,u⟩:=m;have hA:DataW.TrodAll enc Tryz.prog W 0 (fun _=>true) true Tryz.f11.params.toList args.toList ds p:=h;rw[Tryz.params11]at hA b;obtain⟨i,E,F,G,w,I,a,rfl,rfl,o,hA⟩:=trodAll_cons hA;obtain⟨rfl,rfl,rfl⟩:=trodAll_nil hA;obtain rfl:args=#[i]:=by cases args;simp_all
 obtain⟨rfl,rfl⟩:=trodVars_none r;obtain⟨z,x0,k,l⟩:=acX (b 0 24 i rfl rfl) o (fun _=>⟨0,0,0⟩);refine(ac5 (LA.of W) z x0 (MR W) l [] (fun _=>⟨0,0,0⟩) W [i] (Rel.start W _) ?_).mono ?_
 .exact .cons k ((.nil _ _))
 .rintro e A ⟨x, x', J, h', rfl, R, -, -, B, rfl, -⟩
  obtain rfl:=B.YE;have hb:=R.below;have g:∀y∈w,y.block<W.heap.size:=fun y D=>f.lt y (by simp[D]);have d:DataW.Trod enc Tryz.prog A W.heap.size (fun _=>false) false 4 (.bool true) (.lit (.bool true)) []:=⟨1,by simp[DataW.trod,Value.cells,AV]⟩;have a:=
   tcons (Below.trod laidOut Ji (of_decide_eq_true Ji) o hb g) (trodAll_mk0)
  try simp only[Zw,Ah]at a
  exact⟨_,rfl,_,_,_,[],_,[],f,trodAll_mk1 d,a,rfl,hb.frame _,fun e=>by cases e⟩
def kuraWrong_said:Rows.KuraWrongSaid:=
 OpenClaim.holds_of_wide 11 Tryz.f11 rfl rfl rfl rfl rfl rfl rfl ⟨rfl,rfl,rfl,rfl,rfl⟩ rfl rfl rfl rfl rfl Ji Tryz.func11 Ji
  (of_decide_eq_true Ji) (by unfold Func.isWrapper;first|(rw[if_pos iw];kernel_rfl)|(rw[if_neg iw];exact⟨rfl,rfl⟩))
  (fun os started H enc _=>ace os started H enc)
end
end Go.Fw
