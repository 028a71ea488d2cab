/- A text. -/
import Derived.Test.YtkccdnmaaelbiaaGreatFwLJ23
set_option linter.all false
set_option maxRecDepth 99999
set_option maxHeartbeats 9999999
namespace Go.Fw
section
attribute [local irreducible] Kp MQ lU rS KO KN KX KE VK Kl ZJ TC aaa
open Go.Proofs
variable {g h:AHeap} {i:Nat} {l:II} {o v:Value} {rows:AM} {xs ys:RZ} {α:Type}
def acW {P:α->Bool} {l:List α} (h:(l.take i).all P=true) (hi:i<l.length) (a:P l[i]=true):(l.take (i+1)).all P=true:=by rw[EL hi,dJ,h];simp[a]
def aed {P:α->Bool} {l:List α} (hi:i<l.length) (a:P l[i]=false):l.all P=false:=by
 rw[aeH];intro h;rw[uV.1 h _ (Gw hi)]at a;cases a
def acu (N:LA) (M:Nat) (l:List (Pr×Int)) (W:Pr->Nat) (n bv:Value) (A B:II) (h:AHeap) (oM:h.own M=some (.map (wy l))) (O:∀p,(lookK l p).getD 0=(W p:Int)) (ha:RL RP h n (kz A)) (hb:RL RP h bv (kz B)) (T:A.length<=1000) (U:B.length<=1000):
  AC Tryz.prog N 79 [.map (some M),n,bv] h fun x h'=>x=.bool (aba W A B)/\h'=h:=by
 refine AC.vE ⟨Tryz.func79,rfl,WY⟩ Tryz.ntmps79 Tryz.results79 fun Q=>?_;simp only[Br,Nat.reduceAdd];have ln:=fun g=>ha.Uc g;have t:=fun g=>hb.Uc g;rw[y6]at ln t;simp only[HO,Nat.reduceLT,↓reduceIte,Nat.reduceEqDiff,reduceCtorEq,ln];refine aaa.intro (fun k fr D=>∃i:Nat,k=A.length-i/\i<=A.length/\fr=mkF [(0,.map (some M)),(2,bv),(11,n),(12,.int .i64 A.length),(13,.int .i64 i)]/\D=h/\(A.take i).all (fun c=>B.all fun d=>c==d||W (min (c:Int) (d:Int),max (c:Int) (d:Int))==2)=true)
  A.length [(0,.map (some M)),(2,bv),(11,n),(12,.int .i64 A.length),(13,.int .i64 (0:Nat))] fD ⟨0,rfl,AE _,rfl,rfl,rfl⟩ ?_
 rintro k fr D R ⟨i,rfl,hi,rfl,rfl,f⟩;refine Uy ?_;refine Kl.intro (fun u=>?_) (fun hf=>?_)
 rotate_left
 .have r : A.length <= i := vp hf
  rw[vZ r]at f;refine Uy ?_;exact⟨by rw[aba,f],trivial⟩
 have b:i<A.length:=CC u;clear u;have E:=ha.TA i (by rw[y6];exact b);have v:=ha.DH i (by rw[y6];exact b);rw[sY b]at v;have F:=acW f b;have G:=aed (P:=fun c=>B.all fun d=>c==d||W (min (c:Int) (d:Int),max (c:Int) (d:Int))==2) b;generalize A[i]=c at*;have H:=Tw i NH;refine Sk (Yb E v t) ?_;refine aaa.intro (fun k fr J=>∃j:Nat,k=B.length-j/\j<=B.length/\fr=mkF [(0,.map (some M)),(2,bv),(8,.int .i64 (c:Nat)),(11,n),(12,.int .i64 A.length),(13,.int .i64 i),(17,bv),(18,.int .i64 B.length),(19,.int .i64 j)]/\J=D/\(B.take j).all (fun d=>c==d||W (min (c:Int) (d:Int),max (c:Int) (d:Int))==2)=true)
  B.length [(0,.map (some M)),(2,bv),(8,.int .i64 (c:Nat)),(11,n),(12,.int .i64 A.length),(13,.int .i64 i),(17,bv),(18,.int .i64 B.length),(19,.int .i64 (0:Nat))] fD ⟨0,rfl,AE _,rfl,rfl,rfl⟩ ?_
 rintro k fr J S ⟨j,rfl,V,rfl,rfl,m⟩;refine Uy ?_;refine Kl.intro (fun u=>?_) (fun hf=>?_)
 rotate_left
 .have r : B.length <= j := vp hf
  rw[vZ r]at m;refine Sk H ?_;exact tn (A.length-(i+1)) [(0,.map (some M)),(2,bv),(11,n),(12,.int .i64 A.length),(13,.int .i64 (i+1:Nat))] (JS b) fD ⟨i+1,rfl,b,rfl,rfl,F m⟩
 have a:j<B.length:=CC u;clear u;have s:=hb.TA j (by rw[y6];exact a);have o:=hb.DH j (by rw[y6];exact a);rw[sY a]at o;have q:=acW m a;have w:=aed (P:=fun d=>c==d||W (min (c:Int) (d:Int),max (c:Int) (d:Int))==2) a;generalize B[j]=d at*;have y:=Tw j NH;have mn:=Dv (c:Int) (d:Int);have K:=z6 (c:Int) (d:Int);have z:=xe (min (c:Int) (d:Int)) (max (c:Int) (d:Int));have I:=SA oM (min (c:Int) (d:Int),max (c:Int) (d:Int));rw[O]at I;by_cases e:c=d
 .have C : decide ((c : Int) = (d : Int)) = true := decide_eq_true NH
  refine Sk (IX s o @bne.eq_1.{0} C y) ?_
  exact tn (B.length-(j+1)) [(0,.map (some M)),(2,bv),(8,.int .i64 (c:Nat)),(11,n),(12,.int .i64 A.length),(13,.int .i64 i),(17,bv),(18,.int .i64 B.length),(19,.int .i64 (j+1:Nat))] (JS a) fD ⟨j+1,rfl,a,rfl,rfl,q (by simp[e])⟩
 have C:decide ((c:Int)=(d:Int))=false:=decide_eq_false NH;by_cases L:W (min (c:Int) (d:Int),max (c:Int) (d:Int))=2
 .have d2 : decide ((W (min (c : Int) (d : Int), max (c : Int) (d : Int)) : Int) = 2) = true := decide_eq_true NH
  simp only[HO,Nat.reduceLT,↓reduceIte,Nat.reduceEqDiff,reduceCtorEq,s,o,bne,C,mn,K,z,wD,I,d2,y];exact tn (B.length-(j+1)) [(0,.map (some M)),(2,bv),(8,.int .i64 (c:Nat)),(11,n),(12,.int .i64 A.length),(13,.int .i64 i),(17,bv),(18,.int .i64 B.length),(19,.int .i64 (j+1:Nat))] (JS a) fD ⟨j+1,rfl,a,rfl,rfl,q (by simp[L])⟩
 .have d2 : decide ((W (min (c : Int) (d : Int), max (c : Int) (d : Int)) : Int) = 2) = false := decide_eq_false NH
  simp only[HO,Nat.reduceLT,↓reduceIte,Nat.reduceEqDiff,reduceCtorEq,s,o,bne,C,mn,K,z,wD,I,d2];exact⟨by rw[aba,G (w (by simp[e,L]))],trivial⟩
def GI.keep (r:GI h o ys) (k:∀b x,h.own b=some x->blk o=some b->g.own b=some x):GI g o ys:=by
 obtain⟨a,⟨rfl,d⟩|⟨id,c,cap,rfl,e,f,i⟩⟩:=r
 .exact⟨a,.inl ⟨rfl,d⟩⟩
 .exact⟨a,.inr ⟨id,c,cap,rfl,k id _ e rfl,f,i⟩⟩
def GI.push2 {c h:AHeap} (g:GI h v xs) (go:GI h o ys) (f:∀b,blk v=some b->blk o≠some b) (l:Le c h) (k:Z2 c v) (hw:WF h) (x:Int) (m:xs.length<=100000):
  ∃v' d a,aBuildSlice Tryz.prog h 49 1 [(0,.int .i64 x)]=some (.slice (some ⟨h.next,0,none⟩) 1 1,d)/\aAppend Tryz.prog d 49 49 v (.slice (some ⟨h.next,0,none⟩) 1 1)=some (v',a)/\GI a v' (xs++[x])/\GI a o ys/\(∀b,blk v'=some b->blk o≠some b)/\Le c a/\Z2 c v':=by
 obtain⟨v',d,a,e4,n,p,s,l4,hf,i⟩:=g.push hw x m;obtain⟨l5,r⟩:=hf c l k;have own:∀b,blk o=some b->∃y,h.own b=some y:=fun b hb=>by
  cases q:h.own b with
  |none=>exact absurd q (GS.Sy go hb)
  |some y=>exact⟨y,rfl⟩
 refine⟨v',d,a,e4,n,p,go.keep fun b y e hb=>(i b y e fun q=>f b q hb).1,fun b hb j=>?_,l5,r⟩;obtain⟨y,e⟩:=own b j;exact(i b y e fun q=>f b q j).2 hb
def abQ {P:Nat->Bool} (hi:i<l.length):(l.take (i+1)).filter P=(l.take i).filter P++if P l[i]then[l[i]]else[]:=by
 rw[EL hi,Db];cases h:P l[i]<;>simp[h]
def abt (a b:II):kz (a++b)=kz a++kz b:=by simp[kz]
def adn (J:LA) (M:Nat) (l:List (Pr×Int)) (W:Pr->Nat) (cv:Value) (cs:II) (h:AHeap) (oM:h.own M=some (.map (wy l))) (X:∀p,(lookK l p).getD 0=(W p:Int)) (w:RL RP h cv (kz cs)) (lc:cs.length<=1000) (l0:0<cs.length):
  AC Tryz.prog J 80 [.map (some M),cv] h fun x h'=>x=.bool (aaO W cs)/\Le h h':=by
 refine AC.vE ⟨Tryz.func80,rfl,WY⟩ Tryz.ntmps80 Tryz.results80 fun ae=>?_;simp only[Br,Nat.reduceAdd];have ln:=fun g=>w.Uc g;rw[y6]at ln;have G:=w.TA 0 (by rw[y6];exact l0);have f0:∀g,Le h g->aload Tryz.prog g 3 (elemAddr cv 0)=some (.int .i64 (cs.headD 0:Nat)):=fun g lg=>by
  have:=(w.le Nn.RP lg).DH 0 (by rw[y6];exact l0);rw[sY l0]at this;rw[this];cases cs with
  |nil=>cases l0
  |cons=>rfl
 simp only[Int.cast_ofNat_Int]at G;have K:aaO W cs=((cs.filter fun(c:Nat)=>W (((cs.headD 0:Nat):Int),(c:Int))==0).length==3&&!(cs.filter fun(c:Nat)=>W (((cs.headD 0:Nat):Int),(c:Int))!=0).contains (cs.headD 0)&&aba W (cs.filter fun(c:Nat)=>W (((cs.headD 0:Nat):Int),(c:Int))==0) (cs.filter fun(c:Nat)=>W (((cs.headD 0:Nat):Int),(c:Int))!=0)):=rfl;generalize cs.headD 0=f at*;simp only[HO,Nat.reduceLT,↓reduceIte,Nat.reduceEqDiff,reduceCtorEq,ln];refine aaa.intro (fun k fr v=>∃(i:Nat) (o m:Value),k=cs.length-i/\i<=cs.length/\fr=mkF [(0,.map (some M)),(1,cv),(5,o),(6,m),(10,cv),(11,.int .i64 cs.length),(12,.int .i64 i)]/\GI v o (kz ((cs.take i).filter fun(c:Nat)=>W ((f:Int),(c:Int))==0))/\GI v m (kz ((cs.take i).filter fun(c:Nat)=>W ((f:Int),(c:Int))!=0))/\(∀b,blk o=some b->blk m≠some b)/\Le h v/\Z2 h o/\Z2 h m)
  cs.length [(0,.map (some M)),(1,cv),(5,.slice none 0 0),(6,.slice none 0 0),(10,cv),(11,.int .i64 cs.length),(12,.int .i64 (0:Nat))] fD
  ⟨0,_,_,rfl,AE _,rfl,GI.nil h,GI.nil h,fun b hb=>by simp[blk]at hb,Le.refl _,fun b hb=>by simp[blk]at hb,fun b hb=>by simp[blk]at hb⟩ ?_
 rintro k fr v z ⟨i,o,m,rfl,hi,rfl,C,gt,Y,n,pa,Z⟩;have q:=f0 v n;refine Uy ?_;refine Kl.intro (fun H=>?_) (fun hf=>?_)
 rotate_left
 .have L : cs.length <= i := vp hf
  rw[vZ L]at C gt;have ag:=KG (fun(c:Nat)=>W ((f:Int),(c:Int))==0) cs;have aj:=KG (fun(c:Nat)=>W ((f:Int),(c:Int))!=0) cs;generalize cs.filter (fun(c:Nat)=>W ((f:Int),(c:Int))==0)=A at*;generalize cs.filter (fun(c:Nat)=>W ((f:Int),(c:Int))!=0)=B at*;have r:=fun g=>C.rl.Uc g;rw[y6]at r;by_cases c3:A.length=3
  rotate_left
  .have d3 : decide ((A.length : Int) = 3) = false := decide_eq_false NH
   have e3:(A.length==3)=false:=by simpa using c3
   refine Sk (XC r d3) ?_;exact⟨by rw[K,e3];rfl,n⟩
  have d3:decide ((A.length:Int)=3)=true:=decide_eq_true NH;have e3:(A.length==3)=true:=by simpa using c3
  refine Sk (xU r d3 G q) ?_;refine TC.intro PJ ⟨qS36,rfl,WY⟩ (W3 J m (kz B) (f:Int) v gt.rl (by rw[y6];omega)) ?_;rintro y D w5 ⟨rfl,rfl⟩;have N:decide ((f:Int)∈kz B)=B.contains f:=by
   rw[adR,decide_eq_true_eq,Ex,kz,aae];exact⟨fun⟨a,h1,h2⟩=>by
    obtain rfl:a=f:=NH;exact h1,fun h=>⟨f,h,rfl⟩⟩
  rw[N];cases cB:B.contains f with
  |true=>
   refine Uy ?_;exact⟨by rw[K,cB];simp,n⟩
  |false=>
   refine Uy ?_;refine TC.intro PJ ⟨Tryz.func79,rfl,WY⟩ (acu J M l W o m A B D (n.own _ _ oM) X C.rl gt.rl NH NH) ?_;rintro y h6 w6 ⟨rfl,rfl⟩;refine Uy ?_;exact⟨by rw[K,e3,cB];rfl,n⟩
 have d:i<cs.length:=CC H;clear H;have adc:=w.TA i (by rw[y6];exact d);have s:=(w.le Nn.RP n).DH i (by rw[y6];exact d);rw[sY d]at s;have fa:=abQ (P:=fun(c:Nat)=>W ((f:Int),(c:Int))==0) d;have I:=abQ (P:=fun(c:Nat)=>W ((f:Int),(c:Int))!=0) d;have O:(kz ((cs.take i).filter fun(c:Nat)=>W ((f:Int),(c:Int))==0)).length<=100000:=by rw[y6];exact VU (KG _ _) (by rw[Bn];omega)
 have Q:(kz ((cs.take i).filter fun(c:Nat)=>W ((f:Int),(c:Int))!=0)).length<=100000:=by rw[y6];exact VU (KG _ _) (by rw[Bn];omega)
 generalize cs[i]=c at*;have E:=Tw i NH;have F:=xe (f:Int) (c:Int);have R:=SA (n.own _ _ oM) ((f:Int),(c:Int));rw[X]at R;by_cases e:W ((f:Int),(c:Int))=0
 .have S : decide ((W ((f : Int), (c : Int)) : Int) > 0) = false := decide_eq_false NH
  obtain⟨v',h4,D,e4,T,U,j,t,l5,V⟩:=C.push2 gt Y n pa z (c:Int) O;rw[if_pos (by simp[e])]at fa;rw[if_neg (by simp[e]),cJ]at I;have u:GI D v' (kz ((cs.take (i+1)).filter fun(c:Nat)=>W ((f:Int),(c:Int))==0)):=by rw[fa,abt];exact U
  rw[<-I]at j;simp only[HO,Nat.reduceLT,↓reduceIte,Nat.reduceEqDiff,reduceCtorEq,adc,s,G,q,F,wD,R,S,e4,T,E];exact tn (cs.length-(i+1)) [(0,.map (some M)),(1,cv),(5,v'),(6,m),(10,cv),(11,.int .i64 cs.length),(12,.int .i64 (i+1:Nat))] (JS d) fD
   ⟨i+1,v',m,rfl,d,rfl,u,j,t,l5,V,Z⟩
 .have S : decide ((W ((f : Int), (c : Int)) : Int) > 0) = true := decide_eq_true NH
  obtain⟨v',h4,D,e4,T,U,j,t,l5,V⟩:=gt.push2 C (fun b hb ha=>Y b ha hb) n Z z (c:Int) Q;rw[if_neg (by simp[e]),cJ]at fa;rw[if_pos (by simp[e])]at I;have u:GI D v' (kz ((cs.take (i+1)).filter fun(c:Nat)=>W ((f:Int),(c:Int))!=0)):=by rw[I,abt];exact U
  rw[<-fa]at j;simp only[HO,Nat.reduceLT,↓reduceIte,Nat.reduceEqDiff,reduceCtorEq,adc,s,G,q,F,wD,R,S,e4,T,E];exact tn (cs.length-(i+1)) [(0,.map (some M)),(1,cv),(5,o),(6,v'),(10,cv),(11,.int .i64 cs.length),(12,.int .i64 (i+1:Nat))] (JS d) fD
   ⟨i+1,o,v',rfl,d,rfl,j,u,fun b hb H=>t b H hb,l5,pa,V⟩
def aaH (r:RZ):Bool:=!(r.length==0||r.length==2||r.length==3||r.length==4)
def abd (rows:AM) (cs:II) (m:Nat) (E:Nat):Int:=
 if cs.any (fun c=>(rows.getD c []).length !=E)then 0
 else if aaF rows cs≠2*m then 0
 else if E=4 then(if aba (aaM rows cs) cs cs then 5 else 0)else if aaO (aaM rows cs) cs then 33 else 0
def abz (es:List Pr):abw es=if(Zh 200 es).any aaH then 0 else if(aac (Zh 200 es)).length=5 then abd (Zh 200 es) (aac (Zh 200 es)) es.length 4 else if(aac (Zh 200 es)).length=6 then abd (Zh 200 es) (aac (Zh 200 es)) es.length 3 else 0:=rfl
def abA {cs:II} {E:Nat} (h:∀c∈cs,(rows.getD c []).length=E):(aag rows cs).length=E*cs.length:=by
 induction cs with
 |nil=>rfl
 |cons c cs a=>
  have:=a fun d hd=>h d (by simp[hd]);simp only[aag,Dk,kc,LH,Uz]at*;rw[this,h c Ma,Nat.mul_add];omega
def aer (rows:AM) (i:Nat):(List.range (i+1)).filter (aaD rows)=(List.range i).filter (aaD rows)++if aaD rows i then[i]else[]:=by
 rw[rY,Db];cases h:aaD rows i<;>simp[h]
def afd (h:(rows.take i).any aaH=false) (hi:i<rows.length) (hb:aaH rows[i]=false):(rows.take (i+1)).any aaH=false:=by rw[EL hi,List.any_append,h];simp[hb]
def aaY (V:LA) (ev:Value) (es:List Pr) (h:AHeap) (Y:PR h ev es):
  AC Tryz.prog V 40 [ev] h fun x h'=>x=.int .i64 (aaW es)/\Le h h':=by
 refine AC.vE ⟨zj,rfl,WY⟩ Tryz.ntmps40 Tryz.results40 fun av=>?_;simp only[Br,Nat.reduceAdd];obtain⟨h2,h3,a2,s2,l3,w3,lG⟩:=newG (n:=200) av Y;have bg:=Wj (n:=200) Y.sl;have Z:GR h3 (.agg #[.int .i64 200,ev]) ⟨200,es⟩:=⟨ev,rfl,Y.le l3⟩;refine Sk (xU bg a2 s2 ((lG h3 (Le.refl _)).1)) ?_;refine TC.intro PJ ⟨qS9,rfl,WY⟩ (ak V _ ⟨200,es⟩ h3 Z) ?_;rintro x h4 w4 ⟨⟨bb,rfl,S⟩,l4⟩;cases bb with
 |false=>
  refine Uy ?_;exact⟨by rw[aaW,if_neg fun q=>by cases S.2 q],l3.trans l4⟩
 |true=>
 have hr:bX ⟨((200:Nat):Int),es⟩:=S.1 rfl;have j:aaW es=abw es:=if_pos hr;clear S;have ay:=l3.trans l4;refine Sk ((lG h4 l4).1) ?_;refine TC.intro PJ ⟨SV,rfl,WY⟩ (oe V _ 200 es h4 (Z.le l4) hr) ?_;rintro bv h5 w5 ⟨hb,l5⟩;have az:=ay.trans l5;have aW:es.length<=594:=hr.len;have hR:=hr.GD;rw[abz]at j;have O:=fun cv cs g b1 b2 b3 b4 b5=>adi V bv cv (n:=200) (es:=es) cs g b1 b2 hr b3 b4 b5;have bl:=Xq 200 es;generalize Zh 200 es=rows at*;have lb:=fun g=>hb.len (P:=Tryz.prog) pE g;rw[bl]at lb;refine Sk lb ?_;refine aaa.intro (fun k fr W=>∃(i:Nat) (cv:Value),k=200-i/\i<=200/\fr=mkF [(0,ev),(4,bv),(5,cv),(20,bv),(21,.int .i64 (200:Nat)),(22,.int .i64 i)]/\GI W cv (kz ((List.range i).filter (aaD rows)))/\Le h5 W/\Z2 h5 cv/\(rows.take i).any aaH=false)
  200 [(0,ev),(4,bv),(5,.slice none 0 0),(20,bv),(21,.int .i64 (200:Nat)),(22,.int .i64 (0:Nat))] fD
  ⟨0,_,rfl,AE _,rfl,GI.nil h5,Le.refl _,fun b hb=>by simp[blk]at hb,rfl⟩ ?_
 rintro k fr W aD ⟨i,cv,rfl,hi,rfl,gc,J,pc,w⟩;have D:=az.trans J;refine Uy ?_;refine Kl.intro (fun Q=>?_) (fun hf=>?_)
 rotate_left
 .have K : 200 <= i := vp (n := 200) hf
  obtain rfl:i=200:=NH;rw[vZ NH]at w;rw[w,if_neg Ma]at j;have ae:aac rows=(List.range 200).filter (aaD rows):=by rw[aac,bl]
  rw[<-ae]at gc;have L:∀c∈aac rows,c<200:=fun c v=>by rw[ae]at v;exact j9.1 (iy.1 v).1
  generalize aac rows=cs at*;have lc:=fun g=>gc.rl.Uc g;rw[y6]at lc;by_cases c5:cs.length=5
  .have d5 : decide ((cs.length : Int) = 5) = true := decide_eq_true NH
   rw[if_pos c5]at j;simp only[HO,Nat.reduceLT,↓reduceIte,Nat.reduceEqDiff,reduceCtorEq,lc,d5];refine aaa.intro (fun k fr N=>∃i:Nat,k=cs.length-i/\i<=cs.length/\fr=mkF [(0,ev),(4,bv),(5,cv),(8,.int .i64 4),(46,cv),(47,.int .i64 cs.length),(48,.int .i64 i)]/\N=W/\∀c∈cs.take i,(rows.getD c []).length=4)
    cs.length [(0,ev),(4,bv),(5,cv),(8,.int .i64 4),(46,cv),(47,.int .i64 cs.length),(48,.int .i64 (0:Nat))] fD ⟨0,rfl,AE _,rfl,rfl,fun c v=>by simp at v⟩ ?_
   rintro k fr N aF ⟨i,rfl,hi,rfl,rfl,f⟩;refine Uy ?_;refine Kl.intro (fun Q=>?_) (fun hf=>?_)
   .have a : i < cs.length := CC Q
    clear Q;have p:=Gw a;have adc:=gc.rl.TA i (by rw[y6];exact a);have z:=gc.rl.DH i (by rw[y6];exact a);rw[sY a]at z;have T:=EL a;generalize cs[i]=c at*;have aH:=L c p;have A:c<rows.length:=NH;have E:=hb.NS c A;obtain⟨u,F,hu⟩:=hb.Wm c A;have lu:=F N J;have gd:rows.getD c []=rows[c]:=D4 A;generalize rows[c]=r at*;have m:=fun g=>hu.Uc g;have s:=Tw i NH;by_cases e:r.length=4
    .have B : decide ((r.length : Int) = 4) = true := decide_eq_true NH
     simp only[HO,Nat.reduceLT,↓reduceIte,Nat.reduceEqDiff,reduceCtorEq,adc,z,E,lu,m,bne,B,s];exact tn (cs.length-(i+1)) [(0,ev),(4,bv),(5,cv),(8,.int .i64 4),(46,cv),(47,.int .i64 cs.length),(48,.int .i64 (i+1:Nat))] (JS a) fD ⟨i+1,rfl,a,rfl,rfl,fun d hd=>by
      rw[T]at hd;rcases WA.1 hd with q|q
      .exact f d q
      .rw[Eh.1 q,gd];exact e⟩
    .have B : decide ((r.length : Int) = 4) = false := decide_eq_false NH
     have o:cs.any (fun c=>(rows.getD c []).length !=4)=true:=Ly.2 ⟨c,p,by rw[gd];simpa using e⟩;simp only[HO,Nat.reduceLT,↓reduceIte,Nat.reduceEqDiff,reduceCtorEq,adc,z,E,lu,m,bne,B];exact⟨by rw[j,abd,if_pos o],D⟩
   have K:cs.length<=i:=vp hf;rw[vZ K]at f;have o:¬cs.any (fun c=>(rows.getD c []).length !=4)=true:=fun q=>by
    obtain⟨c,v,q⟩:=Ly.1 q;rw[f c v]at q;cases q
   rw[abd,if_neg o]at j;refine Uy ?_;refine TC.intro PJ ⟨Tryz.func78,rfl,WY⟩ (O cv cs N (hb.le (Nn.RL Nn.RP) J) gc.rl (fun c v=>⟨L c v,by rw[f c v];decide⟩) (by rw[abA f];omega) NH) ?_;rintro x h8 w8 ⟨M,l,rfl,oM,hW,X⟩;have C:=D.trans X;have lP:=fun g=>Y.len g;have G:awrap .i64 (2*(es.length:Int))=((2*es.length:Nat):Int):=by rw[ie _ NH NH];omega
   by_cases e:aaF rows cs=2*es.length
   rotate_left
   .have B : decide (((aaF rows cs : Nat) : Int) = ((2 * es.length : Nat) : Int)) = false := decide_eq_false NH
    rw[if_pos e]at j;refine Sk (xU lP G @bne.eq_1.{0} B) ?_
    exact⟨by rw[j],C⟩
   have B:decide (((aaF rows cs:Nat):Int)=((2*es.length:Nat):Int))=true:=decide_eq_true NH;rw[if_neg (fun q=>q e)]at j;rw[if_pos rfl]at j;have d4:decide ((4:Int)=4)=true:=by decide
   have aJ:decide ((4:Int)=3)=false:=by decide
   refine Sk (IX lP G @bne.eq_1.{0} B d4) ?_
   refine TC.intro PJ ⟨Tryz.func79,rfl,WY⟩ (acu V M l (aaM rows cs) cv cv cs cs h8 oM hW (gc.rl.le Nn.RP X) (gc.rl.le Nn.RP X) NH NH) ?_;rintro y h9 w9 ⟨rfl,rfl⟩;cases hE:aba (aaM rows cs) cs cs with
   |true=>
    rw[hE,if_pos rfl]at j;refine Uy ?_;exact⟨by rw[j],C⟩
   |false=>
    rw[hE,if_neg Ma]at j;refine Sk aJ ?_;exact⟨by rw[j],C⟩
  have d5:decide ((cs.length:Int)=5)=false:=decide_eq_false NH;rw[if_neg c5]at j;by_cases c6:cs.length=6
  .have d5 : decide ((cs.length : Int) = 5) = false := decide_eq_false NH
   rw[if_pos c6]at j;have d6:decide ((cs.length:Int)=6)=true:=decide_eq_true NH;simp only[HO,Nat.reduceLT,↓reduceIte,Nat.reduceEqDiff,reduceCtorEq,lc,d5,bne,d6];refine aaa.intro (fun k fr N=>∃i:Nat,k=cs.length-i/\i<=cs.length/\fr=mkF [(0,ev),(4,bv),(5,cv),(8,.int .i64 3),(46,cv),(47,.int .i64 cs.length),(48,.int .i64 i)]/\N=W/\∀c∈cs.take i,(rows.getD c []).length=3)
    cs.length [(0,ev),(4,bv),(5,cv),(8,.int .i64 3),(46,cv),(47,.int .i64 cs.length),(48,.int .i64 (0:Nat))] fD ⟨0,rfl,AE _,rfl,rfl,fun c v=>by simp at v⟩ ?_
   rintro k fr N aF ⟨i,rfl,hi,rfl,rfl,f⟩;refine Uy ?_;refine Kl.intro (fun Q=>?_) (fun hf=>?_)
   .have a : i < cs.length := CC Q
    clear Q;have p:=Gw a;have adc:=gc.rl.TA i (by rw[y6];exact a);have z:=gc.rl.DH i (by rw[y6];exact a);rw[sY a]at z;have T:=EL a;generalize cs[i]=c at*;have aH:=L c p;have A:c<rows.length:=NH;have E:=hb.NS c A;obtain⟨u,F,hu⟩:=hb.Wm c A;have lu:=F N J;have gd:rows.getD c []=rows[c]:=D4 A;generalize rows[c]=r at*;have m:=fun g=>hu.Uc g;have s:=Tw i NH;by_cases e:r.length=3
    .have B : decide ((r.length : Int) = 3) = true := decide_eq_true NH
     simp only[HO,Nat.reduceLT,↓reduceIte,Nat.reduceEqDiff,reduceCtorEq,adc,z,E,lu,m,bne,B,s];exact tn (cs.length-(i+1)) [(0,ev),(4,bv),(5,cv),(8,.int .i64 3),(46,cv),(47,.int .i64 cs.length),(48,.int .i64 (i+1:Nat))] (JS a) fD ⟨i+1,rfl,a,rfl,rfl,fun d hd=>by
      rw[T]at hd;rcases WA.1 hd with q|q
      .exact f d q
      .rw[Eh.1 q,gd];exact e⟩
    .have B : decide ((r.length : Int) = 3) = false := decide_eq_false NH
     have o:cs.any (fun c=>(rows.getD c []).length !=3)=true:=Ly.2 ⟨c,p,by rw[gd];simpa using e⟩;simp only[HO,Nat.reduceLT,↓reduceIte,Nat.reduceEqDiff,reduceCtorEq,adc,z,E,lu,m,bne,B];exact⟨by rw[j,abd,if_pos o],D⟩
   have K:cs.length<=i:=vp hf;rw[vZ K]at f;have o:¬cs.any (fun c=>(rows.getD c []).length !=3)=true:=fun q=>by
    obtain⟨c,v,q⟩:=Ly.1 q;rw[f c v]at q;cases q
   rw[abd,if_neg o]at j;refine Uy ?_;refine TC.intro PJ ⟨Tryz.func78,rfl,WY⟩ (O cv cs N (hb.le (Nn.RL Nn.RP) J) gc.rl (fun c v=>⟨L c v,by rw[f c v];decide⟩) (by rw[abA f];omega) NH) ?_;rintro x h8 w8 ⟨M,l,rfl,oM,hW,X⟩;have C:=D.trans X;have lP:=fun g=>Y.len g;have G:awrap .i64 (2*(es.length:Int))=((2*es.length:Nat):Int):=by rw[ie _ NH NH];omega
   by_cases e:aaF rows cs=2*es.length
   rotate_left
   .have B : decide (((aaF rows cs : Nat) : Int) = ((2 * es.length : Nat) : Int)) = false := decide_eq_false NH
    rw[if_pos e]at j;refine Sk (xU lP G @bne.eq_1.{0} B) ?_
    exact⟨by rw[j],C⟩
   have B:decide (((aaF rows cs:Nat):Int)=((2*es.length:Nat):Int))=true:=decide_eq_true NH;rw[if_neg (fun q=>q e)]at j;rw[if_neg WY]at j;have aK:decide ((3:Int)=4)=false:=by decide
   have d3:decide ((3:Int)=3)=true:=by decide
   refine Sk (bG lP G @bne.eq_1.{0} B aK d3) ?_
   refine TC.intro PJ ⟨Tryz.func80,rfl,WY⟩ (adn V M l (aaM rows cs) cv cs h8 oM hW (gc.rl.le Nn.RP X) NH NH) ?_;rintro y h9 w9 ⟨rfl,l9⟩;cases hE:aaO (aaM rows cs) cs with
   |true=>
    rw[hE,if_pos rfl]at j;refine Uy ?_;exact⟨by rw[j],C.trans l9⟩
   |false=>
    rw[hE,if_neg Ma]at j;refine Uy ?_;exact⟨by rw[j],C.trans l9⟩
  have d6:decide ((cs.length:Int)=6)=false:=decide_eq_false NH;rw[if_neg c6]at j;simp only[HO,Nat.reduceLT,↓reduceIte,Nat.reduceEqDiff,reduceCtorEq,lc,d5,bne,d6];exact⟨by rw[j],D⟩
 have a:i<200:=CC (n:=200) Q;clear Q;have H:i<rows.length:=NH;have E:=hb.NS i H;obtain⟨u,F,hu⟩:=hb.Wm i H;have lu:=F W J;have gd:rows.getD i []=rows[i]:=D4 H;have I:=aer rows i;have ag:aaD rows i=((rows[i]).length==3||(rows[i]).length==4):=by rw[aaD,gd]
 have R:=afd w H;have aj:aaH rows[i]=true->rows.any aaH=true:=fun q=>Ly.2 ⟨_,Gw H,q⟩;generalize rows[i]=r at*;have m:=fun g=>hu.Uc g;have s:=Tw i NH;have aP:(kz ((List.range i).filter (aaD rows))).length<=100000:=by rw[y6];exact VU (KG _ _) (by simp;omega)
 by_cases c0:r.length=0\/r.length=2
 .have cb : aaD rows i = false := by rw [ag]; rcases c0 with q | q <;> rw [q] <;> rfl
  rw[cb,if_neg Ma,cJ]at I;have t:=R (by unfold aaH;rcases c0 with q|q<;>rw[q]<;>rfl);rcases c0 with q|q
  .have U : decide ((r.length : Int) = 0) = true := decide_eq_true NH
   simp only[HO,Nat.reduceLT,↓reduceIte,Nat.reduceEqDiff,reduceCtorEq,E,lu,m,U,s];exact tn (200-(i+1)) [(0,ev),(4,bv),(5,cv),(20,bv),(21,.int .i64 (200:Nat)),(22,.int .i64 (i+1:Nat))] (JS a) fD ⟨i+1,cv,rfl,a,rfl,by rw[I];exact gc,J,pc,t⟩
  .have U : decide ((r.length : Int) = 0) = false := decide_eq_false NH
   have d2:decide ((r.length:Int)=2)=true:=decide_eq_true NH;simp only[HO,Nat.reduceLT,↓reduceIte,Nat.reduceEqDiff,reduceCtorEq,E,lu,m,U,d2,s];exact tn (200-(i+1)) [(0,ev),(4,bv),(5,cv),(20,bv),(21,.int .i64 (200:Nat)),(22,.int .i64 (i+1:Nat))] (JS a) fD ⟨i+1,cv,rfl,a,rfl,by rw[I];exact gc,J,pc,t⟩
 have U:decide ((r.length:Int)=0)=false:=decide_eq_false NH;have d2:decide ((r.length:Int)=2)=false:=decide_eq_false NH;by_cases c3:r.length=3\/r.length=4
 .have cb : aaD rows i = true := by rw [ag]; rcases c3 with q | q <;> rw [q] <;> rfl
  rw[cb,if_pos rfl]at I;have t:=R (by unfold aaH;rcases c3 with q|q<;>rw[q]<;>rfl);obtain⟨v',h6,h7,e6,e7,g7,w7,l6,aT,-⟩:=gc.push aD (i:Int) aP;obtain⟨l7,a7⟩:=aT h5 J pc;have al:GI h7 v' (kz ((List.range (i+1)).filter (aaD rows))):=by rw[I,abt];exact g7
  rcases c3 with q|q
  .have d3 : decide ((r.length : Int) = 3) = true := decide_eq_true NH
   simp only[HO,Nat.reduceLT,↓reduceIte,Nat.reduceEqDiff,reduceCtorEq,E,lu,m,U,d2,d3,e6,e7,s];exact tn (200-(i+1)) [(0,ev),(4,bv),(5,v'),(20,bv),(21,.int .i64 (200:Nat)),(22,.int .i64 (i+1:Nat))] (JS a) fD ⟨i+1,v',rfl,a,rfl,al,l7,a7,t⟩
  .have d3 : decide ((r.length : Int) = 3) = false := decide_eq_false NH
   have d4:decide ((r.length:Int)=4)=true:=decide_eq_true NH;simp only[HO,Nat.reduceLT,↓reduceIte,Nat.reduceEqDiff,reduceCtorEq,E,lu,m,U,d2,d3,d4,e6,e7,s];exact tn (200-(i+1)) [(0,ev),(4,bv),(5,v'),(20,bv),(21,.int .i64 (200:Nat)),(22,.int .i64 (i+1:Nat))] (JS a) fD ⟨i+1,v',rfl,a,rfl,al,l7,a7,t⟩
 have d3:decide ((r.length:Int)=3)=false:=decide_eq_false NH;have d4:decide ((r.length:Int)=4)=false:=decide_eq_false NH;have aq:aaH r=true:=by
  unfold aaH;have e0:(r.length==0)=false:=beq_eq_false_iff_ne.2 NH;have e2:(r.length==2)=false:=beq_eq_false_iff_ne.2 NH;have e3:(r.length==3)=false:=beq_eq_false_iff_ne.2 NH;have e4:(r.length==4)=false:=beq_eq_false_iff_ne.2 NH;rw[e0,e2,e3,e4];rfl
 rw[aj aq,if_pos rfl]at j;simp only[HO,Nat.reduceLT,↓reduceIte,Nat.reduceEqDiff,reduceCtorEq,E,lu,m,U,d2,d3,d4];exact⟨by rw[j],D⟩
end
end Go.Fw
