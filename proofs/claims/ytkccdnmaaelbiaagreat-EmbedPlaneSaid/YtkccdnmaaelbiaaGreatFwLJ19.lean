/- A text. -/
import Derived.Test.YtkccdnmaaelbiaaGreatFwLJ13
set_option linter.all false
set_option maxRecDepth 99999
set_option maxHeartbeats 9999999
namespace Go.Fw
section
attribute [local instance] Classical.propDecidable
attribute [local irreducible] Ax YH XZ Uk KO KN KX KE VK DK Q7 dK W9
open Go.Proofs
variable {T rows:CA} {a b i j m n t w:Nat} {b0 h:AHeap} {us:List Value}
def Rows.setRow {L:Nat} (R:Rows b0 h L us rows) (j:WF h) (hw:w<us.length) {u:Value} {r:LF} (g:GI h u r) (p:tQ b0 u) (m:blk u≠some L) (n:∀(v:Nat) a b,us[v]?=some a->blk a=some b->blk u≠some b):
  ∃h',aStore Tryz.prog h 49 (.pointer (some ⟨L,w,none⟩)) u=some h'/\Rows b0 h' L (us.set w u) (rows.set w r)/\WF h'/\Le (h.kill L) h'/\∀b o,b≠L->h.own b=some o->h'.own b=some o:=by
 have st:=Qr (P:=Tryz.prog) (t:=49) (x:=u) Rm zd R.oL (off:=w) hw g.rl.sl.cell g.rl.one;have keep:∀b o,b≠L->h.own b=some o->(h.put L (.cells (us.set w u))).own b=some o:=fun b o hb s=>by rw[AHeap.Dz _ _ _ _ hb];exact s
 have key:∀(v:Nat) a,(us.set w u)[v]?=some a->(v=w/\a=u)\/(v≠w/\us[v]?=some a):=fun v a ha=>by
  rw[v8]at ha;by_cases e:w=v
  .rw [if_pos e] at ha
   simp only[hw,if_true]at ha;injection ha with ha;exact .inl ⟨e.symm,ha.symm⟩
  .rw[if_neg e]at ha;exact .inr ⟨fun q=>e q.symm,ha⟩
 refine⟨_,st,⟨AHeap.zm _ _ _,by rw[qm,qm];exact R.len,fun v a q ha f=>?_,fun v a ha=>?_,fun v w' a a' b k ha WA hb=>?_,fun v a ha=>?_,R.le.put _ R.bL,R.bL⟩,j.put _ (j.lt R.oL),((Le.js h L).put _ (AHeap.IV _ _)),keep⟩
 .rcases key v a ha with ⟨d, c⟩ | ⟨d, c⟩
  .rw [d, v8, if_pos rfl] at f
   simp only[show w<rows.length by rw[<-R.len];exact hw,if_true]at f;injection f with f;rw[c,<-f];exact GS.put g _ m
  .rw [v8, if_neg (Hn d)] at f
   exact GS.put (R.gs v a q c f) _ (R.nL v a c)
 .rcases key v a ha with ⟨d, c⟩ | ⟨d, c⟩
  .rw[c];exact m
  .exact R.nL v a c
 .rcases key v a ha with ⟨d, c⟩ | ⟨d, c⟩
  .rcases key w' a' WA with ⟨l, i⟩ | ⟨l, i⟩
   .exact absurd (d.trans l.symm) k
   .rw [c] at hb
    exact fun q=>n w' a' b i q hb
  .rcases key w' a' WA with ⟨l, i⟩ | ⟨l, i⟩
   .rw[i];exact n v a b c hb
   .exact R.eX v w' a a' b k c i hb
 .rcases key v a ha with ⟨d, c⟩ | ⟨d, c⟩
  .rw[c];exact p
  .exact R.ap v a c
def wQ (n:Nat) (a:List (Nat×Nat×Nat)):CA:=a.foldl Wk (List.replicate n (List.replicate n (-1)))
def KA {n:Nat}:∀(a:List (Nat×Nat×Nat)) (T:CA),(T.length=n/\∀v,v<n->(T.getD v []).length=n)->(a.foldl Wk T).length=n/\∀v,v<n->((a.foldl Wk T).getD v []).length=n
 |[],_,h=>h
 |t::a,T,h=>KA a (Wk T t) (NU h)
def fM (n:Nat):(List.replicate n (List.replicate n (-1:Int))).length=n/\∀v,v<n->((List.replicate n (List.replicate n (-1:Int))).getD v []).length=n:=by
 refine⟨vV,fun v a=>?_⟩;rw[OO,gG,if_pos a];simp
def Dk (n:Nat) (a:List (Nat×Nat×Nat)) (t:Nat×Nat×Nat):wQ n (a++[t])=Wk (wQ n a) t:=by unfold wQ;rw[Tr];rfl
def IX (n i:Nat):CA:=List.replicate i (List.replicate n (-1))++List.replicate (n-i) []
def fP (h:i<n):(IX n i).set i (List.replicate n (-1))=IX n (i+1):=by
 unfold IX;rw[ZK _ _ YX,vV,iE,List.replicate_succ',show n-i=(n-(i+1))+1 by omega,T4];simp
def Vd (n:Nat) (T rows:CA) (i k:Nat):CA:=(List.range i).map (HQ T rows)++((List.range k).map fun t=>itI (T.getD i []) t ((rows.getD i []).getD 0 0))::List.replicate (n-(i+1)) []
def mT (n:Nat) (T rows:CA) (i k:Nat):(Vd n T rows i k)[i]?=some ((List.range k).map fun t=>itI (T.getD i []) t ((rows.getD i []).getD 0 0)):=by
 unfold Vd;rw[kc YX,yA,xw,iE];rfl
def TC (n:Nat) (T rows:CA) (i k:Nat):(Vd n T rows i k).set i (((List.range k).map fun t=>itI (T.getD i []) t ((rows.getD i []).getD 0 0))++[itI (T.getD i []) k ((rows.getD i []).getD 0 0)])=Vd n T rows i (k+1):=by
 unfold Vd;rw[ZK _ _ YX,yA,xw,iE,pR,qy];rfl
def Hm (h:i+1<n):Vd n T rows i (rows.getD i []).length=Vd n T rows (i+1) 0:=by
 unfold Vd;rw[pR,qy,Nd];congr 1;rw[show n-(i+1)=(n-(i+1+1))+1 by omega,T4];rfl
def xS (h:i+1=n):Vd n T rows i (rows.getD i []).length=(List.range n).map (HQ T rows):=by
 unfold Vd;rw[<-h,pR,qy,iE];rfl
def OC (h:0<n):Vd n T rows 0 0=List.replicate n []:=by
 unfold Vd;rw[show n=(n-1)+1 by omega,T4];simp
def vk (h:j<m):((j:Int)+(m:Int)-1).tmod (m:Int)=(((j+m-1)%m:Nat):Int):=by
 rw[qL222 QT,show(j:Int)+(m:Int)-1=((j+m-1:Nat):Int) by omega,Int.natCast_emod]
def JM (h:0<m) (b:m<=1000):awrap .i64 ((a%m:Nat):Int)=((a%m:Nat):Int):=by
 have:a%m<m:=JH _ h;exact HY _ QT QT
def sU (h:t<m) (a:m<=1000):awrap .i64 ((t:Int)+(m:Int))=(t:Int)+(m:Int):=GQ _ QT QT
def qu (h:t<m) (a:m<=1000):awrap .i64 ((t:Int)+(m:Int)-1)=(t:Int)+(m:Int)-1:=GQ _ QT QT
def NC (h:t<m):¬((m:Int)=0):=QT
def E8 (h:t<m):(((t+1:Nat):Int)).tmod (m:Int)=(((t+1)%m:Nat):Int):=by rw[<-jK (c:=t) (m:=m) QT];congr 1
def fR (h:a<b):0<b:=NV (KW _) h
def yf (W0:Ac) (B n:Nat) (bv ov S iv lv:Value) (rows:CA) (F:ai) (h:AHeap) (hs:sg h B n bv ov S iv lv) (hb:RL (RL IJ) h bv rows) (hF:RL (RL IJ) h S (F.map aW)) (bj:rows.length=n)
  (h0:∀v,v<n->0<(rows.getD v []).length/\(rows.getD v []).length<=2000) (bm:∀f∈F,(∀x∈f,x<n)/\f.length<=1000) (hn:n<=300) (aE:0<n) (c5:F.length<=1000)
  (bo:∀v,v<n->∀k,k<=(rows.getD v []).length->∃u:Nat,u<n/\itI ((Z5 n F).getD v []) k ((rows.getD v []).getD 0 0)=(u:Int)):
  AC Tryz.prog W0 54 [.pointer (some ⟨B,0,none⟩)] h fun x h'=>RL (RL IJ) h' x (RG n rows F)/\Le h h':=by
 refine AC.vE ⟨Tryz.func54,rfl,xr⟩ Tryz.ntmps54 Tryz.results54 fun aK=>?_;simp only[xq,Nat.reduceAdd];have X:=sB B 0 QT;have br:=sB B 1 QT;have bx:=sB B 3 QT;obtain⟨h1,e1,l1,w1,o1⟩:=mV aK (List.replicate n Y2);have mk:=mk57 h n QT;rw[e1]at mk
 have nL:h.own h.next=none:=(Le.refl h).next aK (J4 _)
 have R0:Rows h h1 h.next (List.replicate n Y2) (IX n 0):=by
  have:=Rows.start o1 l1 nL;have e:IX n 0=List.replicate n []:=by simp[IX]
  rw[e];exact this
 generalize h.next=m at*
 have bF:=fun g=>lD (P:=Tryz.prog) (t:=27) (a:=some ⟨m,0,none⟩) (n:=n) (cap:=n) qS9 g;have U:∀v,v<n->aIndexAddr Tryz.prog 27 (.slice (some ⟨m,0,none⟩) n n) (.int .i64 (v:Int))=some (.pointer (some ⟨m,v,none⟩)):=fun v N=>by
  rw[vj qS9 Rm zd v N];simp[Co]
 simp only[Ud,Nat.reduceLT,↓reduceIte,Nat.reduceEqDiff,reduceCtorEq,X,hs.l0,mk,bF];refine W9.intro (fun k fr D=>∃(i:Nat) (us:List Value),k=n-i/\i<=n/\fr=mkF [(0,.pointer (some ⟨B,0,none⟩)),(3,.slice (some ⟨m,0,none⟩) n n),(20,.int .i64 (n:Nat)),(21,.int .i64 (i:Nat))]/\Rows h D m us (IX n i)/\us.length=n)
  n [(0,.pointer (some ⟨B,0,none⟩)),(3,.slice (some ⟨m,0,none⟩) n n),(20,.int .i64 (n:Nat)),(21,.int .i64 (0:Nat))] vy ⟨0,_,rfl,KW _,rfl,R0,YX⟩ ?_
 clear R0 mk o1 w1 l1 e1;clear h1;rintro k fr D aM ⟨i,us,rfl,hi,rfl,R,p⟩;refine yq ?_;refine DK.intro (fun G=>?_) (fun hf=>?_)
 .have H : i < n := Ub G
  clear G;obtain⟨h4,e4,l4,w4,o4⟩:=mV aM [.int .i64 (-1)];have s4:=hs.le (R.le.trans l4);simp only[Ud,Nat.reduceLT,↓reduceIte,Nat.reduceEqDiff,reduceCtorEq,Vb,e4,X,s4.l0];refine dK.intro pK ⟨lH,rfl,xr⟩ (SV W0 _ n hn h4 (RL.Kr (RS.whole o4 rfl))) ?_;rintro x h5 w5 ⟨T,rfl,hT,o5,l5⟩;have R5:=(R.up l4).up l5;have gT:GI h5 (.slice (some ⟨T,0,none⟩) n n) (List.replicate n (-1)):=by
   have:h5.own T=some (.cells (oY (List.replicate n (-1)))):=by rw[o5];simp[oY]
   have:=GS.full (k:=1) (n:=n) this (by simp[oY]) QT;show GS 1 h5 _ _ _;rw[vV];exact this
  have dT:∀{b o},h4.own b=some o->T≠b:=fun{b o} ob e=>by have:=w4.lt ob;omega
  obtain⟨h6,e6,R6,w6,-,-⟩:=R5.setRow w5 (w:=i) QT gT (fun b AD=>by
    simp[blk]at AD;subst AD
    exact(R.le.trans l4).next w4 hT) (fun e=>by
    simp[blk]at e;exact dT (l4.own _ _ R.oL) e) (fun v a b ha AD e=>by
    simp[blk]at e;have N:v<(IX n i).length:=by rw[<-R.len];exact(bH.1 ha).1
    have:=GS.Rf (R.gs v a _ ha (dR N)) AD;obtain⟨o,ho⟩:=yu.1 this;exact dT (l4.own _ _ ho) e)
  rw[fP H]at R6;simp only[Ud,Nat.reduceLT,↓reduceIte,Nat.reduceEqDiff,reduceCtorEq,U i H,e6,Gm i QT];exact cX (n-(i+1)) [(0,.pointer (some ⟨B,0,none⟩)),(3,.slice (some ⟨m,0,none⟩) n n),(20,.int .i64 (n:Nat)),(21,.int .i64 (i+1:Nat))] (dN H) vy ⟨i+1,_,rfl,H,rfl,R6,by rw[qm];exact p⟩
 have y:n<=i:=Yv hf;obtain rfl:i=n:=QT;clear y hf hi;have aQ:IX i i=wQ i ((F.take 0).flatMap Ck):=by simp[IX,wQ]
 rw[aQ]at R;have lF:=fun g=>hF.ae g;rw[yA]at lF;have sq:=hs.le R.le;simp only[Ud,Nat.reduceLT,↓reduceIte,Nat.reduceEqDiff,reduceCtorEq,bx,sq.l3,lF];refine W9.intro (fun k fr r=>∃(j:Nat) (us:List Value),k=F.length-j/\j<=F.length/\fr=mkF [(0,.pointer (some ⟨B,0,none⟩)),(3,.slice (some ⟨m,0,none⟩) i i),(37,S),(38,.int .i64 (F.length:Nat)),(39,.int .i64 (j:Nat))]/\Rows h r m us (wQ i ((F.take j).flatMap Ck))/\us.length=i)
  F.length [(0,.pointer (some ⟨B,0,none⟩)),(3,.slice (some ⟨m,0,none⟩) i i),(37,S),(38,.int .i64 (F.length:Nat)),(39,.int .i64 (0:Nat))] vy ⟨0,us,rfl,KW _,rfl,R,p⟩ ?_
 clear R p aM aQ sq;clear us D;rintro k fr r Y ⟨j,us,rfl,hj,rfl,R,p⟩;refine yq ?_;refine DK.intro (fun G=>?_) (fun hf=>?_)
 .have I : j < F.length := Ub G
  clear G;have bI:=hF.Jl j (by rw[yA];exact I);obtain⟨u,lu,hu⟩:=hF.To j (by rw[yA];exact I);rw[IP]at hu;obtain⟨bQ,L⟩:=bm F[j] (om I);have bV:F.take (j+1)=F.take j++[F[j]]:=QM I;generalize F[j]=f at*;have Z:=fun g=>hu.zw g;rw[tG]at Z;simp only[Ud,Nat.reduceLT,↓reduceIte,Nat.reduceEqDiff,reduceCtorEq,bI,lu r R.le,Z];have R':Rows h r m us (wQ i ((F.take j).flatMap Ck++(Ck f).take 0)):=by simpa using R
  refine W9.intro (fun k fr J=>∃(t:Nat) (us:List Value),k=f.length-t/\t<=f.length/\fr=mkF [(0,.pointer (some ⟨B,0,none⟩)),(3,.slice (some ⟨m,0,none⟩) i i),(6,u),(37,S),(38,.int .i64 (F.length:Nat)),(39,.int .i64 (j:Nat)),(43,u),(44,.int .i64 (f.length:Nat)),(45,.int .i64 (t:Nat))]/\Rows h J m us (wQ i ((F.take j).flatMap Ck++(Ck f).take t))/\us.length=i)
   f.length [(0,.pointer (some ⟨B,0,none⟩)),(3,.slice (some ⟨m,0,none⟩) i i),(6,u),(37,S),(38,.int .i64 (F.length:Nat)),(39,.int .i64 (j:Nat)),(43,u),(44,.int .i64 (f.length:Nat)),(45,.int .i64 (0:Nat))] vy ⟨0,us,rfl,KW _,rfl,R',p⟩ ?_
  clear R' R p Y;clear us r;rintro k fr J ag ⟨t,us,rfl,c6,rfl,R,p⟩;refine yq ?_;have tl:(Ck f).length=f.length:=by simp[Ck]
  refine DK.intro (fun G=>?_) (fun hf=>?_)
  .have l : t < f.length := Ub G
   clear G;have fp:(t+f.length-1)%f.length<f.length:=JH _ QT;have aT:(t+1)%f.length<f.length:=JH _ QT;have ad:∀q,q<f.length->aIndexAddr Tryz.prog 49 u (.int .i64 (q:Int))=some (.pointer (some (elemAddr u q))):=fun q D=>hu.qW q (by rw[tG];exact D);have ld:∀q (D:q<f.length),aload Tryz.prog J 3 (elemAddr u q)=some (.int .i64 ((f.getD q 0:Nat):Int)):=fun q D=>by
    rw[(hu.le Rr.IJ R.le).HN q (by rw[tG];exact D),uD D,YR D]
   have mm:∀q,q<f.length->f.getD q 0<i:=fun q D=>by rw[YR D];exact bQ _ (om D)
   have bW:(Ck f).take (t+1)=(Ck f).take t++[(f.getD t 0,f.getD ((t+f.length-1)%f.length) 0,f.getD ((t+1)%f.length) 0)]:=by
    rw[QM (by rw[tl];exact l)];congr 2;unfold Ck;rw[IP,aad]
   have N:=mm t l;have bX:=mm _ fp;have d:=KA ((F.take j).flatMap Ck++(Ck f).take t) _ (fM i);obtain⟨M,ah⟩:∃a,us[f.getD t 0]?=some a:=⟨_,dR QT⟩;have V:(wQ i ((F.take j).flatMap Ck++(Ck f).take t))[f.getD t 0]?=some ((wQ i ((F.take j).flatMap Ck++(Ck f).take t)).getD (f.getD t 0) []):=by
    have:f.getD t 0<(wQ i ((F.take j).flatMap Ck++(Ck f).take t)).length:=by unfold wQ;rw[d.1];exact N
    rw[YR this];exact dR this
   have W:f.getD ((t+f.length-1)%f.length) 0<((wQ i ((F.take j).flatMap Ck++(Ck f).take t)).getD (f.getD t 0) []).length:=by unfold wQ;rw[d.2 _ N];exact bX
   obtain⟨h9,e9,R9,w9,-,-⟩:=R.put ag ah V W ((f.getD ((t+1)%f.length) 0:Nat):Int);have bY:=R.gs _ M _ ah V;have b0:=(show GI J M _ from bY).rl.qW _ W;have b1:aload Tryz.prog J 49 ⟨m,f.getD t 0,none⟩=some M:=by rw[wT Rm rfl R.oL];exact ah
   have b2:awrap .i64 ((t:Int)+(f.length:Int))=(t:Int)+(f.length:Int):=sU l L;have b3:awrap .i64 ((t:Int)+(f.length:Int)-1)=(t:Int)+(f.length:Int)-1:=qu l L;have nz:¬((f.length:Int)=0):=NC l;have b4:=vk l;have b5:awrap .i64 (((t+f.length-1)%f.length:Nat):Int)=(((t+f.length-1)%f.length:Nat):Int):=JM (fR l) L;have aw:=Gm t (ym l (Jh L xr));have b6:(((t+1:Nat):Int)).tmod (f.length:Int)=(((t+1)%f.length:Nat):Int):=E8 l;have b8:awrap .i64 (((t+1)%f.length:Nat):Int)=(((t+1)%f.length:Nat):Int):=JM (fR l) L;simp only[Ud,Nat.reduceLT,↓reduceIte,Nat.reduceEqDiff,reduceCtorEq,ad t l,ld t l];refine rD (vu [0,1,2,3,4,5,6,7,8,9,10,11,12,13,14,15,16,17,18,19,20] .done) ?_;simp only[Ud,Nat.reduceLT,↓reduceIte,Nat.reduceEqDiff,reduceCtorEq,Nat.reduceBEq,rm,Z,b2,b3,nz,b4,b5,aw,b6,b8,ad _ fp,ad _ aT,ld _ fp,ld _ aT,U _ N,b1,b0,e9];refine cX (f.length-(t+1)) [(0,.pointer (some ⟨B,0,none⟩)),(3,.slice (some ⟨m,0,none⟩) i i),(6,u),(37,S),(38,.int .i64 (F.length:Nat)),(39,.int .i64 (j:Nat)),(43,u),(44,.int .i64 (f.length:Nat)),(45,.int .i64 (t+1:Nat))] (dN l) vy ⟨t+1,us,rfl,l,rfl,?_,p⟩;rw[bW,<-Nd,Dk];exact R9
  .have y : f.length <= t := Yv hf
   have b9:(Ck f).take t=Ck f:=xV (by rw[tl];exact y);rw[b9]at R;simp only[Ud,Nat.reduceLT,↓reduceIte,Nat.reduceEqDiff,reduceCtorEq,Gm j QT];refine cX (F.length-(j+1)) [(0,.pointer (some ⟨B,0,none⟩)),(3,.slice (some ⟨m,0,none⟩) i i),(37,S),(38,.int .i64 (F.length:Nat)),(39,.int .i64 (j+1:Nat))] (dN I) vy ⟨j+1,us,rfl,I,rfl,?_,p⟩;rw[bV,As];simpa using R
 have y:F.length<=j:=Yv hf;rw[xV y]at R;have eT:wQ i (F.flatMap Ck)=Z5 i F:=rfl;rw[eT]at R;have dT:(Z5 i F).length=i/\∀v,v<i->((Z5 i F).getD v []).length=i:=KA (F.flatMap Ck) _ (fM i);clear y hf hj eT;have sz:=hs.le R.le;obtain⟨h7,e7,l7,w7,o7⟩:=mV Y (List.replicate i Y2)
 have mk:aMakeSlice Tryz.prog r 28 (.int .i64 (i:Int)) (.int .i64 (i:Int))=some (.slice (some ⟨r.next,0,none⟩) i i,r.alloc (.cells (List.replicate i Y2))):=
  IG (P:=Tryz.prog) (t:=28) (z:=.slice none 0 0) r Xx zd rfl rfl rfl zd Rm zd i QT
 rw[e7]at mk
 have cc:r.own r.next=none:=(Le.refl r).next Y (J4 _)
 have C:Rows r h7 r.next (List.replicate i Y2) (Vd i (Z5 i F) rows 0 0):=by
  rw[OC aE];exact Rows.start o7 l7 cc
 have aX:=R.rl (n:=i) (c:=i) p
 generalize r.next=E at*
 have aY:=fun g=>lD (P:=Tryz.prog) (t:=28) (a:=some ⟨E,0,none⟩) (n:=i) (cap:=i) Xx g;have a1:∀v,v<i->aIndexAddr Tryz.prog 28 (.slice (some ⟨E,0,none⟩) i i) (.int .i64 (v:Int))=some (.pointer (some ⟨E,v,none⟩)):=fun v N=>by
  rw[vj Xx Rm zd v N];simp[Co]
 simp only[Ud,Nat.reduceLT,↓reduceIte,Nat.reduceEqDiff,reduceCtorEq,X,sz.l0,mk,aY];refine W9.intro (fun k fr J=>∃(v:Nat) (us:List Value),k=i-v/\v<=i/\fr=mkF [(0,.pointer (some ⟨B,0,none⟩)),(3,.slice (some ⟨m,0,none⟩) i i),(11,.slice (some ⟨E,0,none⟩) i i),(84,.int .i64 (i:Nat)),(85,.int .i64 (v:Nat))]/\us.length=i/\((v<i/\Rows r J E us (Vd i (Z5 i F) rows v 0))\/(v=i/\Rows r J E us ((List.range i).map (HQ (Z5 i F) rows)))))
  i [(0,.pointer (some ⟨B,0,none⟩)),(3,.slice (some ⟨m,0,none⟩) i i),(11,.slice (some ⟨E,0,none⟩) i i),(84,.int .i64 (i:Nat)),(85,.int .i64 (0:Nat))] vy ⟨0,_,rfl,KW _,rfl,YX,.inl ⟨aE,C⟩⟩ ?_
 clear C mk o7 w7 l7 e7;clear h7;rintro k fr J ag ⟨v,K,rfl,N,rfl,s,aj⟩;refine yq ?_;refine DK.intro (fun G=>?_) (fun hf=>?_)
 .have A : v < i := Ub G
  clear G;have C:Rows r J E K (Vd i (Z5 i F) rows v 0):=by
   rcases aj with h|h
   .exact h.2
   .omega
  clear aj;have ak:v<rows.length:=by rw[bj];exact A
  have cd:rows.getD v []=rows[v]:=YR ak;have cg:=hb.Jl v ak;obtain⟨bu,ck,O⟩:=hb.To v ak;rw[<-cd]at O;obtain⟨al,da⟩:=h0 v A;have a6:=bo v A;have cm:=fun g=>O.zw g;have a7:=O.qW 0 al;have Q:=R.le.trans C.le;have aq:=(O.le Rr.IJ Q).HN 0 al;have g0:(rows.getD v [])[0]=itI ((Z5 i F).getD v []) 0 ((rows.getD v []).getD 0 0):=by
   show _=(rows.getD v []).getD 0 0;rw[YR al]
  rw[g0]at aq;simp only[vN]at a7;have sy:=hs.le Q;have ar:v<(Z5 i F).length:=by rw[dT.1];exact A
  have cr:=aX.Jl v ar;obtain⟨tu,cx,av⟩:=aX.To v ar;have cE:(Z5 i F)[v]=(Z5 i F).getD v []:=(YR ar).symm;rw[cE]at av;have ay:=dT.2 v A;simp only[Ud,Nat.reduceLT,↓reduceIte,Nat.reduceEqDiff,reduceCtorEq,br,sy.l1,cg,ck J Q,a7,aq,cm];refine W9.intro (fun k fr hx=>∃(q:Nat) (us:List Value),k=(rows.getD v []).length-q/\q<=(rows.getD v []).length/\fr=mkF [(0,.pointer (some ⟨B,0,none⟩)),(3,.slice (some ⟨m,0,none⟩) i i),(11,.slice (some ⟨E,0,none⟩) i i),(12,.int .i64 (v:Nat)),(13,.int .i64 (itI ((Z5 i F).getD v []) q ((rows.getD v []).getD 0 0))),(84,.int .i64 (i:Nat)),(85,.int .i64 (v:Nat)),(104,.int .i64 ((rows.getD v []).length:Nat)),(105,.int .i64 (q:Nat))]/\us.length=i/\Rows r hx E us (Vd i (Z5 i F) rows v q))
   (rows.getD v []).length [(0,.pointer (some ⟨B,0,none⟩)),(3,.slice (some ⟨m,0,none⟩) i i),(11,.slice (some ⟨E,0,none⟩) i i),(12,.int .i64 (v:Nat)),(13,.int .i64 (itI ((Z5 i F).getD v []) 0 ((rows.getD v []).getD 0 0))),(84,.int .i64 (i:Nat)),(85,.int .i64 (v:Nat)),(104,.int .i64 ((rows.getD v []).length:Nat)),(105,.int .i64 (0:Nat))] vy
   ⟨0,K,rfl,KW _,rfl,s,C⟩ ?_
  clear C s ag sy aq Q;clear K J;rintro k fr hx cM ⟨q,K,rfl,D,rfl,s,C⟩;refine yq ?_;refine DK.intro (fun G=>?_) (fun hf=>?_)
  .have a8 : q < (rows.getD v []).length := Ub G
   clear G;obtain⟨w,aB,ew⟩:=a6 q D;have eN:itI ((Z5 i F).getD v []) (q+1) ((rows.getD v []).getD 0 0)=((Z5 i F).getD v []).getD w 0:=by
    show((Z5 i F).getD v []).getD (itI ((Z5 i F).getD v []) q ((rows.getD v []).getD 0 0)).toNat 0=_;rw[ew,TK]
   obtain⟨uo,un,h9,db,cQ,k1,k2,k3,k4,k5,k6,k7,R3,dc,kk⟩:=C.push cM (mT i (Z5 i F) rows v q) (itI ((Z5 i F).getD v []) q ((rows.getD v []).getD 0 0)) (by rw[yA,xw];omega);rw[TC]at R3;have cY:aload Tryz.prog hx 49 ⟨E,v,none⟩=some uo:=by rw[wT Rm rfl C.oL];exact k1
   have c0:=av.qW w (by rw[ay];exact aB);have bb:=(av.le Rr.IJ R3.le).HN w (by rw[ay];exact aB);have c3:((Z5 i F).getD v [])[w]'(by rw[ay];exact aB)=((Z5 i F).getD v []).getD w 0:=(YR _).symm
   rw[c3,<-eN]at bb;rw[ew]at k2
   have c4:aBuildSlice Tryz.prog hx 49 1 [(0,.int .i64 (w:Int))]=some (.slice (some ⟨hx.next,0,none⟩) 1 1,h9):=by rw[Vb,k2]
   simp only[Ud,Nat.reduceLT,↓reduceIte,Nat.reduceEqDiff,reduceCtorEq,a1 v A,cY,ew,c4,k3,k4,cr,cx cQ R3.le,c0,bb,Gm q QT];exact cX ((rows.getD v []).length-(q+1)) [(0,.pointer (some ⟨B,0,none⟩)),(3,.slice (some ⟨m,0,none⟩) i i),(11,.slice (some ⟨E,0,none⟩) i i),(12,.int .i64 (v:Nat)),(13,.int .i64 (itI ((Z5 i F).getD v []) (q+1) ((rows.getD v []).getD 0 0))),(84,.int .i64 (i:Nat)),(85,.int .i64 (v:Nat)),(104,.int .i64 ((rows.getD v []).length:Nat)),(105,.int .i64 (q+1:Nat))] (dN a8) vy
    ⟨q+1,_,rfl,a8,rfl,by rw[qm];exact s,R3⟩
  .have y : (rows.getD v []).length <= q := Yv hf
   obtain rfl:q=(rows.getD v []).length:=QT;simp only[Ud,Nat.reduceLT,↓reduceIte,Nat.reduceEqDiff,reduceCtorEq,Gm v QT];refine cX (i-(v+1)) [(0,.pointer (some ⟨B,0,none⟩)),(3,.slice (some ⟨m,0,none⟩) i i),(11,.slice (some ⟨E,0,none⟩) i i),(84,.int .i64 (i:Nat)),(85,.int .i64 (v+1:Nat))] (dN A) vy ⟨v+1,K,rfl,A,rfl,s,?_⟩;by_cases c:v+1<i
   .rw[Hm c]at C;exact .inl ⟨c,C⟩
   .have : v + 1 = i := QT
    rw[xS this]at C;exact .inr ⟨this,C⟩
 have y:i<=v:=Yv hf;have C:Rows r J E K ((List.range i).map (HQ (Z5 i F) rows)):=by
  rcases aj with h|h
  .omega
  .exact h.2
 refine yq ?_;exact⟨C.rl s,R.le.trans C.le⟩
variable {es ps web:List Pr} {r:Nat->wi} {v:Value}
def yW (fr:Pr->Nat->Int) (r:Nat×Pr×List Pr):Int×List Pr:=(fr r.2.1 r.1,r.2.2)
def CJ {es web:List Pr} {fr fr':Pr->Nat->Int} (h:∀(j d:Nat) e e',es[j]?=some e->es[d]?=some e'->e∉web->e'∉web->(fr e j=fr e' d↔fr' e j=fr' e' d)) {i:Nat} {p:Pr} (f:es[i]?=some p) (hw:p∉web):
  ∀rs:List (Nat×Pr×List Pr),(∀r∈rs,es[r.1]?=some r.2.1/\r.2.1∉web)->∃a:List (Nat×Pr×List Pr),(∀r∈a,es[r.1]?=some r.2.1/\r.2.1∉web)/\addG (rs.map (yW fr)) (fr p i) p=a.map (yW fr)/\addG (rs.map (yW fr')) (fr' p i) p=a.map (yW fr')
 |[],_=>⟨[(i,p,[p])],by simpa using⟨f,hw⟩,rfl,rfl⟩
 |r::rs,g=>by
  obtain⟨k,h2⟩:=g r YX;have key:=h r.1 i r.2.1 p k f h2 hw;by_cases c:fr r.2.1 r.1=fr p i
  .have c' := key.1 c
   refine⟨(r.1,r.2.1,r.2.2++[p])::rs,fun q b=>?_,?_,?_⟩
   .rcases aH.1 b with rfl | b
    .exact⟨k,h2⟩
    .exact g q (by simp[b])
   .rw[Kj,yW,addG,if_pos c];rfl
   .rw[Kj,yW,addG,if_pos c'];rfl
  .have c' : ¬ fr' r.2.1 r.1 = fr' p i := fun q => c (key.2 q)
   obtain⟨a,k1,k2,l⟩:=CJ h f hw rs fun q b=>g q (by simp[b]);refine⟨r::a,fun q b=>?_,?_,?_⟩
   .rcases aH.1 b with rfl | b
    .exact⟨k,h2⟩
    .exact k1 q b
   .rw[Kj,yW,addG,if_neg c,k2];rfl
   .rw[Kj,yW,addG,if_neg c',l];rfl
def vR {es web:List Pr} {fr fr':Pr->Nat->Int} (h:∀(j a:Nat) e e',es[j]?=some e->es[a]?=some e'->e∉web->e'∉web->(fr e j=fr e' a↔fr' e j=fr' e' a)):
  ∀i:Nat,∃rs:List (Nat×Pr×List Pr),(∀r∈rs,es[r.1]?=some r.2.1/\r.2.1∉web)/\grpsM fr es web i=rs.map (yW fr)/\grpsM fr' es web i=rs.map (yW fr')
 |0=>⟨[],YX,rfl,rfl⟩
 |i+1=>by
  obtain⟨rs,b,h2,h3⟩:=vR h i;cases c:es[i]? with
  |none=>exact⟨rs,b,by simp only[grpsM,c];exact h2,by simp only[grpsM,c];exact h3⟩
  |some p=>
   by_cases w:p∈web
   .exact⟨rs,b,by rw[MD c w];exact h2,by rw[MD c w];exact h3⟩
   .rw [Hh c w, Hh c w, h2, h3]
    exact CJ h c w rs b
def X5 {L b:LF} (hR:I7 n es) (nd:es.Nodup) (f:Sr n (fun u=>(QG n web).getD u false) es L) (c:Sr n (fun u=>(QG n web).getD u false) es b):ql n es web L=ql n es web b:=by
 obtain⟨rs,-,h2,h3⟩:=vR (es:=es) (web:=web) (fr:=qL n (fun u=>(QG n web).getD u false) L) (fr':=qL n (fun u=>(QG n web).getD u false) b)
  (fun j g e e' d a _ _=>(jg hR nd f d a).trans (jg hR nd c d a).symm) es.length
 unfold ql;rw[h2,h3,UD,UD];rfl
def sM (q:xO ⟨(n:Int),es⟩) (s:Ri n es) {F:ai} (G:Dx n r F) (z:∀x y,y∈r x↔y∈eN n es x):
  ∀v,v<n->∀k,k<=((Oc n es).getD v []).length->∃u:Nat,u<n/\itI ((Z5 n F).getD v []) k (((Oc n es).getD v []).getD 0 0)=(u:Int):=by
 have hR:=q.si;have d:∀f∈F,f.Nodup:=G.O.nd;let a:Nat->Nat->Nat:=fun v u=>nx (r v) u;have i:∀t∈F.flatMap Ck,t.1<n/\t.2.1<n/\t.2.2=a t.1 t.2.1:=fun t A=>by
  obtain⟨f,hf,h⟩:=H0.1 A;obtain⟨p,h2,h3⟩:=pQ (d f hf) h;obtain⟨E,H,B⟩:=G.O.pv hf p;have hi:=G.O.Zy G.Pc hf p;refine⟨G.Pc.lt _ _ hi,by rw[h2];exact G.Pc.lt _ _ (G.Pc.sy _ _ hi),?_⟩;show t.2.2=nx (r t.1) t.2.1;rw[h3,h2,B]
 obtain⟨-,C⟩:=jj (F.flatMap Ck) _ (fM n) i;have j:∀v u,u∈r v->Ep (Z5 n F) v u=(a v u:Int):=fun v u l=>by
  refine C v u (.inr ?_);obtain⟨f,hf,b,e⟩:=G.O.cover u v (G.Pc.sy _ _ l);have m:v∈f:=by rw[<-e];exact zc b
  refine⟨_,H0.2 ⟨f,hf,E7 (d f hf) m⟩,rfl,?_⟩;simp only;rw[<-e,Zt (d f hf) b]
 intro v m k _;obtain⟨w,hw⟩:=s.ne hR m;obtain⟨u,c,e⟩:=bq ((Hq hR).2 ⟨w,hw⟩);have hb:=(eH n es).back hR v;have l:u∈r v:=(z v u).2 (by rw[e];simp);have D:(Oc n es).getD v []=(u:Int)::aW c:=by
  rw[<-hb];show(eN n es v).map _=_;rw[e];rfl
 rw[D];obtain⟨k1,k2⟩:=OF (T:=(Z5 n F).getD v []) (g:=a v) (P:=fun x=>x∈r v) (fun x o=>j v x o) (fun x o=>zc o) l k;exact⟨it (a v) k u,G.Pc.lt _ _ (G.Pc.sy _ _ k2),by rw[List.getD_cons_zero];exact k1⟩
abbrev BP:=Fin 1000×Fin 1000
def ER (x:BP):Pr:=((x.1.1:Int),(x.2.1:Int))
def pt (x y:BP):Int:=if(x.1.1:Int)=(y.1.1:Int)then(x.2.1:Int)-(y.2.1:Int)else(x.1.1:Int)-(y.1.1:Int)
def GL (x y:BP):Go.Proofs.ltOf pt x y=ltP (ER x) (ER y):=by
 rw[ju,HV];unfold Go.Proofs.ltOf pt ER;rw[decide_eq_true_eq];split<;>simp only<;>omega
def prB_inj {x y:BP} (h:ER x=ER y):x=y:=by
 unfold ER at h;obtain⟨a,h2⟩:=J9 h;exact X9 (Fin.ext QT) (Fin.ext QT)
def swoB:Go.Sort.SWO (Go.Proofs.ltOf pt):=by
 refine⟨fun x=>?_,fun x y z a h2=>?_,fun x y z a h2=>?_⟩
 .rw[GL,PS];omega
 .rw[GL,HV]at*;omega
 .rw[GL,PS]at*;omega
def Gz (xs:List BP):Go.Sort.flatK (fun x=>Zh (ER x)) 2 xs.toArray=(Mf (xs.map ER)).toArray:=by
 rw[<-Ay];apply Array.ext
 .simp
 .intro i a h2
  have b:i<xs.length*2:=by simpa using a
  have hi:i / 2<xs.length:=QT;simp only[Go.Sort.flatK,Array.getElem_map,Array.getElem_range];rw[getElem!_pos _ (i / 2) (by simpa using hi),getElem!_pos _ (i / 2) (by simpa using hi)];simp
def subB (a b:Fin 1000):awrap .i64 ((a.1:Int)-(b.1:Int))=(a.1:Int)-(b.1:Int):=GQ _ QT QT
def AI (i:Ac) (x y:BP) (h:AHeap):AC Tryz.prog i 92 [Ov (ER x),Ov (ER y)] h fun v h'=>v=.int .i64 (pt x y)/\Le h h':=by
 refine AC.vE ⟨Tryz.func92,rfl,xr⟩ Tryz.ntmps92 Tryz.results92 fun e=>?_;simp only[xq,Nat.reduceAdd];obtain⟨j,k,l1,w1,l⟩:=mV e (Zh (ER x));obtain⟨h2,m,l2,o,d⟩:=mV w1 (Zh (ER y));have c:=l2.own _ _ l;simp only[Ud,Nat.reduceLT,↓reduceIte,Nat.reduceEqDiff,xH,k,m]
 generalize h.next=a at*
 generalize j.next=b at*
 have s1:awrap .i64 ((ER x).1-(ER y).1)=(ER x).1-(ER y).1:=subB x.1 y.1;have s2:awrap .i64 ((ER x).2-(ER y).2)=(ER x).2-(ER y).2:=subB x.2 y.2;simp only[Ud,Nat.reduceLT,↓reduceIte,Nat.reduceEqDiff,Il,Co,Qs,Ol c,Ol d];refine DK.intro (fun n=>?_) (fun hf=>?_)
 .simp only [Ud, Nat.reduceLT, ↓reduceIte, Nat.reduceEqDiff, Il, Co, Qs, Ol c, Ol d, s1]
  have f:(x.1.1:Int)≠(y.1.1:Int):=by simpa[ER]using n
  exact⟨by unfold pt;rw[if_neg f];rfl,l1.trans l2⟩
 .simp only [Ud, Nat.reduceLT, ↓reduceIte, Nat.reduceEqDiff, Mt, Co, Qs, Lt c, Lt d, s2]
  have g:(x.1.1:Int)=(y.1.1:Int):=by simpa[ER]using hf
  exact⟨by unfold pt;rw[if_pos g];rfl,l1.trans l2⟩
def bp_of (hb:∀p∈ps,∃a b:Nat,p=((a:Int),(b:Int))/\a<1000/\b<1000):∃xs:List BP,ps=xs.map ER:=by
 induction ps with
 |nil=>exact⟨[],rfl⟩
 |cons p ps c=>
  obtain⟨xs,e⟩:=c fun q d=>hb q (by simp[d]);obtain⟨a,b,f,ha,AD⟩:=hb p YX;exact⟨(⟨a,ha⟩,⟨b,AD⟩)::xs,by rw[e,f];rfl⟩
def sortB (xs:List BP):(xs.mergeSort fun x y=>!Go.Proofs.ltOf pt y x).map ER=sortP (xs.map ER):=by
 unfold sortP;exact List.map_mergeSort fun a _ b _=>by rw[GL]
def tF (z:Ac) (g:GP h v ps) (A:ps.length<=100000) (hb:∀p∈ps,∃a b:Nat,p=((a:Int),(b:Int))/\a<1000/\b<1000):
  AC Tryz.prog z 69 [v,.func (.func 92) #[] #[]] h fun x h'=>x=.tuple #[]/\GP h' v (sortP ps)/\∀f,Le f h->tQ f v->Le f h':=by
 have B:∀args w,(callFunc 92 args).run Tryz.prog w=.ok (.enter 92 args) w:=enters_of Tryz.func92 zd rfl;obtain⟨bs,i⟩:=bp_of hb;rcases g.cases A with⟨a,cap,rfl,rfl⟩|⟨id,c,cap,rfl,C,D,j,E,l,o⟩
 .refine (AC.xZ fun a' cap' w => AnyF.slices_SortFunc_none { Tryz.sortP with } a' cap' (.func (.func 92) #[] #[]) w).mono ?_
  rintro x h' ⟨rfl,rfl⟩;exact⟨rfl,by simpa[sortP]using g,fun f q _=>q⟩
 .have r : bs.length = ps.length := by rw [i, yA]
  have key:=fun(blk off cap':Nat) (w:World) s hb (d:ps.length<=cap')=>
   AnyQ.slices_SortFunc_total (α:=BP) Tryz.sortP 2 Tryz.isAgg38 Tryz.sizeOf38 (fun x=>Zh (ER x)) (fun _=>rfl) (fun x v F=>(N6 [ER x] v (by simpa[Mf]using F)).2) pt swoB 92 #[] blk off cap' bs.toArray w B
    (fun m os H _ x y=>AC.grown (args:=[Ov (ER x),Ov (ER y)]) _ ((AI _ x y _).mono fun _ _ h=>h.1) (fun m=>UT m (ER x) (ER y))) s hb (by simp;omega)
    (fun x y u h2=>by
     rw[GL]at u h2;rw[PS]at u h2;exact prB_inj (X9 QT QT))
  refine(AC.iM (k:=2) (xs:=Mf ps) (ys:=Mf (sortP ps)) C D (Dg _) (by rw[Dg,M1]) o l E (fun y G=>(N6 ps y G).1) (N6 _) fun blk off cap' w s hb d=>?_).mono ?_
  .have t:Go.Sort.HoldsK (fun x:BP=>Zh (ER x)) 2 w blk off bs.toArray:=by
    unfold Go.Sort.HoldsK;rw[Gz,<-i];exact s
   have k:=key blk off cap' w t hb d;rw[show bs.toArray.size=ps.length by simp[r]]at k;refine k.mono ?_;rintro e w' ⟨rfl,n,os,rfl⟩;refine⟨rfl,n,os,?_⟩;unfold Go.Proofs.sortWorldK Go.Sort.putRowK;rw[Gz,sortB,<-i];rfl
  .rintro x h' ⟨rfl, rfl⟩
   refine⟨rfl,?_,fun f q af=>q.put _ (af id rfl)⟩;rw[GP,M1];refine⟨by rw[Dg,M1],.inr ⟨id,_,cap,rfl,AHeap.zm _ _ _,?_,j⟩⟩;have I:(Mf (sortP ps)).length=ps.length*2:=by rw[Dg,M1]
   rw[wO QT,xV QT]
variable {B O:Nat} {F1 F2:ai} {bv fv iv lv:Value} {cs ws:List Value} {g:AHeap} {left:List Lb} {on:List Bool}
def AC.side {P:Program} {d:Ac} {f:FuncId} {args:List Value}:∀(X:wi) (h:AHeap) (Q:Value->AHeap->Prop),(∀b∈X,h.own b≠none)->X.Nodup->AC P d f args (rem X h) Q->
  AC P d f args h fun x h'=>∃g,Q x g/\Le g h'/\∀b∈X,g.own b=none/\h'.own b=h.own b
 |[],h,Q,_,_,q=>q.mono fun x h' m=>⟨h',m,Le.refl _,fun b hb=>by cases hb⟩
 |a::l,h,Q,i,nd,q=>by
  have q:AC P d f args ((rem l h).kill a) Q:=q;have n:∀b∈l,h.own b≠none:=fun b hb=>i b (by simp[hb]);obtain⟨j,nl⟩:=tS.1 nd;obtain⟨o,k⟩:=yu.1 (i a YX);have c:(rem l h).own a=some o:=by rw[Q3,if_neg j];exact k
  refine(AC.side l h _ n nl (AC.frame c q)).mono ?_;rintro x h' ⟨s,⟨g,p,h2,rfl⟩,h3,r⟩;refine⟨g,p,(Le.uT h2 o).trans h3,fun b hb=>?_⟩;rcases aH.1 hb with rfl|hb
  .exact⟨h2,by rw[k];exact h3.own _ _ (AHeap.zm _ _ _)⟩
  .obtain ⟨k1, k2⟩ := r b hb
   rw[AHeap.Dz _ _ _ _ (fun e=>j (by rw[<-e];exact hb))]at k1;exact⟨k1,k2⟩
def Cu.ndX (S:Cu g h B O n rows bv fv iv lv us ws cs on F1 F2 left):(B::O::(bl fv++bl iv++bl lv)).Nodup:=by
 have d:=S.sep.eX;have n1:=S.nb fv YX;have c:=S.nb iv YX;have n3:=S.nb lv YX;have nd:∀v,(bl v).Nodup:=fun v=>by unfold bl;cases blk v<;>simp
 simp only[tS,aH,uK,ED,KM,not_or];refine⟨⟨S.bO,⟨n1.1,c.1⟩,n3.1⟩,⟨⟨n1.2,c.2⟩,n3.2⟩,⟨nd _,nd _,fun a ha b hb e=>?_⟩,nd _,fun a ha b hb e=>?_⟩
 .subst e;exact d 0 1 fv iv a QT rfl rfl ha hb
 .subst e
  rcases ha with ha|ha
  .exact d 0 2 fv lv a QT rfl rfl ha hb
  .exact d 1 2 iv lv a QT rfl rfl ha hb
def Cu.side {i:Ac} {P:Program} {g h:AHeap} {B O n:Nat} {rows:CA} {bv c d e:Value} {us ws cs:List Value} {on:List Bool} {j p:ai} {left:List Lb} (S:Cu g h B O n rows bv c d e us ws cs on j p left)
  {f:FuncId} {args:List Value} {Q:Value->AHeap->Prop} (q:AC P i f args (qh h B O c d e) fun x a=>Le (qh h B O c d e) a/\Q x a):
  AC P i f args h fun x h'=>∃a,Q x a/\Cu a h' B O n rows bv c d e us ws cs on j p left/\Le h h'/\Le (qh h B O c d e) a/\Le a h':=by
 refine(AC.side _ h _ (fun b hb=>(S.own (Zg.1 hb)).2) S.ndX q).mono ?_;rintro x h' ⟨a,⟨l1,s⟩,l2,k⟩;have l:Le h h':=⟨by
   have:=(l1.trans l2).ext;rw[this];exact wY _,fun b o r=>by
  by_cases m:b∈B::O::(bl c++bl d++bl e)
  .rw[(k b m).2];exact r
  .exact l2.own _ _ (l1.own _ _ (by unfold qh;rw[Q3,if_neg m];exact r))⟩
 obtain⟨t,l3⟩:=S.ZW;exact⟨a,s,(t.up l).ground l1 l2 fun b hb=>(k b (Zg.2 hb)).1,l,l1,l2⟩
def okc (k:Nat) (v:Value):Prop:=∃a n c,v=.slice a n c/\((n<=c/\c<km)\/(c=km+k/\a.isSome=true))
def GS.okc {k n:Nat} {h:AHeap} {v:Value} {cs:List Value} (g:GS k h v n cs):okc k v:=by
 obtain⟨-,⟨rfl,b⟩|⟨id,c,cap,rfl,d,e,rfl|⟨rfl,a⟩⟩⟩:=g
 .exact⟨none,0,0,rfl,.inl ⟨J4 _,xr⟩⟩
 .exact⟨_,_,_,rfl,.inr ⟨rfl,rfl⟩⟩
 .exact⟨_,_,_,rfl,.inl ⟨J4 _,K2 a xr⟩⟩
def CS.drop {k n i:Nat} {h:AHeap} {a:Addr} {c c':Nat} {cs:List Value} (r:CS k h (.slice (some a) n c) n cs) (hi:i<=n):CS k h (.slice (some (Co a (i*k))) (n-i) c') (n-i) (cs.drop (i*k)):=by
 refine⟨⟨_,_,rfl,fun _=>rfl⟩,by rw[YA,r.len,Nat.sub_mul],fun j x b=>?_⟩;rw[G3]at b;have:=r.get _ x b;rw[Tl]at this ⊢;rw[Ak];exact this
def PR.cut (r:PR h v ps) (o:okc 2 v) (hi:i<=ps.length):∃v',aSlice Tryz.prog 22 v (some (.int .i64 i)) none none=some v'/\PR h v' (ps.drop i)/\okc 2 v':=by
 have n1:(0:Int)<=i:=QT;have k:(i:Int)<=ps.length:=QT;obtain⟨l,d,m,hs⟩:=r.sl;obtain⟨a,n,c,e,f⟩:=o;rw[m]at e;injection e with p s t;subst p s t m;rcases f with⟨u,h2⟩|⟨rfl,h2⟩
 .have b : ¬ km <= d := eV.2 h2
  by_cases q:d=i
  .have : i = ps.length := QT
   subst q this;refine⟨.slice l 0 0,?_,?_⟩
   .simp[aSlice,aBounds,aBound,n1,b]
   .rw [zl (J4 _)]
    exact⟨⟨⟨_,_,rfl,YX⟩,rfl,fun j x g=>by cases g⟩,⟨_,_,_,rfl,.inl ⟨J4 _,xr⟩⟩⟩
  .cases l with
   |none=>
    have w:ps.length=0:=by
     by_cases z:0<ps.length
     .have:=hs z;cases this
     .omega
    obtain rfl:ps=[]:=LB.1 w;refine⟨.slice none 0 (d-i),?_,?_⟩
    .have : i = 0 := by simpa using hi
     subst this;simp[aSlice,mr,aBounds,aBound,b]
    .rw [List.drop_nil]
     exact⟨⟨⟨_,_,rfl,YX⟩,rfl,fun j x g=>by cases g⟩,⟨_,_,_,rfl,.inl ⟨KW _,QT⟩⟩⟩
   |some a=>
    refine⟨.slice (some (Co a (i*2))) (ps.length-i) (d-i),?_,?_⟩
    .simp[aSlice,mr,aBounds,aBound,n1,k,b,u,q]
    .have := CS.drop (c' := d - i) r hi
     rw[<-iH]at this;exact⟨by rw[PR,YA];exact this,⟨_,_,_,rfl,.inl ⟨QT,QT⟩⟩⟩
 .obtain ⟨a, rfl⟩ := yL.1 h2
  refine⟨.slice (some (Co a (i*2))) (ps.length-i) (km+2),?_,?_⟩
  .simp[aSlice,mr,aBounds,aBound,n1,k]
  .have := CS.drop (c' := km + 2) r hi
   rw[<-iH]at this;exact⟨by rw[PR,YA];exact this,⟨_,_,_,rfl,.inr ⟨rfl,rfl⟩⟩⟩
def tn (g:Ac) (v:Value) (ps:List Pr) (h:AHeap) (e:PR h v ps) (t:ps.length<=100000):AC Tryz.prog g 72 [v] h fun x h'=>GP h' x ps/\Le h h'/\tQ h x:=by
 obtain⟨a,c,rfl,hs⟩:=e.sl;refine AC.vE ⟨Tryz.func72,rfl,xr⟩ Tryz.ntmps72 Tryz.results72 fun d=>?_;simp only[xq,Nat.reduceAdd];cases a with
 |none=>
  have i:ps=[]:=by
   cases ps with
   |nil=>rfl
   |cons x l=>exact absurd (hs YX) YX
  subst i;simp only[Ud,Nat.reduceLT,↓reduceIte,reduceCtorEq,aEq,pS,Option.isNone_none];exact⟨GP.nil _,Le.refl _,fun b hb=>by simp[blk]at hb⟩
 |some a=>
  obtain⟨f,j,l1,w1,k⟩:=mV d []
  have mk:aBuildSlice Tryz.prog h 22 0 []=some (.slice (some ⟨h.next,0,none⟩) 0 0,f):=by rw[<-j];rfl
  have m:h.own h.next=none:=(Le.refl h).next d (J4 _)
  have n:GP f (.slice (some ⟨h.next,0,none⟩) 0 0) []:=GS.full k rfl xr
  have o:tQ h (.slice (some ⟨h.next,0,none⟩) 0 0):=fun b hb=>by injection hb with hb;subst hb;exact m
  obtain⟨u,w,p,q,y,r,-⟩:=GP.join n w1 (e.le l1) (by simp;omega);obtain⟨l6,s⟩:=r h l1 o;simp only[Ud,Nat.reduceLT,↓reduceIte,Nat.reduceEqDiff,reduceCtorEq,aEq,pS,bN,mk,p];exact⟨by simpa using q,l6,s⟩
def xO.tail {n:Int} (a:xO ⟨n,es⟩):xO ⟨n,es.drop 1⟩:=by
 refine⟨a.n0,a.n1,?_,fun i hi p b=>?_⟩
 .have := a.len
  simp only[YA]at this ⊢;omega
 .simp only [YA] at hi
  simp only[G3]at b ⊢;obtain⟨c,h2⟩:=a.ok (1+i) (by simp only;omega) p b;refine⟨c,fun q e d=>h2 q QT ?_⟩;rw[show 1+i-1=1+(i-1) by omega];exact d
variable {k:Nat} {l:wi}
def box77 (h:AHeap) {n:Int} (hb:vW bv k):aBuild Tryz.prog 77 [(0,.int .i64 n),(1,bv),(2,.slice (some ⟨O,0,none⟩) m m)]=some (.agg #[.int .i64 n,bv,.slice (some ⟨O,0,none⟩) m m,Y2,Y2,Y2])/\
  Qq h (.agg #[.int .i64 n,bv,.slice (some ⟨O,0,none⟩) m m,Y2,Y2,Y2])=some (.pointer (some ⟨h.next,0,none⟩),h.alloc (.cells [.int .i64 n,bv,.slice (some ⟨O,0,none⟩) m m,Y2,Y2,Y2])):=by
 obtain⟨_,_,rfl,_⟩:=hb;exact⟨by kernel_rfl,by kernel_rfl⟩
def BN (hi:i<l.length):(Ij l).take (i+1)=(Ij l).take i++[pe l[i] (l.getD ((i+1)%l.length) 0)]:=by
 have a:i<(Ij l).length:=by simp[Ij,hi]
 rw[QM a];have e:(Ij l)[i]=pe l[i] (l.getD ((i+1)%l.length) 0):=by simp only[Ij,IP,aad,YR hi]
 rw[e]
def qB (l:wi):(Ij l).length=l.length:=by simp[Ij]
def ring_bd (R:cV n es l) (hR:I7 n es) (d:n<=200):∀p∈Ij l,∃a b:Nat,p=((a:Int),(b:Int))/\a<1000/\b<1000:=fun p c=>by
 obtain⟨a,b,rfl,e,h2⟩:=O0 hR (R.Ot hR c);exact⟨a,b,rfl,QT,QT⟩
def Ta (R:cV n es l) (hR:I7 n es):l.length<=n:=by
 have:=Jz R.nd (B:=List.range n) fun v a=>vq.2 (R.lt hR a);simpa using this
def rt_b (h:l.length<=n) (h2:(n:Int)<=200):((Ij l).take i).length+1<=100000:=by rw[Ja,qB];omega
def tk_b {a:List FM} (h:a.length<=m) (b:m<=594) (F:FM->Lb):((a.take i).map F).length<=100000:=by rw[yA,Ja];omega
def tH {a b c:Value} (ha:vW a n) (hb:vW b m) (d:vW c k):aBuild Tryz.prog 125 [(0,a),(1,b),(2,c)]=some (.agg #[a,b,c]):=by
 obtain⟨_,_,rfl,_⟩:=ha;obtain⟨_,_,rfl,_⟩:=hb;obtain⟨_,_,rfl,_⟩:=d;kernel_rfl
def le_rem (X:wi) (l:Le g h) (a:∀b∈X,g.own b=none):Le g (rem X h):=l.Cj a
def zG (N:Ac) (ev:Value) (n:Nat) (es:List Pr) (h:AHeap) (hp:PR h ev es) (hc:okc 2 ev) (hr:xO ⟨(n:Int),es⟩) (T2:Ri n es):
  AC Tryz.prog N 52 [.agg #[.int .i64 n,ev]] h fun x h'=>∃g' B O bv fv iv R us ws cs,x=.pointer (some ⟨B,0,none⟩)/\Le h g'/\
   Cu g' h' B O n (Oc n es) bv fv iv R us ws cs (QA n es).on (QA n es).K8 (QA n es).K8 (QA n es).left/\cV n es (MZ n es):=by
 have hR:=hr.si;have hA:=hr.Fx;have bQ:(n:Int)<=200:=hr.n1;have bV:es.length<=594:=hr.len;obtain⟨p0,rest,A⟩:=bq (T2.es_ne hR);obtain⟨a,b,rfl,hM,hb⟩:=O0 hR (show p0∈es by rw[A];simp);have dk:es.drop 1=rest:=by rw[A];rfl
 have e9:xO ⟨(n:Int),rest⟩:=by rw[<-dk];exact hr.tail
 have ak:Xb rest b a:=T2.less hR QT hb QT fun x y fb dm=>by
  rcases fb with h|h
  .rw [A] at h
   rcases aH.1 h with e|h
   .obtain ⟨e1, e2⟩ := J9 e
    exact absurd (.inl ⟨QT,QT⟩) dm
   .exact .inl h
  .rw [A] at h
   rcases aH.1 h with e|h
   .obtain ⟨e1, e2⟩ := J9 e
    exact absurd (.inr ⟨QT,QT⟩) dm
   .exact .inr h
 have hN:rest.length<=594:=by have:=bV;rw[A]at this;simp at this;omega
 refine AC.vE ⟨Tryz.func52,rfl,xr⟩ Tryz.ntmps52 Tryz.results52 fun fe=>?_;simp only[xq,Nat.reduceAdd];obtain⟨h1,b1,dp,ff,-,C⟩:=WY (n:=(n:Int)) fe hp
 generalize h.next=B1 at*
 have dr:=C h1 (Le.refl _);have a7:=hp.le dp;have dv:=a7.addr (k:=.i64) 0 (by rw[A];simp);have fk:=a7.load (i:=0) (p:=((a:Int),(b:Int))) (by rw[A];rfl);obtain⟨h2,h3,e2,e3,l3,w3,o3⟩:=bS ff ((a:Int),(b:Int))
 generalize h1.next=E at*
 have zH:=C h3 l3;simp only[vN]at dv;simp only[Ud,Nat.reduceLT,↓reduceIte,Nat.reduceEqDiff,reduceCtorEq,b1,vz,Co,Qs,dr.2.2,dv,fk,e2,e3];have fm:=a7.le l3;obtain⟨rv,T,I,-⟩:=fm.cut hc (i:=1) (by rw[A];simp);rw[dk]at I;simp only[aaT]at T;apply P3 (F:=fun(fr:EP) (h5:AHeap)=>∃(X:Nat) (cv:Value),BM fr [(1,.pointer (some ⟨B1,0,none⟩)),(3,.pointer (some ⟨E,0,none⟩)),(4,.pointer (some ⟨X,0,none⟩))]/\Le h3 h5/\WF h5/\PR h5 cv rest/\∀g,Le h5 g->aload Tryz.prog g 24 ⟨X,0,none⟩=some (.agg #[.int .i64 n,cv]))
 .intro cont
  refine rD (vu [0,1,2,3,4] (.ch 5 [4] (vu [6] (PO 7 [] (PO 8 [0,1,2,3,4,5,6,7] .done))) (PO 7 [] (PO 5 [4] (vu [6] (PO 8 [0,1,2,3,4,5,6,7] .done)))))) ?_
  have fp:∃g,h3.alloc (.cells [.int .i64 0,.slice none 0 0])=g/\Le h3 g/\WF g/\g.own h3.next=some (.cells [.int .i64 0,.slice none 0 0]):=mV w3 _
  obtain⟨q1,y1,m1,v1,u1⟩:=fp
  have a8:aAlloc Tryz.prog h3 24=some (.pointer (some ⟨h3.next,0,none⟩),q1):=by rw[rT,y1]
  have Q1:=C q1 (l3.trans m1);simp only[kJJ,Nat.reduceLT,↓reduceIte,Nat.reduceEqDiff,reduceCtorEq,Nat.reduceBEq,rm,Cq,vz,Co,Qs,zH.2.1,zH.2.2,T,a8,Q1.2.1,Q1.2.2];refine⟨?_,?_⟩
  .refine N1.intro pK ⟨Tryz.func72, rfl, xr⟩ (tn N rv rest h3 I QT) ?_
   rintro cv h4 w4 ⟨gc,l4,-⟩;have A4:=C h4 (l3.trans l4);have aq:=ui (n:=(n:Int)) gc.pr.sl;obtain⟨h5,G,a5,s5,l6,w6,lG⟩:=newG (n:=(n:Int)) w4 gc.pr;have A5:Le h4 h5:=by
    have:=rT h4;rw[a5]at this;injection this with this;injection this with _ this;rw[this];exact(Le.refl h4).alloc w4 _
   have A5:=C h5 ((l3.trans l4).trans A5);have A6:=C G ((l3.trans l4).trans l6);simp only[kJJ,Nat.reduceLT,↓reduceIte,Nat.reduceEqDiff,reduceCtorEq,Nat.reduceBEq,rm,Cq,vz,Co,Qs,A4.2.1,A4.2.2,T,aq,a5,s5,A5.2.1,A5.2.2,A6.2.1,A6.2.2];refine KN.zC fun fr' h' x y=>cont fr' h' ?_;subst x y;exact⟨_,cv,vy,l4.trans l6,w6,gc.pr.le l6,fun g l=>(lG g l).1⟩
  .refine N1.intro pK ⟨Tryz.func72, rfl, xr⟩ (tn N rv rest q1 (I.le m1) QT) ?_
   rintro cv h4 w4 ⟨gc,l4,ac⟩;have A4:=C h4 ((l3.trans m1).trans l4);have aq:=ui (n:=(n:Int)) gc.pr.sl
   have nX:blk cv≠some h3.next:=fun e=>by have:=ac _ e;rw[u1]at this;cases this
   have oX:=l4.own _ _ u1
   have n1:h3.own h3.next=none:=(Le.refl h3).next w3 (J4 _)
   have one:=gc.pr.sl.one;have bW:JO Tryz.prog 24=2:=zd;have fq:(Value.agg #[.int .i64 (n:Int),cv]).cells=#[.int .i64 (n:Int),cv]:=rfl;have ft:(Value.int IntKind.i64 (n:Int)).oneCell'=true:=rfl
   have st:aStore Tryz.prog h4 24 (.pointer (some ⟨h3.next,0,none⟩)) (.agg #[.int .i64 (n:Int),cv])=some (h4.put h3.next (.cells [.int .i64 (n:Int),cv])):=by
    simp[aStore,oX,fq,bW,putCells,eJ,one,ft]
   have ho:(h4.put h3.next (.cells [.int .i64 (n:Int),cv])).own h3.next=some (.cells [.int .i64 (n:Int),cv]):=AHeap.zm _ _ _
   have l5:Le h3 (h4.put h3.next (.cells [.int .i64 (n:Int),cv])):=(m1.trans l4).put _ n1
   have A5:=C _ (l3.trans l5);simp only[kJJ,Nat.reduceLT,↓reduceIte,Nat.reduceEqDiff,reduceCtorEq,Nat.reduceBEq,rm,Cq,vz,Co,Qs,A4.2.1,A4.2.2,T,aq,st,A5.2.1,A5.2.2];refine KN.zC fun fr' h' x y=>cont fr' h' ?_;subst x y
   exact⟨h3.next,cv,vy,l5,w4.put _ (w4.lt oX),GP.pr (GS.put gc _ nX),fun g l=>by rw[HU eJ rfl bW (l.own _ _ ho) YX];rfl⟩
 rintro fr h5 ⟨X,cv,H,dw,w5,dx,lX⟩;simp only[BM]at H;obtain⟨f1,f3,f4,-⟩:=H;have dy:=dw.own _ _ o3;simp only[Ud,Nat.reduceLT,↓reduceIte,Nat.reduceEqDiff,reduceCtorEq,f1,f3,f4,(lX h5 (Le.refl _)),Il,Mt,Co,Qs,Ol dy,Lt dy];refine dK.intro pK ⟨Tryz.func90,rfl,xr⟩ (Ue N _ ⟨(n:Int),rest⟩ (a:Int) (b:Int) h5 ⟨cv,rfl,dx⟩) ?_;rintro x G w6 ⟨l6,R,er,rfl,hL,J⟩;simp only[TK]at J;obtain⟨k1,k2⟩:=J e9 QT QT QT QT;obtain⟨gl,al,dz⟩:=k2 (k1.2 ak);obtain⟨fx,Rg⟩:=X8 hr A dz ak;rw[fx]at gl;have z:=(l3.trans dw).trans l6;have A6:=C G z;have cd:=a7.le z;have cg:GR G (.agg #[.int .i64 (n:Int),ev]) ⟨(n:Int),es⟩:=⟨ev,rfl,cd⟩;generalize ck:MZ n es=l at*;have K:=Ta Rg hR;have fy:er=0:=k1.2 ak;subst fy;simp only[Ud,Nat.reduceLT,↓reduceIte,Nat.reduceEqDiff,reduceCtorEq,f1];clear J k1 k2 lX dx;apply P3 (F:=fun(fr:EP) (h9:AHeap)=>∃(B O:Nat) (bv:Value) (U:AHeap),BM fr [(1,.pointer (some ⟨B1,0,none⟩)),(5,R),(7,.pointer (some ⟨B,0,none⟩))]/\WF h9/\h9.own B=some (.cells [.int .i64 (n:Int),bv,.slice (some ⟨O,0,none⟩) n n,Y2,Y2,Y2])/\h9.own O=some (.cells (Bo (List.replicate n false)))/\B≠O/\Le G U/\U.own B=none/\U.own O=none/\Le U h9/\RL (RL IJ) U bv (Oc n es))
 .intro cont
  have bo:Bo (List.replicate n false)=List.replicate n (.bool false):=by simp[Bo]
  obtain⟨q1,y1,m1,v1,u1⟩:=mV w6 (List.replicate n (.bool false));have a8:=sA G n QT;rw[y1]at a8;have Q1:=C q1 (z.trans m1);refine rD (vu [0,1,2,4,5] (.ch 3 [2] (PO 6 [5] (vu [7] (PO 8 [7] (vu [9] .done)))) (PO 6 [5] (PO 3 [2] (vu [7] (PO 8 [7] (vu [9] .done))))))) ?_;simp only[kJJ,Nat.reduceLT,↓reduceIte,Nat.reduceEqDiff,reduceCtorEq,Nat.reduceBEq,rm,f1,Cq,Co,Qs,A6.1,A6.2.1,a8,Q1.1,Q1.2.1];refine⟨?_,?_⟩
  .refine N1.intro pK ⟨pw, rfl, xr⟩ (sJ N _ n es G cg hr) ?_
   rintro bv h7 w7 ⟨r,l7⟩;have A7:=C h7 (z.trans l7);obtain⟨h8,y8,l8,w8,o8⟩:=mV w7 (List.replicate n (.bool false));have dA:=sA h7 n QT;rw[y8]at dA;have A8:=C h8 ((z.trans l7).trans l8)
   obtain⟨cm,ar⟩:=box77 h8 (n:=(n:Int)) (O:=h7.next) (m:=n) r.sl
   obtain⟨h9,y9,l9,w9,o9⟩:=mV w8 [.int .i64 (n:Int),bv,.slice (some ⟨h7.next,0,none⟩) n n,Y2,Y2,Y2]
   rw[y9]at ar;have A9:=C h9 (((z.trans l7).trans l8).trans l9);simp only[kJJ,Nat.reduceLT,↓reduceIte,Nat.reduceEqDiff,reduceCtorEq,Nat.reduceBEq,rm,f1,Cq,Co,Qs,A7.1,A7.2.1,A8.1,A8.2.1,A9.1,A9.2.1,dA,cm,ar];refine KN.zC fun fr' h' x y=>cont fr' h' ?_;rw[x,y]
   exact⟨h8.next,h7.next,bv,h7,(by simp only[BM,Ud,Nat.reduceLT,↓reduceIte,Nat.reduceEqDiff,reduceCtorEq,f1];simp),w9,o9,by rw[bo];exact l9.own _ _ o8,fun e=>by have:=w8.lt o8;omega,l7,l8.next w8 (J4 _),(Le.refl h7).next w7 (J4 _),l8.trans l9,r⟩
  .have hk : Le G (q1.kill G.next) := m1.ti ((Le.refl G).next w6 (J4 _))
   refine N1.intro pK ⟨pw,rfl,xr⟩ (AC.frame u1 (sJ N _ n es (q1.kill G.next) (cg.le hk) hr)) ?_
   rintro bv h7 w7 ⟨g7,⟨r,l7⟩,dB,rfl⟩;have cr:=hk.trans l7;have bb:=Le.uT dB (.cells (List.replicate n (.bool false)))
   have o7:(g7.put G.next (.cells (List.replicate n (.bool false)))).own G.next=some (.cells (List.replicate n (.bool false))):=AHeap.zm _ _ _
   generalize g7.put G.next (.cells (List.replicate n (.bool false)))=h7 at*
   have A7:=C h7 ((z.trans cr).trans bb)
   obtain⟨cm,ar⟩:=box77 h7 (n:=(n:Int)) (O:=G.next) (m:=n) r.sl
   obtain⟨h9,y9,l9,w9,o9⟩:=mV w7 [.int .i64 (n:Int),bv,.slice (some ⟨G.next,0,none⟩) n n,Y2,Y2,Y2]
   rw[y9]at ar;have A9:=C h9 (((z.trans cr).trans bb).trans l9);simp only[kJJ,Nat.reduceLT,↓reduceIte,Nat.reduceEqDiff,reduceCtorEq,Nat.reduceBEq,rm,f1,Cq,Co,Qs,A7.1,A7.2.1,A9.1,A9.2.1,cm,ar];refine KN.zC fun fr' h' x y=>cont fr' h' ?_;rw[x,y]
   exact⟨h7.next,G.next,bv,g7,(by simp only[BM,Ud,Nat.reduceLT,↓reduceIte,Nat.reduceEqDiff,reduceCtorEq,f1];simp),w9,o9,by rw[bo];exact l9.own _ _ o7,fun e=>by have:=w7.lt o7;omega,cr,bb.next w7 (J4 _),dB,bb.trans l9,r⟩
 rintro fr h9 ⟨B,O,bv,U,H,w9,oB,oO,dE,av,gB,gO,dH,r⟩;simp only[BM]at H;obtain⟨f1,f5,f7,-⟩:=H;have bj:=gl.le av;have hP:=al;have lr:∀g,aLen Tryz.prog g 49 R=some (.int .i64 (l.length:Nat)):=fun g=>by
  have:=gl.rl.zw g;rw[tG]at this;exact this
 have fB:=sB B 2 QT;simp only[Ud,Nat.reduceLT,↓reduceIte,Nat.reduceEqDiff,reduceCtorEq,f5,lr];refine W9.intro (fun k fr s=>∃(i:Nat) (wv:Value),k=l.length-i/\i<=l.length/\fr=mkF [(1,.pointer (some ⟨B1,0,none⟩)),(5,R),(7,.pointer (some ⟨B,0,none⟩)),(8,wv),(45,R),(46,.int .i64 (l.length:Nat)),(47,.int .i64 (i:Nat))]/\
   s.own B=some (.cells [.int .i64 (n:Int),bv,.slice (some ⟨O,0,none⟩) n n,Y2,Y2,Y2])/\s.own O=some (.cells (Bo (XH (List.replicate n false) (l.take i))))/\Le U s/\GP s wv ((Ij l).take i)/\tQ U wv/\blk wv≠some B/\blk wv≠some O)
  l.length [(1,.pointer (some ⟨B1,0,none⟩)),(5,R),(7,.pointer (some ⟨B,0,none⟩)),(8,Y2),(45,R),(46,.int .i64 (l.length:Nat)),(47,.int .i64 (0:Nat))] (by simp only[BM,Ud,Nat.reduceLT,↓reduceIte,Nat.reduceEqDiff,reduceCtorEq,f1,f5,f7];simp)
  ⟨0,_,rfl,KW _,rfl,oB,oO,dH,GP.nil _,fun b hb=>by simp[blk]at hb,by simp[blk],by simp[blk]⟩ ?_
 clear f1 f5 f7 oB oO dH w9;clear h9;rintro k fr s ay ⟨i,wv,rfl,hi,rfl,oB,oO,aB,gw,cx,bm,aE⟩;refine yq ?_;refine DK.intro (fun ht=>?_) (fun hf=>?_)
 .have d : i < l.length := Ub ht
  clear ht;have fI:=bj.le aB;have ad:∀q,q<l.length->aIndexAddr Tryz.prog 49 R (.int .i64 (q:Int))=some (.pointer (some (elemAddr R q))):=fun q Y=>fI.rl.qW q (by rw[tG];exact Y);have ld:∀g,Le U g->∀q (Y:q<l.length),aload Tryz.prog g 3 (elemAddr R q)=some (.int .i64 ((l.getD q 0:Nat):Int)):=fun g lg q Y=>by
   rw[(bj.le lg).rl.HN q (by rw[tG];exact Y),uD Y,YR Y]
  have dI:(i+1)%l.length<l.length:=JH _ QT;have hv:l.getD i 0<n:=by rw[YR d];exact Rg.lt hR (om d)
  have br:l.take (i+1)=l.take i++[l[i]]:=QM d;have dL:=BN d;have fL:l.getD i 0=l[i]:=YR d;rw[<-fL]at dL br;have fN:aIndexAddr Tryz.prog 59 (.slice (some ⟨O,0,none⟩) n n) (.int .i64 ((l.getD i 0:Nat):Int))=some (.pointer (some ⟨O,l.getD i 0,none⟩)):=by
   rw[vj aO v7 zd _ hv];simp[Co]
  have Xf:(XH (List.replicate n false) (l.take i)).length=n:=by
   have:∀(w:wi) (o:List Bool),(XH o w).length=o.length:=fun w=>by
    induction w with
    |nil=>intro o;rfl
    |cons x w ih=>intro o;show(XH (o.set x true) w).length=_;rw[ih,qm]
   rw[this,vV]
  have fO:(XH (List.replicate n false) (l.take i)).set (l.getD i 0) true=XH (List.replicate n false) (l.take (i+1)):=by rw[br];unfold XH;rw[Tr];rfl
  have st:aStore Tryz.prog s 4 (.pointer (some ⟨O,l.getD i 0,none⟩)) (.bool true)=some (s.put O (.cells (Bo (XH (List.replicate n false) (l.take (i+1)))))):=by
   rw[Qr (P:=Tryz.prog) (t:=4) (x:=.bool true) v7 zd oO (off:=l.getD i 0) (by rw[YM,Xf];exact hv) rfl rfl,GZ,fO]
  have fQ:aload Tryz.prog s 59 ⟨B,2,none⟩=some (.slice (some ⟨O,0,none⟩) n n):=by rw[wT aO rfl oB];rfl
  have w8:WF (s.put O (.cells (Bo (XH (List.replicate n false) (l.take (i+1)))))):=ay.put _ (ay.lt oO);have fT:(s.put O (.cells (Bo (XH (List.replicate n false) (l.take (i+1)))))).own O=some (.cells (Bo (XH (List.replicate n false) (l.take (i+1))))):=AHeap.zm _ _ _;have fV:(s.put O (.cells (Bo (XH (List.replicate n false) (l.take (i+1)))))).own B=some (.cells [.int .i64 (n:Int),bv,.slice (some ⟨O,0,none⟩) n n,Y2,Y2,Y2]):=by rw[AHeap.Dz _ _ _ _ dE];exact oB
  have dM:Le U (s.put O (.cells (Bo (XH (List.replicate n false) (l.take (i+1)))))):=aB.put _ gO;have fW:GP (s.put O (.cells (Bo (XH (List.replicate n false) (l.take (i+1)))))) wv ((Ij l).take i):=GS.put gw _ aE;generalize s.put O (.cells (Bo (XH (List.replicate n false) (l.take (i+1)))))=h8 at*;have aw:=Gm i (ym d (Jh K QT));have nz:=NC d;have fY:=E8 d;have ga:=JM (a:=i+1) (fR d) (Jh K QT);simp only[Ud,Nat.reduceLT,↓reduceIte,Nat.reduceEqDiff,reduceCtorEq,ad i d,ld s aB i d,fB,fQ,fN,st,lr,aw,nz,fY,ga,ad _ dI,ld h8 dM _ dI];refine dK.intro pK ⟨Tryz.func91,rfl,xr⟩ (UU N (l.getD i 0) (l.getD ((i+1)%l.length) 0) h8) ?_;rintro x h9 w9 ⟨rfl,bx⟩;obtain⟨dT,hQ,hS,gf,gg,dV,hU,hV,dW,bX⟩:=(fW.le bx).push w9 (pe (l.getD i 0) (l.getD ((i+1)%l.length) 0)) (rt_b K bQ);obtain⟨dY,gk⟩:=dW U (dM.trans bx) cx;obtain⟨ec,ed⟩:=bX B _ (bx.own _ _ fV) bm;obtain⟨ee,ef⟩:=bX O _ (bx.own _ _ fT) aE;rw[<-dL]at dV;simp only[Ud,Nat.reduceLT,↓reduceIte,Nat.reduceEqDiff,reduceCtorEq,gf,gg,aw];exact cX (l.length-(i+1)) [(1,.pointer (some ⟨B1,0,none⟩)),(5,R),(7,.pointer (some ⟨B,0,none⟩)),(8,dT),(45,R),(46,.int .i64 (l.length:Nat)),(47,.int .i64 (i+1:Nat))] (dN d) vy
   ⟨i+1,dT,rfl,d,rfl,ec,ee,dY,dV,gk,ed,ef⟩
 have aK:l.length<=i:=Yv hf;rw[xV aK]at oO;rw[xV (by rw[qB];exact aK)]at gw;clear aK hf hi;refine yq ?_;have cE:l.length<=100000:=Jh K QT;refine dK.intro pK ⟨Tryz.func69,rfl,xr⟩ (tF N gw (by rw[qB];exact cE) (ring_bd Rg hR QT)) ?_;rintro x bF gn ⟨rfl,gs,D⟩;have kw:∀b o,s.own b=some o->blk wv≠some b->bF.own b=some o:=fun b o ho hb=>
  (D (rem (bl wv) s) (iq _ _) fun c hc=>by rw[Q3,if_pos (ED.2 hc)]).own _ _ (MR.2 ⟨ho,fun m=>hb (ED.1 m)⟩)
 have aM:=kw B _ oB bm;have aQ:=kw O _ oO aE;have aT:=D U aB cx;refine yq ?_;refine dK.intro pK ⟨dC,rfl,xr⟩ (fF N R (aW l) bF (bj.le aT).rl (by rw[tG];exact cE)) ?_;rintro cM eg gq ⟨eh,ei,cQ⟩;refine yq ?_;refine dK.intro pK ⟨bU,rfl,xr⟩ (Jg N cM (aW l) eg eh (by rw[tG];exact cE)) ?_;rintro x Z hW ⟨cY,ej,gu⟩;have aX:=ej bF ei cQ;have gv:(aW l).reverse=aW l.reverse:=by simp[aW]
 rw[gv]at cY;have bY:=aX.own _ _ aM;have b0:=aX.own _ _ aQ;have b2:=aT.trans aX;have hX:∀b∈[B,O],U.own b=none:=fun b hb=>by
  simp only[aH,RF,or_false]at hb;rcases hb with rfl|rfl
  .exact gB
  .exact gO
 have ag:Le U (rem [B,O] Z):=le_rem _ b2 hX;have ek:∀b,blk cM=some b->b∉[B,O]:=fun b hb m=>by
  have:=cQ b hb;simp only[aH,RF,or_false]at m;rcases m with rfl|rfl
  .rw[aM]at this;cases this
  .rw[aQ]at this;cases this
 have en:∀b,blk wv=some b->b∉[B,O]:=fun b hb m=>by
  simp only[aH,RF,or_false]at m;rcases m with rfl|rfl
  .exact bm hb
  .exact aE hb
 have b3:GI (rem [B,O] Z) cM (aW l.reverse):=GS.TQ cY ek;have b4:GP (rem [B,O] Z) wv (sortP (Ij l)):=GS.TQ (GP.le gs aX) en;have b5:=bj.le ag;have Xf:(XH (List.replicate n false) l).length=n:=by
  have:∀(w:wi) (o:List Bool),(XH o w).length=o.length:=fun w=>by
   induction w with
   |nil=>intro o;rfl
   |cons x w ih=>intro o;show(XH (o.set x true) w).length=_;rw[ih,qm]
  rw[this,vV]
 have S0:Cu (rem [B,O] Z) Z B O n (Oc n es) bv Y2 Y2 Y2 [] [] [] (XH (List.replicate n false) l) [] [] []:={
  f:=⟨bY⟩
  oO:=b0
  Xf:=Xf
  gF:=GS.nil _ _
  uL:=rfl
  u1:=rfl
  gI:=GS.nil _ _
  wL:=rfl
  w1:=rfl
  gL:=GS.nil _ _
  cuL:=.inl rfl
  c1:=rfl
  sep:=⟨fun i j u w b hY hu hw hb=>by
    have:u=Y2:=by
     have:=Jb hu;simpa using this
    subst this;simp[blk]at hb,fun i u b hu hb=>by
    have:u=Y2:=by
     have:=Jb hu;simpa using this
    subst this;simp[blk]at hb,fun i u hu b hb=>by
    have:u=Y2:=by
     have:=Jb hu;simpa using this
    subst this;simp[blk]at hb,iq _ _⟩
  gB:=by rw[Q3,if_pos YX]
  gO:=by rw[Q3,if_pos YX]
  bO:=dE
  nb:=fun u hu=>by
   have:u=Y2:=by simpa using hu
   subst this;simp[blk]
  cF:=fun i u f hu=>by simp at hu
  cI:=fun i u f hu=>by simp at hu
  cL:=fun i p hp=>by simp at hp
  cB:=r.le (Rr.RL Rr.IJ) ag}
 generalize rem [B,O] Z=eo at*;have ep:Le h eo:=((dp.trans z).trans av).trans ag;have gA:=C eo ((z.trans av).trans ag);clear oB oO aB gw cx bm aE gs D kw eh ei cQ cY ej gu bY b0 aM aQ aX b2 aT ek en hX gn gq ay;clear bF eg s;refine yq ?_;have et:∀x∈l,x<n:=fun x hx=>Rg.lt hR hx;refine dK.intro pK ⟨Tryz.func95,rfl,xr⟩ (oq N S0 b5.rl et QT (Jh K QT) YX) ?_;rintro x h0 ij ⟨ik,il,ix,iJ,iN,S1,eu⟩;refine yq ?_;refine dK.intro pK ⟨Tryz.func95,rfl,xr⟩ (oq N S1 ((b3.le eu).rl) (f:=l.reverse) (fun x hx=>et x (PT.1 hx)) QT (by rw[UC];exact Jh K QT) YX) ?_;rintro x gx iR ⟨iT,ah,aj,ew,ey,S2,gz⟩;have V:=eu.trans gz;simp only[IT,qL246]at S2;have eA:=C gx ((((z.trans av).trans ag).trans V).trans S2.le);have b6:=b4.le V;have b8:=(cd.le (av.trans ag)).le V;obtain⟨gC,c0⟩:=S2.ZW;simp only[Ud,Nat.reduceLT,↓reduceIte,Nat.reduceEqDiff,reduceCtorEq,eA.1];refine dK.intro pK ⟨Tryz.func96,rfl,xr⟩ (S2.side (EB N _ wv ⟨(n:Int),es⟩ (sortP (Ij l)) _ ⟨ev,rfl,b8.le c0⟩ (b6.le c0).pr (by rw[M1,qB];exact Jh K QT))) ?_;rintro x gE gH ⟨c3,⟨c4,e2,rfl,H⟩,S3,c5,eB,gM⟩;have eC:=Rg.web hR;simp only[TK]at H;rcases H with⟨q,-⟩|⟨-,q,-⟩|⟨-,-,rfl,L,hT,bI⟩
 .exact absurd hr q
 .exact absurd eC q
 rw[X5 hR hA.nodup hT (TB (n:=n) (on:=vi n (sortP (Ij l))) (es:=es))]at bI;have I0:=Rg.start hR hA (L:=ZB n (vi n (sortP (Ij l))) es) TB;have eD:QA n es=bk n es l (ZB n (vi n (sortP (Ij l))) es):=by unfold QA;rw[ck]
 rw[eD];have eE:=I0.CB;have b9:(bk n es l (ZB n (vi n (sortP (Ij l))) es)).on=XH (List.replicate n false) l:=rfl;have cc:(bk n es l (ZB n (vi n (sortP (Ij l))) es)).K8=[l,l.reverse]:=rfl;have W:(bk n es l (ZB n (vi n (sortP (Ij l))) es)).left=(ql n es (sortP (Ij l)) (ZB n (vi n (sortP (Ij l))) es)).map fun f=>⟨f.bG,f.Xt,fg [l,l.reverse] f.Xt [0,1]⟩:=rfl;have c6:∀f∈ql n es (sortP (Ij l)) (ZB n (vi n (sortP (Ij l))) es),(∀x∈f.Xt,∃v:Nat,x=(v:Int)/\v<n)/\f.Xt.length<=n:=fun f hf=>by
  have hm:(⟨f.bG,f.Xt,fg [l,l.reverse] f.Xt [0,1]⟩:Lb)∈(bk n es l (ZB n (vi n (sortP (Ij l))) es)).left:=by rw[W];exact T8.2 ⟨f,hf,rfl⟩
  exact⟨I0.qk hR hm,I0.GV hR hm⟩
 rw[W,yA]at eE;rw[b9,cc,W];generalize ql n es (sortP (Ij l)) (ZB n (vi n (sortP (Ij l))) es)=D at*;have gP:=bI.len;have eF:=sB B 5 QT;have eG:Le h c3:=(ep.trans V).trans (c0.trans eB);clear b9 cc W eD I0 hT S2 gC S1 S0 C A6 eA zH dr b6 b8 gA b4 b3 cd cg b5;simp only[Ud,Nat.reduceLT,↓reduceIte,Nat.reduceEqDiff,reduceCtorEq,gP];refine W9.intro (fun k fr s=>∃(i:Nat) (g:AHeap) (cs:List Value) (M:Value),k=D.length-i/\i<=D.length/\fr=mkF [(7,.pointer (some ⟨B,0,none⟩)),(90,c4),(91,.int .i64 (D.length:Nat)),(92,.int .i64 (i:Nat))]/\
   Cu g s B O n (Oc n es) bv ah aj M ew ey cs (XH (List.replicate n false) l) [l,l.reverse] [l,l.reverse] ((D.take i).map fun f=>⟨f.bG,f.Xt,fg [l,l.reverse] f.Xt [0,1]⟩)/\Le c3 g)
  D.length [(7,.pointer (some ⟨B,0,none⟩)),(90,c4),(91,.int .i64 (D.length:Nat)),(92,.int .i64 (0:Nat))] vy
  ⟨0,c3,[],Y2,rfl,KW _,rfl,S3,Le.refl _⟩ ?_
 clear S3 gH c5 gM;clear gE;rintro k fr s ay ⟨i,g,cs,M,rfl,hi,rfl,S,lg⟩;refine yq ?_;refine DK.intro (fun ht=>?_) (fun hf=>?_)
 .have d : i < D.length := Ub ht
  clear ht;have gQ:=dR d;obtain⟨a',b',da,ra,rb⟩:=bI.load gQ;have gR:=bI.addr (k:=.i64) i d;obtain⟨gS,eI⟩:=c6 _ (om d);have br:D.take (i+1)=D.take i++[D[i]]:=QM d;generalize D[i]=f at*;have da:=da s (lg.trans S.le);have ra:=ra.le lg;have rb:=rb.le Rr.IJ lg;obtain⟨iW,db,gT,gV,gZ,hd,nQ,oQ⟩:=new41' ay ra.sl rb.sl
  have dQ:s.next∉B::O::(bl ah++bl aj++bl M):=fun m=>(S.own (Zg.1 m)).2 nQ
  have eL:=S.up gZ
  generalize s.next=Q at*
  obtain⟨eM,hj,dc,iZ,hl⟩:=mV hd [.int .i64 0,.int .i64 1];have mk:=bt db 0 1;rw[hj]at mk;have aY:=eL.up dc
  have hn:RL IJ eM (.slice (some ⟨db.next,0,none⟩) 2 2) (aW [0,1]):=RL.Kr (RS.whole hl rfl)
  have eQ:=OJ (dc.own _ _ oQ);have eS:=OJ oQ;have eT:=aY.f;have aw:=Gm i (ym d (Ei QT));simp only[Ud,Nat.reduceLT,↓reduceIte,Nat.reduceEqDiff,reduceCtorEq,gR,da,gT,gV];refine rD (vu [0,1,2,3,4,5,6,7,8,9,10,11] (PO 12 [] (PO 13 [9,11,12] (vu [14] (PO 15 [14] (PO 16 [4,13,15] (vu [17,18] (PO 19 [0,1,2,3,4,5,6,7,8,9,10,11,12,13,14,15,16,18] .done)))))))) ?_;simp only[Ud,Nat.reduceLT,↓reduceIte,Nat.reduceEqDiff,reduceCtorEq,Nat.reduceBEq,rm,eF,ff0,ff1,Co,Qs,eL.f.l5,eT.l5,eS.2.1,eS.2.2,eQ.2.1,eQ.2.2,mk]
  refine N1.intro pK ⟨KL,rfl,xr⟩ (iQ N B n bv _ ah aj M b' (.slice (some ⟨db.next,0,none⟩) 2 2) [l,l.reverse] f.Xt [0,1] eM eT aY.rlI ((rb.le Rr.IJ aY.le)) hn gS YX (vh eI bQ) YX) ?_
  rintro y dd hy ⟨eU,e0,hz⟩;have a1:=e0.own _ _ (dc.own _ _ oQ);have e4:=OJ a1;have hC:(qh dd B O ah aj M).own Q=some (.cells [a',b']):=by unfold qh;rw[Q3,if_neg dQ];exact a1
  obtain⟨dj,a6⟩:=(aY.up e0).ZW;have gy:GI (qh dd B O ah aj M) y (aW (fg [l,l.reverse] f.Xt [0,1])):=G5 (h:=dd) aY eU hz;obtain⟨hD,jb,jh,jl,hE,hF,hG,hI,jn,e5,hJ,e6⟩:=dj.pushL hy (a:=a') (b:=b') (c:=y) (p:=⟨f.bG,f.Xt,fg [l,l.reverse] f.Xt [0,1]⟩) (ra.le a6) (rb.le Rr.IJ a6) gy.rl (tk_b eE bV _);have e7:=OJ (e5.own _ _ a1);have e8:=OJ (e6.own _ _ hC);have hK:=dj.f.le e5;have aq:=tH ra.sl rb.sl eU.rl.sl;simp only[Ud,Nat.reduceLT,↓reduceIte,Nat.reduceEqDiff,reduceCtorEq,Nat.reduceBEq,rm,eF,ff0,ff1,Co,Qs,dj.f.l5,hK.l5,hJ.l5,e4.2.1,e4.2.2,e7.2.1,e7.2.2,e8.2.1,e8.2.2,aq,hE,hF,hG,aw];refine cX (D.length-(i+1)) [(7,.pointer (some ⟨B,0,none⟩)),(90,c4),(91,.int .i64 (D.length:Nat)),(92,.int .i64 (i+1:Nat))] (dN d) vy
   ⟨i+1,_,cs++[a',b',y],hD,rfl,d,rfl,?_,lg.trans a6⟩
  rw[br,qy];exact hI
 have aK:D.length<=i:=Yv hf;rw[xV aK]at S;refine yq ?_;exact⟨g,B,O,bv,ah,aj,M,ew,ey,cs,rfl,eG.trans lg,S,Rg⟩
variable {G:GM} {S:DB}
def EW (d:Ac) (v:Value) (n:Nat) (es:List Pr) (h:AHeap) (hg:GR h v ⟨(n:Int),es⟩) (e:xO ⟨(n:Int),es⟩):
  AC Tryz.prog d 51 [v] h fun x h'=>BV (Ri n es) x/\Le h h':=by
 have c:=hg
 obtain⟨ev,rfl,u⟩:=hg.open
 refine AC.vE ⟨Tryz.func51,rfl,xr⟩ Tryz.ntmps51 Tryz.results51 fun i=>?_;simp only[xq,Nat.reduceAdd];obtain⟨o,p,a,w,-,q⟩:=WY (n:=(n:Int)) i u
 generalize h.next=B at*
 have b:=q o (Le.refl _);by_cases r:(n:Int)<3
 .have j : decide ((n : Int) < 3) = true := decide_eq_true r
  simp only[Ud,Nat.reduceLT,↓reduceIte,Nat.reduceEqDiff,p,Cq,Co,Qs,b.2.1,j];exact⟨BV.f fun T=>by have:=T.n3;omega,a⟩
 have j:decide ((n:Int)<3)=false:=decide_eq_false r;have h3:3<=n:=QT;simp only[Ud,Nat.reduceLT,↓reduceIte,Nat.reduceEqDiff,p,Cq,Co,Qs,b.2.1,b.1,j];refine dK.intro pK ⟨Tryz.func64,rfl,xr⟩ (dq d _ ⟨(n:Int),es⟩ o (c.le a) e) ?_;rintro pv s E ⟨gp,l4,-⟩;simp only[TK]at gp;have y:=gp.rl (Rr.RL Rr.IJ);have k:=fun g=>y.ae g;have l:((rP n es n).map aW).length=(Ju n es).length:=by simp[rP]
 rw[l]at k;have m:=q s l4;by_cases c1:((Ju n es).length:Int)=1
 rotate_left
 .have d1 : decide (((Ju n es).length : Int) = 1) = false := decide_eq_false c1
  simp only[Ud,Nat.reduceLT,↓reduceIte,Nat.reduceEqDiff,k,bne,d1];exact⟨BV.f fun T=>c1 (by have:=T.one;omega),a.trans l4⟩
 have d1:decide (((Ju n es).length:Int)=1)=true:=decide_eq_true c1;have z:(Ju n es).length=1:=QT;simp only[Ud,Nat.reduceLT,↓reduceIte,Nat.reduceEqDiff,k,bne,d1,m.1];refine dK.intro pK ⟨Tryz.func46,rfl,xr⟩ (yG d _ ⟨(n:Int),es⟩ s (c.le (a.trans l4))) ?_;rintro x F G ⟨l5,⟨A,_⟩|⟨_,H,rfl,t⟩⟩
 .exact absurd e A
 simp only[TK]at t;have C:=fun g=>t.len (P:=Tryz.prog) qS24 g;have D:=MJ e h3 z;simp only[Ud,Nat.reduceLT,↓reduceIte,Nat.reduceEqDiff,C];refine⟨⟨_,rfl,?_⟩,(a.trans l4).trans l5⟩;rw[<-D];simp only[decide_eq_true_eq];omega
noncomputable def embX (n:Nat) (es:List Pr):Option CA:=if 3*n<es.length+6 then none else embM n es
def LA {H:Nat->Nat->Prop} (hR:I7 n es) (hA:BD es) (D:pV (eN n es)) (I:RR n es H S) (h:UX es H=0):S.left=[]:=by
 rcases KC hR hA D 0 H S I QT with⟨a,-⟩|⟨b,c,a,-,h3⟩
 .simp[runM]at a
 .simp only [runM] at a
  injection a with a;rw[a];exact h3
def run_nil (h:S.left=[]):∀k,runM n rows k S=some S
 |0=>rfl
 |k+1=>by rw[runM,if_pos h]
def Cu.rlF {on:List Bool} {b d:ai} (S:Cu g h B O n rows bv fv iv lv us ws cs on b d left):RL (RL IJ) h fv (b.map aW):=
 ⟨us,(GS.cs S.gF).rs,by rw[yA];exact S.uL,fun i x u a e=>by
  rw[Rv]at a;cases c:b[i]? with
  |none=>rw[c]at a;cases a
  |some f=>
   rw[c]at a;simp at a;subst a;exact(S.cF i u f e c).le Rr.IJ S.le⟩
def face_bd {F:ai} (G:Dx n r F):∀f∈F,(∀x∈f,x<n)/\f.length<=n:=fun f hf=>by
 have a:∀x∈f,x<n:=fun x b=>G.Pc.lt _ _ (G.O.Zy G.Pc hf b);refine⟨a,?_⟩;have:=Jz (G.O.nd f hf) (B:=List.range n) fun v c=>vq.2 (a v c);simpa using this
def row_pos (a:Ri n es) (hR:I7 n es) {v:Nat} (b:v<n):0<((Oc n es).getD v []).length:=by
 obtain⟨w,hw⟩:=a.ne hR b;obtain⟨u,c,e⟩:=bq ((Hq hR).2 ⟨w,hw⟩);have hb:=(eH n es).back hR v;rw[<-hb];show 0<((eN n es v).map _).length;rw[e];simp
def row_le {v:Nat} (b:v<n):((Oc n es).getD v []).length<=2*es.length:=by
 have a:v<(Oc n es).length:=by rw[XM];exact b
 rw[YR a];exact OI n es _ (om a)
def Iy (h:AHeap) (v:Value) (G:GM):Prop:=∃ev,v=.agg #[.int .i64 G.n,ev]/\PR h ev G.es/\okc 2 ev
def Iy.gr (g:Iy h v G):GR h v G:=by
 obtain⟨ev,a,h2,-⟩:=g;exact⟨ev,a,h2⟩
def Iy.le {h h':AHeap} {v:Value} {G:GM} (g:Iy h v G) (l:Le h h'):Iy h' v G:=by
 obtain⟨ev,a,h2,h3⟩:=g;exact⟨ev,a,h2.le l,h3⟩
def BT (G:GM) (h':AHeap) (a:Value) (e:Int):Prop:=
 (¬xO G/\e=20/\a=Y2)\/(xO G/\¬Ri G.n.toNat G.es/\e=60/\a=Y2)\/
 (xO G/\Ri G.n.toNat G.es/\embX G.n.toNat G.es=none/\¬Gp G.n.toNat (eN G.n.toNat G.es)/\e=90/\a=Y2)\/
 (xO G/\Ri G.n.toNat G.es/\∃rs,embX G.n.toNat G.es=some rs/\Kk G.n.toNat G.es rs/\Flat G.n.toNat (Yg rs)/\e=0/\RL (RL IJ) h' a rs)
def Ek (u:Ac) (v:Value) (G:GM) (h:AHeap) (hg:Iy h v G):
  AC Tryz.prog u 19 [v] h fun x h'=>Le h h'/\∃rv e,x=.tuple #[rv,.int .i64 e]/\BT G h' rv e:=by
 have C:=hg.gr;obtain⟨ev,rfl,R,hc⟩:=hg;obtain⟨gn,es⟩:=G;simp only at R;refine AC.vE ⟨QK,rfl,xr⟩ Tryz.ntmps19 Tryz.results19 fun T=>?_;simp only[xq,Nat.reduceAdd];obtain⟨h1,b1,p,aB,-,U⟩:=WY (n:=gn) T R
 generalize h.next=B1 at*
 have V:=U h1 (Le.refl _);simp only[Ud,Nat.reduceLT,↓reduceIte,Nat.reduceEqDiff,b1,V.1];refine dK.intro pK ⟨Zj,rfl,xr⟩ (qG u _ _ h1 (C.le p)) ?_;rintro x h2 aE ⟨⟨W,rfl,i⟩,m⟩;cases W with
 |false=>
  refine yq ?_;exact⟨p.trans m,_,_,rfl,.inl ⟨(fun b=>by cases i.2 b),rfl,rfl⟩⟩
 |true=>
 have b:=i.1 rfl;clear i;have h0:0<=gn:=b.n0;obtain⟨n,rfl⟩:=RT h0;have av:(n:Int)<=200:=b.n1;have ay:es.length<=594:=b.len;have hR:=b.si;have hA:BD es:=b.Fx;have d:=p.trans m;simp only[Ud,Nat.reduceLT,↓reduceIte,Nat.reduceEqDiff,(U h2 m).1];refine dK.intro pK ⟨Tryz.func51,rfl,xr⟩ (EW u _ n es h2 (C.le d) b) ?_;rintro x h3 aK ⟨⟨W,rfl,i⟩,j⟩;have zH:=U h3 (m.trans j);cases W with
 |false=>
  refine yq ?_;exact⟨d.trans j,_,_,rfl,.inr (.inl ⟨b,(fun q=>by cases i.2 q),rfl,rfl⟩)⟩
 |true=>
 have l:=i.1 rfl;clear i;have aM:=l.n3;have lP:=fun g=>R.len g;have E:awrap .i64 (3*(n:Int))=3*(n:Int):=GQ _ QT QT;have F:awrap .i64 (3*(n:Int)-6)=3*(n:Int)-6:=GQ _ QT QT;by_cases c1:3*n<es.length+6
 .have d1 : decide ((es.length : Int) > 3 * (n : Int) - 6) = true := decide_eq_true QT
  simp only[Ud,Nat.reduceLT,↓reduceIte,Nat.reduceEqDiff,Cq,vz,Co,Qs,zH.2.1,zH.2.2,lP,E,F,d1];exact⟨d.trans j,_,_,rfl,.inr (.inr (.inl ⟨b,l,if_pos c1,many_no b l c1,rfl,rfl⟩))⟩
 have d1:decide ((es.length:Int)>3*(n:Int)-6)=false:=decide_eq_false QT;simp only[Ud,Nat.reduceLT,↓reduceIte,Nat.reduceEqDiff,Cq,vz,Co,Qs,zH.2.1,zH.2.2,zH.1,lP,E,F,d1];refine dK.intro pK ⟨Tryz.func52,rfl,xr⟩ (zG u ev n es h3 (R.le (d.trans j)) hc b l) ?_;rintro x X w4 ⟨g4,B,O,bv,w,y,z,us,ws,cs,rfl,Y,S4,Rg⟩;have I0:=Rg.start hR hA (L:=ZB n (vi n (sortP (Ij (MZ n es)))) es) TB;have hX:embX n es=(runM n (Oc n es) es.length (QA n es)).map fun S=>RG n (Oc n es) S.K8:=if_neg c1;have D:=l.DZ hR;have J:UX es (Js (MZ n es))<=es.length:=ET _ _;have K:=(d.trans j).trans Y;refine yq ?_;refine W9.intro (fun k fr Z=>∃(S:DB) (H:Nat->Nat->Prop) (g:AHeap) (w y z:Value) (us ws cs:List Value),fr=mkF [(4,.pointer (some ⟨B,0,none⟩))]/\RR n es H S/\runM n (Oc n es) es.length (QA n es)=runM n (Oc n es) k S/\UX es H<=k/\
   Cu g Z B O n (Oc n es) bv w y z us ws cs S.on S.K8 S.K8 S.left/\Le g4 g)
  es.length [(4,.pointer (some ⟨B,0,none⟩))] vy
  ⟨QA n es,_,g4,w,y,z,us,ws,cs,rfl,I0,rfl,J,S4,Le.refl _⟩ ?_
 clear S4 I0 J w4;clear X w y z us ws cs;rintro k fr Z aQ ⟨S,H,g,w,y,z,us,ws,cs,rfl,I,a,hu,o,lg⟩;have M:=sB B 5 QT;have lL:=o.lenL;by_cases c:S.left=[]
 .have dL : decide ((S.left.length : Int) > 0) = false := by rw [c]; rfl
  simp only[Ud,Nat.reduceLT,↓reduceIte,Nat.reduceEqDiff,M,o.f.l5,lL,dL];rw[run_nil c]at a;obtain⟨r,Gd,fl,hm⟩:=I.done c;obtain⟨k1,k2⟩:=circ_ok b l Gd fl hm;have N:=face_bd Gd;have aT:=I.NF;refine dK.intro pK ⟨Tryz.func54,rfl,xr⟩ (yf u B n bv _ w y z (Oc n es) S.K8 Z o.f (o.cB.le (Rr.RL Rr.IJ) o.le) o.rlF (XM n es) (fun v hv=>⟨row_pos l hR hv,by have:=row_le (es:=es) hv;omega⟩) (fun f hf=>⟨(N f hf).1,by have:=(N f hf).2;omega⟩) QT QT QT (sM b l Gd hm)) ?_;rintro x h9 w9 ⟨hx,l9⟩;refine yq ?_;refine⟨((K.trans lg).trans o.le).trans l9,x,_,rfl,.inr (.inr (.inr ⟨b,l,_,?_,k1,k2,rfl,hx⟩))⟩;simp only[TK];rw[hX,a];rfl
 .have dL:decide ((S.left.length:Int)>0)=true:=by
   have:=Ux.2 c;exact decide_eq_true QT
  obtain⟨P,rfl⟩:∃P,k=P+1:=by
   cases k with
   |zero=>exact absurd (LA hR hA D I QT) c
   |succ P=>exact⟨P,rfl⟩
  simp only[Ud,Nat.reduceLT,↓reduceIte,Nat.reduceEqDiff,M,o.f.l5,lL,dL];refine dK.intro pK ⟨Tryz.func53,rfl,xr⟩ (lay_any u o b D I c) ?_;rintro x h9 w9 ⟨g9,Q,l9,s⟩;rw[runM,if_neg c]at a;rcases s with⟨A,rfl⟩|⟨S',ad,ag,ah,aj,ak,al,A,rfl,aq⟩
  .rw [A] at a
   refine yq ?_;have ar:¬Gp n (eN n es):=by
    rcases I.lay hR hA D c with⟨_,h2⟩|⟨S',t,h2,_⟩
    .exact h2
    .rw[A]at h2;cases h2
   refine⟨((K.trans lg).trans Q).trans l9,_,_,rfl,.inr (.inr (.inl ⟨b,l,?_,ar,rfl,rfl⟩))⟩;simp only[TK];rw[hX,a];rfl
  .rw [A] at a
   refine yq ?_;obtain⟨t,I',aX⟩:∃t,RR n es t S'/\UX es t<UX es H:=by
    rcases I.lay hR hA D c with⟨h2,_⟩|⟨S2,t,h2,h3,X⟩
    .rw[A]at h2;cases h2
    .rw[A]at h2;injection h2 with h2;subst h2;exact⟨t,h3,X⟩
   exact cX P [(4,.pointer (some ⟨B,0,none⟩))] (SP _) vy ⟨S',t,g9,ad,ag,ah,aj,ak,al,rfl,I',a,QT,aq,lg.trans Q⟩
end
end Go.Fw
namespace Go.Fw
open Go.Proofs
attribute [local irreducible] xM Db AE oJ
def okB (n:Int) (es:List Pr) (i:Nat):Bool:=match es[i]? with
 |some p=>decide (0<=p.1)&&decide (p.1<p.2)&&decide (p.2<n)&&(i==0||match es[i-1]? with|some q=>decide (CI q p<0)|none=>true)
 |none=>true
def za {n:Int} {es:List Pr} (d:0<=n) (f:n<=200) (g:es.length<=594) (j:(List.range es.length).all (okB n es)=true):xO ⟨n,es⟩:=by
 refine⟨d,f,g,fun i hi p b=>?_⟩;have:=jE.1 j i (vq.2 hi);simp only at b;simp only[okB,b,SH,Z0,decide_eq_true_eq]at this;obtain⟨⟨⟨k,l⟩,m⟩,a⟩:=this;refine⟨⟨k,l,m⟩,fun q o c=>?_⟩;simp only at c;rcases a with a|a
 .have : i = 0 := by simpa using a
  omega
 .rw[c]at a;simpa using a
attribute [local instance] Classical.propDecidable in
theorem YE {n:Nat} {es:List Pr} {rs:CA} (a:xO ⟨(n:Int),es⟩) (G:Kk n es rs) (b:0<n) (c:∀v,v<n->Xb es 0 v) (hf:n+(dg n rs).length=es.length+2):Gp n (eN n es):=
 C1 a.si a.Fx G ((BQ a.si a.Fx G).1 ((um a.si a.Fx G b c).2 fun _=>hf))
attribute [local instance] Classical.propDecidable in
theorem mQ {n:Nat} {es:List Pr} (b:xO ⟨(n:Int),es⟩) (h3:3<=n) (a:es≠[]) (c:∀v,v<n->Xb es 0 v) (hb:(AE n es).length=1):Ri n es:=
 (MJ b h3 (OW b.si QT a c).2).1 hb
attribute [local instance] Classical.propDecidable in
theorem NY {n:Nat} {es:List Pr} (b:xO ⟨(n:Int),es⟩) (h3:3<=n) (a:es≠[]) (c:∀v,v<n->Xb es 0 v) (hb:Db n es≠[]):¬Ri n es:=fun T=>
 hb ((Jw b h3 (OW b.si QT a c).2).2 T)
def Gc:List Pr:=[(0,1),(0,3),(1,2),(2,3)]
def m5E:List Pr:=[(0,2),(0,3),(0,4),(1,2),(1,3),(1,4),(2,3),(2,4),(3,4)]
def k5L:List Pr:=(0,1)::m5E
def CN:List Pr:=[(0,3),(0,4),(0,5),(1,3),(1,4),(1,5),(2,3),(2,4),(2,5)]
def p3E:List Pr:=[(0,1),(1,2)]
def N4:List Pr:=[(0,1),(0,2),(1,2),(2,3),(2,4),(3,4)]
def c4R:xO ⟨((4:Nat):Int),Gc⟩:=za xr xr xr fh
def m5R:xO ⟨((5:Nat):Int),m5E⟩:=za xr xr xr fh
def k5R:xO ⟨((5:Nat):Int),k5L⟩:=za xr xr xr fh
def k33R:xO ⟨((6:Nat):Int),CN⟩:=za xr xr xr fh
def p3R:xO ⟨((3:Nat):Int),p3E⟩:=za xr xr xr fh
def bowR:xO ⟨((5:Nat):Int),N4⟩:=za xr xr xr fh
def c4con:∀v,v<4->Xb Gc 0 v:=fun v a=>by
 have c1:Xb Gc 0 1:=NZ (.inl xr)
 match v,a with
 |0,_=>exact Xb.refl _ _
 |1,_=>exact c1
 |2,_=>exact pT c1 (.inl xr)
 |3,_=>exact NZ (.inl xr)
def m5con:∀v,v<5->Xb m5E 0 v:=fun v a=>by
 have c2:Xb m5E 0 2:=NZ (.inl xr)
 match v,a with
 |0,_=>exact Xb.refl _ _
 |1,_=>exact pT c2 (.inr xr)
 |2,_=>exact c2
 |3,_=>exact NZ (.inl xr)
 |4,_=>exact NZ (.inl xr)
def k5con:∀v,v<5->Xb k5L 0 v:=fun v a=>by
 match v,a with
 |0,_=>exact Xb.refl _ _
 |1,_=>exact NZ (.inl xr)
 |2,_=>exact NZ (.inl xr)
 |3,_=>exact NZ (.inl xr)
 |4,_=>exact NZ (.inl xr)
def k33con:∀v,v<6->Xb CN 0 v:=fun v b=>by
 have a:Xb CN 0 3:=NZ (.inl xr)
 match v,b with
 |0,_=>exact Xb.refl _ _
 |1,_=>exact pT a (.inr xr)
 |2,_=>exact pT a (.inr xr)
 |3,_=>exact a
 |4,_=>exact NZ (.inl xr)
 |5,_=>exact NZ (.inl xr)
def p3con:∀v,v<3->Xb p3E 0 v:=fun v a=>by
 have c1:Xb p3E 0 1:=NZ (.inl xr)
 match v,a with
 |0,_=>exact Xb.refl _ _
 |1,_=>exact c1
 |2,_=>exact pT c1 (.inl xr)
def bowcon:∀v,v<5->Xb N4 0 v:=fun v a=>by
 have c2:Xb N4 0 2:=NZ (.inl xr)
 match v,a with
 |0,_=>exact Xb.refl _ _
 |1,_=>exact NZ (.inl xr)
 |2,_=>exact c2
 |3,_=>exact pT c2 (.inl xr)
 |4,_=>exact pT c2 (.inl xr)
def c4T:Ri 4 Gc:=mQ c4R xr xr c4con fh
def m5T:Ri 5 m5E:=mQ m5R xr xr m5con fh
def k5T:Ri 5 k5L:=mQ k5R xr xr k5con fh
def k33T:Ri 6 CN:=mQ k33R xr xr k33con fh
def p3T:¬Ri 3 p3E:=NY p3R xr xr p3con fh
def bowT:¬Ri 5 N4:=NY bowR xr xr bowcon fh
def c4Ro:CA:=[[1,3],[0,2],[1,3],[0,2]]
def m5Ro:CA:=[[2,3,4],[4,3,2],[0,4,1,3],[0,2,1,4],[0,3,1,2]]
def c4G:Kk 4 Gc c4Ro:=Dn rfl fh
def m5G:Kk 5 m5E m5Ro:=Dn rfl fh
def c4F:(dg 4 c4Ro).length=2:=by
 rw[jq c4R c4G (hs:=[((0,1),4),((0,3),4)]) fh];decide+kernel
def m5F:(dg 5 m5Ro).length=6:=by
 rw[jq m5R m5G (hs:=[((0,2),3),((0,3),3),((0,4),3),((1,2),3),((1,3),3),((1,4),3)]) fh];decide+kernel
def c4P:Gp 4 (eN 4 Gc):=YE c4R c4G xr c4con (by rw[c4F];decide)
def m5P:Gp 5 (eN 5 m5E):=YE m5R m5G xr m5con (by rw[m5F];decide)
def lY {n:Nat} {es:List Pr} {E:Nat->wi} (hR:I7 n es) (a:∀v w,w∈E v->v<n/\w<n) (h:∀v,v<n->∀w,w<n->(w∈eN n es v↔w∈E v)):∀v w,w∈eN n es v↔w∈E v:=fun v w=>by
 by_cases c:v<n/\w<n
 .exact h v c.1 w c.2
 .exact⟨fun q=>absurd ((Jq hR).1 q|>.lt hR) c,fun q=>absurd (a v w q) c⟩
def k5N:¬Gp 5 (eN 5 k5L):=fun h=>k5_no (J4 5) ((Gp.MT (lY k5R.si (fun v w q=>by have:=kQ.1 q;omega) fh)).1 h)
def k33N:¬Gp 6 (eN 6 CN):=fun h=>k33_no (J4 6) ((Gp.MT (lY k33R.si (fun v w q=>by have:=nJ.1 q;omega) fh)).1 h)
section
variable {G : GM} {h : AHeap} {rv : Value} {e : Int}
def BT.no (I:BT G h rv e) (c:xO G) (b:¬Ri G.n.toNat G.es):e=60/\rv=Y2:=by
 rcases I with⟨a,_⟩|⟨_,_,h2⟩|⟨_,a,_⟩|⟨_,a,_⟩
 .exact absurd c a
 .exact h2
 .exact absurd a b
 .exact absurd a b
def BT.bad (I:BT G h rv e) (b:xO G) (c:Ri G.n.toNat G.es) (d:¬Gp G.n.toNat (eN G.n.toNat G.es)):e=90/\rv=Y2:=by
 rcases I with⟨a,_⟩|⟨_,a,_⟩|⟨_,_,_,_,h2⟩|⟨_,_,rs,_,a,h2,_⟩
 .exact absurd b a
 .exact absurd c a
 .exact h2
 .have f : 0 <= G.n := b.n0
  obtain⟨n,es⟩:=G;obtain⟨n,rfl⟩:=RT f;exact absurd (C1 b.si b.Fx a h2) d
def BT.jd (I:BT G h rv e) (b:xO G) (c:Ri G.n.toNat G.es) (d:Gp G.n.toNat (eN G.n.toNat G.es)):∃rs,embX G.n.toNat G.es=some rs/\Kk G.n.toNat G.es rs/\Flat G.n.toNat (Yg rs)/\e=0/\RL (RL IJ) h rv rs:=by
 rcases I with⟨a,_⟩|⟨_,a,_⟩|⟨_,_,_,h2,_⟩|⟨_,_,h2⟩
 .exact absurd b a
 .exact absurd c a
 .exact absurd d h2
 .exact h2
end
end Go.Fw
namespace Go.Fw
section
attribute [local irreducible] Ax YH XZ Uk KO KN KX KE VK DK Q7 dK W9
attribute [local irreducible] xM Db AE oJ
open Go.Proofs
variable {a i j:Nat}
def Jv (a j:Nat):List Pr:=(List.range (j-(a+1))).map fun t=>((a:Int),((a+1+t:Nat):Int))
def Mk (i:Nat):List Pr:=(List.range i).flatMap fun a=>Jv a 5
def qi (h:a+1<=j):Jv a (j+1)=Jv a j++[((a:Int),(j:Int))]:=by
 unfold Jv;rw[show j+1-(a+1)=(j-(a+1))+1 by omega,pR,qy];simp;omega
def Eh (i:Nat):Mk (i+1)=Mk i++Jv i 5:=by unfold Mk;rw[pR,As];simp
def tW (h:j<=5):(Jv a j).length<=5:=by simp[Jv];omega
def zf (h:i<=5):(Mk i).length<=25:=by
 match i,h with
 |0,_=>decide
 |1,_=>decide
 |2,_=>decide
 |3,_=>decide
 |4,_=>decide
 |5,_=>decide
def five_b (h:i<=5) (b:j<=5):(Mk i++Jv i j).length+1<=100000:=by
 have:=tW (a:=i) b;have:=zf h;rw[Vw];omega
def ZN (Q:Ac) (h:AHeap):AC Tryz.prog Q 30 [] h fun x h'=>Iy h' x ⟨5,k5L⟩/\Le h h':=by
 refine AC.vE ⟨Tryz.func30,rfl,xr⟩ Tryz.ntmps30 Tryz.results30 fun l=>?_;simp only[xq];obtain⟨H,S,l1,w1,I⟩:=mV l [.int .i64 0,.slice none 0 0];have J:=rT h;rw[S]at J
 have T:h.own h.next=none:=(Le.refl h).next l (J4 _)
 obtain⟨h2,h3,U,K,l3,V,W,L⟩:=GX.new w1 5
 have u:H.next≠h.next:=fun e=>by have:=w1.lt I;omega
 generalize h.next=R at*
 generalize H.next=X at*
 simp only[Ud,Nat.reduceLT,↓reduceIte,Nat.reduceEqDiff,J,mo,U,K];have m:=l1.trans l3;have p:=l3.own _ _ I;have v:h.own X=none:=by
  cases c:h.own X with
  |none=>rfl
  |some o=>have:=l1.own _ _ c;rw[W]at this;cases this
 refine W9.intro (fun k fr g=>∃(i:Nat) (ev:Value),k=5-i/\i<=5/\fr=mkF [(0,.pointer (some ⟨R,0,none⟩)),(1,.pointer (some ⟨X,0,none⟩)),(5,.int .i64 (i:Nat))]/\GX g X 5 ev (Mk i)/\Le h g/\tQ h ev/\g.own R=some (.cells [.int .i64 0,.slice none 0 0])/\blk ev≠some R)
  5 [(0,.pointer (some ⟨R,0,none⟩)),(1,.pointer (some ⟨X,0,none⟩)),(5,.int .i64 (0:Nat))] vy ⟨0,_,rfl,KW _,rfl,L,m,fun b hb=>by simp[blk]at hb,p,by simp[blk]⟩ ?_
 clear L V p l3 m K;clear h3;rintro k fr g w ⟨i,ev,rfl,hi,rfl,f,y,M,oR,d⟩;refine yq ?_;refine DK.intro (fun q=>?_) (fun hf=>?_)
 .have r : i < 5 := Ub (n := 5) q
  clear q;have aw:=Gm i QT;simp only[Ud,Nat.reduceLT,↓reduceIte,Nat.reduceEqDiff,reduceCtorEq,aw];refine W9.intro (fun k fr t=>∃(j:Nat) (ev:Value),k=5-j/\i+1<=j/\j<=5/\fr=mkF [(0,.pointer (some ⟨R,0,none⟩)),(1,.pointer (some ⟨X,0,none⟩)),(2,.int .i64 (i:Nat)),(3,.int .i64 (j:Nat)),(5,.int .i64 (i:Nat))]/\GX t X 5 ev (Mk i++Jv i j)/\Le h t/\tQ h ev/\t.own R=some (.cells [.int .i64 0,.slice none 0 0])/\blk ev≠some R)
   (5-(i+1)) [(0,.pointer (some ⟨R,0,none⟩)),(1,.pointer (some ⟨X,0,none⟩)),(2,.int .i64 (i:Nat)),(3,.int .i64 (i+1:Nat)),(5,.int .i64 (i:Nat))] vy ⟨i+1,ev,rfl,J4 _,QT,rfl,by simpa[Jv]using f,y,M,oR,d⟩ ?_
  clear f y M oR d w;clear g ev;rintro k fr t z ⟨j,ev,rfl,A,Y,rfl,f,N,O,oR,d⟩;refine yq ?_;refine DK.intro (fun q=>?_) (fun hf=>?_)
  .have s : j < 5 := Ub (n := 5) q
   clear q;obtain⟨v',h4,h5,h6,Z,B,e6,P,w6,l4,f6,k6⟩:=f.push' z ((i:Int),(j:Int)) (five_b hi Y);obtain⟨l6,a6⟩:=f6 h N v O;obtain⟨C,D⟩:=k6 R _ oR (Hn u) d;have E:=Gm j QT;have Gl:=f.ld;rw[Nd,<-qi A]at P;have F:aBuild Tryz.prog 38 [(0,.int .i64 (i:Int)),(1,.int .i64 (j:Int))]=some (Ov ((i:Int),(j:Int))):=rfl;simp only[Ud,Nat.reduceLT,↓reduceIte,Nat.reduceEqDiff,reduceCtorEq,vz,Co,Qs,Gl.2.2,F,Z,B,e6,E];exact cX (5-(j+1)) [(0,.pointer (some ⟨R,0,none⟩)),(1,.pointer (some ⟨X,0,none⟩)),(2,.int .i64 (i:Nat)),(3,.int .i64 (j+1:Nat)),(5,.int .i64 (i:Nat))] (dN s) vy ⟨j+1,v',rfl,QT,s,rfl,P,l6,a6,C,D⟩
  .have G : 5 <= j := Yv (n := 5) hf
   obtain rfl:j=5:=QT;rw[<-Eh]at f;simp only[Ud,Nat.reduceLT,↓reduceIte,Nat.reduceEqDiff,reduceCtorEq,aw];exact cX (5-(i+1)) [(0,.pointer (some ⟨R,0,none⟩)),(1,.pointer (some ⟨X,0,none⟩)),(5,.int .i64 (i+1:Nat))] (dN r) vy ⟨i+1,ev,rfl,r,rfl,f,N,O,oR,d⟩
 have G:5<=i:=Yv (n:=5) hf;obtain rfl:i=5:=QT;have B:Mk 5=k5L:=by decide
 rw[B]at f;have sl:=f.gp.pr.sl;have st:=gU (n:=5) (ev:=ev) oR sl.one sl.cell;have ld:aload Tryz.prog (g.put R (.cells [.int .i64 5,ev])) 24 ⟨R,0,none⟩=some (.agg #[.int .i64 5,ev]):=tU (AHeap.zm _ _ _) (by obtain⟨a,c,e,_⟩:=sl;exact⟨a,_,c,e⟩);simp only[Ud,Nat.reduceLT,↓reduceIte,Nat.reduceEqDiff,reduceCtorEq,f.ld.1,st,ld];exact⟨⟨ev,rfl,(GS.put f.gp _ d).cs,GS.okc f.gp⟩,y.put _ T⟩
def Bg (a j:Nat):List Pr:=(List.range j).map fun(t:Nat)=>((a:Int),3+(t:Int))
def jf (i:Nat):List Pr:=(List.range i).flatMap fun a=>Bg a 3
def FF:Bg a (j+1)=Bg a j++[((a:Int),3+(j:Int))]:=by
 unfold Bg;rw[pR,qy];rfl
def Vc (i:Nat):jf (i+1)=jf i++Bg i 3:=by unfold jf;rw[pR,As];simp
def six_b (h:i<=3) (a:j<=3):(jf i++Bg i j).length+1<=100000:=by
 have b:(Bg i j).length<=3:=by simp[Bg];omega
 have h2:(jf i).length<=9:=by
  match i,h with
  |0,_=>decide
  |1,_=>decide
  |2,_=>decide
  |3,_=>decide
 rw[Vw];omega
def six_any (P:Ac) (h:AHeap):AC Tryz.prog P 31 [] h fun x h'=>Iy h' x ⟨6,CN⟩/\Le h h':=by
 refine AC.vE ⟨Tryz.func31,rfl,xr⟩ Tryz.ntmps31 Tryz.results31 fun l=>?_;simp only[xq];obtain⟨G,Q,l1,w1,H⟩:=mV l [.int .i64 0,.slice none 0 0];have I:=rT h;rw[Q]at I
 have S:h.own h.next=none:=(Le.refl h).next l (J4 _)
 obtain⟨h2,h3,T,J,l3,U,V,K⟩:=GX.new w1 6
 have u:G.next≠h.next:=fun e=>by have:=w1.lt H;omega
 generalize h.next=R at*
 generalize G.next=X at*
 simp only[Ud,Nat.reduceLT,↓reduceIte,Nat.reduceEqDiff,I,mo,T,J];have m:=l1.trans l3;have p:=l3.own _ _ H;have v:h.own X=none:=by
  cases c:h.own X with
  |none=>rfl
  |some o=>have:=l1.own _ _ c;rw[V]at this;cases this
 refine W9.intro (fun k fr g=>∃(i:Nat) (ev:Value),k=3-i/\i<=3/\fr=mkF [(0,.pointer (some ⟨R,0,none⟩)),(1,.pointer (some ⟨X,0,none⟩)),(5,.int .i64 (i:Nat))]/\GX g X 6 ev (jf i)/\Le h g/\tQ h ev/\g.own R=some (.cells [.int .i64 0,.slice none 0 0])/\blk ev≠some R)
  3 [(0,.pointer (some ⟨R,0,none⟩)),(1,.pointer (some ⟨X,0,none⟩)),(5,.int .i64 (0:Nat))] vy ⟨0,_,rfl,KW _,rfl,K,m,fun b hb=>by simp[blk]at hb,p,by simp[blk]⟩ ?_
 clear K U p l3 m J;clear h3;rintro k fr g w ⟨i,ev,rfl,hi,rfl,f,y,L,oR,d⟩;refine yq ?_;refine DK.intro (fun q=>?_) (fun hf=>?_)
 .have r : i < 3 := Ub (n := 3) q
  clear q;have aw:=Gm i QT;refine yq ?_;refine W9.intro (fun k fr t=>∃(j:Nat) (ev:Value),k=3-j/\j<=3/\fr=mkF [(0,.pointer (some ⟨R,0,none⟩)),(1,.pointer (some ⟨X,0,none⟩)),(2,.int .i64 (i:Nat)),(5,.int .i64 (i:Nat)),(8,.int .i64 (j:Nat))]/\GX t X 6 ev (jf i++Bg i j)/\Le h t/\tQ h ev/\t.own R=some (.cells [.int .i64 0,.slice none 0 0])/\blk ev≠some R)
   3 [(0,.pointer (some ⟨R,0,none⟩)),(1,.pointer (some ⟨X,0,none⟩)),(2,.int .i64 (i:Nat)),(5,.int .i64 (i:Nat)),(8,.int .i64 (0:Nat))] vy ⟨0,ev,rfl,KW _,rfl,by simpa[Bg]using f,y,L,oR,d⟩ ?_
  clear f y L oR d w;clear g ev;rintro k fr t z ⟨j,ev,rfl,W,rfl,f,M,N,oR,d⟩;refine yq ?_;refine DK.intro (fun q=>?_) (fun hf=>?_)
  .have s : j < 3 := Ub (n := 3) q
   clear q;obtain⟨v',h4,h5,h6,Y,A,Z,O,w6,l4,f6,k6⟩:=f.push' z ((i:Int),3+(j:Int)) (six_b hi W);obtain⟨l6,a6⟩:=f6 h M v N;obtain⟨B,C⟩:=k6 R _ oR (Hn u) d;have D:=Gm j QT;have Gl:=f.ld;rw[Nd,<-FF]at O;have a3:awrap .i64 (3+(j:Int))=3+(j:Int):=GQ _ QT QT;have E:aBuild Tryz.prog 38 [(0,.int .i64 (i:Int)),(1,.int .i64 (3+(j:Int)))]=some (Ov ((i:Int),3+(j:Int))):=rfl;simp only[Ud,Nat.reduceLT,↓reduceIte,Nat.reduceEqDiff,reduceCtorEq,vz,Co,Qs,Gl.2.2,a3,E,Y,A,Z,D];exact cX (3-(j+1)) [(0,.pointer (some ⟨R,0,none⟩)),(1,.pointer (some ⟨X,0,none⟩)),(2,.int .i64 (i:Nat)),(5,.int .i64 (i:Nat)),(8,.int .i64 (j+1:Nat))] (dN s) vy ⟨j+1,v',rfl,s,rfl,O,l6,a6,B,C⟩
  .have F : 3 <= j := Yv (n := 3) hf
   obtain rfl:j=3:=QT;rw[<-Vc]at f;simp only[Ud,Nat.reduceLT,↓reduceIte,Nat.reduceEqDiff,reduceCtorEq,aw];exact cX (3-(i+1)) [(0,.pointer (some ⟨R,0,none⟩)),(1,.pointer (some ⟨X,0,none⟩)),(5,.int .i64 (i+1:Nat))] (dN r) vy ⟨i+1,ev,rfl,r,rfl,f,M,N,oR,d⟩
 have F:3<=i:=Yv (n:=3) hf;obtain rfl:i=3:=QT;have A:jf 3=CN:=by decide
 rw[A]at f;have sl:=f.gp.pr.sl;have st:=gU (n:=6) (ev:=ev) oR sl.one sl.cell;have ld:aload Tryz.prog (g.put R (.cells [.int .i64 6,ev])) 24 ⟨R,0,none⟩=some (.agg #[ .int .i64 6,ev]):=tU (AHeap.zm _ _ _) (by obtain⟨a,c,e,_⟩:=sl;exact⟨a,_,c,e⟩);simp only[Ud,Nat.reduceLT,↓reduceIte,Nat.reduceEqDiff,reduceCtorEq,f.ld.1,st,ld];exact⟨⟨ev,rfl,(GS.put f.gp _ d).cs,GS.okc f.gp⟩,y.put _ S⟩
def xY (k id n:Nat) (a:n<1000000):okc k (.slice (some ⟨id,0,none⟩) n n):=⟨_,_,_,rfl,.inl ⟨J4 _,K2 a xr⟩⟩
def Av (c:Ac) (h:AHeap):AC Tryz.prog c 17 [] h fun x h'=>x=.bool true/\Le h h':=by
 refine AC.vE ⟨dU,rfl,xr⟩ Tryz.ntmps17 Tryz.results17 fun O=>?_;simp only[xq,Nat.reduceAdd];have bP:∀a b:Int,aBuild Tryz.prog 38 [(0,.int .i64 a),(1,.int .i64 b)]=some (Ov (a,b)):=fun _ _=>rfl;have fV:∀x e:Value,aFieldV Tryz.prog 24 (.agg #[x,e]) 1=some e:=fun _ _=>rfl;obtain⟨h1,e1,l1,w1,o1⟩:=mV O (Mf Gc);have m1:=mkP4 h (0,1) (0,3) (1,2) (2,3);have Q:Mf [(0,1),(0,3),(1,2),(2,3)]=Mf Gc:=rfl;rw[Q,e1]at m1
 have R:PR h1 (.slice (some ⟨h.next,0,none⟩) 4 4) Gc:=PR.made o1 rfl
 obtain⟨h2,h3,a2,s2,l3,w3,lG⟩:=newG (n:=4) w1 R;have S:=ui (n:=4) R.sl;simp only[Ud,Nat.reduceLT,↓reduceIte,Nat.reduceEqDiff,reduceCtorEq,bP,m1,S,a2,s2,(lG h3 (Le.refl _)).1]
 generalize h1.next=G1 at*
 have g1:Iy h3 (.agg #[.int .i64 4,.slice (some ⟨h.next,0,none⟩) 4 4]) ⟨((4:Nat):Int),Gc⟩:=⟨_,rfl,R.le l3,xY _ _ _ xr⟩
 refine dK.intro pK ⟨QK,rfl,xr⟩ (Ek c _ ⟨((4:Nat):Int),Gc⟩ h3 g1) ?_;rintro x h4 w4 ⟨l4,r1,aK,rfl,I1⟩;obtain⟨f,-,o,F1,rfl,j⟩:=I1.jd c4R c4T c4P;refine yq ?_;refine dK.intro pK ⟨Tryz.func30,rfl,xr⟩ (ZN c h4) ?_;rintro x h5 w5 ⟨⟨aM,rfl,p5,c5⟩,l5⟩;obtain⟨T,l,p,U⟩:=p5.cut c5 (i:=1) xr;have V:=ui (n:=5) p.sl;simp only[aaT]at l;simp only[Ud,Nat.reduceLT,↓reduceIte,Nat.reduceEqDiff,reduceCtorEq,fV,l,V];refine dK.intro pK ⟨QK,rfl,xr⟩ (Ek c _ ⟨((5:Nat):Int),m5E⟩ h5 ⟨T,rfl,p,U⟩) ?_;rintro x h6 w6 ⟨l6,r2,aQ,rfl,I2⟩;obtain⟨W,-,R2,F2,rfl,X⟩:=I2.jd m5R m5T m5P;refine yq ?_;refine dK.intro pK ⟨Tryz.func30,rfl,xr⟩ (ZN c h6) ?_;rintro x h7 w7 ⟨g7,l7⟩;refine yq ?_;refine dK.intro pK ⟨QK,rfl,xr⟩ (Ek c _ ⟨((5:Nat):Int),k5L⟩ h7 g7) ?_;rintro x h8 w8 ⟨l8,r3,aT,rfl,I3⟩;obtain⟨rfl,rfl⟩:=I3.bad k5R k5T k5N;refine yq ?_;refine dK.intro pK ⟨Tryz.func31,rfl,xr⟩ (six_any c h8) ?_;rintro x h9 w9 ⟨g9,l9⟩;refine yq ?_;refine dK.intro pK ⟨QK,rfl,xr⟩ (Ek c _ ⟨((6:Nat):Int),CN⟩ h9 g9) ?_;rintro x q Y ⟨r,r4,aX,rfl,I4⟩;obtain⟨rfl,rfl⟩:=I4.bad k33R k33T k33N;obtain⟨s,Z,t,aY,ad⟩:=mV Y (Mf p3E);have w:=mkP2 q (0,1) (1,2);have ag:Mf [(0,1),(1,2)]=Mf p3E:=rfl;rw[ag,Z]at w
 have y:PR s (.slice (some ⟨q.next,0,none⟩) 2 2) p3E:=PR.made ad rfl
 have z:=ui (n:=3) y.sl;simp only[Ud,Nat.reduceLT,↓reduceIte,Nat.reduceEqDiff,reduceCtorEq,bP,w,z];refine dK.intro pK ⟨QK,rfl,xr⟩ (Ek c _ ⟨((3:Nat):Int),p3E⟩ s ⟨_,rfl,y,xY _ _ _ xr⟩) ?_;rintro x A ah ⟨B,r5,a1,rfl,I5⟩;obtain⟨rfl,rfl⟩:=I5.no p3R p3T;obtain⟨C,aj,D,a6,ak⟩:=mV ah (Mf N4);have E:=mkP6 A (0,1) (0,2) (1,2) (2,3) (2,4) (3,4);have al:Mf [(0,1),(0,2),(1,2),(2,3),(2,4),(3,4)]=Mf N4:=rfl;rw[al,aj]at E
 have F:PR C (.slice (some ⟨A.next,0,none⟩) 6 6) N4:=PR.made ak rfl
 have G:=ui (n:=5) F.sl;simp only[Ud,Nat.reduceLT,↓reduceIte,Nat.reduceEqDiff,reduceCtorEq,bP,E,G];refine dK.intro pK ⟨QK,rfl,xr⟩ (Ek c _ ⟨((5:Nat):Int),N4⟩ C ⟨_,rfl,F,xY _ _ _ xr⟩) ?_;rintro x k a7 ⟨H,r6,a8,rfl,I6⟩;obtain⟨rfl,rfl⟩:=I6.no bowR bowT;have d:Le h4 k:=l5.trans (l6.trans (l7.trans (l8.trans (l9.trans (r.trans (t.trans (B.trans (D.trans H))))))));have bj:Le h6 k:=l7.trans (l8.trans (l9.trans (r.trans (t.trans (B.trans (D.trans H))))));have I:=(lG k (l4.trans d)).1;have aq:awrap .i64 (0+0)=0:=by decide
 have d0:decide ((0:Int)=0)=true:=by decide
 have ar:decide ((90:Int)=90)=true:=by decide
 have av:decide ((60:Int)=60)=true:=by decide
 simp only[Ud,Nat.reduceLT,↓reduceIte,Nat.reduceEqDiff,reduceCtorEq,aq,d0,ar,av,I];refine dK.intro pK ⟨Tryz.func27,rfl,xr⟩ (Kb c _ r1 ⟨((4:Nat):Int),Gc⟩ f k ((g1.gr.le l4).le d) (j.le (Rr.RL Rr.IJ) d)) ?_;rintro x ay bm ⟨⟨bb,rfl,aB⟩,J⟩;have hb:bb=true:=aB.2 ⟨c4R,o,(BQ c4R.si c4R.Fx o).2 F1⟩;subst hb;have K:=fun g=>j.len (P:=Tryz.prog) Xx g;have L:=fun g=>X.len (P:=Tryz.prog) Xx g;have m:0<f.length:=by rw[o.len];exact(by decide:0<(⟨((4:Nat):Int),Gc⟩:GM).n.toNat)
 have M:=j.qP6 0 m;obtain⟨u,lu,hu⟩:=j.To 0 m;have aE:f[0].length=2:=by
  have:=o.Gi (v:=0) xr;rw[YR m]at this;rw[this];decide+kernel
 have N:=fun g=>hu.zw g;rw[aE]at N;have e4:f.length=4:=o.len;have e5:W.length=5:=R2.len;rw[e4]at K;rw[e5]at L;simp only[vN]at M;have d4:decide (((4:Nat):Int)=4)=true:=by decide
 have d5:decide (((5:Nat):Int)=5)=true:=by decide
 have d2:decide (((2:Nat):Int)=2)=true:=by decide
 simp only[Ud,Nat.reduceLT,↓reduceIte,Nat.reduceEqDiff,reduceCtorEq,K,L,d4,d5,d2,M,lu ay (d.trans J),N];exact⟨trivial,(l1.trans l3).trans ((l4.trans d).trans J)⟩
variable {h:AHeap} {v:Value}
def two_any (i:Ac) (v:Value) (n:Nat) (es:List Pr) (h:AHeap) (hg:GR h v ⟨(n:Int),es⟩) (d:xO ⟨(n:Int),es⟩):
  AC Tryz.prog i 25 [v] h fun x h'=>BV (Ri n es) x/\Le h h':=by
 have c:=hg
 obtain⟨ev,rfl,z⟩:=hg.open
 refine AC.vE ⟨Tryz.func25,rfl,xr⟩ Tryz.ntmps25 Tryz.results25 fun j=>?_;simp only[xq,Nat.reduceAdd];obtain⟨r,A,a,C,-,s⟩:=WY (n:=(n:Int)) j z
 generalize h.next=B at*
 have k:=s r (Le.refl _);simp only[Ud,Nat.reduceLT,↓reduceIte,Nat.reduceEqDiff,A,k.1];refine dK.intro pK ⟨Tryz.func46,rfl,xr⟩ (yG i _ ⟨(n:Int),es⟩ r (c.le a)) ?_;rintro x t F ⟨l5,⟨D,_⟩|⟨_,G,rfl,u⟩⟩
 .exact absurd d D
 simp only[TK]at u;have w:=fun g=>u.len (P:=Tryz.prog) qS24 g;have b:=s t l5;have l:decide ((0:Int)=0)=true:=by decide
 by_cases m:(n:Int)>=3
 rotate_left
 .have e : decide ((n : Int) >= 3) = false := decide_eq_false m
  simp only[Ud,Nat.reduceLT,↓reduceIte,Nat.reduceEqDiff,Cq,Co,Qs,b.2.1,e];exact⟨BV.f fun T=>m (by have:=T.n3;omega),a.trans l5⟩
 have e:decide ((n:Int)>=3)=true:=decide_eq_true m;by_cases c1:((AE n es).length:Int)=1
 rotate_left
 .have o : decide (((AE n es).length : Int) = 1) = false := decide_eq_false c1
  simp only[Ud,Nat.reduceLT,↓reduceIte,Nat.reduceEqDiff,Cq,Co,Qs,b.2.1,e,w,o];exact⟨BV.f fun T=>c1 (by have:=(MJ d T.n3 T.one).2 T;omega),a.trans l5⟩
 have o:decide (((AE n es).length:Int)=1)=true:=decide_eq_true c1;simp only[Ud,Nat.reduceLT,↓reduceIte,Nat.reduceEqDiff,Cq,Co,Qs,b.2.1,b.1,e,w,o];refine dK.intro pK ⟨Tryz.func64,rfl,xr⟩ (dq i _ ⟨(n:Int),es⟩ t (c.le (a.trans l5)) d) ?_;rintro pv H I ⟨gp,l4,-⟩;simp only[TK]at gp;have E:=gp.rl (Rr.RL Rr.IJ);have y:=fun g=>E.ae g;have p:((rP n es n).map aW).length=(Ju n es).length:=by simp[rP]
 rw[p]at y;simp only[Ud,Nat.reduceLT,↓reduceIte,Nat.reduceEqDiff,y];refine⟨⟨_,rfl,?_⟩,(a.trans l5).trans l4⟩;simp only[decide_eq_true_eq];constructor
 .intro q;exact(MJ d QT QT).1 QT
 .intro T;have:=T.one;omega
def GRC.c {G:GM} (g:GRC h v G):Iy h v G:=by
 obtain⟨ev,d,h2,a,cap,h3,b⟩:=g;refine⟨ev,d,h2,a,_,cap,h3,?_⟩;rcases b with⟨e,f⟩|b
 .exact .inl ⟨f,e⟩
 .exact .inr b
def gX (i:Ac) (v L:Value) (G:GM) (rs:CA) (h:AHeap) (hg:GRC h v G) (hv:RL (RL IJ) h L rs):
  AC Tryz.prog i 4 [v,L] h fun x h'=>x=.bool true/\Le h h':=by
 have V:=hg.c;have k:=V.gr;obtain⟨W,es⟩:=G;obtain⟨ev,rfl,X,-⟩:=hg;simp only at X;refine AC.vE ⟨Tryz.func4,rfl,xr⟩ Tryz.ntmps4 Tryz.results4 fun M=>?_;simp only[xq,Nat.reduceAdd];obtain⟨Y,b1,m,ad,-,w⟩:=WY (n:=W) M X
 generalize h.next=B at*
 have N:=w Y (Le.refl _);simp only[Ud,Nat.reduceLT,↓reduceIte,Nat.reduceEqDiff,b1,N.1];refine dK.intro pK ⟨Zj,rfl,xr⟩ (qG i _ _ Y (k.le m)) ?_;rintro x h2 ag ⟨⟨l,rfl,b⟩,f⟩;have r:=w h2 f;have Z:∀g:AHeap,True:=fun _=>trivial;cases l with
 |false=>
  refine yq ?_;refine dK.intro pK ⟨dU,rfl,xr⟩ (Av i h2) ?_;rintro x h3 w3 ⟨rfl,l3⟩;refine yq ?_;exact⟨trivial,(m.trans f).trans l3⟩
 |true=>
 have j:=b.1 rfl;clear b;have h0:0<=W:=j.n0;obtain⟨n,rfl⟩:=RT h0;by_cases y:(n:Int)>40
 .have s : decide ((n : Int) > 40) = true := decide_eq_true y
  simp only[Ud,Nat.reduceLT,↓reduceIte,Nat.reduceEqDiff,Cq,Co,Qs,r.2.1,s];refine dK.intro pK ⟨dU,rfl,xr⟩ (Av i h2) ?_;rintro x h3 w3 ⟨rfl,l3⟩;refine yq ?_;exact⟨trivial,(m.trans f).trans l3⟩
 have s:decide ((n:Int)>40)=false:=decide_eq_false y;have o:=m.trans f;simp only[Ud,Nat.reduceLT,↓reduceIte,Nat.reduceEqDiff,Cq,Co,Qs,r.2.1,r.1,s];refine dK.intro pK ⟨QK,rfl,xr⟩ (Ek i _ ⟨(n:Int),es⟩ h2 (V.le o)) ?_;rintro x h3 w3 ⟨l3,z,e,rfl,I⟩;have zH:=w h3 (f.trans l3);have p:=o.trans l3;simp only[Ud,Nat.reduceLT,↓reduceIte,Nat.reduceEqDiff,zH.1];refine dK.intro pK ⟨Tryz.func25,rfl,xr⟩ (two_any i _ n es h3 (k.le p) j) ?_;rintro x K w4 ⟨⟨l,rfl,b⟩,l4⟩;have A:=w K ((f.trans l3).trans l4);have d:=p.trans l4;have O:decide ((60:Int)=60)=true:=by decide
 have u:decide ((0:Int)=0)=true:=by decide
 have C:decide ((90:Int)=0)=false:=by decide
 have Q:decide ((90:Int)=90)=true:=by decide
 have D:∀g,aLen Tryz.prog g 28 Y2=some (.int .i64 0):=fun g=>by
  have:=lD (P:=Tryz.prog) (t:=28) (a:=none) (n:=0) (cap:=0) Xx g;exact this
 cases l with
 |false=>
  have S:¬Ri n es:=fun q=>by cases b.2 q
  obtain⟨rfl,rfl⟩:=I.no j S;simp only[Ud,Nat.reduceLT,↓reduceIte,Nat.reduceEqDiff,D];refine dK.intro pK ⟨dU,rfl,xr⟩ (Av i K) ?_;rintro x E w5 ⟨rfl,l5⟩;refine yq ?_;exact⟨trivial,d.trans l5⟩
 |true=>
 have S:=b.1 rfl;clear b;rcases I with⟨q,-⟩|⟨-,q,-⟩|⟨-,-,-,T,rfl,rfl⟩|⟨-,-,H,-,R,F,rfl,J⟩
 .exact absurd j q
 .exact absurd S q
 .simp only [Ud, Nat.reduceLT, ↓reduceIte, Nat.reduceEqDiff, C, D, A.1]
  refine dK.intro pK ⟨Tryz.func27,rfl,xr⟩ (Kb i _ L ⟨(n:Int),es⟩ rs K (k.le d) (hv.le (Rr.RL Rr.IJ) d)) ?_;rintro x E w5 ⟨⟨l,rfl,b⟩,l5⟩;have hb:l=false:=by
   cases l with
   |false=>rfl
   |true=>
    obtain⟨_,R,Pm⟩:=b.1 rfl;exact absurd (C1 j.si j.Fx R ((BQ j.si j.Fx R).1 Pm)) T
  subst hb;refine yq ?_;refine dK.intro pK ⟨dU,rfl,xr⟩ (Av i E) ?_;rintro x h6 w6 ⟨rfl,l6⟩;refine yq ?_;exact⟨trivial,(d.trans l5).trans l6⟩
 .simp only [Ud, Nat.reduceLT, ↓reduceIte, Nat.reduceEqDiff, A.1]
  refine dK.intro pK ⟨Tryz.func26,rfl,xr⟩ (eY i _ z ⟨(n:Int),es⟩ H K (k.le d) (J.le (Rr.RL Rr.IJ) l4)) ?_;rintro x E w5 ⟨⟨l,rfl,b⟩,l5⟩;have hb:l=true:=b.2 ⟨j,R⟩;subst hb;have U:=w E (((f.trans l3).trans l4).trans l5);simp only[Ud,Nat.reduceLT,↓reduceIte,Nat.reduceEqDiff,U.1];refine dK.intro pK ⟨Tryz.func27,rfl,xr⟩ (Kb i _ z ⟨(n:Int),es⟩ H E (k.le (d.trans l5)) (J.le (Rr.RL Rr.IJ) (l4.trans l5))) ?_;rintro x h6 w6 ⟨⟨l,rfl,b⟩,l6⟩;have hb:l=true:=b.2 ⟨j,R,(BQ j.si j.Fx R).2 F⟩;subst hb;refine yq ?_;refine dK.intro pK ⟨dU,rfl,xr⟩ (Av i h6) ?_;rintro x h7 w7 ⟨rfl,l7⟩;refine yq ?_;exact⟨trivial,((d.trans l5).trans l6).trans l7⟩
end
section
open Go.Proofs Go.ChangeShapes Go.WideShapes Go.RowKit Go.ChangeAt
open Go.Proofs.YtkccdnmaaelbiaaGreat
def qT (os:Os) (started:os.Started) (H:Type) (enc:TypeId×Value->H):
  ReturnsInHanded {} Tryz.checked os 4 .any (Rows.embedPlaneSpec.pre6 enc Tryz.prog Tryz.f4 Rows.embedPlaneRow.domain false) (Rows.embedPlaneSpec.post enc Tryz.prog Tryz.f4 false true false false):=by
 have own:ownKnob Tryz.prog.godebug=Option.none:=zd;have laidOut:laidOutB Tryz.prog=true:=zd;refine returnsInHanded_of_change (C:=Tryz.checked) own started zd Tryz.func4
  (ChangeSpec.witness6 (enc:=enc) (C:=Tryz.checked) false ⟨#[],#[.agg #[.int .i64 0,.slice Option.none 0 0],.slice Option.none 0 0],[]⟩ 8 zd zd zd zd) ?_
 intro W base args ds gs before c u w _;have b:∀(j:Nat) t v,Tryz.f4.params[j]?=some t->args[j]?=some v->Value.okWide Tryz.prog W .any base t v:=c;have d:=u;obtain⟨p,q,i,B,rfl,D,E⟩:=u;have hA:DataW.TrodAll enc Tryz.prog W 0 (fun _=>true) true Tryz.f4.params.toList args.toList ds p:=i;rw[Tryz.params4]at hA b;obtain⟨k,L,M,N,F,O,a,rfl,rfl,z,hA⟩:=trodAll_cons hA;obtain⟨l,w1,d1,P,G,Q,rfl,rfl,rfl,A,hA⟩:=trodAll_cons hA;obtain⟨rfl,rfl,rfl⟩:=trodAll_nil hA;obtain rfl:args=#[k,l]:=by cases args;simp_all
 obtain⟨rfl,rfl⟩:=trodVars_none B;obtain⟨I,x0,m,n⟩:=Vz (b 0 24 k rfl rfl) z (fun _=>⟨0,0,0⟩);obtain⟨u1,x1,o,r⟩:=XQ (b 1 28 l rfl rfl) A (fun _=>⟨0,0,0⟩);refine(gX (Ac.of W) I u1 x0 x1 (Nj W) n r [] (fun _=>⟨0,0,0⟩) W [k,l] (Rel.start W _) ?_).mono ?_
 .exact .cons m (.cons o ((.nil _ _)))
 .rintro e J ⟨x, x', S, h', rfl, R, -, -, K, rfl, -⟩
  obtain rfl:=K.DN;have hb:=R.below;have g:∀y∈F,y.block<W.heap.size:=fun y s=>d.lt y (by simp[s]);have h:∀y∈G,y.block<W.heap.size:=fun y s=>d.lt y (by simp[s]);have f:DataW.Trod enc Tryz.prog J W.heap.size (fun _=>false) false 4 (.bool true) (.lit (.bool true)) []:=⟨1,by simp[DataW.trod,Value.cells]⟩;have a:=
   tcons (Below.trod laidOut zd (of_decide_eq_true zd) z hb g) (tcons (Below.trod laidOut zd (of_decide_eq_true zd) A hb h) (trodAll_mk0))
  try simp only[C7]at a
  exact⟨_,rfl,_,_,_,[],_,[],d,trodAll_mk1 f,a,rfl,hb.frame _,fun e=>by cases e⟩
def embedPlane_said:Rows.EmbedPlaneSaid:=
 OpenClaim.holds_of_wide 4 Tryz.f4 rfl rfl rfl rfl rfl rfl rfl ⟨rfl,rfl,rfl,rfl,rfl⟩ rfl rfl rfl rfl rfl zd Tryz.func4 zd
  (of_decide_eq_true zd) (by unfold Func.isWrapper;first|(rw[if_pos fh];kernel_rfl)|(rw[if_neg fh];exact⟨rfl,rfl⟩))
  (fun os started H enc _=>qT os started H enc)
end
end Go.Fw
