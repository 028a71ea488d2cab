/- A text. -/
import Derived.Test.YtkccdnmaaelbiaaGreatFwLM1
set_option linter.all false
set_option maxRecDepth 99999
set_option maxHeartbeats 9999999
namespace Go.Fw
section
open Go.Proofs
structure TM where
 bs:List (List Pr)
 cs:RZ
 ls:List Pr
end
section
attribute [local irreducible] Jz JL vq cQ
open Go.Proofs
variable {es:List Pr} {n:Nat}
def lkU (i:Nat) (b:List Pr) (cs:II) (k:Nat):List Pr:=((List.range k).filter fun j=>rG ((cs.getD j 0:Nat):Int) b).map fun(j:Nat)=>((i:Int),(j:Int))
def Rb (bs:List (List Pr)) (cs:II) (i:Nat):List Pr:=(List.range i).flatMap fun k=>lkU k (bs.getD k []) cs cs.length
theorem wQ (i:Nat) (b:List Pr) (cs:II) (k:Nat):lkU i b cs (k+1)=lkU i b cs k++if rG ((cs.getD k 0:Nat):Int) b then[((i:Int),(k:Int))]else[]:=by grind [lkU.eq_1,List.range_succ]
theorem DK (bs:List (List Pr)) (cs:II) (i:Nat):Rb bs cs (i+1)=Rb bs cs i++lkU i (bs.getD i []) cs cs.length:=by grind [Rb.eq_1,List.range_succ]
def mR (n:Nat) (es:List Pr):TM:=⟨vq n es,kz (JL n es),Rb (vq n es) (JL n es) (vq n es).length⟩
def JoinG (n:Nat) (es:List Pr):Prop:=es≠[]/\(Es n es).length=1
theorem u5 (b:bX ⟨(n:Int),es⟩) (a:es≠[]):0<(vq n es).length:=by
 obtain⟨p,l,rfl⟩:=Gw a
 grind [Zg,List.mem_cons_self]
end
section
open Go.Proofs
structure LinkOK (b n:Nat) (p:Pr):Prop where
 x0:0<=p.1
 x1:p.1<(b:Int)
 y0:0<=p.2
 y1:(b:Int)+p.2<(n:Int)
end
section
attribute [local instance] Classical.propDecidable
def bU (b:Nat) (ls:List Pr):List Pr:=ls.map fun p=>(p.1,(b:Int)+p.2)
structure Lk (b n:Nat) (ls:List Pr):Prop where
 n0:n≠0
 len:ls.length+1=n
 ok:∀p∈ls,LinkOK b n p
 bp:∀v,v<n->Pu (bU b ls) 0 v
end
section
open Go.Proofs
def mk57 (h:AHeap) (n:Nat) (a:n<=1000):aMakeSlice Tryz.prog h 27 (.int .i64 (n:Int)) (.int .i64 (n:Int))=some (.slice (some ⟨h.next,0,none⟩) n n,h.alloc (.cells (List.replicate n (.slice none 0 0)))):=
 Ye (P:=Tryz.prog) (t:=27) (z:=.slice none 0 0) h pE Ji rfl rfl rfl Ji Mb Ji n NH
def PO (h:AHeap) (n:Nat) (a:n<=1000):aMakeSlice Tryz.prog h 59 (.int .i64 (n:Int)) (.int .i64 (n:Int))=some (.slice (some ⟨h.next,0,none⟩) n n,h.alloc (.cells (List.replicate n (.bool false)))):=
 Ye (P:=Tryz.prog) (t:=59) (z:=.bool false) h eY rfl rfl rfl rfl Ji AV Ji n NH
def mk35 (h:AHeap) (n:Nat) (a:n<=1000):aMakeSlice Tryz.prog h 49 (.int .i64 (n:Int)) (.int .i64 (n:Int))=some (.slice (some ⟨h.next,0,none⟩) n n,h.alloc (.cells (List.replicate n (.int .i64 0)))):=
 Ye (P:=Tryz.prog) (t:=49) (z:=.int .i64 0) h Mb rfl rfl rfl rfl Ji Ac Ji n NH
end
section
attribute [local irreducible] Jz JL vq cQ
open Go.Proofs
variable {es:List Pr} {n u v w:Nat}
def FQ (d:aV n es) (e:0<n) (c:es≠[]) (h:∀v,v<n->Pu es 0 v):JoinG n es:=by
 refine⟨c,?_⟩;obtain⟨a,ha,f⟩:=B6 d 0 e;have:∀b∈Es n es,b=a:=fun b hb=>rf hb ha ((h b (QO.1 hb).1).symm.trans f.symm);exact Cq (qD n es) ha this
def aae (h:Pu es u v) (a:Jp es v w):Pu es u w:=h.step a rfl
end
section
attribute [local instance] Classical.propDecidable
attribute [local irreducible] Jz JL vq cQ
open Go.Proofs
variable {b es:List Pr} {c i j k n u v:Nat} {p:Pr} {α:Type}
theorem ah {bs:List (List Pr)} {cs:II}:∀k,p∈Rb bs cs k↔∃i j:Nat,i<k/\j<cs.length/\rG ((cs.getD j 0:Nat):Int) (bs.getD i [])=true/\p=((i:Int),(j:Int)):=by grind [Rb,lkU]
theorem FU (i:Nat) (b:List Pr) (cs:II):∀k,k<=cs.length->(lkU i b cs k).length=((cs.take k).filter fun c=>rG ((c:Nat):Int) b).length
 |0,_=>by simp[lkU]
 |k+1,h=>by
  rw[wQ,jf,FU i b cs k NH,GK,VU,jf]
  grind
theorem Er (bs:List (List Pr)) (cs:II):∀k,k<=bs.length->(Rb bs cs k).length=(cs.map fun c=>((bs.take k).filter (rG ((c:Nat):Int))).length).sum
 |0,_=>by
  rw[Rb];simp only[List.range_zero,List.flatMap_nil,aaQ,aaS,ur]
  induction cs<;>grind
 |k+1,h=>by
  rw[DK,jf,Er bs cs k NH,FU k _ cs cs.length (Ny _),aax];have hb:bs[k]?=some bs[k]:=BS h;rw[GK,hb,Option.toList_some,D4 h];clear hb;generalize bs[k]=b;generalize bs.take k=l
  induction cs<;>grind
theorem uh (h:(Es n es).length=1) (a:u<n) (c:v<n):Pu es u v:=by
 have g:0<n:=NH;have m0:0∈Es n es:=QO.2 ⟨g,fun u a=>by omega⟩;obtain⟨x,i⟩:=qL152.1 h;rw[i,j9]at m0;subst m0;have key:∀k v,v<=k->v<n->Pu es 0 v:=by
  intro k
  induction k with
  |zero=>grind [Pu.refl]
  |succ k j=>
   intro v l c;by_cases e:v=0
   .grind
   have f:v∉Es n es:=pw;rw[QO]at f;have:∃u,u<v/\Pu es u v:=fR fun d=>f ⟨c,fun u a b=>d ⟨u,a,b⟩⟩;obtain⟨u,a,d⟩:=this;exact(j u NH NH).trans d
 exact(key _ u (Ny _) a).symm.trans (key _ v (Ny _) c)
theorem ZI {l:List α} (nd:l.Nodup) {x:α} (h:l[i]?=some x) (g:l[j]?=some x):i=j:=by grind [List.pairwise_iff_getElem]
theorem bK (h:(vq n es)[k]?=some b):∃x,(CY (cQ n es) es)[k]?=some x/\b=es.filter fun p=>decide (cQ n es p=x):=by grind [Tm]
theorem X5 (h:(vq n es)[k]?=some b) (a:p∈b):p∈es:=by grind [bK]
theorem at_mem {v:Int} (a:p∈b) (h:AN v p=true):rG v b=true:=by grind [rG]
theorem NF (hR:bX ⟨(n:Int),es⟩) (f:v<n) {b c:List Pr} (h:(vq n es)[j]?=some b) (g:(vq n es)[k]?=some c) (hb:rG (v:Int) b=true) (d:rG (v:Int) c=true) (ne:j≠k):
  ∃m:Nat,(JL n es)[m]?=some v:=by
 have a:=hR.GD;have h2:1<Sq n es v:=by
  rw[JW,Yt (PS n es v)];obtain⟨x,i,rfl⟩:=bK h;obtain⟨y,l,rfl⟩:=bK g;rw[KQ a]at hb d;refine⟨x,y,(dG a).2 hb,(dG a).2 d,fun e=>ne ?_⟩;subst e;have nd:=(lQ (cQ n es) _ es rfl).1
  grind [ZI]
 rw[YH a]at h2;exact qy.1 ((OI a v).2 ⟨f,h2⟩)
theorem abd (h:(vq n es)[i]?=some b) (g:(JL n es)[j]?=some c):((i:Int),(j:Int))∈(mR n es).ls↔rG (c:Int) b=true:=by
 have a:=(vT.1 h).1;have d:=(vT.1 g).1;have eb:(vq n es).getD i []=b:=pw;have e:(JL n es).getD j 0=c:=pw;show _∈Rb _ _ _↔_
 grind [ah]
theorem vC (h:(vq n es)[i]?=some b) (g:(JL n es)[j]?=some c) (ha:rG (c:Int) b=true):Jp (bU (vq n es).length (mR n es).ls) i ((vq n es).length+j):=by
 left;refine Eh.2 ⟨_,(abd h g).2 ha,?_⟩
 grind
theorem tj (hR:bX ⟨(n:Int),es⟩) (e:v<n) {b c:List Pr} (h:(vq n es)[j]?=some b) (g:(vq n es)[k]?=some c) (hb:rG (v:Int) b=true) (a:rG (v:Int) c=true):Pu (bU (vq n es).length (mR n es).ls) j k:=by
 by_cases ne:j=k
 .grind [Pu.refl]
 obtain⟨m,d⟩:=NF hR e h g hb a ne;exact(vm (vC h d hb)).trans (vm (vC g d a)).symm
theorem fW (hR:bX ⟨(n:Int),es⟩) (r:u<n) (o:Pu es u v):∀{j k:Nat} {b c:List Pr},(vq n es)[j]?=some b->(vq n es)[k]?=some c->rG (u:Int) b=true->rG (v:Int) c=true->Pu (bU (vq n es).length (mR n es).ls) j k:=by
 have f:=hR.GD
 induction o with
 |refl _=>grind [tj]
 |@step w x _ a _ p=>
  intro j k b c h g hb e;obtain⟨m,d,i,l,_⟩:=Zg hR (H4 f a);have q:rG (w:Int) d=true:=at_mem l zo;have h2:rG (x:Int) d=true:=at_mem l (by rw[so];exact zo);exact(p h i hb q).trans (tj hR (a.lt f).2 i g h2 e)
theorem kK (hR:bX ⟨(n:Int),es⟩) (k:JoinG n es):Lk (vq n es).length ((vq n es).length+(JL n es).length) (mR n es).ls:=by
 have o:=hR.GD;have f:=u5 hR k.1;have y:=XF hR;have e:∀i b,(vq n es)[i]?=some b->∃a c:Nat,((a:Int),(c:Int))∈b/\a<n/\rG (a:Int) b=true:=fun i b hb=>by
  obtain⟨p,l,rfl⟩:=Gw (y.ne b (Gc hb));obtain⟨a,c,rfl,z,q,_⟩:=ends o (X5 hb iy)
  grind [at_mem,AN]
 have blk:∀i,i<(vq n es).length->Pu (bU (vq n es).length (mR n es).ls) 0 i:=fun i hi=>by
  have r:(vq n es)[i]?=some (vq n es)[i]:=BS hi;have w:(vq n es)[0]?=some (vq n es)[0]:=BS f;obtain⟨a,_,_,ha,ea⟩:=e _ _ w;obtain⟨c,_,_,s,A⟩:=e _ _ r;exact fW hR ha (uh k.2 ha s) w r ea A
 refine⟨NH,?_,fun p B=>?_,fun v F=>?_⟩
 .have G := tZ o
  have H:(mR n es).ls.length=((JL n es).map (Sq n es)).sum:=by
   show(Rb _ _ _).length=_;rw[Er _ _ _ (Ny _),aax];rfl
  have r:((Es n es).filter fun h=>decide (0<Sq n es h)).length=1:=by
   obtain⟨x,C⟩:=qL152.1 k.2;have t:x∈Es n es:=by rw[C];simp
   have D:=(QO.1 t).1;obtain⟨p,l,rfl⟩:=Gw k.1
   grind [ends,List.mem_cons_self,HJ,FV,uh]
  omega
 .obtain ⟨i, j, hi, E, _, rfl⟩ := (ah _).1 B
  exact⟨Ma,pw,Ma,pw⟩
 .by_cases hb : v < (vq n es).length
  .grind
  obtain⟨j,rfl⟩:∃j,v=(vq n es).length+j:=⟨v-(vq n es).length,NH⟩;have u:j<(JL n es).length:=NH;have s:(JL n es)[j]?=some (JL n es)[j]:=BS u;obtain⟨q,g⟩:=(OI o _).1 (Gc s);obtain⟨a,_,ha,_⟩:=g;obtain⟨m,d,I,J,_⟩:=Zg hR (H4 o ha)
  grind [at_mem,zo,Cn.trans,vm,vC]
end
end Go.Fw
namespace Go.Fw
open Go.Proofs
attribute [local instance] Classical.propDecidable
def JS {a j:Nat} (h:j<a):a-(j+1)<a-j:=NH
section
variable {n : Nat} {es : List Pr} {rs : List (List Int)}
theorem cZ (a:aV n es) (ha:D3 es) {v:Nat} {l:RZ}:qC l=(Zh n es).getD v []↔l.Perm ((Zh n es).getD v []):=by
 constructor
 .intro h
  rw[<-h];exact(iu _ _).symm
 .intro p
  have hb:=KW es a ha v;have nd:l.Nodup:=p.nodup_iff.2 (EU.2 (hb.imp fun h e=>by omega));have b:=aQ l;have h2:(qC l).Nodup:=(iu _ _).nodup_iff.2 nd;rw[EU]at h2;exact wP _ _ ((b.and h2).imp fun h=>by omega) hb fun x=>by grind [Wv]
def dO (v:Nat) (l:RZ):List Pr:=(l.filter fun w=>decide ((v:Int)<w)).map fun w=>((v:Int),w)
def toldE (rs:AM):Nat->List Pr
 |0=>[]
 |k+1=>toldE rs k++dO k (rs.getD k [])
theorem Mp {k:Nat} {p:Pr}:p∈toldE rs k↔∃v:Nat,v<k/\p.1=(v:Int)/\p.2∈rs.getD v []/\p.1<p.2:=by
 induction k with
 |zero=>simp[toldE]
 |succ k a=>
  grind [toldE.eq_2,dO.eq_1]
theorem rK (hR:bX ⟨(n:Int),es⟩) (G:Av n es rs):YG (n:Int) (toldE rs n)/\sortP ((toldE rs n).map aaa)=es:=by
 have d:=hR.GD;have l:∀p,p∈toldE rs n↔p∈es:=fun p=>by
  rw[Mp];constructor
  .rintro ⟨v, m, g, h2, h3⟩
   obtain⟨_,w,e,hw,ha⟩:=G.nat d h2;have:=H4 d ha
   grind [bj]
  .intro f
   obtain⟨a,c,rfl,o,q,ha⟩:=ends d f;exact⟨a,NH,rfl,(G.perm a NH).mem_iff.2 ((EW d a c).2 ha),pw⟩
 have nd:(toldE rs n).Nodup:=by
  have key:∀k,k<=n->(toldE rs k).Nodup:=by
   intro k
   induction k with
   |zero=>grind [toldE]
   |succ k r=>
    intro s;rw[toldE,Z6];refine⟨r NH,?_,fun a ha b hb e=>?_⟩
    .rw [dO, EU, vY]
     have nd:(rs.getD k []).Nodup:=(G.perm k NH).nodup_iff.2 (EU.2 ((KW es d hR.q9 k).imp fun h e=>by omega))
     grind [List.Pairwise.imp]
    .subst e
     obtain⟨v,m,g,_⟩:=Mp.1 ha;obtain⟨w,_,rfl⟩:=Eh.1 hb
     grind
  grind
 have i:(toldE rs n).map aaa=toldE rs n:=by
  conv=>rhs;rw[<-Jj (toldE rs n)]
  refine Lm fun p f=>?_;have:=d p ((l p).1 f)
  grind [aaa]
 have j:sortP (toldE rs n)=es:=by
  have g:=VH (toldE rs n);have h2:(sortP (toldE rs n)).Nodup:=(YA _).nodup_iff.2 nd;rw[EU]at h2;refine Ml _ _ ((g.and h2).imp fun{x y} h=>?_) (Nl.1 hR.q9) fun p=>by grind [Wb]
  grind
 have hlen:(toldE rs n).length=es.length:=by grind [ZS]
 refine⟨⟨hR.n0,hR.n1,by rw[hlen];exact hR.len,fun p f=>?_,pw⟩,pw⟩;have:=d p ((l p).1 f)
 grind [aaa]
end
end Go.Fw
namespace Go.Fw
section
attribute [local irreducible] Kp MQ lU rS KO KN KX KE VK Kl ZJ TC gU
open Go.Proofs
theorem XD (b:LA) (v:Value) (xs:RZ) (h:AHeap) (c:RL RP h v xs):AC Tryz.prog b 67 [v] h fun x h'=>∃B,x=.func (.func 117) #[] #[.pointer (some ⟨B,0,none⟩)]/\h.next<=B/\h'.own B=some (.cells [v])/\Le h h':=by
 refine AC.vE ⟨Tryz.func67,rfl,WY⟩ Tryz.ntmps67 Tryz.results67 fun a=>?_;simp only[Br,Nat.reduceAdd];obtain⟨d,e,l1,w1,g⟩:=Tt a [v]
 have f:zF h v=some (.pointer (some ⟨h.next,0,none⟩),d):=by rw[<-e];obtain⟨_,_,rfl,_⟩:=c.sl;rfl
 refine Sk f ?_
 grind
def RG (m:LA) (b B:Nat) (v:Value) (xs:RZ) (I:Nat->AHeap->Prop) (h:AHeap) (w:xs.length<1000000)
  (d:∀i g,I i g->g.own B=some (.cells [v])/\RL RP g v xs) (f:I 0 h)
  (n:∀i g (hi:i<xs.length),WF g->h.next<=g.next->I i g->AY Tryz.prog m b [.int .i64 xs[i]] g fun x j=>x=.bool true/\h.next<=j.next/\I (i+1) j):
  AC Tryz.prog m 117 [Yg b,.pointer (some ⟨B,0,none⟩)] h fun _ h'=>I xs.length h':=by
 have ld:∀i g,I i g->aload Tryz.prog g 49 ⟨B,0,none⟩=some v:=fun i g hi=>by rw[Fq Mb rfl (d i g hi).1];rfl
 refine AC.vE ⟨Tryz.func117,rfl,WY⟩ Tryz.ntmps117 Tryz.results117 fun o=>?_;simp only[Br,Nat.reduceAdd];have p:=fun g=>(d _ _ f).2.Uc g;simp only[HO,Nat.reduceLT,↓reduceIte,Nat.reduceEqDiff,reduceCtorEq,ld _ _ f,p]
 refine gU.intro (fun k fr g=>∃i:Nat,k=xs.length-i/\i<=xs.length/\fr=mkF [(0,Yg b),(5,v),(6,.int .i64 xs.length),(7,.int .i64 i)]/\h.next<=g.next/\I i g) xs.length [(0,Yg b),(5,v),(6,.int .i64 xs.length),(7,.int .i64 (0:Nat))] fD ⟨0,rfl,vZ _,rfl,Ny _,f⟩ ?_
 rintro k fr g q ⟨i,rfl,hi,rfl,hle,a⟩;refine Uy ?_;refine Kl.intro (fun r=>?_) (fun hf=>?_)
 .have e : i < xs.length := CC r
  have s:=(d _ _ a).2.addr (k:=.i64) Mb Ac rfl i e;have le:=(d _ _ a).2.DH i e;simp only[HO,Nat.reduceLT,↓reduceIte,Nat.reduceEqDiff,reduceCtorEq,s,le];refine TC.yield (by simp only[HO,Nat.reduceLT,↓reduceIte,Nat.reduceEqDiff,reduceCtorEq,yieldOf]<;>rfl) (n i g e q hle a) ?_;rintro x j t ⟨rfl,c,l⟩;refine Sk (Tw i NH) ?_;exact tn (xs.length-(i+1)) [(0,Yg b),(5,v),(6,.int .i64 xs.length),(7,.int .i64 (i+1:Nat))] NH fD ⟨i+1,rfl,e,rfl,c,l⟩
 .have u : xs.length <= i := vp hf
  obtain rfl:i=xs.length:=NH;refine Uy ?_;exact a
theorem O9 (H:LA) (B:Nat) (v:Value) (xs:RZ) (h:AHeap) (hB:h.own B=some (.cells [v])) (I:RL RP h v xs) (X:xs.length<=1000):
  AC Tryz.prog H 153 [.slice none 0 0,.func (.func 117) #[] #[.pointer (some ⟨B,0,none⟩)]] h fun x h'=>GI h' x xs/\Le h h'/\Z2 h x:=by
 refine AC.vE ⟨Tryz.func153,rfl,WY⟩ Tryz.ntmps153 Tryz.results153 fun i=>?_;simp only[Br,Nat.reduceAdd];obtain⟨o,G,l1,w1,J⟩:=Tt i [.slice none 0 0]
 have K:zF h (.slice none 0 0)=some (.pointer (some ⟨h.next,0,none⟩),o):=by rw[<-G];rfl
 have nS:h.own h.next=none:=(Le.refl h).next i (Ny _)
 have p:o.next=h.next+1:=by rw[<-G];rfl
 refine Sk K ?_
 generalize h.next=S at*
 refine VK.rangeFunc (gf:=117) (first:=#[]) (cap:=#[.pointer (some ⟨B,0,none⟩)]) (by simp only[HO,Nat.reduceLT,↓reduceIte,Nat.reduceEqDiff,reduceCtorEq]) ⟨Tryz.func117,rfl,WY⟩ WY fun L M N=>?_
 refine(RG L M B v xs (fun k g=>∃d,g.own S=some (.cells [d])/\GI g d (xs.take k)/\Le h g/\Z2 h d/\blk d≠some S) o NH (fun k g ⟨_,_,_,j,_⟩=>⟨j.own _ _ hB,I.le Nn.RP j⟩) ⟨_,J,GI.nil _,l1,(fun b hb=>by cases hb),by simp[blk]⟩ ?_).mono fun _ O q Q=>?_
 .intro k g R T hle r
  obtain⟨d,oS,s,j,ax,nx⟩:=r;refine N _ _ _ rfl hle ?_;have U:xs.take (k+1)=xs.take k++[xs[k]]:=EL R;have Y:(xs.take k).length=k:=pw;generalize xs[k]=y at*;have lS:aload Tryz.prog g 49 ⟨S,0,none⟩=some d:=by rw[Fq Mb rfl oS];rfl
  obtain⟨v',V,l,u,w,f,z,W,A,C⟩:=s.push T y pw;obtain⟨D,E⟩:=A h j ax;obtain⟨m,n⟩:=C S _ oS nx;have st:=QB (P:=Tryz.prog) (t:=49) (x:=v') Mb Ji m (off:=0) Ma (by obtain⟨a,c,e,_⟩:=(GS.cs f).sl;rw[e];rfl) (GS.cs f).sl.one;have oo:=AHeap.Y3 l S (.cells [v']);simp only[HO,Nat.reduceLT,↓reduceIte,Nat.reduceEqDiff,reduceCtorEq,putPs,Array.toList,lS,u,w,st,Gp,aB]
  have F:o.next<=(l.put S (.cells [v'])).next:=by rw[p];exact z.lt m
  refine⟨trivial,F,v',oo,?_,D.put _ nS,E,n⟩;rw[U];exact GS.put f _ n
 .obtain ⟨d, oS, s, j, ax, nx⟩ := q
  rw[aax]at s;have lS:aload Tryz.prog O 49 ⟨S,0,none⟩=some d:=by rw[Fq Mb rfl oS];rfl
  simp only[HO,Nat.reduceLT,↓reduceIte,Nat.reduceEqDiff,reduceCtorEq,lS]
  grind
theorem AG (a:LA) (B:Nat) (v:Value) (xs:RZ) (h:AHeap) (hB:h.own B=some (.cells [v])) (b:RL RP h v xs) (c:xs.length<=1000):
  AC Tryz.prog a 116 [.func (.func 117) #[] #[.pointer (some ⟨B,0,none⟩)]] h fun x h'=>GI h' x xs/\Le h h'/\Z2 h x:=by
 refine AC.vE ⟨Tryz.func116,rfl,WY⟩ Tryz.ntmps116 Tryz.results116 fun d=>?_;simp only[Br,Nat.reduceAdd];refine Uy ?_;refine TC.intro PJ ⟨Tryz.func153,rfl,WY⟩ (O9 a B v xs h hB b c) ?_;rintro x h2 e ⟨f,l2,g⟩;refine Uy ?_
 grind
theorem kj (a:LA) (B:Nat) (v:Value) (xs:RZ) (h:AHeap) (hB:h.own B=some (.cells [v])) (b:RL RP h v xs) (c:xs.length<=1000):
  AC Tryz.prog a 66 [.func (.func 117) #[] #[.pointer (some ⟨B,0,none⟩)]] h fun x h'=>GI h' x (qC xs)/\Le h h'/\Z2 h x:=by
 refine AC.vE ⟨Tryz.func66,rfl,WY⟩ Tryz.ntmps66 Tryz.results66 fun d=>?_;simp only[Br,Nat.reduceAdd];refine Uy ?_;refine TC.intro PJ ⟨Tryz.func116,rfl,WY⟩ (AG a B v xs h hB b c) ?_;rintro x h2 f ⟨e,l2,g⟩;refine Uy ?_;refine TC.intro PJ ⟨qS30,rfl,WY⟩ (VQ a e NH) ?_;rintro y h3 i ⟨rfl,j,k⟩;refine Uy ?_
 grind
theorem HE (p:LA) (v w:Value) (xs ys:RZ) (h:AHeap) (j:RL RP h v xs) (hw:RL RP h w ys) (t:xs.length<=100000):
  AC Tryz.prog p 65 [v,w] h fun x h'=>x=.bool (decide (xs=ys))/\h'=h:=by
 refine AC.vE ⟨Tryz.func65,rfl,WY⟩ Tryz.ntmps65 Tryz.results65 fun q=>?_;simp only[Br,Nat.reduceAdd];have m:=fun g=>j.Uc g;have lw:=fun g=>hw.Uc g;by_cases c:(xs.length:Int)=ys.length
 rotate_left
 .have d : decide ((xs.length : Int) = ys.length) = false := decide_eq_false c
  simp only[HO,Nat.reduceLT,↓reduceIte,Nat.reduceEqDiff,reduceCtorEq,m,lw,bne,d];exact⟨by rw[decide_eq_false (fun e=>c (by rw[e]))],trivial⟩
 have c':xs.length=ys.length:=NH;have d:decide ((xs.length:Int)=ys.length)=true:=decide_eq_true c;simp only[HO,Nat.reduceLT,↓reduceIte,Nat.reduceEqDiff,reduceCtorEq,m,lw,bne,d];refine gU.intro (fun k fr hh=>∃i:Nat,k=xs.length-i/\i<=xs.length/\hh=h/\fr=mkF [(0,v),(1,w),(12,.int .i64 xs.length),(13,.int .i64 i)]/\xs.take i=ys.take i)
  xs.length [(0,v),(1,w),(12,.int .i64 xs.length),(13,.int .i64 (0:Nat))] fD ⟨0,rfl,vZ _,rfl,rfl,rfl⟩ ?_
 rintro k fr hh-⟨i,rfl,hi,rfl,rfl,n⟩;refine Uy ?_;refine Kl.intro (fun r=>?_) (fun hf=>?_)
 .have a : i < xs.length := CC r
  have t1:xs.take (i+1)=xs.take i++[xs[i]]:=EL a;have s:ys.take (i+1)=ys.take i++[ys[i]'(by omega)]:=EL NH
  have o:=j.TA i a;have ld:=j.DH i a;have b:=hw.TA i NH;have f:=hw.DH i NH;have u:=CA a;have z:=CA (show i<ys.length by omega);generalize xs[i]=x at*;generalize ys[i]'(by omega)=y at*
  refine Uy ?_;refine gh (tA [0,1,2,3,4,5,6,7,8] .done) ?_;by_cases e:x=y
  .have d2 : decide (x = y) = true := decide_eq_true e
   simp only[HO,Nat.reduceLT,↓reduceIte,Nat.reduceEqDiff,reduceCtorEq,Nat.reduceBEq,Qg,o,ld,b,f,bne,d2,Tw i NH];exact tn (xs.length-(i+1)) [(0,v),(1,w),(12,.int .i64 xs.length),(13,.int .i64 (i+1:Nat))] NH fD ⟨i+1,rfl,a,rfl,rfl,by rw[t1,s,n,e]⟩
  .have d2 : decide (x = y) = false := decide_eq_false e
   simp only[HO,Nat.reduceLT,↓reduceIte,Nat.reduceEqDiff,reduceCtorEq,Nat.reduceBEq,Qg,o,ld,b,f,bne,d2];exact by rw[decide_eq_false (fun e'=>e pw)]
 .have l : xs.length <= i := vp hf
  rw[AE l,AE NH]at n;refine Uy ?_
  grind
theorem wX (q:LA) (v s:Value) (G:GM) (rs:AM) (h:AHeap) (hg:GR h v G) (r:RL (RL RP) h s rs):AC Tryz.prog q 26 [v,s] h fun x h'=>RR (bX G/\Av G.n.toNat G.es rs) x/\Le h h':=by
 have u:=hg;obtain⟨V,es⟩:=G
 obtain⟨ev,rfl,hp⟩:=hg.open
 refine AC.vE ⟨Tryz.func26,rfl,WY⟩ Tryz.ntmps26 Tryz.results26 fun L=>?_;simp only[Br,Nat.reduceAdd];obtain⟨W,b1,c,ag,-,X⟩:=r8 (n:=V) L hp
 generalize h.next=B at*
 have M:=X W (Le.refl _);have lr:=fun g=>r.len (P:=Tryz.prog) UP g;refine Sk (XC b1 M.1) ?_;refine TC.intro PJ ⟨zL,rfl,WY⟩ (ak q _ _ W (u.le c)) ?_;rintro x h2 aj ⟨⟨bb,rfl,A⟩,j⟩;have l:=X h2 j;cases bb with
 |false=>
  refine Uy ?_
  grind [RR.f,Le.trans]
 |true=>
 have m:=A.1 rfl;clear A;have h0:0<=V:=m.n0;obtain⟨n,rfl⟩:=HV h0;have hR:=m.GD;have N:(n:Int)<=200:=m.n1;have Y:es.length<=594:=m.len;have hA:=m.q9;simp only[yY];by_cases c1:(rs.length:Int)=n
 rotate_left
 .have d1 : decide ((rs.length : Int) = n) = false := decide_eq_false c1
  simp only[HO,Nat.reduceLT,↓reduceIte,Nat.reduceEqDiff,reduceCtorEq,lr,Ii,Ip,XJ,l.2.1,bne,d1]
  grind [RR.f,Av.len,Le.trans]
 have d1:decide ((rs.length:Int)=n)=true:=decide_eq_true c1;have O:rs.length=n:=NH;simp only[HO,Nat.reduceLT,↓reduceIte,Nat.reduceEqDiff,reduceCtorEq,lr,Ii,Ip,XJ,l.2.1,bne,d1,l.1];refine TC.intro PJ ⟨zj,rfl,WY⟩ (oe q _ n es h2 (u.le (c.trans j)) m) ?_;rintro x h3 al ⟨hb,Q⟩;have R:=Xq n es;have Z:=fun g=>hb.fy g;rw[R]at Z;have b:=(c.trans j).trans Q;have C:∀v,v<n->((Zh n es).getD v []).length<=1200:=fun v r=>by
  have:=bV n es _ (EP (show v<(Zh n es).length by omega))
  grind
 refine Sk Z ?_;refine gU.intro (fun k fr S=>∃(i:Nat),k=n-i/\i<=n/\fr=mkF [(1,s),(18,x),(19,.int .i64 n),(20,.int .i64 i)]/\Le h3 S/\∀v,v<i->(rs.getD v []).Perm ((Zh n es).getD v []))
  n [(1,s),(18,x),(19,.int .i64 n),(20,.int .i64 (0:Nat))] fD ⟨0,rfl,vZ _,rfl,Le.refl _,fun v r=>by omega⟩ ?_
 rintro k fr S aq ⟨i,rfl,hi,rfl,J,T⟩;refine Uy ?_;refine Kl.intro (fun ht=>?_) (fun hf=>?_)
 rotate_left
 .have av : n <= i := vp hf
  refine Uy ?_;exact⟨.t ⟨m,O,fun v r=>T v NH⟩,b.trans J⟩
 have o:i<n:=CC ht;clear ht;have HB:=hb.le (Nn.RL Nn.RP) J;have ab:=HB.Wm i NH;obtain⟨bu,D,p⟩:=HB.load (P:=Tryz.prog) Mb rfl i NH;have HR:=r.le (Nn.RL Nn.RP) (b.trans J);have ar:=HR.qP6 i NH;obtain⟨ru,E,a⟩:=HR.load (P:=Tryz.prog) Mb rfl i NH;rw[<-D4 (d:=[]) NH]at p a;have F:=fun g=>p.Uc g;have H:=fun g=>a.Uc g;have K:=C i o;by_cases c2:((rs.getD i []).length:Int)=((Zh n es).getD i []).length
 rotate_left
 .have d2 : decide (((rs.getD i []).length : Int) = ((Zh n es).getD i []).length) = false := decide_eq_false c2
  simp only[HO,Nat.reduceLT,↓reduceIte,Nat.reduceEqDiff,reduceCtorEq,ab,D,ar,E,F,H,bne,d2]
  grind [RR.f,Av.J9,Le.trans]
 have d2:decide (((rs.getD i []).length:Int)=((Zh n es).getD i []).length)=true:=decide_eq_true c2;have ad:((Zh n es).getD i []).length<=1000:=by
  have I:=KW es hR hA i;have nd:((Zh n es).getD i []).Nodup:=EU.2 (I.imp fun h e=>by omega);have:=tf nd (B:=(List.range n).map fun(v:Nat)=>(v:Int)) fun y hy=>by
   obtain⟨w,rfl,hw⟩:=Ru hR hy
   grind
  grind
 simp only[HO,Nat.reduceLT,↓reduceIte,Nat.reduceEqDiff,reduceCtorEq,ab,D,ar,E,F,H,bne,d2];refine TC.intro PJ ⟨Tryz.func67,rfl,WY⟩ (XD q ru _ S a) ?_;rintro y h5 w5 ⟨VB,rfl,-,oV,l5⟩;refine Uy ?_;refine TC.intro PJ ⟨Tryz.func66,rfl,WY⟩ (kj q VB ru _ h5 oV (a.le Nn.RP l5) NH) ?_;rintro y h6 w6 ⟨g6,l6,-⟩;refine Uy ?_;refine TC.intro PJ ⟨Tryz.func65,rfl,WY⟩ (HE q y bu _ _ h6 g6.rl (p.le Nn.RP (l5.trans l6)) (by rw[OX];omega)) ?_;rintro z h7 w7 ⟨rfl,rfl⟩;have U:=(J.trans l5).trans l6;by_cases c3:qC (rs.getD i [])=(Zh n es).getD i []
 .have d3 : decide (qC (rs.getD i []) = (Zh n es).getD i []) = true := decide_eq_true c3
  refine Sk (XC d3 (Tw i NH)) ?_;exact tn (n-(i+1)) [(1,s),(18,x),(19,.int .i64 n),(20,.int .i64 (i+1:Nat))] (JS o) fD ⟨i+1,rfl,o,rfl,U,fun v r=>by grind [cZ]⟩
 .have d3 : decide (qC (rs.getD i []) = (Zh n es).getD i []) = false := decide_eq_false c3
  refine Sk d3 ?_
  grind [RR.f,cZ,Av.perm,Le.trans]
end
section
attribute [local irreducible] Kp MQ lU rS KO KN KX KE VK Kl ZJ TC gU
attribute [local irreducible] toldE dO
open Go.Proofs
variable {es:List Pr} {h:AHeap} {j n v:Nat} {rs:AM}
theorem newE4 (hw:WF h):∃a h2,aAlloc Tryz.prog h 24=some (.pointer (some ⟨h.next,0,none⟩),a)/\aStore Tryz.prog a 24 (.pointer (some ⟨h.next,0,none⟩)) CZ=some h2/\Le h h2/\WF h2:=by
 obtain⟨a,d,l1,w1,b⟩:=Tt hw [.int .i64 0,.slice none 0 0]
 have c:h.own h.next=none:=(Le.refl h).next hw (Ny _)
 have st:=DG (n:=0) (ev:=.slice none 0 0) b rfl rfl;exact⟨a,_,by grind [Lo],st,l1.put _ c,w1.put _ (w1.lt b)⟩
theorem Ax (v:Nat) (l:RZ) (h:j<l.length):dO v (l.take (j+1))=dO v (l.take j)++if(v:Int)<l[j]then[((v:Int),l[j])]else[]:=by grind [dO,List.take_succ_eq_append_getElem]
theorem qt (v:Nat) (l:RZ):(dO v l).length<=l.length:=by grind [dO]
def vv (rs:AM) (k:Nat):toldE rs (k+1)=toldE rs k++dO k (rs.getD k []):=by rw[toldE]
def Dq (rs:AM):toldE rs 0=[]:=by rw[toldE]
theorem Gt (hR:aV n es) (hA:D3 es) (G:Av n es rs) (a:v<n):(rs.getD v []).length<n:=by
 have IR:=G.jD hR hA;have b:(Xl rs v).length=(rs.getD v []).length:=by grind [Xl.eq_1]
 have h2:=tf (IR.nd v) (B:=(List.range n).erase v) fun w hw=>(LH.mem_erase_iff).2 ⟨fun e=>IR.ir v pw,Og.2 (IR.lt w v (IR.sy _ _ hw))⟩
 grind
def pR {a i N:Nat} (h:a<=i*N) (hi:i<=200) (b:N<=200):a<=40000:=by
 have:i*N<=200*200:=Gg hi b;omega
theorem r7 (W:LA) (c:Value) (rs:AM) (h:AHeap) (Q:RL (RL RP) h c rs):
  AC Tryz.prog W 118 [c] h fun x h'=>Le h h'/\((x=.tuple #[CZ,.bool false]/\¬∃es,bX ⟨(rs.length:Int),es⟩/\Av rs.length es rs)\/
   ∃es ev,bX ⟨(rs.length:Int),es⟩/\Av rs.length es rs/\x=.tuple #[.agg #[.int .i64 rs.length,ev],.bool true]/\GP h' ev es/\Z2 h ev):=by
 refine AC.vE ⟨Tryz.func118,rfl,WY⟩ Tryz.ntmps118 Tryz.results118 fun C=>?_;simp only[Br,Nat.reduceAdd];obtain⟨a,e1,l1,w1,o1⟩:=Tt C [.int .i64 0,.slice none 0 0];have X:=Lo h;rw[e1]at X
 have nR:h.own h.next=none:=(Le.refl h).next C (Ny _)
 generalize h.next=R at*
 have lr:=fun g=>Q.len (P:=Tryz.prog) UP g;have o:∀g:AHeap,Le a g->aStore Tryz.prog g 24 (.pointer (some ⟨R,0,none⟩)) CZ=some (g.put R (.cells [.int .i64 0,.slice none 0 0])):=fun g Y=>DG (Y.own _ _ o1) rfl rfl;have ldE:∀g:AHeap,aload Tryz.prog (g.put R (.cells [.int .i64 0,.slice none 0 0])) 24 ⟨R,0,none⟩=some CZ:=fun g=>tY (AHeap.Y3 _ _ _) ⟨_,_,_,rfl⟩;have fin:∀g:AHeap,Le a g->Le h (g.put R (.cells [.int .i64 0,.slice none 0 0])):=fun g Y=>(l1.trans Y).put _ nR;by_cases c1:(rs.length:Int)>200
 .have d1 : decide ((rs.length : Int) > 200) = true := decide_eq_true c1
  simp only[HO,Nat.reduceLT,↓reduceIte,Nat.reduceEqDiff,reduceCtorEq,X,lr,d1,jQ,o a (Le.refl _),ldE];exact⟨fin a (Le.refl _),.inl ⟨trivial,fun⟨es,A,_⟩=>by have:=A.n1;grind⟩⟩
 have d1:decide ((rs.length:Int)>200)=false:=decide_eq_false c1;have f:rs.length<=200:=NH;obtain⟨h2,e2,l2,w2,o2⟩:=Tt w1 []
 have mk:aBuildSlice Tryz.prog a 22 0 []=some (.slice (some ⟨a.next,0,none⟩) 0 0,h2):=by rw[<-e2];rfl
 have nX:a.own a.next=none:=(Le.refl a).next w1 (Ny _)
 have g0:GP h2 (.slice (some ⟨a.next,0,none⟩) 0 0) (toldE rs 0):=by
  rw[Dq];exact GS.full (k:=2) (n:=0) o2 rfl WY
 have E:Z2 a (.slice (some ⟨a.next,0,none⟩) 0 0):=fun b hb=>by injection hb with hb;grind
 simp only[HO,Nat.reduceLT,↓reduceIte,Nat.reduceEqDiff,reduceCtorEq,X,lr,d1,mk]
 generalize Value.slice (some ⟨a.next,0,none⟩) 0 0=Z at*
 refine gU.intro (fun k fr p=>∃(i:Nat) (z:Value),k=rs.length-i/\i<=rs.length/\fr=mkF [(0,c),(2,.pointer (some ⟨R,0,none⟩)),(4,z),(16,c),(17,.int .i64 rs.length),(18,.int .i64 i)]/\GP p z (toldE rs i)/\Le a p/\Z2 a z/\(toldE rs i).length<=i*rs.length)
  rs.length [(0,c),(2,.pointer (some ⟨R,0,none⟩)),(4,Z),(16,c),(17,.int .i64 rs.length),(18,.int .i64 (0:Nat))] fD ⟨0,_,rfl,vZ _,rfl,g0,l2,E,by rw[Dq];exact vZ _⟩ ?_
 clear g0 E;rintro k fr p a6 ⟨i,z,rfl,hi,rfl,gx,t,ax,hlen⟩;refine Uy ?_;refine Kl.intro (fun F=>?_) (fun hf=>?_)
 .have m : i < rs.length := CC F
  clear F;have ar:=Q.qP6 i m;obtain⟨H,I,u⟩:=Q.NS i m;have J:=I p (l1.trans t);rw[<-D4 (d:=[]) m]at u;have hs:=vv rs i;generalize a1:rs.getD i []=row at*;have q:=fun g=>u.Uc g;by_cases c2:(row.length:Int)>=rs.length
  .have d2 : decide ((row.length : Int) >= rs.length) = true := decide_eq_true c2
   simp only[HO,Nat.reduceLT,↓reduceIte,Nat.reduceEqDiff,reduceCtorEq,ar,J,q,lr,d2,jQ,o p t,ldE];refine⟨fin p t,.inl ⟨trivial,fun⟨es,A,G⟩=>?_⟩⟩;have:=Gt A.GD A.q9 G m
   grind
  have d2:decide ((row.length:Int)>=rs.length)=false:=decide_eq_false c2;have a7:row.length<=rs.length:=NH;simp only[HO,Nat.reduceLT,↓reduceIte,Nat.reduceEqDiff,reduceCtorEq,ar,J,q,lr,d2];refine gU.intro (fun k fr S=>∃(j:Nat) (r:Value),k=row.length-j/\j<=row.length/\fr=mkF [(0,c),(2,.pointer (some ⟨R,0,none⟩)),(4,r),(5,.int .i64 i),(16,c),(17,.int .i64 rs.length),(18,.int .i64 i),(29,H),(30,.int .i64 row.length),(31,.int .i64 j)]/\GP S r (toldE rs i++dO i (row.take j))/\Le a S/\Z2 a r/\Le p p)
   row.length [(0,c),(2,.pointer (some ⟨R,0,none⟩)),(4,z),(5,.int .i64 i),(16,c),(17,.int .i64 rs.length),(18,.int .i64 i),(29,H),(30,.int .i64 row.length),(31,.int .i64 (0:Nat))] fD
   ⟨0,_,rfl,vZ _,rfl,by grind [dO],t,ax,Le.refl _⟩ ?_
  rintro k fr S ag ⟨j,r,rfl,hj,rfl,gy,T,ay,-⟩;have s:RL RP S H row:=u.le Nn.RP (l1.trans T);refine Uy ?_;refine Kl.intro (fun F=>?_) (fun hf=>?_)
  .have l : j < row.length := CC F
   clear F;have ad:=s.TA j l;have ld:=s.DH j l;have st:=Ax i row l;have aj:=qt i (row.take j);rw[dU]at aj;have aq:=pR hlen NH f;have K:=Tw j NH;generalize row[j]=w at*;by_cases c3:(i:Int)<w
   .have d3 : decide ((i : Int) < w) = true := decide_eq_true c3
    obtain⟨v',B,U,L,e5,g5,w5,l4,f5,k5⟩:=gy.push ag ((i:Int),w) pw;obtain⟨l5,a5⟩:=f5 a T ay;simp only[HO,Nat.reduceLT,↓reduceIte,Nat.reduceEqDiff,reduceCtorEq,ad,ld,d3,xe,L,e5,K];exact tn (row.length-(j+1)) [(0,c),(2,.pointer (some ⟨R,0,none⟩)),(4,v'),(5,.int .i64 i),(16,c),(17,.int .i64 rs.length),(18,.int .i64 i),(29,H),(30,.int .i64 row.length),(31,.int .i64 (j+1:Nat))] (JS l) fD
     ⟨j+1,v',rfl,l,rfl,pw,l5,a5,Le.refl _⟩
   .have d3 : decide ((i : Int) < w) = false := decide_eq_false c3
    simp only[HO,Nat.reduceLT,↓reduceIte,Nat.reduceEqDiff,reduceCtorEq,ad,ld,d3,K];exact tn (row.length-(j+1)) [(0,c),(2,.pointer (some ⟨R,0,none⟩)),(4,r),(5,.int .i64 i),(16,c),(17,.int .i64 rs.length),(18,.int .i64 i),(29,H),(30,.int .i64 row.length),(31,.int .i64 (j+1:Nat))] (JS l) fD
     ⟨j+1,r,rfl,l,rfl,pw,T,ay,Le.refl _⟩
  .have M : row.length <= j := vp hf
   rw[AE M,<-hs]at gy;have av:=Tw i NH;have a8:=qt i row;refine Sk av ?_;exact tn (rs.length-(i+1)) [(0,c),(2,.pointer (some ⟨R,0,none⟩)),(4,r),(16,c),(17,.int .i64 rs.length),(18,.int .i64 (i+1:Nat))] (JS m) fD
    ⟨i+1,r,rfl,m,rfl,gy,T,ay,pw⟩
 have M:rs.length<=i:=vp hf;obtain rfl:i=rs.length:=NH;have aq:=pR hlen f f;simp only[HO,Nat.reduceLT,↓reduceIte,Nat.reduceEqDiff,reduceCtorEq,lr];refine TC.intro PJ ⟨Tryz.func29,rfl,WY⟩ (gZ W (rs.length:Int) z (toldE rs rs.length) p gx.pr NH) ?_;rintro x h3 w3 ⟨l3,⟨hn,kk,aD,rfl⟩|⟨aH,ev,rfl,N,a3⟩⟩
 .obtain ⟨aJ, B, L, v, l4, w4⟩ := newE4 w3
  have d:decide (kk=0)=false:=decide_eq_false aD;have V:=(t.trans l3).trans l4;simp only[HO,Nat.reduceLT,↓reduceIte,Nat.reduceEqDiff,reduceCtorEq,L,v,bne,d,jQ,o B V,ldE]
  grind [rK]
 obtain⟨aJ,B,L,v,l4,w4,L4⟩:=As w3 (n:=(rs.length:Int)) N.pr;have d0:decide ((0:Int)=0)=true:=by decide
 have aK:=aH.right;have V:=(t.trans l3).trans l4;have gg:GR B (.agg #[.int .i64 rs.length,ev]) ⟨(rs.length:Int),sortP ((toldE rs rs.length).map aaa)⟩:=⟨ev,rfl,N.pr.le l4⟩;generalize bh:sortP ((toldE rs rs.length).map aaa)=fs at*;refine Sk (IX L v @bne.eq_1.{0} d0 ((L4 B (Le.refl _)).1)) ?_
 generalize h3.next=D at*
 refine TC.intro PJ ⟨Tryz.func26,rfl,WY⟩ (wX W _ c ⟨(rs.length:Int),fs⟩ rs B gg (Q.le (Nn.RL Nn.RP) (l1.trans V))) ?_;rintro x U w5 ⟨⟨bb,rfl,aP⟩,l5⟩;have y:=V.trans l5;cases bb with
 |false=>
  simp only[HO,Nat.reduceLT,↓reduceIte,Nat.reduceEqDiff,reduceCtorEq,jQ,o U y,ldE]
  grind [rK]
 |true=>
  obtain⟨-,hG⟩:=aP.1 rfl;simp only[yY]at hG;have one:=N.pr.sl.one;obtain⟨ea,ec,O,_⟩:=N.pr.sl;have aT:ev.cells=#[ev]:=by rw[O];rfl
  have oR:=y.own _ _ o1;have st:=DG (n:=(rs.length:Int)) (ev:=ev) oR one aT;have oo:=AHeap.Y3 U R (.cells [.int .i64 (rs.length:Int),ev]);have aW:=tY (n:=(rs.length:Int)) (ev:=ev) oo ⟨ea,_,ec,O⟩;have aX:blk ev≠some R:=fun e=>by have:=a3 R e;grind [Le.own]
  simp only[HO,Nat.reduceLT,↓reduceIte,Nat.reduceEqDiff,reduceCtorEq,(L4 U l5).1,st,aW];exact⟨(l1.trans y).put _ nR,.inr ⟨fs,ev,aK,hG,rfl,(GS.le N (l4.trans l5)).put _ aX,fun b hb=>(l1.trans t).none (a3 b hb)⟩⟩
end
end Go.Fw
namespace Go.Fw
open Go.Proofs
attribute [local instance] Classical.propDecidable
section
variable {α β : Type} [DecidableEq α]
def setV:List (α×β)->α->β->List (α×β)
 |[],k,v=>[(k,v)]
 |(a,b)::r,k,v=>if a=k then(k,v)::r else(a,b)::setV r k v
def lookV:List (α×β)->α->Option β
 |[],_=>none
 |(a,b)::r,k=>if a=k then some b else lookV r k
theorem CT (l:List (α×β)) (k a:α) (v:β):lookV (setV l k v) a=if k=a then some v else lookV l a:=by
 induction l<;>grind [setV,lookV]
theorem SF (l:List (α×β)) (k:α) (v:β):(lookV l k=none/\setV l k v=l++[(k,v)])\/∃(j:Nat) (b:β),lookV l k=some b/\l[j]?=some (k,b)/\(∀i,i<j->∀x,l[i]?=some x->x.1≠k)/\setV l k v=l.set j (k,v):=by
 induction l with
 |nil=>exact .inl ⟨rfl,rfl⟩
 |cons x r e=>
  obtain⟨a,b⟩:=x;simp only[setV,lookV];by_cases h:a=k
  .subst h
   rw[if_pos rfl,if_pos rfl];exact .inr ⟨0,b,rfl,rfl,NH,rfl⟩
  .rw [if_neg h, if_neg h]
   rcases e with⟨d,h2⟩|⟨j,c,d,h2,h3,f⟩
   .grind
   .refine .inr ⟨j + 1, c, d, pw, fun i hi x g => ?_, by rw [f]; rfl⟩
    cases i<;>grind
end
def Au (l:List (Pr×Pr)):List (Value×Value):=l.map fun x=>(UI x.1,UI x.2)
theorem afind_mapPP (k:Pr):∀(l:List (Pr×Pr)) (i:Nat),(lookV l k=none->afind Tryz.prog 38 (UI k) (Au l) i=some none)/\∀(j:Nat) b,l[j]?=some (k,b)->(∀q,q<j->∀x,l[q]?=some x->x.1≠k)->afind Tryz.prog 38 (UI k) (Au l) i=some (some (i+j,UI b))
 |[],i=>⟨fun _=>rfl,fun j b h=>by simp at h⟩
 |(a,b)::r,i=>by
  obtain⟨m,h2⟩:=afind_mapPP k r (i+1)
  have un:afind Tryz.prog 38 (UI k) (Au ((a,b)::r)) i=match aEq Tryz.prog 38 (UI k) (UI a)with|some true=>some (some (i,UI b))|some false=>afind Tryz.prog 38 (UI k) (Au r) (i+1)|none=>none:=rfl
  rw[un,eqP];constructor
  .grind [lookV]
  .intro j c f d
   cases j with
   |zero=>
    grind
   |succ j=>
    have e:a≠k:=d 0 NH (a,b) rfl;have:decide (k=a)=false:=by simpa using Ne.symm e
    rw[this];show afind Tryz.prog 38 (UI k) (Au r) (i+1)=_;rw[h2 j c (by simpa using f) fun q o x g=>d (q+1) NH x (by simpa using g)];congr 3;omega
def XO {h:AHeap} {x:Value} (p:Pr) (ok:Bool):aLookup Tryz.prog h 143 x (UI p) ok=none:=by simp only[aLookup,iZ,UI]
def uQ {h:AHeap} {x v:Value} (p:Pr):aMapSet Tryz.prog h 143 x (UI p) v=none:=by simp only[aMapSet,iZ,UI]
theorem Sx {h:AHeap} {M:Nat} {l:List (Pr×Pr)} (a:h.own M=some (.map (Au l))) {k v:Pr} (e:lookV l k=some v):
  aLookupA Tryz.prog h 143 (.map (some M)) (UI k) false=some (UI v):=by
 have c:azero Tryz.prog 38=some (.agg #[.int .i64 0,.int .i64 0]):=Ji;simp only[aLookupA,iZ,y7,a,c,if_true];rcases SF l k v with⟨d,_⟩|⟨j,b,d,h2,h3,_⟩
 .grind
 grind [afind_mapPP]
theorem pS {h:AHeap} {M:Nat} {l:List (Pr×Pr)} (a:h.own M=some (.map (Au l))) (k v:Pr):aMapSetA Tryz.prog h 143 (.map (some M)) (UI k) (UI v)=some (h.put M (.map (Au (setV l k v)))):=by
 simp only[aMapSetA,iZ,y7,a,if_true];rcases SF l k v with⟨c,d⟩|⟨j,b,c,h2,h3,d⟩
 .grind [afind_mapPP,Au]
 grind [afind_mapPP,Au,List.map_set]
def Qi (d:H8):Pr:=((d.1:Int),(d.2:Int))
theorem fi {a b:H8} (h:Qi a=Qi b):a=b:=by grind [Qi]
section
variable {n : Nat} {es : List Pr} {rs : List (List Int)}
theorem VE (a:aV n es) (ha:D3 es) (G:Av n es rs) (v:Nat):(Zh n es).getD v []=((List.range n).filter fun w=>decide (w∈Xl rs v)).map fun(w:Nat)=>(w:Int):=by
 refine wP _ _ (KW es a ha v) ?_ fun x=>?_
 .rw [vY]
  grind [List.pairwise_lt_range,List.Pairwise.imp]
 grind [Ru,Av.mem,EW]
noncomputable def bZ (n:Nat) (r:Nat->II) (v:Nat):List H8:=((List.range n).filter fun w=>decide (w∈r v)).map fun w=>(v,w)
noncomputable def Ss (n:Nat) (r:Nat->II) (k:Nat):List H8:=(List.range k).flatMap (bZ n r)
theorem Ht (n:Nat) (r:Nat->II) (k:Nat):Ss n r (k+1)=Ss n r k++bZ n r k:=by grind [Ss.eq_1,List.range_succ]
theorem tD (n:Nat) (r:Nat->II):Ss n r n=QV n r:=rfl
theorem aaJ {n:Nat} (r:Nat->II) {k m:Nat} (h:k<=m):∃q,Ss n r m=Ss n r k++q:=by
 induction h with
 |refl=>exact⟨[],Ma⟩
 |step _ a=>grind [Ht]
theorem ddl_at {n:Nat} (r:Nat->II) {v j:Nat} (a:v<n) (b:j<(bZ n r v).length):∃q,QV n r=(Ss n r v++(bZ n r v).take j)++(bZ n r v)[j]::q:=by
 obtain⟨q,c⟩:=aaJ (n:=n) r (show v+1<=n from a)
 grind [tD,Ht,List.getElem_cons_drop,List.take_append_drop]
def An (r:Nat->II) (P:List H8) (d:H8):Prop:=∃e∈P,WD (Nv r) e d
theorem hd_met {r:Nat->II} (R:V7 n r) {P Q:List H8} {d:H8} (h:QV n r=P++d::Q):Hd r d↔¬An r P d:=by
 have p:=TG R;have hA:=pI n r;rw[h,V9,aan]at hA;obtain⟨_,⟨h2,_⟩,h3⟩:=hA;have c:d∈dl n r:=(IP R).2 ((Ks R).1 (by rw[h];simp));constructor
 .rintro hh ⟨e, f, o⟩
  have a:e∈dl n r:=(IP R).2 ((Ks R).1 pw);exact hh e (p.xw a o) (h3 e f d Ma)
 .intro g e o i
  have a:=p.sP c o;have:e∈QV n r:=(Ks R).2 ((IP R).1 a);rw[h,Sb,WA]at this;rcases this with b|b|b
  .exact g ⟨e,b,p.xw c o⟩
  all_goals grind [JN,Nd]
noncomputable def RD (r:Nat->II) (P:List H8):AM:=(P.filter fun d=>decide (Hd r d)).map fun d=>kz (zu r d)
noncomputable def IN (n:Nat) (rs:AM):AM:=(vf n (Xl rs)).map kz
theorem BC (n:Nat) (rs:AM):RD (Xl rs) (QV n (Xl rs))=IN n rs:=by rw[IN,vf,L3,RD,Q4];rfl
theorem wO (r:Nat->II) (P:List H8) (d:H8):RD r (P++[d])=RD r P++if Hd r d then[kz (zu r d)]else[]:=by grind [RD.eq_1]
end
end Go.Fw
