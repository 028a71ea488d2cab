/- A text. -/
import Derived.Test.YtkccdnmaaelbiaaGreatFwLZ7
import Derived.Test.YtkccdnmaaelbiaaGreatFwLBR
set_option linter.all false
set_option maxRecDepth 99999
set_option maxHeartbeats 9999999
namespace Go.Fw
section
open Go.Proofs
def zH (v:Value) (i:Nat):Addr:=elemAddr v (i*3)
def aaP (h:AHeap):aAlloc Tryz.prog h 38=some (.pointer (some ⟨h.next,0,none⟩),h.alloc (.cells [.int .i64 0,.int .i64 0])):=rfl
structure AtS (n:Int) (es:List Pr) (bs:List (List Pr)):Prop where
 ne:∀b∈bs,b≠[]
 right:∀b∈bs,xO ⟨n,b⟩
 Fx:∀(i:Nat) b b' p q,bs[i]?=some b->bs[i+1]?=some b'->b[0]?=some p->b'[0]?=some q->p.1<q.1\/p.1=q.1/\p.2<q.2
 mem:∀b∈bs,∀p∈b,p∈es
 eX:∀(i j:Nat) b b' p,bs[i]?=some b->bs[j]?=some b'->p∈b->p∈b'->i=j
 all:∀p∈es,∃b∈bs,p∈b
 len:bs.length<=1000
def Met (bs:List (List Pr)) (i j:Nat) (p:Pr) (x:Int):Prop:=∃(k:Nat) (b:List Pr),bs[k]?=some b/\x=(k:Int)/\(k<i/\p∈b\/k=i/\p∈b.take j)
end
variable {b es:List Pr} {i n:Nat} {p:Pr}
def zj:BD es↔es.Pairwise fun x y=>x.1<y.1\/x.1=y.1/\x.2<y.2:=by
 rw[cR];constructor
 .intro ha i j hi b a;exact ha.lt a (dR hi) (dR b)
 .intro h i j p q a hi b
  obtain⟨c,d⟩:=bH.1 hi;obtain⟨e,f⟩:=bH.1 b;rw[gJ,<-d,<-f];exact h i j c e a
def xO.of (a:n<=200) (c:es.length<=594) (d:I7 n es) (ha:BD es):xO ⟨(n:Int),es⟩:=
 ⟨YX,by show(n:Int)<=200;omega,c,fun i hi p b=>⟨d p (Jb b),fun q f e=>ha (i-1) i q p QT e b⟩⟩
def xO.sub {es a:List Pr} (h:xO ⟨(n:Int),es⟩) (hs:a.Sublist es):xO ⟨(n:Int),a⟩:=
 xO.of (by have:(n:Int)<=200:=h.n1;omega) (Jh hs.length_le h.len) (fun p b=>h.si p (hs.subset b)) (zj.2 ((zj.1 h.Fx).sublist hs))
def TZ (h:(AE n es)[i]?=some b):∃k,(kj (oJ n es) es)[i]?=some k/\b=es.filter fun p=>decide (oJ n es p=k):=by
 rw[vf,Rv]at h;cases a:(kj (oJ n es) es)[i]? with
 |none=>rw[a]at h;cases h
 |some k=>rw[a]at h;simp at h;exact⟨k,rfl,h.symm⟩
def TD (h:(AE n es)[i]?=some b) {k:Int} (c:(kj (oJ n es) es)[i]?=some k):p∈b↔p∈es/\oJ n es p=k:=by
 obtain⟨d,a,rfl⟩:=TZ h;rw[c]at a;injection a with a;subst a;rw[sX,decide_eq_true_eq]
def FY (s:xO ⟨(n:Int),es⟩):AtS (n:Int) es (AE n es):=by
 obtain⟨nd,c⟩:=NW (oJ n es) _ es rfl;have u:∀b∈AE n es,b≠[]:=fun b hb=>by
  obtain⟨i,hi⟩:=OH.1 hb;obtain⟨k,g,rfl⟩:=TZ hi;obtain⟨p,a,e⟩:=(c k).1 (Jb g);intro h;have:p∈es.filter fun p=>decide (oJ n es p=k):=sX.2 ⟨a,by simpa using e⟩;rw[h]at this;cases this
 refine⟨u,fun b hb=>?_,fun i b E p q hb AD a F=>?_,fun b hb p a=>?_,fun i j b E p hb AD a v=>?_,fun p a=>?_,?_⟩
 .obtain ⟨i, hi⟩ := OH.1 hb
  obtain⟨k,g,rfl⟩:=TZ hi;exact s.sub F5
 .obtain ⟨k, g, e⟩ := TZ hb
  obtain⟨C,d,e'⟩:=TZ AD;obtain⟨x,r,l,h2,h3⟩:=ZY (oJ n es) _ es rfl i (i+1) k C QT g d;have m:=(TD AD d).1 (Jb F);obtain⟨y,D⟩:=OH.1 m.1;have w:=h3 y q D m.2;have A:=s.Fx.lt w l D;have f:r∈b:=(TD hb g).2 ⟨Jb l,h2⟩;have o:b.Pairwise fun x y=>x.1<y.1\/x.1=y.1/\x.2<y.2:=by rw[e];exact(zj.1 s.Fx).filter _
  cases b with
  |nil=>cases f
  |cons z t=>
   simp at a;subst a;rw[jO]at o;rw[aH]at f;rcases f with rfl|f
   .exact A
   .have:=o.1 r f;omega
 .obtain ⟨i, hi⟩ := OH.1 hb
  obtain⟨k,g,rfl⟩:=TZ hi;exact(sX.1 a).1
 .obtain ⟨k, g, _⟩ := TZ hb
  obtain⟨C,d,_⟩:=TZ AD;have l:=((TD hb g).1 a).2;have h2:=((TD AD d).1 v).2;rw[l]at h2;subst h2;exact(D9 (bH.1 g).1 nd).1 (g.trans d.symm)
 .obtain ⟨i, hi⟩ := OH.1 ((c _).2 ⟨p, a, rfl⟩)
  have B:(AE n es)[i]?=some (es.filter fun q=>decide (oJ n es q=oJ n es p)):=by
   rw[vf,Rv,hi];rfl
  exact⟨_,Jb B,sX.2 ⟨a,YX⟩⟩
 .rw [vf, yA]
  have l:(kj (oJ n es) es).length<=(es.map (oJ n es)).length:=nd.length_le_of_subset fun x G=>by
   obtain⟨p,a,e⟩:=(c x).1 G;exact T8.2 ⟨p,a,e⟩
  have h2:es.length<=594:=s.len;simp at l;omega
def HS (d:xO ⟨(n:Int),es⟩) (e:p∈es):∃(k:Nat) (b:List Pr),(AE n es)[k]?=some b/\p∈b/\Met (AE n es) (AE n es).length 0 p (k:Int):=by
 obtain⟨b,hb,a⟩:=(FY d).all p e;obtain⟨k,c⟩:=OH.1 hb;exact⟨k,b,c,a,k,b,c,rfl,.inl ⟨(bH.1 c).1,a⟩⟩
def TE (v:Int) (p:Pr):Bool:=decide (p.1=v)||decide (p.2=v)
def woV (es:List Pr) (v:Nat):List Pr:=es.filter fun p=>!TE (v:Int) p
def pc {v x y:Nat}:xA (woV es v) x y↔xA es x y/\x≠v/\y≠v:=by
 simp only[xA,woV,TE,sX,uV,qL252,decide_eq_false_iff_not];constructor
 .rintro (⟨h, k1, k2⟩ | ⟨h, k1, k2⟩)
  .exact⟨.inl h,fun e=>k1 (by rw[e]),fun e=>k2 (by rw[e])⟩
  .exact⟨.inr h,fun e=>k2 (by rw[e]),fun e=>k1 (by rw[e])⟩
 .rintro ⟨h | h, k1, k2⟩
  .exact .inl ⟨h,QT,QT⟩
  .exact .inr ⟨h,QT,QT⟩
def Pz {v a b:Nat} (ha:a≠v):Xb (woV es v) a b↔Cn (wo v) es a b:=by
 constructor
 .intro h
  induction h with
  |refl _=>exact .refl (Y1 ha)
  |step _ a _ d=>exact d.step (pc.1 a).1 (Y1 (pc.1 a).2.2)
 .intro h
  induction h with
  |refl _=>exact Xb.refl _ _
  |step c a o d=>exact .step d (pc.2 ⟨a,by simpa[wo]using c.gK,by simpa[wo]using o⟩) rfl
def ends (e:I7 n es) (d:p∈es):∃a c:Nat,p=((a:Int),(c:Int))/\a<c/\c<n/\xA es a c:=by
 have b:=e p d;obtain⟨x,y⟩:=p;simp only at b;obtain⟨a,rfl⟩:=RT b.1;obtain⟨c,rfl⟩:=RT (show 0<=y by omega);exact⟨a,c,rfl,QT,QT,.inl d⟩
section
open Go.Proofs
def Ct (v:Value) (n:Nat):Prop:=∃a cap,v=.slice a n cap/\((cap<km/\n<=cap)\/(cap=km+2/\a.isSome))
def GRC (h:AHeap) (v:Value) (G:GM):Prop:=∃ev,v=.agg #[.int .i64 G.n,ev]/\PR h ev G.es/\Ct ev G.es.length
def iH (ps:List Pr) (i:Nat):Mf (ps.drop i)=(Mf ps).drop (i*2):=by
 induction ps generalizing i with
 |nil=>simp[Mf]
 |cons p ps a=>
  cases i with
  |zero=>simp[Mf]
  |succ i=>
   have e:Mf (p::ps)=.int .i64 p.1::.int .i64 p.2::Mf ps:=rfl;rw[Mi,e,a,show(i+1)*2=i*2+1+1 by omega,Mi,Mi]
variable {es:List Pr} {l:wi} {x:Nat}
def wH {v x:Nat} (h:Xb es v x) (d:x≠v):∃a,xA es v a/\Xb (woV es v) a x:=by
 induction h with
 |refl _=>exact absurd rfl d
 |@step w x c a _ f=>
  by_cases e:w=v
  .subst e;exact⟨x,a,Xb.refl _ _⟩
  .obtain ⟨b, hb, g⟩ := f e
   exact⟨b,hb,.step g (pc.2 ⟨a,e,d⟩) rfl⟩
def wR {α:Type} (p:α->Bool):∀(l:List α),l.length=(l.filter p).length+(l.filter fun x=>!p x).length
 |[]=>rfl
 |x::l=>by
  have:=wR p l;cases h:p x<;>simp[h,this]<;>omega
def pI (nd:l.Nodup) (c:x∈l) (h:∀y∈l,y=x):l.length=1:=by
 cases l with
 |nil=>cases c
 |cons a l=>
  cases l with
  |nil=>rfl
  |cons b l=>
   have d:=h a YX;have h2:=h b YX;rw[d,h2]at nd;simp at nd
variable {n:Nat} {p:Pr}
def Kg (p:Pr) (v:Int):Int:=if p.1=v then p.2 else if p.2=v then p.1 else-1
def AA (g:I7 n es) (h:p∈es) (v:Nat):
  (∃a:Nat,a<n/\Kg p (v:Int)=(a:Int)/\xA es v a/\p=pe v a)\/(Kg p (v:Int)=-1/\∀a,p≠pe v a):=by
 obtain⟨a,c,rfl,i,f,d⟩:=ends g h;unfold Kg;by_cases j:a=v
 .subst j
  exact .inl ⟨c,f,by rw[if_pos rfl],d,by rw[iD,Ig];omega⟩
 .by_cases h2 : c = v
  .subst h2
   exact .inl ⟨a,QT,by rw[if_neg (by simp only;omega),if_pos rfl],d.symm,by rw[iD,Ig];omega⟩
  .refine .inr ⟨by rw [if_neg (by simp only; omega), if_neg (by simp only; omega)], fun b e => ?_⟩
   rw[iD,Ig]at e;omega
end
end Go.Fw
namespace Go.Fw
open Go.Proofs Go.ChangeShapes Go.WideShapes Go.RowKit Go.ChangeAt
open Go.Proofs.YtkccdnmaaelbiaaGreat
section
variable {H : Type} {enc : TypeId × Value → H} {W : World}
def rd_room {e:TypeId} {t:TypeId} {fuel:Nat} {cs:List Value} {x:DataW H×List MemPlace} {v' v:Value} (i:Tryz.prog.underlying t=some (.slice e)) (h:DataW.trod enc Tryz.prog W 0 (fun _=>true) true fuel t cs=some x) (d:cs=[v']) (c:tag v'=some v):
  ∃a n cap,v=.slice a n cap/\cap<km/\n<=cap:=by
 rcases Go.Deep.open_slice i h with⟨rfl,_⟩|⟨a,len,cap,m,n,D,o,rfl,hb,g,j,l,_,p⟩
 .injection d with d; subst d
  have c:some (Value.slice none 0 0)=some v:=c;injection c with c;exact⟨none,0,0,c.symm,xr,J4 _⟩
 .injection d with d; subst d
  have f:cap<km:=NV j xr;obtain⟨b,off,sp⟩:=a;cases sp with
  |none=>
   simp only[tag,if_pos f]at c;injection c with c;exact⟨_,_,_,c.symm,f,g⟩
  |some k=>
   unfold tag at c;split at c
   .rename_i h;cases h
   .rename_i h;cases h
   .rename_i h;injection h with q h2 h3;injection c with c;exact⟨_,_,_,c.symm,xr,J4 _⟩
   .split at c
    .injection c with c;exact⟨_,_,_,c.symm,f,g⟩
    .cases c
def Vz {v:Value} {d:DataW H} {ps:List MemPlace} {b0:Nat} (c:Value.okWide Tryz.prog W .any b0 24 v) (h:DataW.Trod enc Tryz.prog W 0 (fun _=>true) true 24 v d ps) (m:Ti):
  ∃u G,VR 0 m u v/\GRC (Nj W) u G:=by
 obtain⟨fuel,h⟩:=h;simp only[Value.okWide,eJ]at c;obtain⟨cs,rfl,e,_⟩:=c;have g:Tryz.prog.cellsOf 24=2:=zd;have s:Tryz.prog.cellsOf 3=1:=zd;have j:Tryz.prog.cellsOf 22=1:=zd;obtain⟨l⟩:=cs;rw[g]at e
 match l,e with
 |[x,y],_=>
  obtain⟨y0,y1,n,-,-,q,o⟩:=trod_struct2 eJ h;simp only[s,j,Value.cells,sQ,Mi,CG,AP,List.take_nil]at q o;obtain⟨a,ea,_,_⟩:=DataW.trod_int Ik q;obtain⟨v',v,V,f,t1,r⟩:=Xa o;obtain⟨t,k,cap,rfl,w,z⟩:=rd_room pS o f t1;injection ea with ea;injection f with f;subst ea f;obtain⟨_,_,p,_⟩:=r.sl;injection p with _ p _;refine⟨_,⟨a,V⟩,?_,_,rfl,r,t,cap,by rw[p],.inl ⟨w,by show V.length<=cap;omega⟩⟩;refine .agg YX fun i a b ha hb=>?_
  match i with
  |0=>simp at ha hb;subst ha hb;exact .flat rfl
  |1=>simp at ha hb;subst ha hb;exact VR.OA t1
  |i+2=>simp at ha
end
end Go.Fw
namespace Go.Fw
section
open Go.Proofs
variable {a n v:Nat} {es:List Pr} {k:Int} {p:Pr} {α:Type}
def Gw {l:List α} (nd:l.Nodup):1<l.length↔∃x y,x∈l/\y∈l/\x≠y:=by
 constructor
 .intro h
  match l,h with
  |x::y::r,_=>
   rw[tS]at nd;exact⟨x,y,YX,YX,fun e=>nd.1 (by rw[e];simp)⟩
 .rintro ⟨x, y, c, f, d⟩
  match l with
  |[]=>cases c
  |[a]=>rw[Rb]at c f;exact absurd (c.trans f.symm) d
  |a::b::r=>simp
def SN (v:Int) (b:List Pr):Bool:=b.any (TE v)
def tT (c:I7 n es) (d:p∈es) (h:TE (v:Int) p=true):∃a,xA es v a/\p=pe v a:=by
 rcases AA c d v with⟨a,_,_,b,h2⟩|⟨b,_⟩
 .exact⟨a,b,h2⟩
 .have := c p d
  unfold Kg at b;unfold TE at h;rw[Z0,decide_eq_true_eq,decide_eq_true_eq]at h;split at b
  .omega
  .split at b<;>omega
def WT:TE (v:Int) (pe v a)=true:=by
 unfold TE pe;rw[Z0,decide_eq_true_eq,decide_eq_true_eq];simp only;omega
def O9 (b:I7 n es):SN (v:Int) (es.filter fun p=>decide (oJ n es p=k))=true↔∃a,xA es v a/\oJ n es (pe v a)=k:=by
 unfold SN;rw[oZ];constructor
 .rintro ⟨p, c, hi⟩
  obtain⟨d,h2⟩:=sX.1 c;obtain⟨a,ha,rfl⟩:=tT b d hi;exact⟨a,ha,of_decide_eq_true h2⟩
 .rintro ⟨a, ha, e⟩
  exact⟨_,sX.2 ⟨Pq b ha,decide_eq_true e⟩,WT⟩
def fD (n:Nat) (es:List Pr) (v:Nat):Nat:=((AE n es).filter (SN (v:Int))).length
def kX (n:Nat) (es:List Pr) (v:Nat):LF:=(kj (oJ n es) es).filter fun k=>SN (v:Int) (es.filter fun p=>decide (oJ n es p=k))
def SU (n:Nat) (es:List Pr) (v:Nat):fD n es v=(kX n es v).length:=by
 rw[fD,vf,List.filter_map,yA];rfl
def XJ (n:Nat) (es:List Pr) (v:Nat):(kX n es v).Nodup:=(NW (oJ n es) _ es rfl).1.sublist F5
def sW (b:I7 n es):k∈kX n es v↔∃a,xA es v a/\oJ n es (pe v a)=k:=by
 rw[kX,sX,O9 b];refine⟨fun h=>h.2,fun⟨a,ha,c⟩=>⟨((NW (oJ n es) _ es rfl).2 k).2 ⟨_,Pq b ha,c⟩,a,ha,c⟩⟩
def aU (d:I7 n es) (v:Nat):1<fD n es v↔Fo.Ii es v:=by
 rw[SU,Gw (XJ n es v)];constructor
 .rintro ⟨x, y, g, h, f⟩
  obtain⟨a,ha,rfl⟩:=(sW d).1 g;obtain⟨b,hb,rfl⟩:=(sW d).1 h;exact⟨a,b,ha,hb,fun c=>f ((IL d ha hb).2 c)⟩
 .rintro ⟨a, b, ha, hb, i⟩
  exact⟨_,_,(sW d).2 ⟨a,ha,rfl⟩,(sW d).2 ⟨b,hb,rfl⟩,fun e=>i ((IL d ha hb).1 e)⟩
end
end Go.Fw
namespace Go.Fw
open Go.Proofs
namespace Fo
variable {n : Nat} {es : List Pr} {num : Nat → Nat} {up : Nat → Option Nat} {hd : Nat → Nat}
def VJ {a b:Nat} (h:Uy up a b) (ne:a≠b):up b≠none:=by
 obtain⟨c,d,_⟩:=h.last ne;rw[d];simp
def beg (n:Nat) (up:Nat->Option Nat) (hd:Nat->Nat):wi:=(List.range n).filter fun c=>decide (up c≠none/\hd c=c)
def Oz {c:Nat}:c∈beg n up hd↔c<n/\up c≠none/\hd c=c:=by simp[beg]
def Bt:(beg n up hd).Nodup:=SJ.sublist F5
def oN (n:Nat) (up:Nat->Option Nat) (hd:Nat->Nat) (v:Nat):wi:=(beg n up hd).filter fun c=>decide (up c=some v)
def BC (F:Fo n es num up) (H:My n es num up hd) {v:Nat} (k:v<n) (c:Nat):(∃a,xA es v a/\hd (lower num v a)=c)↔c∈oN n up hd v\/(up v≠none/\c=hd v):=by
 rw[oN,sX,Oz,decide_eq_true_eq];constructor
 .rintro ⟨a, ha, rfl⟩
  have l:=F.DO ha;have h:=(ha.lt F.uJ).2;unfold lower;by_cases q:num a<num v
  .rw [if_pos q]
   exact .inr ⟨VJ (F.HX a v ha.symm q) (fun e=>by subst e;omega),rfl⟩
  .rw [if_neg q]
   obtain⟨c,d,f⟩:=(F.HX v a ha QT).child (fun e=>by subst e;omega);have b:=(F.MF f h).1;rw[F.O7 H d f ha];by_cases hb:C6 es num up v c
   .obtain ⟨w, hw, g, _⟩ := F.Wi b d hb
    exact .inr ⟨VJ hw g,H.on c v b d hb⟩
   .have := H.new c v b d hb
    rw[this];exact .inl ⟨⟨b,by rw[d];simp,this⟩,d⟩
 .rintro (⟨⟨b, _, hh⟩, d⟩ | ⟨i, rfl⟩)
  .obtain ⟨j, h2⟩ := F.VF c v b d
   exact⟨c,j,by unfold lower;rw[if_neg QT];exact hh⟩
  .obtain ⟨u, i⟩ := yu.1 i
   obtain⟨j,h2⟩:=F.VF v u k i;exact⟨u,j.symm,by unfold lower;rw[if_pos h2]⟩
def iu (F:Fo n es num up) (H:My n es num up hd) {v:Nat} (a:v<n):hd v∉oN n up hd v:=by
 intro h;rw[oN,sX,Oz,decide_eq_true_eq]at h;have b:=(F.Fm H (num v) v (J4 _) a).1;have h2:=(F.VF _ v h.1.1 h.2).2;rcases(F.MF b a).2 with e|e
 .rw[e]at h2;omega
 .omega
end Fo
open Classical in
theorem incN_eq {n:Nat} {es:List Pr} {num:Nat->Nat} {up:Nat->Option Nat} (S:yY n es (xM n es).1 (xM n es).2 num up) {v:Nat} (g:v<n):
  fD n es v=(Fo.oN n up (U8 n es) v).length+(if up v=none then 0 else 1):=by
 have F:=S.fo;have H:=(vJ S).1;have j:=F.uJ;have b:∀k:Int,k∈kX n es v↔∃c:Nat,k=(c:Int)/\(c∈Fo.oN n up (U8 n es) v\/(up v≠none/\c=U8 n es v)):=by
  intro k;rw[sW j];constructor
  .rintro ⟨a, ha, rfl⟩
   exact⟨_,On S ha,(F.BC H g _).1 ⟨a,ha,rfl⟩⟩
  .rintro ⟨c, rfl, h⟩
   obtain⟨a,ha,l⟩:=(F.BC H g c).2 h;exact⟨a,ha,by rw[On S ha,l]⟩
 have d:(Fo.oN n up (U8 n es) v).Nodup:=Fo.Bt.sublist F5;rw[SU];by_cases f:up v=none
 .rw [if_pos f]
  have:(kX n es v).Perm (aW (Fo.oN n up (U8 n es) v)):=(xR (XJ n es v) (by rw[aW,List.Nodup,UB];exact d.imp fun h e=>h QT)).2 fun k=>by
   rw[b,aW,T8];constructor
   .rintro ⟨c, rfl, h | h⟩
    .exact⟨c,h,rfl⟩
    .exact absurd f h.1
   .rintro⟨c,h,rfl⟩;exact⟨c,rfl,.inl h⟩
  rw[this.length_eq,tG];rfl
 .rw [if_neg f]
  have i:(U8 n es v::Fo.oN n up (U8 n es) v).Nodup:=tS.2 ⟨F.iu H g,d⟩;have:(kX n es v).Perm (aW (U8 n es v::Fo.oN n up (U8 n es) v)):=(xR (XJ n es v) (by rw[aW,List.Nodup,UB];exact i.imp fun h e=>h QT)).2 fun k=>by
   rw[b,aW,T8];constructor
   .rintro ⟨c, rfl, h | h⟩
    .exact⟨c,Gs _ h,rfl⟩
    .exact⟨c,by rw[h.2];exact jR,rfl⟩
   .rintro ⟨c, h, rfl⟩
    rcases aH.1 h with h|h
    .exact⟨c,rfl,.inr ⟨f,h⟩⟩
    .exact⟨c,rfl,.inl h⟩
  rw[this.length_eq,tG,jD]
def ja {n:Nat} {es:List Pr} {num:Nat->Nat} {up:Nat->Option Nat} (S:yY n es (xM n es).1 (xM n es).2 num up):(AE n es).length=(Fo.beg n up (U8 n es)).length:=by
 have F:=S.fo;have H:=(vJ S).1;have j:=F.uJ;obtain⟨s,mk⟩:=NW (oJ n es) _ es rfl;have:(kj (oJ n es) es).Perm (aW (Fo.beg n up (U8 n es))):=(xR s (by rw[aW,List.Nodup,UB];exact Fo.Bt.imp fun h e=>h QT)).2 fun k=>by
  rw[mk,aW,T8];constructor
  .rintro ⟨p, t, rfl⟩
   obtain⟨a,c,rfl,v,f,b⟩:=ends j t;have l:((a:Int),(c:Int))=pe a c:=by rw[iD,Ig];omega
   have w:=On S b;have z:=F.DO b;have A:=(b.lt j).1;have g:Fo.lower num a c<n:=by unfold Fo.lower;split<;>omega
   have m:up (U8 n es (Fo.lower num a c))≠none:=by
    have key:=fun x y o q=>F.link H (fun _ _=>()) (fun _ _=>rfl) (fun _ _ _ _ _ _=>rfl) (num x) x y (J4 _) o q;unfold Fo.lower;split
    .obtain⟨u,d,_⟩:=key a c b (by assumption);rw[d];simp
    .obtain⟨u,d,_⟩:=key c a b.symm QT;rw[d];simp
   have i:=F.Fm H _ (Fo.lower num a c) (J4 _) g;rw[l,w];exact⟨_,Fo.Oz.2 ⟨(F.MF i.1 g).1,m,i.2⟩,rfl⟩
  .rintro ⟨c, B, rfl⟩
   obtain⟨f,d,hh⟩:=Fo.Oz.1 B;obtain⟨u,d⟩:=yu.1 d;obtain⟨r,h2⟩:=F.VF c u f d;refine⟨pe c u,Pq j r.symm,?_⟩;rw[On S r.symm];unfold Fo.lower;rw[if_pos h2,hh]
 rw[vf,yA,this.length_eq,tG]
end Go.Fw
namespace Go.Fw
open Go.Proofs
def sum_add (f g:Nat->Nat):∀l:wi,(l.map fun x=>f x+g x).sum=(l.map f).sum+(l.map g).sum
 |[]=>rfl
 |x::l=>by simp only[Kj,Lh,sum_add f g l];omega
def XG (u:Nat):∀n,((List.range n).map fun v=>if u=v then 1 else 0).sum=if u<n then 1 else 0
 |0=>rfl
 |n+1=>by
  rw[pR,qy,List.sum_append,XG u n];simp only[Kj,List.map_nil,Lh,List.sum_nil];by_cases h:u<n
  .rw[if_pos h,if_neg QT,if_pos QT];rfl
  .by_cases e : u = n
   .rw[if_neg h,if_pos e,if_pos QT];rfl
   .rw[if_neg h,if_neg e,if_neg QT];rfl
def eW:∀n,((List.range n).map fun _=>0).sum=0
 |0=>rfl
 |n+1=>by rw[pR,qy,List.sum_append,eW n];rfl
def Uh (n:Nat) (up:Nat->Option Nat):∀(l:wi),(∀c∈l,∃u,up c=some u/\u<n)->((List.range n).map fun v=>(l.filter fun c=>decide (up c=some v)).length).sum=l.length
 |[],_=>by
  simp only[IF,Lz];exact eW n
 |c::l,h=>by
  obtain⟨u,a,b⟩:=h c YX;have f:=Uh n up l fun d g=>h d (by simp[g])
  have e:(fun v=>((c::l).filter fun c=>decide (up c=some v)).length)=fun v=>(l.filter fun c=>decide (up c=some v)).length+(if u=v then 1 else 0):=by
   funext v;rw[UR];by_cases k:u=v
   .subst k;rw[if_pos (by simp[a]),if_pos rfl,jD]
   .rw[if_neg (by simp[a,k]),if_neg k];rfl
  rw[e,sum_add,f,XG,if_pos b,jD]
def Sa (p:Nat->Prop) [DecidablePred p]:∀l:wi,(l.map fun v=>if p v then 0 else 1).sum=(l.filter fun v=>decide (¬p v)).length
 |[]=>rfl
 |x::l=>by
  rw[Kj,Lh,Sa p l,UR];by_cases h:p x
  .rw[if_pos h,if_neg (by simp[h])];omega
  .rw[if_neg h,if_pos (by simp[h]),jD];omega
def QN (inc:Nat->Nat):∀l:wi,(l.map inc).sum+(l.filter fun v=>decide (1<inc v)).length=((l.filter fun v=>decide (1<inc v)).map inc).sum+(l.filter fun v=>decide (0<inc v)).length
 |[]=>rfl
 |x::l=>by
  have b:=QN inc l;rw[Kj,Lh,UR,UR];by_cases h:1<inc x
  .rw[if_pos (by simp[h]),if_pos (by simp;omega),Kj,Lh,jD,jD];omega
  .rw [if_neg (by simp; omega)]
   by_cases a:0<inc x
   .rw[if_pos (by simp[a]),jD];omega
   .rw[if_neg (by simp;omega)];omega
def UN {A B:wi} {R:Nat->Nat->Prop} (d:A.Nodup) (h:∀a∈A,∃b∈B,R a b) (inj:∀a∈A,∀a'∈A,∀b,R a b->R a' b->a=a'):A.length<=B.length:=by
 classical
 let f:Nat->Nat:=fun a=>if h:∃b∈B,R a b then Classical.choose h else 0
 have hf:∀a∈A,f a∈B/\R a (f a):=fun a ha=>by
  have:=DC (h a ha);simp only[f,dif_pos (h a ha)];exact this
 have nd:(A.map f).Nodup:=by
  rw[List.Nodup,UB];refine(gY.1 d).imp_of_mem ?_;intro a a' ha WA c e;exact c (inj a ha a' WA (f a) (hf a ha).2 (e▸(hf a' WA).2))
 have:=nd.length_le_of_subset (l₂:=B) (fun x g=>by
  obtain⟨a,ha,rfl⟩:=T8.1 g;exact(hf a ha).1)
 simpa using this
namespace Fo
variable {n : Nat} {es : List Pr} {num : Nat → Nat} {up : Nat → Option Nat}
def root_ex (F:Fo n es num up):∀(k v:Nat),num v<=k->v<n->∃r,r<n/\up r=none/\Uy up r v/\Xb es r v:=by
 intro k
 induction k with
 |zero=>
  intro v d b;cases a:up v with
  |none=>exact⟨v,b,a,.refl v,Xb.refl _ _⟩
  |some u=>have:=(F.VF v u b a).2;omega
 |succ k e=>
  intro v d b;cases a:up v with
  |none=>exact⟨v,b,a,.refl v,Xb.refl _ _⟩
  |some u=>
   obtain⟨c,h2⟩:=F.VF v u b a;obtain⟨r,f,h3,g,h⟩:=e u QT (c.lt F.uJ).1;exact⟨r,f,h3,g.step a,.step h c rfl⟩
def xJ (F:Fo n es num up) {r u v:Nat} (d:up r=none) (h:Uy up r u) (c:Xb es u v):Uy up r v:=by
 induction c with
 |refl _=>exact h
 |@step w x _ a _ b=>
  have ne:=F.DO a;by_cases q:num w<num x
  .exact b.trans (F.HX w x a q)
  .have f := F.HX x w a.symm QT
   rcases b.chain f with k|k
   .exact k
   .by_cases e : x = r
    .subst e;exact .refl _
    .exact absurd d (VJ k e)
def p9 (F:Fo n es num up) {r s:Nat} (a:up r=none) (hs:up s=none) (c:Xb es r s):r=s:=by
 have h:=F.xJ a (.refl r) c;exact mS fun e=>VJ h e hs
end Fo
open Classical in
theorem G2 {n:Nat} {es:List Pr} (b:I7 n es) {v:Nat}:0<fD n es v↔∃a,xA es v a:=by
 rw[SU,List.length_pos_iff_exists_mem];constructor
 .rintro⟨k,c⟩;obtain⟨a,ha,_⟩:=(sW b).1 c;exact⟨a,ha⟩
 .rintro⟨a,ha⟩;exact⟨_,(sW b).2 ⟨a,ha,rfl⟩⟩
def mZ {es:List Pr} {u v:Nat} (h:Xb es u v) (ne:u≠v):(∃a,xA es u a)/\∃a,xA es v a:=by
 constructor
 .induction h with
  |refl _=>exact absurd rfl ne
  |@step w x c a _ b=>
   by_cases e:u=w
   .subst e;exact⟨x,a⟩
   .exact b e
 .cases h with
  |refl _=>exact absurd rfl ne
  |@step w _ c a _=>exact⟨w,a.symm⟩
open Classical in
theorem Nl {n:Nat} {es:List Pr} (d:I7 n es):
  (AE n es).length+(Db n es).length=((Db n es).map (fD n es)).sum+((Ju n es).filter fun h=>decide (0<fD n es h)).length:=by
 obtain⟨num,up,S⟩:=Np d;have F:=S.fo;have s:Db n es=(List.range n).filter fun v=>decide (1<fD n es v):=by
  rw[Db];refine SD fun v f=>?_;rw[vq]at f;rw[ju,decide_eq_true_eq,aU d];exact uW d f
 have j:=QN (fD n es) (List.range n);rw[<-s]at j;have h2:((List.range n).map (fD n es)).sum=(Fo.beg n up (U8 n es)).length+((List.range n).filter fun v=>decide (¬up v=none)).length:=by
  have e:(List.range n).map (fD n es)=(List.range n).map fun v=>(Fo.oN n up (U8 n es) v).length+(if up v=none then 0 else 1):=
   vG fun v f=>incN_eq S (vq.1 f)
  rw[e,sum_add,Sa (fun v=>up v=none)];congr 1;exact Uh n up _ fun c g=>by
   obtain⟨m,i,_⟩:=Fo.Oz.1 g;obtain⟨u,i⟩:=yu.1 i;exact⟨u,i,((F.VF c u m i).1.lt d).1⟩
 have h3:=wR (fun v=>decide (¬up v=none)) ((List.range n).filter fun v=>decide (0<fD n es v));rw[Lm,Lm]at h3;have t:(List.range n).filter (fun v=>decide (¬up v=none)&&decide (0<fD n es v))=(List.range n).filter fun v=>decide (¬up v=none):=by
  refine SD fun v f=>?_;rw[vq]at f;by_cases q:up v=none
  .simp[q]
  .obtain ⟨u, i⟩ := yu.1 q
   have:0<fD n es v:=(G2 d).2 ⟨u,(F.VF v u f i).1.symm⟩;simp[this]
 rw[t]at h3;have w:((List.range n).filter fun v=>(!decide (¬up v=none))&&decide (0<fD n es v)).length=((Ju n es).filter fun h=>decide (0<fD n es h)).length:=by
  have k:∀v,v∈((List.range n).filter fun v=>(!decide (¬up v=none))&&decide (0<fD n es v))↔v<n/\up v=none/\0<fD n es v:=fun v=>by simp
  have l:∀v,v∈((Ju n es).filter fun h=>decide (0<fD n es h))↔v∈Ju n es/\0<fD n es v:=fun v=>by simp
  have move:∀{a b:Nat},Xb es a b->0<fD n es a->0<fD n es b:=fun{a b} c h=>by
   by_cases e:a=b
   .subst e;exact h
   .exact(G2 d).2 (mZ c e).2
  refine Nat.le_antisymm ?_ ?_
  .refine UN (R := fun a b => Xb es a b) (SJ.sublist F5) (fun a ha => ?_) (fun a ha a' WA b j h2 => ?_)
   .obtain ⟨k1, k2, o⟩ := (k a).1 ha
    obtain⟨h,hh,g⟩:=zh d a k1;exact⟨h,(l h).2 ⟨hh,move g.symm o⟩,g.symm⟩
   .exact F.p9 ((k a).1 ha).2.1 ((k a').1 WA).2.1 (j.trans h2.symm)
  .refine UN (R := fun a b => Xb es a b) ((xk n es).sublist F5) (fun a ha => ?_) (fun a ha a' WA b j h2 => ?_)
   .obtain ⟨k1, o⟩ := (l a).1 ha
    obtain⟨r,p,x,y,g⟩:=F.root_ex (num a) a (J4 _) (jS.1 k1).1;exact⟨r,(k r).2 ⟨p,x,move g.symm o⟩,g.symm⟩
   .exact wW ((l a).1 ha).1 ((l a').1 WA).1 (j.trans h2.symm)
 rw[w]at h3;have z:=ja S;omega
end Go.Fw
namespace Go.Fw
section
attribute [local irreducible] Ax YH XZ Uk KO KN KX KE VK DK Q7 dK W9
open Go.Proofs
variable {P:Program} {R id m n:Nat} {c:List Value} {ev x:Value} {h:AHeap} {ps:List Pr}
def bC {t xt:TypeId} {k n n' id cap:Nat} {c news:List Value} (a:apT P t xt k=true) (r:h.own id=some (.cells c)) (g:cap*k<=c.length) (i:cap<1000000000000) (hf:n+n'<=cap)
  (hs:∀e,JO P e=k->srcCells P h e x=some (n',news)) (s:news.all (·.oneCell')=true) (d:news.length=n'*k) (hb:n+n'<=1000000000) (u:n'≠0):
  aAppend P h t xt (.slice (some ⟨id,0,none⟩) n cap) x=some (.slice (some ⟨id,0,none⟩) (n+n') cap,h.put id (.cells (putCells c (n*k) news))):=by
 unfold apT at a;split at a
 .rename_i e v w y
  split at a
  .rename_i z A
   simp only[SH,beq_iff_eq,decide_eq_true_eq]at a;obtain⟨⟨⟨⟨⟨j,l⟩,B⟩,m⟩,o⟩,p⟩:=a;have hs:=hs e o;have C:(n+n')*P.bytesOf e<=140737488355328:=Jh (Xd hb p) xr;have D:n+n'<=140737488355328:=QT;have f:z.cells.size=JO P e/\z.cells.toList.all (·.oneCell')/\(P.underlying e).isSome/\notIntD v/\news.all (·.oneCell')/\(n+n')*P.bytesOf e<=140737488355328/\n+n'<=140737488355328/\news.length=n'*JO P e:=
    ⟨j,l,B,m,s,C,D,by rw[o];exact d⟩
   have q:¬km<=cap:=eV.2 (K2 i xr);have b:n*k+news.length<=c.length:=by
    rw[d,<-WB];exact Jh (Uj _ hf) g
   simp only[aAppend,w,y,A,hs];rw[if_pos f,if_neg u,if_neg q,if_pos hf];simp only[r,o,Qs,b,if_true]
  .cases a
 .cases a
def mkCapP (h:AHeap) (n:Nat) (f:n<=100000):∃c,aMakeSlice Tryz.prog h 22 (.int .i64 0) (.int .i64 (n:Int))=some (.slice (some ⟨h.next,0,none⟩) 0 n,h.alloc (.cells c))/\c.length=n*2:=by
 have g:azero Tryz.prog 38=some (.agg #[.int .i64 0,.int .i64 0]):=zd;have b:(Value.agg #[.int .i64 0,.int .i64 0]).cells=#[.int .i64 0,.int .i64 0]:=rfl;have hb:Tryz.prog.bytesOf 38=16:=zd;have d:(16:Int)*n<=140737488355328:=QT;have e:(n:Int)<=140737488355328:=QT;have a:(zrow [Value.int .i64 0,.int .i64 0] n).all (·.oneCell')=true:=by
  clear d e f
  induction n with
  |zero=>rfl
  |succ n i=>simp only[zrow,CM,i,aal];rfl
 refine⟨zrow [.int .i64 0,.int .i64 0] n,?_,by rw[Kx];rfl⟩;simp[aMakeSlice,g,b,hb,mr,flat,d,e,QX,a]
def push_in (hw:WF h) (s:h.own id=some (.cells c)) (u:c.length=m*2) (v:c.take (ps.length*2)=Mf ps) (w:ps.length<m) (F:m<=100000) (p:Pr):
  ∃d g,aBuildSlice Tryz.prog h 22 1 [(0,Ov p)]=some (.slice (some ⟨h.next,0,none⟩) 1 1,d)/\aAppend Tryz.prog d 22 22 (.slice (some ⟨id,0,none⟩) ps.length m) (.slice (some ⟨h.next,0,none⟩) 1 1)=some (.slice (some ⟨id,0,none⟩) (ps.length+1) m,g)/\WF g/\
   (∃c',g.own id=some (.cells c')/\c'.length=m*2/\c'.take ((ps++[p]).length*2)=Mf (ps++[p]))/\(∀f,Le f h->f.own id=none->Le f g)/\(∀b o,h.own b=some o->b≠id->g.own b=some o):=by
 obtain⟨d,y,l4,q,z⟩:=mV hw (Zh p)
 have A:PR d (.slice (some ⟨h.next,0,none⟩) 1 1) [p]:=by
  have:=CS.own (k:=2) (off:=0) (n:=1) (cap:=1) z (by simp[Zh]);exact this
 have i:=l4.own _ _ s
 have key:=bC (P:=Tryz.prog) (t:=22) (xt:=22) (k:=2) (n:=ps.length) (n':=1) (cap:=m) (x:=.slice (some ⟨h.next,0,none⟩) 1 1) zd i QT QT QT (fun e B=>CS.src B A) (j9 [p]) (Dg [p]) QT QT
 have C:Mf [p]=Zh p:=by simp[Mf]
 have a:ps.length*2+(Mf [p]).length<=c.length:=by rw[Dg];simp;omega
 refine⟨d,_,by rw[mkP1,y],key,q.put _ (q.lt i),⟨_,AHeap.zm _ _ _,by rw[Am];exact u,?_⟩,fun f D E=>(D.trans l4).put _ E,fun b o hb l=>?_⟩
 .have r : (Mf ps).length = ps.length * 2 := Dg ps
  have j:(Mf [p]).length=2:=Dg [p];rw[NT _ _ _ a,v,AJ];rw[wO (by simp[r,j];omega)];rw[xV (by simp[r,j];omega)]
 .rw[AHeap.Dz _ _ _ _ l];exact l4.own _ _ hb
def gU {x y:Value} {n:Int} (d:h.own R=some (.cells [x,y])) (one:ev.oneCell'=true) (b:ev.cells=#[ev]):aStore Tryz.prog h 24 (.pointer (some ⟨R,0,none⟩)) (.agg #[.int .i64 n,ev])=some (h.put R (.cells [.int .i64 n,ev])):=by
 have a:JO Tryz.prog 24=2:=zd;have e:(Value.agg #[.int .i64 n,ev]).cells=#[.int .i64 n,ev]:=by
  have c:(Value.int IntKind.i64 n).cells=#[.int .i64 n]:=rfl;simp[Value.cells]
 have c:(Value.int IntKind.i64 n).oneCell'=true:=rfl;simp[aStore,d,e,a,putCells,one,c]
def tU {n:Int} (e:h.own R=some (.cells [.int .i64 n,ev])) (d:∃a l c,ev=.slice a l c):aload Tryz.prog h 24 ⟨R,0,none⟩=some (.agg #[.int .i64 n,ev]):=by
 have b:JO Tryz.prog 24=2:=zd;obtain⟨a,l,c,rfl⟩:=d;rw[HU eJ rfl b e YX];rfl
def fS (p:Pr):Pr:=(min p.1 p.2,max p.1 p.2)
structure Zr (n:Int) (ps:List Pr):Prop where
 n0:0<=n
 n1:n<=200
 len:ps.length<=594
 ok:∀p∈ps,0<=(fS p).1/\(fS p).1≠(fS p).2/\(fS p).2<n
 nd:(ps.map fS).Nodup
def uX:Value:=.agg #[.int .i64 0,.slice none 0 0]
def VG:aBuild Tryz.prog 24 []=some uX:=zd
def IA (n:Int) (id m c:Nat):aBuild Tryz.prog 24 [(0,.int .i64 n),(1,.slice (some ⟨id,0,none⟩) m c)]=some (.agg #[.int .i64 n,.slice (some ⟨id,0,none⟩) m c]):=zd
def Zr.right (k:Zr (n:Int) ps):xO ⟨(n:Int),sortP (ps.map fS)⟩:=by
 have nd:(sortP (ps.map fS)).Nodup:=(dt _).nodup_iff.2 k.nd;have hle:=WU (ps.map fS);refine xO.of (by have:=k.n1;omega) (by rw[M1,yA];exact k.len) (fun q b=>?_) (zj.2 ?_)
 .rw [pj, T8] at b
  obtain⟨p,c,rfl⟩:=b;obtain⟨a,h2,h3⟩:=k.ok p c;have:(fS p).1<=(fS p).2:=by simp only[fS];omega
  refine⟨a,QT,h3⟩
 .refine (hle.and nd).imp fun {x y} h => ?_
  obtain⟨a,h2⟩:=h;rcases a with a|⟨a,h3⟩
  .exact .inl a
  .refine .inr ⟨a, ?_⟩
   have:x.2≠y.2:=fun e=>h2 (X9 a e);omega
def New_any (W0:Ac) (n:Int) (v:Value) (ps:List Pr) (h:AHeap) (hp:PR h v ps) (F:ps.length<=100000):
  AC Tryz.prog W0 29 [.int .i64 n,v] h fun x h'=>Le h h'/\((¬Zr n ps/\∃k:Int,k≠0/\x=.tuple #[uX,.int .i64 k])\/(Zr n ps/\∃ev,x=.tuple #[.agg #[.int .i64 n,ev],.int .i64 0]/\GP h' ev (sortP (ps.map fS))/\tQ h ev)):=by
 refine AC.vE ⟨Tryz.func29,rfl,xr⟩ Tryz.ntmps29 Tryz.results29 fun U=>?_;simp only[xq,Nat.reduceAdd];obtain⟨j,e1,l1,w1,G⟩:=mV U [.int .i64 0,.slice none 0 0];have l:=rT h;rw[e1]at l
 have nR:h.own h.next=none:=(Le.refl h).next U (J4 _)
 generalize h.next=R at*
 have hlen:=fun g=>hp.len g;have r:∀g:AHeap,g.own R=some (.cells [.int .i64 0,.slice none 0 0])->aStore Tryz.prog g 24 (.pointer (some ⟨R,0,none⟩)) uX=some (g.put R (.cells [.int .i64 0,.slice none 0 0])):=fun g o=>gU o rfl rfl;have ldE:∀g:AHeap,aload Tryz.prog (g.put R (.cells [.int .i64 0,.slice none 0 0])) 24 ⟨R,0,none⟩=some uX:=fun g=>tU (AHeap.zm _ _ _) ⟨_,_,_,rfl⟩;have fail:∀(g:AHeap) (k:Int),k≠0->Le h g->¬Zr n ps->Le h (g.put R (.cells [.int .i64 0,.slice none 0 0]))/\((¬Zr n ps/\∃k':Int,k'≠0/\Value.tuple #[uX,.int .i64 k]=.tuple #[uX,.int .i64 k'])\/(Zr n ps/\∃ev,Value.tuple #[uX,.int .i64 k]=.tuple #[.agg #[.int .i64 n,ev],.int .i64 0]/\GP (g.put R (.cells [.int .i64 0,.slice none 0 0])) ev (sortP (ps.map fS))/\tQ h ev)):=
  fun g k hk lg aQ=>⟨lg.put _ nR,.inl ⟨aQ,k,hk,rfl⟩⟩
 by_cases c1:n>200
 .have d1 : decide (n > 200) = true := decide_eq_true c1
  simp only[Ud,Nat.reduceLT,↓reduceIte,Nat.reduceEqDiff,reduceCtorEq,l,d1,VG,r j G,ldE j];exact fail j 21 xr l1 (fun k=>by have:=k.n1;omega)
 have d1:decide (n>200)=false:=decide_eq_false c1;by_cases c2:(ps.length:Int)>594
 .have d2 : decide ((ps.length : Int) > 594) = true := decide_eq_true c2
  simp only[Ud,Nat.reduceLT,↓reduceIte,Nat.reduceEqDiff,reduceCtorEq,l,d1,hlen,d2,VG,r j G,ldE j];exact fail j 21 xr l1 (fun k=>by have:=k.len;omega)
 have d2:decide ((ps.length:Int)>594)=false:=decide_eq_false c2;by_cases c3:n<0
 .have d3 : decide (n < 0) = true := decide_eq_true c3
  simp only[Ud,Nat.reduceLT,↓reduceIte,Nat.reduceEqDiff,reduceCtorEq,l,d1,hlen,d2,d3,VG,r j G,ldE j];exact fail j 20 xr l1 (fun k=>by have:=k.n0;omega)
 have d3:decide (n<0)=false:=decide_eq_false c3
 obtain⟨h2,e2,l2,w2,o2⟩:∃h2,j.alloc (.map [])=h2/\Le j h2/\WF h2/\h2.own j.next=some (.map []):=⟨_,rfl,(Le.refl j).alloc w1 _,w1.alloc _,AHeap.vA _ _⟩
 have nM:j.own j.next=none:=(Le.refl j).next w1 (J4 _)
 have V:R≠j.next:=fun e=>by rw[e,nM]at G;cases G
 obtain⟨c0,mk,X⟩:=mkCapP h2 ps.length F;obtain⟨h3,e3,l3,w3,o3⟩:=mV w2 c0;rw[e3]at mk
 have S:h2.own h2.next=none:=(Le.refl h2).next w2 (J4 _)
 simp only[Ud,Nat.reduceLT,↓reduceIte,Nat.reduceEqDiff,reduceCtorEq,l,d1,hlen,d2,d3,e2,mk];have Y:=l3.own _ _ o2;have Z:=l3.own _ _ (l2.own _ _ G)
 have H:h2.next≠j.next:=fun e=>by rw[e,o2]at S;cases S
 have y:h2.next≠R:=fun e=>by rw[e,l2.own _ _ G]at S;cases S
 have ah:h.own h2.next=none:=(l1.trans l2).none S
 have aT:h.own j.next=none:=l1.none nM
 have aj:=(l1.trans l2).trans l3
 generalize j.next=M at*
 generalize h2.next=I at*
 refine W9.intro (fun k fr t=>∃(i:Nat) (l:List (Pr×Int)) (c:List Value),k=ps.length-i/\i<=ps.length/\fr=mkF [(0,.int .i64 n),(4,.pointer (some ⟨R,0,none⟩)),(6,.map (some M)),(7,.slice (some ⟨I,0,none⟩) ((ps.take i).map fS).length ps.length),(28,v),(29,.int .i64 ps.length),(30,.int .i64 i)]/\
   t.own R=some (.cells [.int .i64 0,.slice none 0 0])/\t.own M=some (.map (JW l))/\(∀q,q∈l.map (·.1)↔q∈(ps.take i).map fS)/\t.own I=some (.cells c)/\c.length=ps.length*2/\c.take (((ps.take i).map fS).length*2)=Mf ((ps.take i).map fS)/\
   (∀p∈ps.take i,0<=(fS p).1/\(fS p).1≠(fS p).2/\(fS p).2<n)/\((ps.take i).map fS).Nodup/\Le h t)
  ps.length [(0,.int .i64 n),(4,.pointer (some ⟨R,0,none⟩)),(6,.map (some M)),(7,.slice (some ⟨I,0,none⟩) 0 ps.length),(28,v),(29,.int .i64 ps.length),(30,.int .i64 (0:Nat))] vy
  ⟨0,[],c0,rfl,KW _,rfl,Z,Y,YX,o3,X,rfl,YX,YX,aj⟩ ?_
 clear o3 X Y Z w3 l3 aj e3 mk o2 w2 l2 e2 S nM l G w1 l1 e1;clear h3 h2 j c0;rintro k fr t ak ⟨i,l,c,rfl,hi,rfl,oR,oM,J,oI,aq,B,K,L,leq⟩;have N:((ps.take i).map fS).length=i:=by rw[yA,Ja];omega
 refine yq ?_;refine DK.intro (fun ht=>?_) (fun hf=>?_)
 rotate_left
 .have bV : ps.length <= i := Yv hf
  obtain rfl:i=ps.length:=QT;rw[N,xV (J4 _)]at B;rw[xV (J4 _)]at K L;have aX:Zr n ps:=⟨QT,QT,QT,K,L⟩;have g:GP t (.slice (some ⟨I,0,none⟩) ps.length ps.length) (ps.map fS):=by
   have hl:c.length<=ps.length*2:=QT;rw[xV hl]at B;subst B;have:=GS.full (k:=2) (n:=ps.length) oI aq QT;rw[GP,yA];exact this
  have ag:tQ h (.slice (some ⟨I,0,none⟩) ps.length ps.length):=fun b hb=>by injection hb with hb;subst hb;exact ah
  have bs:=IA n I ps.length ps.length;have bI:blk (.slice (some ⟨I,0,none⟩) ps.length ps.length)=some I:=rfl;rw[N];refine yq ?_;generalize O:Value.slice (some ⟨I,0,none⟩) ps.length ps.length=sv at*;refine dK.intro pK ⟨Tryz.func69,rfl,xr⟩ (wV W0 g (by rw[yA];omega) 63 (enters_of Tryz.func63 zd rfl) fun W p q=>(sj _ p q _).mono fun _ _ h=>h.1) ?_;rintro x h4 w4 ⟨rfl,g4,f4⟩;have l4:=f4 h leq ag;have aY:h4.own R=some (.cells [.int .i64 0,.slice none 0 0]):=(Na (v':=sv) (fun f _ lf af=>⟨f4 f lf af,af⟩) ak oR (by rw[bI];simpa using y)).1;have st:=gU (n:=n) (ev:=sv) aY (by rw[<-O];rfl) (by rw[<-O];rfl);have ld:=tU (n:=n) (ev:=sv) (AHeap.zm h4 R _) ⟨_,_,_,O.symm⟩;simp only[Ud,Nat.reduceLT,↓reduceIte,Nat.reduceEqDiff,reduceCtorEq,bs,st,ld];exact⟨l4.put _ nR,.inr ⟨aX,sv,rfl,GS.put g4 _ (by rw[bI];simpa using y),ag⟩⟩
 have w:i<ps.length:=Ub ht;clear ht;have ar:=XR w;have C:ps.take (i+1)=ps.take i++[ps[i]]:=QM w;have av:=om w;generalize ps[i]=p at ar C av;have ad:=hp.addr (k:=.i64) i w;have ld:=(hp.le leq).load ar;obtain⟨bW,h7,e7,a1,T,w7,o7⟩:=bS ak p;obtain⟨bX,m,e8,a6,l8,w8,o8⟩:=bS w7 (fS p);have bn:aBuild Tryz.prog 38 [(0,.int .i64 (min p.1 p.2)),(1,.int .i64 (max p.1 p.2))]=some (Ov (fS p)):=bP2 _ _;simp only[Ud,Nat.reduceLT,↓reduceIte,Nat.reduceEqDiff,reduceCtorEq,ad,ld,e7,a1,Il,Mt,Co,Qs,Ol o7,Lt o7,OE,uG,bn,e8,a6];have z:=leq.trans (T.trans l8);have A:=(T.trans l8).own _ _ oR;have P:=(T.trans l8).own _ _ oM;have a7:=(T.trans l8).own _ _ oI
 have a8:h7.next≠M:=fun e=>by
  have:=(Le.refl h7).next w7 (J4 _)
  rw[e,T.own _ _ oM]at this;cases this
 have bY:h7.next≠I:=fun e=>by
  have:=(Le.refl h7).next w7 (J4 _)
  rw[e,T.own _ _ oI]at this;cases this
 generalize hE:h7.next=E at*
 have m0:=Ol o8;have m1:=Lt o8;have bad:¬(0<=(fS p).1/\(fS p).1≠(fS p).2/\(fS p).2<n)->¬Zr n ps:=fun hn k=>hn (k.ok p av);by_cases q1:(fS p).1<0
 .have d : decide ((fS p).1 < 0) = true := decide_eq_true q1
  simp only[Ud,Nat.reduceLT,↓reduceIte,Nat.reduceEqDiff,reduceCtorEq,m0,d,VG,r m A,ldE m];exact fail m 20 xr z (bad QT)
 have D:decide ((fS p).1<0)=false:=decide_eq_false q1;by_cases q2:(fS p).1=(fS p).2
 .have d : decide ((fS p).1 = (fS p).2) = true := decide_eq_true q2
  simp only[Ud,Nat.reduceLT,↓reduceIte,Nat.reduceEqDiff,reduceCtorEq,Il,Mt,Co,Qs,m0,m1,D,d,VG,r m A,ldE m];exact fail m 20 xr z (bad QT)
 have Q:decide ((fS p).1=(fS p).2)=false:=decide_eq_false q2;by_cases q3:(fS p).2>=n
 .have d : decide ((fS p).2 >= n) = true := decide_eq_true q3
  simp only[Ud,Nat.reduceLT,↓reduceIte,Nat.reduceEqDiff,reduceCtorEq,Il,Mt,Co,Qs,m0,m1,D,Q,d,VG,r m A,ldE m];exact fail m 20 xr z (bad QT)
 have ay:decide ((fS p).2>=n)=false:=decide_eq_false q3;have lp:=E3 o8;have lk:=JK P (fS p) true;by_cases q4:fS p∈(ps.take i).map fS
 .have hs:(lookK l (fS p)).isSome=true:=by
   have:=zB.2 ((J _).2 q4);cases hh:lookK l (fS p)with
   |none=>exact absurd hh this
   |some x=>rfl
  rw[hs]at lk;simp only[Ud,Nat.reduceLT,↓reduceIte,Nat.reduceEqDiff,reduceCtorEq,Il,Mt,Co,Qs,m0,m1,D,Q,ay,lp,uI,lk,VG,r m A,ldE m];refine fail m 20 xr z fun k=>?_;have nd:=k.nd;rw[<-aV (i+1) ps,C,qy,qy]at nd;have:=(KM.1 nd).1;rw[KM]at this;exact this.2.2 _ q4 _ YX rfl
 have hs:lookK l (fS p)=none:=by
  cases hh:lookK l (fS p)with
  |none=>rfl
  |some x=>exact absurd ((J _).1 (zB.1 (by rw[hh];simp))) q4
 rw[hs]at lk;simp only[Option.isSome_none,Option.getD_none]at lk;have sm:=Ge P (fS p) (i:Int);have w9:=w8.put (.map (JW (setK l (fS p) (i:Int)))) (w8.lt P);have bb:=AHeap.zm m M (.map (JW (setK l (fS p) (i:Int))));have s:∀b o,m.own b=some o->b≠M->(m.put M (.map (JW (setK l (fS p) (i:Int))))).own b=some o:=fun b o ho hb=>by rw[AHeap.Dz _ _ _ _ hb];exact ho
 have bj:=s R _ A V;have bm:=s I _ a7 H;have bo:=s E _ o8 a8;have l9:=z.put (.map (JW (setK l (fS p) (i:Int)))) aT;simp only[Ud,Nat.reduceLT,↓reduceIte,Nat.reduceEqDiff,reduceCtorEq,Il,Mt,Co,Qs,m0,m1,D,Q,ay,lp,uI,lk,Cw,sm];generalize m.put M (.map (JW (setK l (fS p) (i:Int))))=h9 at*;have br:=E3 bo;obtain⟨b0,b1,bx,bF,b2,⟨c',aB,aE,aK⟩,bQ,aM⟩:=push_in w9 bm aq B (by rw[N];exact w) F (fS p);have u:(ps.take (i+1)).map fS=(ps.take i).map fS++[fS p]:=by rw[C,qy];rfl
 simp only[Ud,Nat.reduceLT,↓reduceIte,Nat.reduceEqDiff,reduceCtorEq,br,bx,bF,Gm i QT];refine cX (ps.length-(i+1)) [(0,.int .i64 n),(4,.pointer (some ⟨R,0,none⟩)),(6,.map (some M)),(7,.slice (some ⟨I,0,none⟩) (((ps.take i).map fS).length+1) ps.length),(28,v),(29,.int .i64 ps.length),(30,.int .i64 (i+1:Nat))] QT vy
  ⟨i+1,_,c',rfl,w,by rw[u,Vw];rfl,aM R _ bj (Hn y),aM M _ bb (Hn H),fun q=>?_,aB,aE,by rw[u];exact aK,fun q t=>?_,?_,bQ h l9 ah⟩
 .rw[rH,J,u,uK];simp;exact or_comm
 .rw [C, uK] at t
  rcases t with t|t
  .exact K q t
  .simp at t;subst t;omega
 .rw [u, KM]
  refine⟨L,YX,fun a ha b hb e=>?_⟩;simp at hb;subst hb;subst e;exact q4 ha
end
section
open Go.Proofs
structure TM where
 bs:List (List Pr)
 cs:LF
 ls:List Pr
end
section
attribute [local irreducible] xM Db AE oJ
open Go.Proofs
variable {es:List Pr} {n:Nat}
def lkU (i:Nat) (b:List Pr) (cs:wi) (k:Nat):List Pr:=((List.range k).filter fun j=>SN ((cs.getD j 0:Nat):Int) b).map fun(j:Nat)=>((i:Int),(j:Int))
def cz (bs:List (List Pr)) (cs:wi) (i:Nat):List Pr:=(List.range i).flatMap fun k=>lkU k (bs.getD k []) cs cs.length
def pW (i:Nat) (b:List Pr) (cs:wi) (k:Nat):lkU i b cs (k+1)=lkU i b cs k++if SN ((cs.getD k 0:Nat):Int) b then[((i:Int),(k:Int))]else[]:=by
 rw[lkU,pR,zQ,qy];congr 1;by_cases h:SN ((cs.getD k 0:Nat):Int) b=true
 .rw[if_pos h,fC (by exact h)];rfl
 .rw[if_neg h,V4 (by exact h)];rfl
def RQ (bs:List (List Pr)) (cs:wi) (i:Nat):cz bs cs (i+1)=cz bs cs i++lkU i (bs.getD i []) cs cs.length:=by
 rw[cz,pR,As];simp[cz]
def sT (n:Nat) (es:List Pr):TM:=⟨AE n es,aW (Db n es),cz (AE n es) (Db n es) (AE n es).length⟩
def JoinG (n:Nat) (es:List Pr):Prop:=es≠[]/\(Ju n es).length=1
def Uz (c:xO ⟨(n:Int),es⟩) (d:es≠[]):0<(AE n es).length:=by
 obtain⟨p,l,rfl⟩:=bq d;obtain⟨k,b,e,_⟩:=HS c (jR (a:=p) (l:=l));have:=(bH.1 e).1;omega
end
section
open Go.Proofs
structure LinkOK (b n:Nat) (p:Pr):Prop where
 x0:0<=p.1
 x1:p.1<(b:Int)
 y0:0<=p.2
 y1:(b:Int)+p.2<(n:Int)
end
section
attribute [local instance] Classical.propDecidable
def dO (b:Nat) (ls:List Pr):List Pr:=ls.map fun p=>(p.1,(b:Int)+p.2)
structure Lk (b n:Nat) (ls:List Pr):Prop where
 n0:n≠0
 len:ls.length+1=n
 ok:∀p∈ls,LinkOK b n p
 je:∀v,v<n->Xb (dO b ls) 0 v
end
section
open Go.Proofs
def mk57 (h:AHeap) (n:Nat) (a:n<=1000):aMakeSlice Tryz.prog h 27 (.int .i64 (n:Int)) (.int .i64 (n:Int))=some (.slice (some ⟨h.next,0,none⟩) n n,h.alloc (.cells (List.replicate n (.slice none 0 0)))):=
 IG (P:=Tryz.prog) (t:=27) (z:=.slice none 0 0) h qS9 zd rfl rfl rfl zd Rm zd n QT
def sA (h:AHeap) (n:Nat) (a:n<=1000):aMakeSlice Tryz.prog h 59 (.int .i64 (n:Int)) (.int .i64 (n:Int))=some (.slice (some ⟨h.next,0,none⟩) n n,h.alloc (.cells (List.replicate n (.bool false)))):=
 IG (P:=Tryz.prog) (t:=59) (z:=.bool false) h aO rfl rfl rfl rfl zd v7 zd n QT
def mk35 (h:AHeap) (n:Nat) (a:n<=1000):aMakeSlice Tryz.prog h 49 (.int .i64 (n:Int)) (.int .i64 (n:Int))=some (.slice (some ⟨h.next,0,none⟩) n n,h.alloc (.cells (List.replicate n (.int .i64 0)))):=
 IG (P:=Tryz.prog) (t:=49) (z:=.int .i64 0) h Rm rfl rfl rfl rfl zd Ik zd n QT
end
section
attribute [local irreducible] xM Db AE oJ
open Go.Proofs
variable {es:List Pr} {n:Nat}
def OW (d:I7 n es) (e:0<n) (c:es≠[]) (h:∀v,v<n->Xb es 0 v):JoinG n es:=by
 refine⟨c,?_⟩;obtain⟨a,ha,f⟩:=zh d 0 e;have:∀b∈Ju n es,b=a:=fun b hb=>wW hb ha ((h b (jS.1 hb).1).symm.trans f.symm);exact pI (xk n es) ha this
def pT {u v w:Nat} (h:Xb es u v) (a:xA es v w):Xb es u w:=h.step a rfl
end
section
attribute [local instance] Classical.propDecidable
attribute [local irreducible] xM Db AE oJ
open Go.Proofs
variable {b es:List Pr} {c i j k n u v:Nat} {p:Pr} {α:Type}
def DM {bs:List (List Pr)} {cs:wi}:∀k,p∈cz bs cs k↔∃i j:Nat,i<k/\j<cs.length/\SN ((cs.getD j 0:Nat):Int) (bs.getD i [])=true/\p=((i:Int),(j:Int)):=by
 intro k;unfold cz lkU;rw[H0];constructor
 .rintro ⟨i, hi, b⟩
  obtain⟨j,a,rfl⟩:=T8.1 b;rw[sX,vq]at a;exact⟨i,j,vq.1 hi,a.1,a.2,rfl⟩
 .rintro ⟨i, j, hi, a, ha, rfl⟩
  exact⟨i,vq.2 hi,T8.2 ⟨j,sX.2 ⟨vq.2 a,ha⟩,rfl⟩⟩
def OV (i:Nat) (b:List Pr) (cs:wi):∀k,k<=cs.length->(lkU i b cs k).length=((cs.take k).filter fun c=>SN ((c:Nat):Int) b).length
 |0,_=>by simp[lkU]
 |k+1,h=>by
  rw[pW,Vw,OV i b cs k QT,Ox,zQ,Vw];have a:cs[k]?=some cs[k]:=dR h;rw[a,Option.toList_some,YR h];by_cases q:SN ((cs[k]:Nat):Int) b=true
  .rw[if_pos q,UR,if_pos q];rfl
  .rw[if_neg q,UR,if_neg q];rfl
def xo (bs:List (List Pr)) (cs:wi):∀k,k<=bs.length->(cz bs cs k).length=(cs.map fun c=>((bs.take k).filter (SN ((c:Nat):Int))).length).sum
 |0,_=>by
  rw[cz];simp only[List.range_zero,List.flatMap_nil,Lz,AP,IF]
  induction cs with
  |nil=>rfl
  |cons c cs a=>rw[Kj,Lh,<-a]
 |k+1,h=>by
  rw[RQ,Vw,xo bs cs k QT,OV k _ cs cs.length (J4 _),Cp];have hb:bs[k]?=some bs[k]:=dR h;rw[Ox,hb,Option.toList_some,YR h];clear hb;generalize bs[k]=b;generalize bs.take k=l
  induction cs with
  |nil=>rfl
  |cons c cs a=>
   rw[Kj,Kj,Lh,Lh,<-a,zQ,Vw,UR (x:=c)];by_cases q:SN ((c:Nat):Int) b=true
   .rw[if_pos q,UR,if_pos q];simp only[jD,IF,Lz];omega
   .rw[if_neg q,UR,if_neg q];simp only[IF,Lz];omega
def Jk (h:(Ju n es).length=1) (a:u<n) (c:v<n):Xb es u v:=by
 have i:0<n:=QT;have m0:0∈Ju n es:=jS.2 ⟨i,fun u a=>by omega⟩;obtain⟨x,f⟩:=Fl.1 h;rw[f,Rb]at m0;subst m0;have key:∀k v,v<=k->v<n->Xb es 0 v:=by
  intro k
  induction k with
  |zero=>intro v j _;obtain rfl:v=0:=QT;exact Xb.refl _ _
  |succ k l=>
   intro v j c;by_cases e:v=0
   .subst e;exact Xb.refl _ _
   have g:v∉Ju n es:=by rw[f,Rb];exact e
   rw[jS]at g;have:∃u,u<v/\Xb es u v:=mS fun d=>g ⟨c,fun u a b=>d ⟨u,a,b⟩⟩;obtain⟨u,a,d⟩:=this;exact(l u QT QT).trans d
 exact(key _ u (J4 _) a).symm.trans (key _ v (J4 _) c)
def YJ {l:List α} (nd:l.Nodup) {x:α} (h:l[i]?=some x) (g:l[j]?=some x):i=j:=by
 obtain⟨a,b⟩:=bH.1 h;obtain⟨h2,c⟩:=bH.1 g;rw[gY,cR]at nd;rcases zX i j with q|q|q
 .exact absurd (b.trans c.symm) (nd i j a h2 q)
 .exact q
 .exact absurd (c.trans b.symm) (nd j i h2 a q)
def Om (h:(AE n es)[k]?=some b):∃x,(kj (oJ n es) es)[k]?=some x/\b=es.filter fun p=>decide (oJ n es p=x):=by
 rw[vf,Rv,Option.map_eq_some_iff]at h;obtain⟨x,a,h2⟩:=h;exact⟨x,a,h2.symm⟩
def Zv (h:(AE n es)[k]?=some b) (a:p∈b):p∈es:=by
 obtain⟨x,_,rfl⟩:=Om h;exact(sX.1 a).1
def at_mem {v:Int} (a:p∈b) (h:TE v p=true):SN v b=true:=by
 unfold SN;rw[oZ];exact⟨p,a,h⟩
def bJ (hR:xO ⟨(n:Int),es⟩) (f:v<n) {b c:List Pr} (h:(AE n es)[j]?=some b) (g:(AE n es)[k]?=some c) (hb:SN (v:Int) b=true) (d:SN (v:Int) c=true) (ne:j≠k):
  ∃m:Nat,(Db n es)[m]?=some v:=by
 have a:=hR.si;have h2:1<fD n es v:=by
  rw[SU,Gw (XJ n es v)];obtain⟨x,i,rfl⟩:=Om h;obtain⟨y,l,rfl⟩:=Om g;rw[O9 a]at hb d;refine⟨x,y,(sW a).2 hb,(sW a).2 d,fun e=>ne ?_⟩;subst e;have nd:=(NW (oJ n es) _ es rfl).1;exact YJ nd i l
 rw[aU a]at h2;exact OH.1 ((mH a v).2 ⟨f,h2⟩)
def link_in (h:(AE n es)[i]?=some b) (g:(Db n es)[j]?=some c):((i:Int),(j:Int))∈(sT n es).ls↔SN (c:Int) b=true:=by
 have d:=(bH.1 h).1;have f:=(bH.1 g).1;have eb:(AE n es).getD i []=b:=by rw[List.getD,h];rfl
 have a:(Db n es).getD j 0=c:=by rw[List.getD,g];rfl
 show _∈cz _ _ _↔_;rw[DM];constructor
 .rintro ⟨k, l, _, _, ha, e⟩
  rw[Ig]at e;obtain rfl:i=k:=QT;obtain rfl:j=l:=QT;rw[eb,a]at ha;exact ha
 .intro ha
  exact⟨i,j,d,f,by rw[eb,a];exact ha,rfl⟩
def KZ (h:(AE n es)[i]?=some b) (g:(Db n es)[j]?=some c) (ha:SN (c:Int) b=true):xA (dO (AE n es).length (sT n es).ls) i ((AE n es).length+j):=by
 left;refine T8.2 ⟨_,(link_in h g).2 ha,?_⟩;rw[Ig];exact⟨rfl,YX⟩
def WL (hR:xO ⟨(n:Int),es⟩) (e:v<n) {b c:List Pr} (h:(AE n es)[j]?=some b) (g:(AE n es)[k]?=some c) (hb:SN (v:Int) b=true) (a:SN (v:Int) c=true):Xb (dO (AE n es).length (sT n es).ls) j k:=by
 by_cases ne:j=k
 .subst ne;exact Xb.refl _ _
 obtain⟨m,d⟩:=bJ hR e h g hb a ne;exact(NZ (KZ h d hb)).trans (NZ (KZ g d a)).symm
def Gy (hR:xO ⟨(n:Int),es⟩) (o:u<n) (p:Xb es u v):∀{j k:Nat} {b c:List Pr},(AE n es)[j]?=some b->(AE n es)[k]?=some c->SN (u:Int) b=true->SN (v:Int) c=true->Xb (dO (AE n es).length (sT n es).ls) j k:=by
 have f:=hR.si
 induction p with
 |refl _=>intro j k b c h g hb e;exact WL hR o h g hb e
 |@step w x _ a _ q=>
  intro j k b c h g hb e;obtain⟨m,d,i,l,_⟩:=HS hR (V0 f a);have r:SN (w:Int) d=true:=at_mem l WT;have h2:SN (x:Int) d=true:=at_mem l (by rw[Ug];exact WT);exact(q h i hb r).trans (WL hR (a.lt f).2 i g h2 e)
def Ir (hR:xO ⟨(n:Int),es⟩) (k:JoinG n es):Lk (AE n es).length ((AE n es).length+(Db n es).length) (sT n es).ls:=by
 have g:=hR.si;have o:=Uz hR k.1;have E:=FY hR;have f:∀i b,(AE n es)[i]?=some b->∃a c:Nat,((a:Int),(c:Int))∈b/\a<n/\SN (a:Int) b=true:=fun i b hb=>by
  obtain⟨p,l,rfl⟩:=bq (E.ne b (Jb hb));obtain⟨a,c,rfl,u,q,_⟩:=ends g (Zv hb jR);exact⟨a,c,jR,QT,at_mem jR (by simp[TE])⟩
 have blk:∀i,i<(AE n es).length->Xb (dO (AE n es).length (sT n es).ls) 0 i:=fun i hi=>by
  have r:(AE n es)[i]?=some (AE n es)[i]:=dR hi;have B:(AE n es)[0]?=some (AE n es)[0]:=dR o;obtain⟨a,_,_,ha,ea⟩:=f _ _ B;obtain⟨c,_,_,t,F⟩:=f _ _ r;exact Gy hR ha (Jk k.2 ha t) B r ea F
 refine⟨QT,?_,fun p G=>?_,fun v J=>?_⟩
 .have K := Nl g
  have L:(sT n es).ls.length=((Db n es).map (fD n es)).sum:=by
   show(cz _ _ _).length=_;rw[xo _ _ _ (J4 _),Cp];rfl
  have r:((Ju n es).filter fun h=>decide (0<fD n es h)).length=1:=by
   obtain⟨x,C⟩:=Fl.1 k.2;have w:x∈Ju n es:=by rw[C];simp
   have y:=(jS.1 w).1;obtain⟨p,l,rfl⟩:=bq k.1;obtain⟨a,c,rfl,u,q,z⟩:=ends g (jR);have hi:0<fD n (((a:Int),(c:Int))::l) x:=by
    rw[G2 g];by_cases e:x=a
    .subst e;exact⟨c,z⟩
    .exact(mZ (Jk k.2 y (show a<n by omega)) e).1
   rw[C,UR,if_pos (by simpa using hi)];rfl
  omega
 .obtain ⟨i, j, hi, H, _, rfl⟩ := (DM _).1 G
  exact⟨YX,by simp only;omega,YX,by simp only;omega⟩
 .by_cases hb : v < (AE n es).length
  .exact blk v hb
  obtain⟨j,rfl⟩:∃j,v=(AE n es).length+j:=⟨v-(AE n es).length,QT⟩;have A:j<(Db n es).length:=QT;have t:(Db n es)[j]?=some (Db n es)[j]:=dR A;obtain⟨q,s⟩:=(mH g _).1 (Jb t);obtain⟨a,_,ha,_⟩:=s;obtain⟨m,d,D,I,_⟩:=HS hR (V0 g ha);have r:SN (((Db n es)[j]:Nat):Int) d=true:=at_mem I WT;exact(blk m (bH.1 D).1).trans (NZ (KZ D t r))
end
end Go.Fw
namespace Go.Fw
open Go.Proofs
attribute [local instance] Classical.propDecidable
def dN {a j:Nat} (h:j<a):a-(j+1)<a-j:=QT
section
variable {n : Nat} {es : List Pr} {rs : List (List Int)}
def Yi (a:I7 n es) (ha:BD es) {v:Nat} {l:LF}:wq l=(Oc n es).getD v []↔l.Perm ((Oc n es).getD v []):=by
 constructor
 .intro h
  rw[<-h];exact(aaf _ _).symm
 .intro p
  have hb:=vM es a ha v;have nd:l.Nodup:=p.nodup_iff.2 (gY.2 (hb.imp fun h e=>by omega));have b:=xg l;have h2:(wq l).Nodup:=(aaf _ _).nodup_iff.2 nd;rw[gY]at h2;exact LK _ _ ((b.and h2).imp fun h=>by omega) hb fun x=>by rw[uh,p.mem_iff]
def Kd (v:Nat) (l:LF):List Pr:=(l.filter fun w=>decide ((v:Int)<w)).map fun w=>((v:Int),w)
def toldE (rs:CA):Nat->List Pr
 |0=>[]
 |k+1=>toldE rs k++Kd k (rs.getD k [])
def uS {k:Nat} {p:Pr}:p∈toldE rs k↔∃v:Nat,v<k/\p.1=(v:Int)/\p.2∈rs.getD v []/\p.1<p.2:=by
 induction k with
 |zero=>simp[toldE]
 |succ k b=>
  rw[toldE,uK,b,Kd];simp only[T8,sX,decide_eq_true_eq];constructor
  .rintro (⟨v, a, h2⟩ | ⟨w, ⟨a, h2⟩, rfl⟩)
   .exact⟨v,QT,h2⟩
   .exact⟨k,QT,rfl,a,h2⟩
  .rintro ⟨v, a, h2, h3, c⟩
   by_cases e:v=k
   .subst e
    exact .inr ⟨p.2,⟨h3,QT⟩,X9 h2.symm rfl⟩
   .exact .inl ⟨v,QT,h2,h3,c⟩
def Gj (hR:xO ⟨(n:Int),es⟩) (G:Kk n es rs):Zr (n:Int) (toldE rs n)/\sortP ((toldE rs n).map fS)=es:=by
 have i:=hR.si;have l:∀p,p∈toldE rs n↔p∈es:=fun p=>by
  rw[uS];constructor
  .rintro ⟨v, m, d, h2, h3⟩
   obtain⟨_,w,e,hw,ha⟩:=G.nat i h2;have:=V0 i ha;rw[iD,bE QT,Nat.max_eq_right QT]at this;rw[show p=((v:Int),(w:Int))from X9 d e];exact this
  .intro j
   obtain⟨a,c,rfl,o,q,ha⟩:=ends i j;exact⟨a,QT,rfl,(G.perm a QT).mem_iff.2 ((M8 i a c).2 ha),by simp only;omega⟩
 have nd:(toldE rs n).Nodup:=by
  have key:∀k,k<=n->(toldE rs k).Nodup:=by
   intro k
   induction k with
   |zero=>intro _;simp[toldE]
   |succ k r=>
    intro s;rw[toldE,KM];refine⟨r QT,?_,fun a ha b hb e=>?_⟩
    .rw [Kd, gY, UB]
     have nd:(rs.getD k []).Nodup:=(G.perm k QT).nodup_iff.2 (gY.2 ((vM es i hR.Fx k).imp fun h e=>by omega));exact((gY.1 nd).filter _).imp fun h e=>h (by injection e)
    .subst e
     obtain⟨v,m,d,_⟩:=uS.1 ha;obtain⟨w,_,rfl⟩:=T8.1 hb;simp only at d;omega
  exact key n (J4 _)
 have f:(toldE rs n).map fS=toldE rs n:=by
  conv=>rhs;rw[<-aac (toldE rs n)]
  refine vG fun p j=>?_;have:=i p ((l p).1 j);exact X9 (by simp only[fS,id];omega) (by simp only[fS,id];omega)
 have g:sortP (toldE rs n)=es:=by
  have d:=WU (toldE rs n);have h2:(sortP (toldE rs n)).Nodup:=(dt _).nodup_iff.2 nd;rw[gY]at h2;refine Dy _ _ ((d.and h2).imp fun{x y} h=>?_) (zj.1 hR.Fx) fun p=>by rw[pj,l]
  obtain⟨d,h2⟩:=h;rcases d with d|⟨d,h3⟩
  .exact .inl d
  .refine .inr ⟨d, ?_⟩
   have:x.2≠y.2:=fun e=>h2 (X9 d e);omega
 have hlen:(toldE rs n).length=es.length:=by
  have:=congrArg List.length g;rwa[M1]at this
 refine⟨⟨hR.n0,hR.n1,by rw[hlen];exact hR.len,fun p j=>?_,by rw[f];exact nd⟩,by rw[f,g]⟩;have:=i p ((l p).1 j);simp only[fS];omega
end
end Go.Fw
namespace Go.Fw
section
attribute [local irreducible] Ax YH XZ Uk KO KN KX KE VK DK Q7 dK W9
open Go.Proofs
def lN (b:Ac) (v:Value) (xs:LF) (h:AHeap) (c:RL IJ h v xs):AC Tryz.prog b 67 [v] h fun x h'=>∃B,x=.func (.func 117) #[] #[.pointer (some ⟨B,0,none⟩)]/\h.next<=B/\h'.own B=some (.cells [v])/\Le h h':=by
 refine AC.vE ⟨Tryz.func67,rfl,xr⟩ Tryz.ntmps67 Tryz.results67 fun a=>?_;simp only[xq,Nat.reduceAdd];obtain⟨d,e,l1,w1,f⟩:=mV a [v]
 have g:Qq h v=some (.pointer (some ⟨h.next,0,none⟩),d):=by
  rw[<-e];obtain⟨_,_,rfl,_⟩:=c.sl;rfl
 simp only[Ud,Nat.reduceLT,↓reduceIte,Nat.reduceEqDiff,g]
 exact⟨h.next,rfl,J4 _,f,l1⟩
def yc (m:Ac) (b B:Nat) (v:Value) (xs:LF) (I:Nat->AHeap->Prop) (h:AHeap) (w:xs.length<1000000)
  (d:∀i g,I i g->g.own B=some (.cells [v])/\RL IJ g v xs) (f:I 0 h)
  (n:∀i g (hi:i<xs.length),WF g->h.next<=g.next->I i g->AY Tryz.prog m b [.int .i64 xs[i]] g fun x j=>x=.bool true/\h.next<=j.next/\I (i+1) j):
  AC Tryz.prog m 117 [Kc b,.pointer (some ⟨B,0,none⟩)] h fun _ h'=>I xs.length h':=by
 have ld:∀i g,I i g->aload Tryz.prog g 49 ⟨B,0,none⟩=some v:=fun i g hi=>by rw[wT Rm rfl (d i g hi).1];rfl
 refine AC.vE ⟨Tryz.func117,rfl,xr⟩ Tryz.ntmps117 Tryz.results117 fun o=>?_;simp only[xq,Nat.reduceAdd];have p:=fun g=>(d _ _ f).2.zw g;simp only[Ud,Nat.reduceLT,↓reduceIte,ld _ _ f,p]
 refine W9.intro (fun k fr g=>∃i:Nat,k=xs.length-i/\i<=xs.length/\fr=mkF [(0,Kc b),(5,v),(6,.int .i64 xs.length),(7,.int .i64 i)]/\h.next<=g.next/\I i g) xs.length [(0,Kc b),(5,v),(6,.int .i64 xs.length),(7,.int .i64 (0:Nat))] vy ⟨0,rfl,KW _,rfl,J4 _,f⟩ ?_
 rintro k fr g q ⟨i,rfl,hi,rfl,hle,a⟩;refine yq ?_;refine DK.intro (fun r=>?_) (fun hf=>?_)
 .have e : i < xs.length := Ub r
  have s:=(d _ _ a).2.addr (k:=.i64) Rm Ik rfl i e;have le:=(d _ _ a).2.HN i e;simp only[Ud,Nat.reduceLT,↓reduceIte,Nat.reduceEqDiff,reduceCtorEq,s,le];refine dK.yield (by simp only[Ud,↓reduceIte,Nat.reduceEqDiff,yieldOf]<;>rfl) (n i g e q hle a) ?_;rintro x j t ⟨rfl,c,l⟩;simp only[Ud,Nat.reduceLT,↓reduceIte,Nat.reduceEqDiff,reduceCtorEq,Gm i QT];exact cX (xs.length-(i+1)) [(0,Kc b),(5,v),(6,.int .i64 xs.length),(7,.int .i64 (i+1:Nat))] QT vy ⟨i+1,rfl,e,rfl,c,l⟩
 .have u : xs.length <= i := Yv hf
  obtain rfl:i=xs.length:=QT;refine yq ?_;exact a
def qY (H:Ac) (B:Nat) (v:Value) (xs:LF) (h:AHeap) (hB:h.own B=some (.cells [v])) (I:RL IJ h v xs) (Y:xs.length<=1000):
  AC Tryz.prog H 153 [.slice none 0 0,.func (.func 117) #[] #[.pointer (some ⟨B,0,none⟩)]] h fun x h'=>GI h' x xs/\Le h h'/\tQ h x:=by
 refine AC.vE ⟨Tryz.func153,rfl,xr⟩ Tryz.ntmps153 Tryz.results153 fun j=>?_;simp only[xq,Nat.reduceAdd];obtain⟨o,G,l1,w1,J⟩:=mV j [.slice none 0 0]
 have K:Qq h (.slice none 0 0)=some (.pointer (some ⟨h.next,0,none⟩),o):=by rw[<-G];rfl
 have nS:h.own h.next=none:=(Le.refl h).next j (J4 _)
 have q:o.next=h.next+1:=by rw[<-G];rfl
 simp only[Ud,Nat.reduceLT,↓reduceIte,Nat.reduceEqDiff,K]
 generalize h.next=S at*
 refine VK.rangeFunc (gf:=117) (first:=#[]) (cap:=#[.pointer (some ⟨B,0,none⟩)]) (by simp only[Ud,↓reduceIte]) ⟨Tryz.func117,rfl,xr⟩ xr fun L M N=>?_
 refine(yc L M B v xs (fun k g=>∃d,g.own S=some (.cells [d])/\GI g d (xs.take k)/\Le h g/\tQ h d/\blk d≠some S) o QT (fun k g ⟨_,_,_,i,_⟩=>⟨i.own _ _ hB,I.le Rr.IJ i⟩) ⟨_,J,GI.nil _,l1,(fun b hb=>by cases hb),by simp[blk]⟩ ?_).mono fun _ O r Q=>?_
 .intro k g R T hle s
  obtain⟨d,oS,p,i,ax,nx⟩:=s;refine N _ _ _ rfl hle ?_;have U:xs.take (k+1)=xs.take k++[xs[k]]:=QM R;have V:(xs.take k).length=k:=by rw[Ja];omega
  generalize xs[k]=y at*;have lS:aload Tryz.prog g 49 ⟨S,0,none⟩=some d:=by rw[wT Rm rfl oS];rfl
  obtain⟨v',W,l,u,w,f,z,X,A,C⟩:=p.push T y (by rw[V];omega);obtain⟨D,E⟩:=A h i ax;obtain⟨m,n⟩:=C S _ oS nx;have st:=Qr (P:=Tryz.prog) (t:=49) (x:=v') Rm zd m (off:=0) YX (by obtain⟨a,c,e,_⟩:=(GS.cs f).sl;rw[e];rfl) (GS.cs f).sl.one;have oo:=AHeap.zm l S (.cells [v']);simp only[Ud,Nat.reduceLT,↓reduceIte,Nat.reduceEqDiff,putPs,lS,u,w,st,aae,cf]
  have F:o.next<=(l.put S (.cells [v'])).next:=by rw[q];exact z.lt m
  refine⟨trivial,F,v',oo,?_,D.put _ nS,E,n⟩;rw[U];exact GS.put f _ n
 .obtain ⟨d, oS, p, i, ax, nx⟩ := r
  rw[Cp]at p;have lS:aload Tryz.prog O 49 ⟨S,0,none⟩=some d:=by rw[wT Rm rfl oS];rfl
  simp only[Ud,Nat.reduceLT,↓reduceIte,Nat.reduceEqDiff,lS];exact⟨p,i,ax⟩
def Ec (a:Ac) (B:Nat) (v:Value) (xs:LF) (h:AHeap) (hB:h.own B=some (.cells [v])) (b:RL IJ h v xs) (c:xs.length<=1000):
  AC Tryz.prog a 116 [.func (.func 117) #[] #[.pointer (some ⟨B,0,none⟩)]] h fun x h'=>GI h' x xs/\Le h h'/\tQ h x:=by
 refine AC.vE ⟨Tryz.func116,rfl,xr⟩ Tryz.ntmps116 Tryz.results116 fun d=>?_;simp only[xq,Nat.reduceAdd];refine yq ?_;refine dK.intro pK ⟨Tryz.func153,rfl,xr⟩ (qY a B v xs h hB b c) ?_;rintro x h2 g ⟨e,l2,f⟩;refine yq ?_;exact⟨e,l2,f⟩
def Fz (a:Ac) (B:Nat) (v:Value) (xs:LF) (h:AHeap) (hB:h.own B=some (.cells [v])) (c:RL IJ h v xs) (d:xs.length<=1000):
  AC Tryz.prog a 66 [.func (.func 117) #[] #[.pointer (some ⟨B,0,none⟩)]] h fun x h'=>GI h' x (wq xs)/\Le h h'/\tQ h x:=by
 refine AC.vE ⟨Tryz.func66,rfl,xr⟩ Tryz.ntmps66 Tryz.results66 fun e=>?_;simp only[xq,Nat.reduceAdd];refine yq ?_;refine dK.intro pK ⟨Tryz.func116,rfl,xr⟩ (Ec a B v xs h hB c d) ?_;rintro x h2 j ⟨f,l2,b⟩;refine yq ?_;refine dK.intro pK ⟨qS31,rfl,xr⟩ (ND a f QT) ?_;rintro y h3 k ⟨rfl,g,i⟩;refine yq ?_;exact⟨g,i h l2 b,b⟩
def qx (q:Ac) (v w:Value) (xs ys:LF) (h:AHeap) (j:RL IJ h v xs) (hw:RL IJ h w ys) (z:xs.length<=100000):
  AC Tryz.prog q 65 [v,w] h fun x h'=>x=.bool (decide (xs=ys))/\h'=h:=by
 refine AC.vE ⟨Tryz.func65,rfl,xr⟩ Tryz.ntmps65 Tryz.results65 fun r=>?_;simp only[xq,Nat.reduceAdd];have n:=fun g=>j.zw g;have lw:=fun g=>hw.zw g;by_cases c:(xs.length:Int)=ys.length
 rotate_left
 .have d : decide ((xs.length : Int) = ys.length) = false := decide_eq_false c
  simp only[Ud,Nat.reduceLT,↓reduceIte,Nat.reduceEqDiff,reduceCtorEq,n,lw,bne,d];exact⟨by rw[decide_eq_false (fun e=>c (by rw[e]))],trivial⟩
 have c':xs.length=ys.length:=QT;have d:decide ((xs.length:Int)=ys.length)=true:=decide_eq_true c;simp only[Ud,Nat.reduceLT,↓reduceIte,Nat.reduceEqDiff,reduceCtorEq,n,lw,bne,d];refine W9.intro (fun k fr hh=>∃i:Nat,k=xs.length-i/\i<=xs.length/\hh=h/\fr=mkF [(0,v),(1,w),(12,.int .i64 xs.length),(13,.int .i64 i)]/\xs.take i=ys.take i)
  xs.length [(0,v),(1,w),(12,.int .i64 xs.length),(13,.int .i64 (0:Nat))] vy ⟨0,rfl,KW _,rfl,rfl,rfl⟩ ?_
 rintro k fr hh-⟨i,rfl,hi,rfl,rfl,l⟩;refine yq ?_;refine DK.intro (fun s=>?_) (fun hf=>?_)
 .have a : i < xs.length := Ub s
  have t1:xs.take (i+1)=xs.take i++[xs[i]]:=QM a;have t:ys.take (i+1)=ys.take i++[ys[i]'(by omega)]:=QM QT
  have o:=j.qW i a;have ld:=j.HN i a;have b:=hw.qW i QT;have f:=hw.HN i QT;have u:=XR a;have p:=XR (show i<ys.length by omega);generalize xs[i]=x at*;generalize ys[i]'(by omega)=y at*
  refine yq ?_;refine rD (vu [0,1,2,3,4,5,6,7,8] .done) ?_;by_cases e:x=y
  .have d2 : decide (x = y) = true := decide_eq_true e
   simp only[Ud,Nat.reduceLT,↓reduceIte,Nat.reduceEqDiff,reduceCtorEq,rm,o,ld,b,f,bne,d2,Gm i QT];exact cX (xs.length-(i+1)) [(0,v),(1,w),(12,.int .i64 xs.length),(13,.int .i64 (i+1:Nat))] QT vy ⟨i+1,rfl,a,rfl,rfl,by rw[t1,t,l,e]⟩
  .have d2 : decide (x = y) = false := decide_eq_false e
   simp only[Ud,Nat.reduceLT,↓reduceIte,Nat.reduceEqDiff,reduceCtorEq,rm,o,ld,b,f,bne,d2];exact by rw[decide_eq_false (fun e'=>e (by subst e';rw[u]at p;injection p))]
 .have m : xs.length <= i := Yv hf
  rw[xV m,xV QT]at l;refine yq ?_;exact⟨by rw[decide_eq_true l],trivial⟩
def eY (r:Ac) (v u:Value) (G:GM) (rs:CA) (h:AHeap) (hg:GR h v G) (s:RL (RL IJ) h u rs):AC Tryz.prog r 26 [v,u] h fun x h'=>BV (xO G/\Kk G.n.toNat G.es rs) x/\Le h h':=by
 have C:=hg;obtain⟨X,es⟩:=G
 obtain⟨ev,rfl,hp⟩:=hg.open
 refine AC.vE ⟨Tryz.func26,rfl,xr⟩ Tryz.ntmps26 Tryz.results26 fun Q=>?_;simp only[xq,Nat.reduceAdd];obtain⟨Y,b1,b,ah,-,Z⟩:=WY (n:=X) Q hp
 generalize h.next=B at*
 have R:=Z Y (Le.refl _);have lr:=fun g=>s.len (P:=Tryz.prog) Xx g;simp only[Ud,Nat.reduceLT,↓reduceIte,Nat.reduceEqDiff,b1,R.1];refine dK.intro pK ⟨Zj,rfl,xr⟩ (qG r _ _ Y (C.le b)) ?_;rintro x h2 aj ⟨⟨bb,rfl,m⟩,c⟩;have o:=Z h2 c;cases bb with
 |false=>
  refine yq ?_;exact⟨.f fun A=>Bool.noConfusion (m.2 A.1),b.trans c⟩
 |true=>
 have p:=m.1 rfl;clear m;have h0:0<=X:=p.n0;obtain⟨n,rfl⟩:=RT h0;have hR:=p.si;have S:(n:Int)<=200:=p.n1;have ad:es.length<=594:=p.len;have hA:=p.Fx;simp only[TK];by_cases c1:(rs.length:Int)=n
 rotate_left
 .have d1 : decide ((rs.length : Int) = n) = false := decide_eq_false c1
  simp only[Ud,Nat.reduceLT,↓reduceIte,Nat.reduceEqDiff,lr,Cq,Co,Qs,o.2.1,bne,d1];exact⟨.f fun A=>c1 (by have:=A.2.len;omega),b.trans c⟩
 have d1:decide ((rs.length:Int)=n)=true:=decide_eq_true c1;have T:rs.length=n:=QT;simp only[Ud,Nat.reduceLT,↓reduceIte,Nat.reduceEqDiff,lr,Cq,Co,Qs,o.2.1,bne,d1,o.1];refine dK.intro pK ⟨pw,rfl,xr⟩ (sJ r _ n es h2 (C.le (b.trans c)) p) ?_;rintro x h3 ak ⟨hb,U⟩;have V:=XM n es;have lb:=fun g=>hb.ae g;rw[V]at lb;have a:=(b.trans c).trans U;have D:∀v,v<n->((Oc n es).getD v []).length<=1200:=fun v s=>by
  have:=OI n es _ (om (show v<(Oc n es).length by omega));rw[YR QT];omega
 simp only[Ud,Nat.reduceLT,↓reduceIte,lb];refine W9.intro (fun k fr W=>∃(i:Nat),k=n-i/\i<=n/\fr=mkF [(1,u),(18,x),(19,.int .i64 n),(20,.int .i64 i)]/\Le h3 W/\∀v,v<i->(rs.getD v []).Perm ((Oc n es).getD v []))
  n [(1,u),(18,x),(19,.int .i64 n),(20,.int .i64 (0:Nat))] vy ⟨0,rfl,KW _,rfl,Le.refl _,fun v s=>by omega⟩ ?_
 rintro k fr W al ⟨i,rfl,hi,rfl,E,F⟩;refine yq ?_;refine DK.intro (fun ht=>?_) (fun hf=>?_)
 rotate_left
 .have aq : n <= i := Yv hf
  refine yq ?_;exact⟨.t ⟨p,T,fun v s=>F v QT⟩,a.trans E⟩
 have j:i<n:=Ub ht;clear ht;have HB:=hb.le (Rr.RL Rr.IJ) E;have ab:=HB.Jl i QT;obtain⟨bu,H,q⟩:=HB.load (P:=Tryz.prog) Rm rfl i QT;have HR:=s.le (Rr.RL Rr.IJ) (a.trans E);have ar:=HR.qP6 i QT;obtain⟨ru,I,l⟩:=HR.load (P:=Tryz.prog) Rm rfl i QT;rw[<-YR (d:=[]) QT]at q l;have J:=fun g=>q.zw g;have K:=fun g=>l.zw g;have N:=D i j;by_cases c2:((rs.getD i []).length:Int)=((Oc n es).getD i []).length
 rotate_left
 .have d2 : decide (((rs.getD i []).length : Int) = ((Oc n es).getD i []).length) = false := decide_eq_false c2
  simp only[Ud,Nat.reduceLT,↓reduceIte,Nat.reduceEqDiff,ab,H,ar,I,J,K,bne,d2];exact⟨.f fun A=>c2 (by have:=A.2.Gi j;omega),a.trans E⟩
 have d2:decide (((rs.getD i []).length:Int)=((Oc n es).getD i []).length)=true:=decide_eq_true c2;have ag:((Oc n es).getD i []).length<=1000:=by
  have L:=vM es hR hA i;have nd:((Oc n es).getD i []).Nodup:=gY.2 (L.imp fun h e=>by omega);have:=Jz nd (B:=(List.range n).map fun(v:Nat)=>(v:Int)) fun y hy=>by
   obtain⟨w,rfl,hw⟩:=iz hR hy;exact T8.2 ⟨w,vq.2 hw,rfl⟩
  rw[yA,xw]at this;omega
 simp only[Ud,Nat.reduceLT,↓reduceIte,Nat.reduceEqDiff,ab,H,ar,I,J,K,bne,d2];refine dK.intro pK ⟨Tryz.func67,rfl,xr⟩ (lN r ru _ W l) ?_;rintro y h5 w5 ⟨VB,rfl,-,oV,l5⟩;refine yq ?_;refine dK.intro pK ⟨Tryz.func66,rfl,xr⟩ (Fz r VB ru _ h5 oV (l.le Rr.IJ l5) QT) ?_;rintro y h6 w6 ⟨g6,l6,-⟩;refine yq ?_;refine dK.intro pK ⟨Tryz.func65,rfl,xr⟩ (qx r y bu _ _ h6 g6.rl (q.le Rr.IJ (l5.trans l6)) (by rw[Sl];omega)) ?_;rintro z h7 w7 ⟨rfl,rfl⟩;have M:=(E.trans l5).trans l6;by_cases O:wq (rs.getD i [])=(Oc n es).getD i []
 .have d3 : decide (wq (rs.getD i []) = (Oc n es).getD i []) = true := decide_eq_true O
  simp only[Ud,Nat.reduceLT,↓reduceIte,Nat.reduceEqDiff,d3,Gm i QT];exact cX (n-(i+1)) [(1,u),(18,x),(19,.int .i64 n),(20,.int .i64 (i+1:Nat))] (dN j) vy ⟨i+1,rfl,j,rfl,M,fun v s=>by
   by_cases e:v=i
   .subst e;exact(Yi hR hA).1 O
   .exact F v QT⟩
 .have d3 : decide (wq (rs.getD i []) = (Oc n es).getD i []) = false := decide_eq_false O
  simp only[Ud,Nat.reduceLT,↓reduceIte,Nat.reduceEqDiff,d3];exact⟨.f fun A=>O ((Yi hR hA).2 (A.2.perm i j)),a.trans M⟩
end
section
attribute [local irreducible] Ax YH XZ Uk KO KN KX KE VK DK Q7 dK W9
attribute [local irreducible] toldE Kd
open Go.Proofs
variable {N a i j n:Nat} {es:List Pr} {h:AHeap} {rs:CA}
def newE4 (hw:WF h):∃a h2,aAlloc Tryz.prog h 24=some (.pointer (some ⟨h.next,0,none⟩),a)/\aStore Tryz.prog a 24 (.pointer (some ⟨h.next,0,none⟩)) uX=some h2/\Le h h2/\WF h2:=by
 obtain⟨a,c,l1,w1,b⟩:=mV hw [.int .i64 0,.slice none 0 0]
 have d:h.own h.next=none:=(Le.refl h).next hw (J4 _)
 have st:=gU (n:=0) (ev:=.slice none 0 0) b rfl rfl;exact⟨a,_,by rw[rT,c],st,l1.put _ d,w1.put _ (w1.lt b)⟩
def Ro (v:Nat) (l:LF) (h:j<l.length):Kd v (l.take (j+1))=Kd v (l.take j)++if(v:Int)<l[j]then[((v:Int),l[j])]else[]:=by
 unfold Kd;rw[QM h,zQ,qy];congr 1;by_cases c:(v:Int)<l[j]
 .rw[if_pos c,UR,if_pos (by simpa using c)];rfl
 .rw[if_neg c,UR,if_neg (by simpa using c)];rfl
def kV (v:Nat) (l:LF):(Kd v l).length<=l.length:=by
 unfold Kd;rw[yA];exact ET _ _
def dP (rs:CA) (k:Nat):toldE rs (k+1)=toldE rs k++Kd k (rs.getD k []):=by rw[toldE]
def fE (rs:CA):toldE rs 0=[]:=by rw[toldE]
def Ld (hR:I7 n es) (hA:BD es) (G:Kk n es rs) {v:Nat} (a:v<n):(rs.getD v []).length<n:=by
 have IR:=G.Tw hR hA;have b:(Yg rs v).length=(rs.getD v []).length:=by rw[Yg,yA]
 have h2:=Jz (IR.nd v) (B:=(List.range n).erase v) fun w hw=>(SJ.mem_erase_iff).2 ⟨fun e=>IR.ir v (by rw[e]at hw;exact hw),vq.2 (IR.lt w v (IR.sy _ _ hw))⟩;rw[VZ (vq.2 a),xw]at h2;omega
def Tc {a i r N:Nat} (h:a<=i*N) (h2:r<=N):a+r<=(i+1)*N:=by rw[WB];omega
def Df (h:a<=i*N) (hi:i<=200) (b:N<=200):a<=40000:=by
 have:i*N<=200*200:=Xd hi b;omega
def YP (W0:Ac) (c:Value) (rs:CA) (h:AHeap) (V:RL (RL IJ) h c rs):
  AC Tryz.prog W0 118 [c] h fun x h'=>Le h h'/\((x=.tuple #[uX,.bool false]/\¬∃es,xO ⟨(rs.length:Int),es⟩/\Kk rs.length es rs)\/
   ∃es ev,xO ⟨(rs.length:Int),es⟩/\Kk rs.length es rs/\x=.tuple #[.agg #[.int .i64 rs.length,ev],.bool true]/\GP h' ev es/\tQ h ev):=by
 refine AC.vE ⟨Tryz.func118,rfl,xr⟩ Tryz.ntmps118 Tryz.results118 fun C=>?_;simp only[xq,Nat.reduceAdd];obtain⟨a,e1,l1,w1,o1⟩:=mV C [.int .i64 0,.slice none 0 0];have al:=rT h;rw[e1]at al
 have nR:h.own h.next=none:=(Le.refl h).next C (J4 _)
 generalize h.next=R at*
 have lr:=fun g=>V.len (P:=Tryz.prog) Xx g;have o:∀g:AHeap,Le a g->aStore Tryz.prog g 24 (.pointer (some ⟨R,0,none⟩)) uX=some (g.put R (.cells [.int .i64 0,.slice none 0 0])):=fun g lg=>gU (lg.own _ _ o1) rfl rfl;have ldE:∀g:AHeap,aload Tryz.prog (g.put R (.cells [.int .i64 0,.slice none 0 0])) 24 ⟨R,0,none⟩=some uX:=fun g=>tU (AHeap.zm _ _ _) ⟨_,_,_,rfl⟩;have fin:∀g:AHeap,Le a g->Le h (g.put R (.cells [.int .i64 0,.slice none 0 0])):=fun g lg=>(l1.trans lg).put _ nR;by_cases c1:(rs.length:Int)>200
 .have d1 : decide ((rs.length : Int) > 200) = true := decide_eq_true c1
  simp only[Ud,Nat.reduceLT,↓reduceIte,Nat.reduceEqDiff,reduceCtorEq,al,lr,d1,VG,o a (Le.refl _),ldE];exact⟨fin a (Le.refl _),.inl ⟨trivial,fun⟨es,A,_⟩=>by have:=A.n1;simp only at this;omega⟩⟩
 have d1:decide ((rs.length:Int)>200)=false:=decide_eq_false c1;have f:rs.length<=200:=QT;obtain⟨h2,e2,l2,w2,o2⟩:=mV w1 []
 have mk:aBuildSlice Tryz.prog a 22 0 []=some (.slice (some ⟨a.next,0,none⟩) 0 0,h2):=by rw[<-e2];rfl
 have nX:a.own a.next=none:=(Le.refl a).next w1 (J4 _)
 have g0:GP h2 (.slice (some ⟨a.next,0,none⟩) 0 0) (toldE rs 0):=by
  rw[fE];exact GS.full (k:=2) (n:=0) o2 rfl xr
 have E:tQ a (.slice (some ⟨a.next,0,none⟩) 0 0):=fun b hb=>by injection hb with hb;subst hb;exact nX
 simp only[Ud,Nat.reduceLT,↓reduceIte,reduceCtorEq,al,lr,d1,mk]
 generalize Value.slice (some ⟨a.next,0,none⟩) 0 0=ag at*
 refine W9.intro (fun k fr p=>∃(i:Nat) (B:Value),k=rs.length-i/\i<=rs.length/\fr=mkF [(0,c),(2,.pointer (some ⟨R,0,none⟩)),(4,B),(16,c),(17,.int .i64 rs.length),(18,.int .i64 i)]/\GP p B (toldE rs i)/\Le a p/\tQ a B/\(toldE rs i).length<=i*rs.length)
  rs.length [(0,c),(2,.pointer (some ⟨R,0,none⟩)),(4,ag),(16,c),(17,.int .i64 rs.length),(18,.int .i64 (0:Nat))] vy ⟨0,_,rfl,KW _,rfl,g0,l2,E,by rw[fE];exact KW _⟩ ?_
 clear g0 E;rintro k fr p aY ⟨i,B,rfl,hi,rfl,gx,r,ax,hlen⟩;refine yq ?_;refine DK.intro (fun F=>?_) (fun hf=>?_)
 .have m : i < rs.length := Ub F
  clear F;have ar:=V.qP6 i m;obtain⟨H,I,v⟩:=V.To i m;have J:=I p (l1.trans r);rw[<-YR (d:=[]) m]at v;have hs:=dP rs i;generalize K:rs.getD i []=row at*;have s:=fun g=>v.zw g;by_cases c2:(row.length:Int)>=rs.length
  .have d2 : decide ((row.length : Int) >= rs.length) = true := decide_eq_true c2
   simp only[Ud,Nat.reduceLT,↓reduceIte,Nat.reduceEqDiff,reduceCtorEq,ar,J,s,lr,d2,VG,o p r,ldE];refine⟨fin p r,.inl ⟨trivial,fun⟨es,A,G⟩=>?_⟩⟩;have:=Ld A.si A.Fx G m;rw[K]at this;omega
  have d2:decide ((row.length:Int)>=rs.length)=false:=decide_eq_false c2;have a1:row.length<=rs.length:=QT;simp only[Ud,Nat.reduceLT,↓reduceIte,Nat.reduceEqDiff,reduceCtorEq,ar,J,s,lr,d2];refine W9.intro (fun k fr W=>∃(j:Nat) (t:Value),k=row.length-j/\j<=row.length/\fr=mkF [(0,c),(2,.pointer (some ⟨R,0,none⟩)),(4,t),(5,.int .i64 i),(16,c),(17,.int .i64 rs.length),(18,.int .i64 i),(29,H),(30,.int .i64 row.length),(31,.int .i64 j)]/\GP W t (toldE rs i++Kd i (row.take j))/\Le a W/\tQ a t/\Le p p)
   row.length [(0,c),(2,.pointer (some ⟨R,0,none⟩)),(4,B),(5,.int .i64 i),(16,c),(17,.int .i64 rs.length),(18,.int .i64 i),(29,H),(30,.int .i64 row.length),(31,.int .i64 (0:Nat))] vy
   ⟨0,_,rfl,KW _,rfl,by rw[AP,show Kd i []=[]from by unfold Kd;rfl,C7];exact gx,r,ax,Le.refl _⟩ ?_
  rintro k fr W ah ⟨j,t,rfl,hj,rfl,X,Y,ay,-⟩;have u:RL IJ W H row:=v.le Rr.IJ (l1.trans Y);refine yq ?_;refine DK.intro (fun F=>?_) (fun hf=>?_)
  .have l : j < row.length := Ub F
   clear F;have ad:=u.qW j l;have ld:=u.HN j l;have st:=Ro i row l;have aj:=kV i (row.take j);rw[Ja]at aj;have ak:=Df hlen QT f;have L:=Gm j QT;generalize row[j]=w at*;by_cases Z:(i:Int)<w
   .have d3 : decide ((i : Int) < w) = true := decide_eq_true Z
    obtain⟨v',y,M,N,e5,g5,w5,l4,f5,k5⟩:=X.push ah ((i:Int),w) (by rw[Vw];omega);obtain⟨l5,a5⟩:=f5 a Y ay;simp only[Ud,Nat.reduceLT,↓reduceIte,Nat.reduceEqDiff,reduceCtorEq,ad,ld,d3,NJ,N,e5,L];exact cX (row.length-(j+1)) [(0,c),(2,.pointer (some ⟨R,0,none⟩)),(4,v'),(5,.int .i64 i),(16,c),(17,.int .i64 rs.length),(18,.int .i64 i),(29,H),(30,.int .i64 row.length),(31,.int .i64 (j+1:Nat))] (dN l) vy
     ⟨j+1,v',rfl,l,rfl,by rw[st,if_pos Z,<-Nd];exact g5,l5,a5,Le.refl _⟩
   .have d3 : decide ((i : Int) < w) = false := decide_eq_false Z
    simp only[Ud,Nat.reduceLT,↓reduceIte,Nat.reduceEqDiff,reduceCtorEq,ad,ld,d3,L];exact cX (row.length-(j+1)) [(0,c),(2,.pointer (some ⟨R,0,none⟩)),(4,t),(5,.int .i64 i),(16,c),(17,.int .i64 rs.length),(18,.int .i64 i),(29,H),(30,.int .i64 row.length),(31,.int .i64 (j+1:Nat))] (dN l) vy
     ⟨j+1,t,rfl,l,rfl,by rw[st,if_neg Z,C7];exact X,Y,ay,Le.refl _⟩
  .have O : row.length <= j := Yv hf
   rw[xV O,<-hs]at X;have aq:=Gm i QT;have a6:=kV i row;simp only[Ud,Nat.reduceLT,↓reduceIte,Nat.reduceEqDiff,reduceCtorEq,aq];exact cX (rs.length-(i+1)) [(0,c),(2,.pointer (some ⟨R,0,none⟩)),(4,t),(16,c),(17,.int .i64 rs.length),(18,.int .i64 (i+1:Nat))] (dN m) vy
    ⟨i+1,t,rfl,m,rfl,X,Y,ay,by rw[hs,Vw];exact Tc hlen QT⟩
 have O:rs.length<=i:=Yv hf;obtain rfl:i=rs.length:=QT;have ak:=Df hlen f f;simp only[Ud,Nat.reduceLT,↓reduceIte,Nat.reduceEqDiff,reduceCtorEq,lr];refine dK.intro pK ⟨Tryz.func29,rfl,xr⟩ (New_any W0 (rs.length:Int) B (toldE rs rs.length) p gx.pr QT) ?_;rintro x h3 w3 ⟨l3,⟨hn,kk,av,rfl⟩|⟨aB,ev,rfl,Q,a3⟩⟩
 .obtain ⟨aE, y, N, z, l4, w4⟩ := newE4 w3
  have d:decide (kk=0)=false:=decide_eq_false av;have S:=(r.trans l3).trans l4;simp only[Ud,Nat.reduceLT,↓reduceIte,Nat.reduceEqDiff,reduceCtorEq,N,z,bne,d,VG,o y S,ldE];exact⟨fin y S,.inl ⟨trivial,fun⟨es,A,G⟩=>hn (Gj A G).1⟩⟩
 obtain⟨aE,y,N,z,l4,w4,L4⟩:=newG w3 (n:=(rs.length:Int)) Q.pr;have d0:decide ((0:Int)=0)=true:=by decide
 have aK:=aB.right;have S:=(r.trans l3).trans l4;have gg:GR y (.agg #[.int .i64 rs.length,ev]) ⟨(rs.length:Int),sortP ((toldE rs rs.length).map fS)⟩:=⟨ev,rfl,Q.pr.le l4⟩;generalize aM:sortP ((toldE rs rs.length).map fS)=fs at*;simp only[Ud,Nat.reduceLT,↓reduceIte,Nat.reduceEqDiff,reduceCtorEq,N,z,bne,(L4 y (Le.refl _)).1]
 generalize h3.next=D at*
 refine dK.intro pK ⟨Tryz.func26,rfl,xr⟩ (eY W0 _ c ⟨(rs.length:Int),fs⟩ rs y gg (V.le (Rr.RL Rr.IJ) (l1.trans S))) ?_;rintro x M w5 ⟨⟨bb,rfl,T⟩,l5⟩;have q:=S.trans l5;cases bb with
 |false=>
  simp only[Ud,Nat.reduceLT,↓reduceIte,Nat.reduceEqDiff,reduceCtorEq,VG,o M q,ldE];refine⟨fin M q,.inl ⟨trivial,fun⟨es,A,G⟩=>?_⟩⟩;have:fs=es:=by rw[<-aM];exact(Gj A G).2
  subst this;exact Bool.noConfusion (T.2 ⟨A,by simpa using G⟩)
 |true=>
  obtain⟨-,hG⟩:=T.1 rfl;simp only[TK]at hG;have one:=Q.pr.sl.one;obtain⟨ea,ec,U,_⟩:=Q.pr.sl;have aQ:ev.cells=#[ev]:=by rw[U];rfl
  have oR:=q.own _ _ o1;have st:=gU (n:=(rs.length:Int)) (ev:=ev) oR one aQ;have oo:=AHeap.zm M R (.cells [.int .i64 (rs.length:Int),ev]);have aT:=tU (n:=(rs.length:Int)) (ev:=ev) oo ⟨ea,_,ec,U⟩;have aX:blk ev≠some R:=fun e=>by have:=a3 R e;rw[r.own _ _ o1]at this;cases this
  simp only[Ud,Nat.reduceLT,↓reduceIte,Nat.reduceEqDiff,reduceCtorEq,(L4 M l5).1,st,aT];exact⟨(l1.trans q).put _ nR,.inr ⟨fs,ev,aK,hG,rfl,(GS.le Q (l4.trans l5)).put _ aX,fun b hb=>(l1.trans r).none (a3 b hb)⟩⟩
end
end Go.Fw
namespace Go.Fw
open Go.Proofs
attribute [local instance] Classical.propDecidable
section
variable {α β : Type} [DecidableEq α]
def setV:List (α×β)->α->β->List (α×β)
 |[],k,v=>[(k,v)]
 |(a,b)::r,k,v=>if a=k then(k,v)::r else(a,b)::setV r k v
def lookV:List (α×β)->α->Option β
 |[],_=>none
 |(a,b)::r,k=>if a=k then some b else lookV r k
def IC (l:List (α×β)) (k c:α) (v:β):lookV (setV l k v) c=if k=c then some v else lookV l c:=by
 induction l with
 |nil=>simp[setV,lookV]
 |cons x r d=>
  obtain⟨a,b⟩:=x;simp only[setV];by_cases h:a=k
  .subst h;rw[if_pos rfl];simp only[lookV];split<;>simp_all
  .rw [if_neg h]; simp only [lookV, d]
   by_cases h2:a=c
   .subst h2;simp[Hn h]
   .simp[h2]
def r7 (l:List (α×β)) (k:α) (v:β):(lookV l k=none/\setV l k v=l++[(k,v)])\/∃(j:Nat) (b:β),lookV l k=some b/\l[j]?=some (k,b)/\(∀i,i<j->∀x,l[i]?=some x->x.1≠k)/\setV l k v=l.set j (k,v):=by
 induction l with
 |nil=>exact .inl ⟨rfl,rfl⟩
 |cons x r f=>
  obtain⟨a,b⟩:=x;simp only[setV,lookV];by_cases h:a=k
  .subst h
   rw[if_pos rfl,if_pos rfl];exact .inr ⟨0,b,rfl,rfl,QT,rfl⟩
  .rw [if_neg h, if_neg h]
   rcases f with⟨d,h2⟩|⟨j,c,d,h2,h3,g⟩
   .exact .inl ⟨d,by rw[h2];rfl⟩
   .refine .inr ⟨j + 1, c, d, by simpa using h2, fun i hi x e => ?_, by rw [g]; rfl⟩
    cases i with
    |zero=>simp at e;subst e;exact h
    |succ i=>exact h3 i QT x (by simpa using e)
end
def OD (l:List (Pr×Pr)):List (Value×Value):=l.map fun x=>(Ov x.1,Ov x.2)
def Zm (k:Pr):∀(l:List (Pr×Pr)) (i:Nat),(lookV l k=none->afind Tryz.prog 38 (Ov k) (OD l) i=some none)/\∀(j:Nat) b,l[j]?=some (k,b)->(∀q,q<j->∀x,l[q]?=some x->x.1≠k)->afind Tryz.prog 38 (Ov k) (OD l) i=some (some (i+j,Ov b))
 |[],i=>⟨fun _=>rfl,fun j b h=>by simp at h⟩
 |(a,b)::r,i=>by
  obtain⟨g,h2⟩:=Zm k r (i+1)
  have un:afind Tryz.prog 38 (Ov k) (OD ((a,b)::r)) i=match aEq Tryz.prog 38 (Ov k) (Ov a)with|some true=>some (some (i,Ov b))|some false=>afind Tryz.prog 38 (Ov k) (OD r) (i+1)|none=>none:=rfl
  rw[un,eqP];constructor
  .intro h
   simp only[lookV]at h;by_cases e:a=k
   .rw[if_pos e]at h;cases h
   .rw [if_neg e] at h
    have:decide (k=a)=false:=by simpa using Ne.symm e
    rw[this];exact g h
  .intro j c f d
   cases j with
   |zero=>
    simp at f;obtain⟨rfl,rfl⟩:=f;have:decide (a=a)=true:=by simp
    rw[this];rfl
   |succ j=>
    have e:a≠k:=d 0 QT (a,b) rfl;have:decide (k=a)=false:=by simpa using Ne.symm e
    rw[this];show afind Tryz.prog 38 (Ov k) (OD r) (i+1)=_;rw[h2 j c (by simpa using f) fun q o x m=>d (q+1) QT x (by simpa using m)];congr 3;omega
def NA {h:AHeap} {x:Value} (p:Pr) (ok:Bool):aLookup Tryz.prog h 143 x (Ov p) ok=none:=by
 simp only[aLookup,qS22,Ov]
def aD {h:AHeap} {x v:Value} (p:Pr):aMapSet Tryz.prog h 143 x (Ov p) v=none:=by
 simp only[aMapSet,qS22,Ov]
def cT {h:AHeap} {M:Nat} {l:List (Pr×Pr)} (d:h.own M=some (.map (OD l))) {k v:Pr} (c:lookV l k=some v):
  aLookupA Tryz.prog h 143 (.map (some M)) (Ov k) false=some (Ov v):=by
 have e:azero Tryz.prog 38=some (.agg #[.int .i64 0,.int .i64 0]):=zd;simp only[aLookupA,qS22,keyP,d,e,if_true];rcases r7 l k v with⟨a,_⟩|⟨j,b,a,h2,h3,_⟩
 .rw[a]at c;cases c
 .rw [c] at a; injection a with a; subst a
  rw[(Zm k l 0).2 j v h2 h3];rfl
def RO {h:AHeap} {M:Nat} {l:List (Pr×Pr)} (d:h.own M=some (.map (OD l))) (k v:Pr):aMapSetA Tryz.prog h 143 (.map (some M)) (Ov k) (Ov v)=some (h.put M (.map (OD (setV l k v)))):=by
 simp only[aMapSetA,qS22,keyP,d,if_true];rcases r7 l k v with⟨c,a⟩|⟨j,b,c,h2,h3,a⟩
 .rw[(Zm k l 0).1 c,a];simp[OD]
 .rw[(Zm k l 0).2 j b h2 h3,a];simp[OD]
def wU (d:JE):Pr:=((d.1:Int),(d.2:Int))
def NI {a b:JE} (h:wU a=wU b):a=b:=by
 simp only[wU,Ig]at h;exact X9 QT QT
section
variable {n : Nat} {es : List Pr} {rs : List (List Int)}
def Bw (a:I7 n es) (ha:BD es) (G:Kk n es rs) (v:Nat):(Oc n es).getD v []=((List.range n).filter fun w=>decide (w∈Yg rs v)).map fun(w:Nat)=>(w:Int):=by
 refine LK _ _ (vM es a ha v) ?_ fun x=>?_
 .rw [UB]
  exact((Be (n:=n)).filter _).imp fun h=>by omega
 .rw [T8]
  constructor
  .intro b
   obtain⟨w,rfl,hw⟩:=iz a b;exact⟨w,by rw[sX,vq,decide_eq_true_eq];exact⟨hw,(G.mem a).2 ((M8 a v w).1 b)⟩,rfl⟩
  .rintro ⟨w, hw, rfl⟩
   rw[sX,decide_eq_true_eq]at hw;exact(M8 a v w).2 ((G.mem a).1 hw.2)
noncomputable def Bb (n:Nat) (r:Nat->wi) (v:Nat):List JE:=((List.range n).filter fun w=>decide (w∈r v)).map fun w=>(v,w)
noncomputable def KK (n:Nat) (r:Nat->wi) (k:Nat):List JE:=(List.range k).flatMap (Bb n r)
def FI (n:Nat) (r:Nat->wi) (k:Nat):KK n r (k+1)=KK n r k++Bb n r k:=by
 rw[KK,pR,As];simp[KK]
def KS (n:Nat) (r:Nat->wi):KK n r n=ig n r:=rfl
def Xl {n:Nat} (r:Nat->wi) {k m:Nat} (h:k<=m):∃q,KK n r m=KK n r k++q:=by
 induction h with
 |refl=>exact⟨[],YX⟩
 |step _ a=>obtain⟨q,b⟩:=a;rw[FI,b,Nd];exact⟨_,rfl⟩
def ddl_at {n:Nat} (r:Nat->wi) {v j:Nat} (a:v<n) (c:j<(Bb n r v).length):∃q,ig n r=(KK n r v++(Bb n r v).take j)++(Bb n r v)[j]::q:=by
 obtain⟨q,b⟩:=Xl (n:=n) r (show v+1<=n from a);rw[<-KS,b,FI];refine⟨(Bb n r v).drop (j+1)++q,?_⟩;have:Bb n r v=(Bb n r v).take j++(Bb n r v)[j]::(Bb n r v).drop (j+1):=by
  rw[qL240];exact(aV j _).symm
 conv=>lhs;rw[this]
 simp only[Nd,E9]
def tK (r:Nat->wi) (P:List JE) (d:JE):Prop:=∃e∈P,kD (Mo r) e d
def hd_met {r:Nat->wi} (R:ZJ n r) {P Q:List JE} {d:JE} (h:ig n r=P++d::Q):Hd r d↔¬tK r P d:=by
 have p:=TL R;have hA:=cO n r;rw[h,zu,jO]at hA;obtain⟨_,⟨h2,_⟩,h3⟩:=hA;have f:d∈dl n r:=(ZE R).2 ((sY R).1 (by rw[h];simp));constructor
 .rintro hh ⟨e, g, o⟩
  have a:e∈dl n r:=(ZE R).2 ((sY R).1 (by rw[h];simp[g]));exact hh e (p.Tp a o) (h3 e g d YX)
 .intro i e o b
  have a:=p.vo f o;have:e∈ig n r:=(sY R).2 ((ZE R).1 a);rw[h,uK,aH]at this;rcases this with c|c|c
  .exact i ⟨e,c,p.Tp f o⟩
  .subst c;exact D3 _ b
  .exact D3 _ (TF b (h2 e c))
noncomputable def qd (r:Nat->wi) (P:List JE):CA:=(P.filter fun d=>decide (Hd r d)).map fun d=>aW (uQ r d)
noncomputable def dg (n:Nat) (rs:CA):CA:=(WW n (Yg rs)).map aW
def L5 (n:Nat) (rs:CA):qd (Yg rs) (ig n (Yg rs))=dg n rs:=by
 rw[dg,WW,kZ,qd,UD];rfl
def Oe (r:Nat->wi) (P:List JE) (d:JE):qd r (P++[d])=qd r P++if Hd r d then[aW (uQ r d)]else[]:=by
 rw[qd,zQ,qy];congr 1;by_cases h:Hd r d
 .rw[if_pos h,UR,if_pos (by simpa using h)];rfl
 .rw[if_neg h,UR,if_neg (by simpa using h)];rfl
end
end Go.Fw
namespace Go.Fw
section
attribute [local irreducible] Ax YH XZ Uk KO KN KX KE VK DK Q7 dK W9
attribute [local irreducible] toldE Kd dg qd KK Bb
open Go.Proofs
variable {M N a c id j k n o:Nat} {P:List JE} {es:List Pr} {h:AHeap} {r:Nat->wi} {rs:CA}
def tm_nat (a b:Nat):((a:Int)).tmod (b:Int)=((a%b:Nat):Int):=rfl
def Kk.row (a:I7 n es) (G:Kk n es rs) (v:Nat) (b:j<(rs.getD v []).length):∃h:j<(Yg rs v).length,(rs.getD v [])[j]=(((Yg rs v)[j]:Nat):Int):=by
 have hb:=G.back a v;have c:(Yg rs v).length=(rs.getD v []).length:=by rw[Yg,yA]
 refine⟨QT,?_⟩;have:((Yg rs v).map fun(x:Nat)=>(x:Int))[j]?=(rs.getD v [])[j]?:=by rw[hb]
 rw[Rv,dR QT,dR b]at this;injection this with this;exact this.symm
def EJ (a:I7 n es) (ha:BD es) (G:Kk n es rs) (v:Nat):(Bb n (Yg rs) v).length=((Oc n es).getD v []).length:=by
 rw[Bw a ha G,yA];unfold Bb;rw[yA]
def qC (d:I7 n es) (ha:BD es) (G:Kk n es rs) (v:Nat) (a:j<((Oc n es).getD v []).length) (b:j<(Bb n (Yg rs) v).length):
  ∃w:Nat,((Oc n es).getD v [])[j]=(w:Int)/\(Bb n (Yg rs) v)[j]=(v,w)/\w∈Yg rs v:=by
 have e:=Bw d ha G v;have c:j<((List.range n).filter fun w=>decide (w∈Yg rs v)).length:=by rw[e,yA]at a;exact a
 refine⟨((List.range n).filter fun w=>decide (w∈Yg rs v))[j],?_,?_,?_⟩
 .have : ((Oc n es).getD v [])[j]? = some ((((List.range n).filter fun w => decide (w ∈ Yg rs v))[j] : Nat) : Int) := by rw [e, Rv, dR c]; rfl
  rw[dR a]at this;injection this
 .have : (Bb n (Yg rs) v)[j]? = some (v, ((List.range n).filter fun w => decide (w ∈ Yg rs v))[j]) := by unfold Bb; rw [Rv, dR c]; rfl
  rw[dR b]at this;injection this
 .have := om c
  rw[sX,decide_eq_true_eq]at this;exact this.2
def Af {l:List (Pr×Int)} (a:h.own M=some (.map (JW l))) (k:Pr):aLookupA Tryz.prog h 88 (.map (some M)) (Ov k) false=some (.int .i64 ((lookK l k).getD 0)):=JK a k false
def Vr (a:h.own id=none):tQ h (.slice (some ⟨id,0,none⟩) n c):=fun b hb=>by injection hb with hb;subst hb;exact a
def hZ (n:Nat) (r:Nat->wi):∀k,(KK n r k).length<=k*n
 |0=>by unfold KK;simp
 |k+1=>by
  have a:=hZ n r k;have h2:(Bb n r k).length<=n:=by
   unfold Bb;rw[yA];have:=ET (fun w=>decide (w∈r k)) (List.range n);rwa[xw]at this
  rw[FI,Vw,WB];omega
def P2 (a:n<=200) {P Q:List JE} (h:ig n r=P++Q):(qd r P).length+1<=40001:=by
 have b:=hZ n r n;rw[KS,h,Vw]at b;have h2:n*n<=200*200:=Xd a a;have h3:(qd r P).length<=P.length:=by unfold qd;rw[yA];exact ET _ _
 omega
def Tj {d e:JE}:tK r (P++[d]) e↔tK r P e\/kD (Mo r) d e:=by
 simp only[tK,uK,Rb];constructor
 .rintro ⟨x, h | rfl, o⟩
  .exact .inl ⟨x,h,o⟩
  .exact .inr o
 .rintro (⟨x, h, o⟩ | o)
  .exact⟨x,.inl h,o⟩
  .exact⟨d,.inr rfl,o⟩
def Z8 (f:JE->JE) (d:JE) (k:Nat):((List.range (k+1)).map fun i=>(((it f i d).1:Nat):Int))=((List.range k).map fun i=>(((it f i d).1:Nat):Int))++[(((it f k d).1:Nat):Int)]:=by
 rw[pR,qy];rfl
def Ba (r:Nat->wi) (d:JE):((List.range (qS (Mo r) d)).map fun i=>(((it (Mo r) i d).1:Nat):Int))=aW (uQ r d):=by
 rw[aW,uQ,Vq,UD,UD];rfl
def lt_next (h:k<=o) (a:k≠o):k<o:=QT
def aw_len (h:a+1<=40001):awrap .i64 ((a:Int)+1)=((a+1:Nat):Int):=Gm a QT
def wu (a:Nat):(((a+1:Nat):Int))≠0:=QT
def le_big (h:a+1<=40001):a<=100000000:=QT
def len_ok5 (h:k<o) (h2:o<=N) (h3:N<=40000):k<=100000:=QT
open Classical in
theorem D5 (W0:Ac) (rv:Value) (rs:CA) (h:AHeap) (hv:RL (RL IJ) h rv rs):
  AC Tryz.prog W0 68 [rv] h fun x h'=>Le h h'/\((x=.tuple #[.slice none 0 0,.int .i64 70]/\¬∃es,xO ⟨(rs.length:Int),es⟩/\Kk rs.length es rs)\/
   ∃es f,xO ⟨(rs.length:Int),es⟩/\Kk rs.length es rs/\x=.tuple #[f,.int .i64 0]/\RL (RL IJ) h' f (dg rs.length rs)):=by
 refine AC.vE ⟨Tryz.func68,rfl,xr⟩ Tryz.ntmps68 Tryz.results68 fun fy=>?_;simp only[xq,Nat.reduceAdd];refine yq ?_;refine dK.intro pK ⟨Tryz.func118,rfl,xr⟩ (YP W0 rv rs h hv) ?_;rintro x h1 w1 ⟨l1,⟨rfl,dW⟩|⟨es,ev,hr,G,rfl,bY,-⟩⟩
 .obtain ⟨dY, h2, e2, aX, l2, w2⟩ := newE4 w1
  simp only[Ud,Nat.reduceLT,↓reduceIte,Nat.reduceEqDiff,reduceCtorEq,e2,aX];exact⟨l1.trans l2,.inl ⟨trivial,dW⟩⟩
 obtain⟨dY,h2,e2,aX,l2,w2,L2⟩:=newG w1 (n:=(rs.length:Int)) bY.pr
 generalize h1.next=P4 at*
 have hR:=hr.si;have hA:=hr.Fx;have IR:=G.Tw hR hA;have p:=TL IR;have ft:(rs.length:Int)<=200:=hr.n1;have fx:es.length<=594:=hr.len;have aY:=l1.trans l2
 obtain⟨h3,e3,l3,w3,o3⟩:∃h3,h2.alloc (.map [])=h3/\Le h2 h3/\WF h3/\h3.own h2.next=some (.map []):=⟨_,rfl,(Le.refl h2).alloc w2 _,w2.alloc _,AHeap.vA _ _⟩
 have ef:h2.own h2.next=none:=(Le.refl h2).next w2 (J4 _)
 have lr:=fun g=>hv.len (P:=Tryz.prog) Xx g;have J:∀v,v<rs.length->(rs.getD v []).length<rs.length:=fun v hv=>Ld hR hA G hv;simp only[Ud,Nat.reduceLT,↓reduceIte,Nat.reduceEqDiff,reduceCtorEq,e2,aX,e3,lr]
 generalize h2.next=A at*
 refine W9.intro (fun k fr T=>∃(i:Nat) (l:List (Pr×Pr)),k=rs.length-i/\i<=rs.length/\fr=mkF [(4,.pointer (some ⟨P4,0,none⟩)),(6,.map (some A)),(28,rv),(29,.int .i64 rs.length),(30,.int .i64 i)]/\
   T.own A=some (.map (OD l))/\Le h2 T/\∀d:JE,d.1∈Yg rs d.2->d.2<i->lookV l (wU d)=some (wU (Mo (Yg rs) d)))
  rs.length [(4,.pointer (some ⟨P4,0,none⟩)),(6,.map (some A)),(28,rv),(29,.int .i64 rs.length),(30,.int .i64 (0:Nat))] vy ⟨0,[],rfl,KW _,rfl,o3,l3,fun d _ h=>by omega⟩ ?_
 clear o3 w3 l3 e3;clear h3;rintro k fr T b0 ⟨i,l,rfl,hi,rfl,oB,lq,hl⟩;refine yq ?_;refine DK.intro (fun U=>?_) (fun hf=>?_)
 .have C : i < rs.length := Ub U
  clear U;have ar:=hv.qP6 i C;obtain⟨ru,b1,a1⟩:=hv.To i C;have b2:=b1 T (aY.trans lq);rw[<-YR (d:=[]) C]at a1;have fB:=J i C;have aK:=fun j (hj:j<(rs.getD i []).length)=>G.row hR i hj;have hlen:(Yg rs i).length=(rs.getD i []).length:=by rw[Yg,yA]
  generalize rs.getD i []=row at*;have aM:=fun g=>a1.zw g;simp only[Ud,Nat.reduceLT,↓reduceIte,Nat.reduceEqDiff,reduceCtorEq,ar,b2,aM];refine W9.intro (fun k fr u=>∃(j:Nat) (l:List (Pr×Pr)),k=row.length-j/\j<=row.length/\fr=mkF [(4,.pointer (some ⟨P4,0,none⟩)),(6,.map (some A)),(7,.int .i64 i),(8,ru),(28,rv),(29,.int .i64 rs.length),(30,.int .i64 i),(35,ru),(36,.int .i64 row.length),(37,.int .i64 j)]/\
    u.own A=some (.map (OD l))/\Le h2 u/\(∀d:JE,d.1∈Yg rs d.2->d.2<i->lookV l (wU d)=some (wU (Mo (Yg rs) d)))/\∀(m:Nat) (I:m<(Yg rs i).length),m<j->lookV l (wU ((Yg rs i)[m],i))=some (wU (Mo (Yg rs) ((Yg rs i)[m],i))))
   row.length [(4,.pointer (some ⟨P4,0,none⟩)),(6,.map (some A)),(7,.int .i64 i),(8,ru),(28,rv),(29,.int .i64 rs.length),(30,.int .i64 i),(35,ru),(36,.int .i64 row.length),(37,.int .i64 (0:Nat))] vy ⟨0,l,rfl,KW _,rfl,oB,lq,hl,fun m _ h=>by omega⟩ ?_
  clear oB hl b2;rintro k fr u ah ⟨j,l,rfl,hj,rfl,oB,lz,hl,b3⟩;refine yq ?_;refine DK.intro (fun U=>?_) (fun hf=>?_)
  .have r : j < row.length := Ub U
   clear U;have HZ:=a1.le Rr.IJ (aY.trans lz);have ad:=HZ.qW j r;have ld:=HZ.HN j r;have V:(j+1)%row.length<row.length:=JH _ QT;have eg:=HZ.qW ((j+1)%row.length) V;have b4:=HZ.HN ((j+1)%row.length) V;obtain⟨a6,ej⟩:=aK j r;obtain⟨fI,em⟩:=aK _ V;rw[ej]at ld;rw[em]at b4;have b5:=qK (IR.nd i) a6;simp only[hlen]at b5;have ak:=Gm j QT;have tm:=tm_nat (j+1) row.length;have dz:((row.length:Int)=0)=False:=eq_false QT;have aQ:Mo (Yg rs) ((Yg rs i)[j],i)=(i,(Yg rs i)[(j+1)%row.length]):=by rw[Mo];simp only[b5]
   have st:=RO oB (wU ((Yg rs i)[j],i)) (wU (Mo (Yg rs) ((Yg rs i)[j],i)));simp only[aQ,wU]at st;simp only[Ud,Nat.reduceLT,↓reduceIte,Nat.reduceEqDiff,reduceCtorEq,ad,ld,NJ,ak,aM,tm,dz,eg,b4,aD,st];refine cX (row.length-(j+1)) [(4,.pointer (some ⟨P4,0,none⟩)),(6,.map (some A)),(7,.int .i64 i),(8,ru),(28,rv),(29,.int .i64 rs.length),(30,.int .i64 i),(35,ru),(36,.int .i64 row.length),(37,.int .i64 (j+1:Nat))] (dN r) vy
    ⟨j+1,_,rfl,r,rfl,AHeap.zm _ _ _,lz.put _ ef,fun d hd al=>?_,fun m I eh=>?_⟩
   .rw [IC, if_neg]
    .exact hl d hd al
    .intro e
     have:=NI (a:=((Yg rs i)[j],i)) (b:=d) e;rw[<-this]at al;simp only at al;omega
   .rw [IC]
    by_cases e:m=j
    .subst e
     exact(if_pos rfl).trans (by rw[aQ];rfl)
    .rw [if_neg]
     .exact b3 m I (Jp (Nat.le_of_lt_succ eh) e)
     .intro e2
      have:=NI (a:=((Yg rs i)[j],i)) (b:=((Yg rs i)[m],i)) e2;simp only[Ig,and_true]at this;have nd:=IR.nd i;rw[gY,cR]at nd;rcases zX j m with q|q|q
      .exact nd j m a6 I q this
      .exact e q.symm
      .exact nd m j I a6 q this.symm
  .have W : row.length <= j := Yv hf
   have a7:=Gm i QT;simp only[Ud,Nat.reduceLT,↓reduceIte,Nat.reduceEqDiff,reduceCtorEq,a7];refine cX (rs.length-(i+1)) [(4,.pointer (some ⟨P4,0,none⟩)),(6,.map (some A)),(28,rv),(29,.int .i64 rs.length),(30,.int .i64 (i+1:Nat))] (dN C) vy
    ⟨i+1,l,rfl,C,rfl,oB,lz,fun d hd al=>?_⟩
   by_cases e:d.2=i
   .obtain ⟨a, b⟩ := d
    simp only at e hd;subst e;obtain⟨m,I,em⟩:=iV.1 hd;rw[<-em];exact b3 m I QT
   .exact hl d hd QT
 have W:rs.length<=i:=Yv hf;have b6:∀d:JE,d∈dl rs.length (Yg rs)->lookV l (wU d)=some (wU (Mo (Yg rs) d)):=fun d hd=>by
  have h1:=(ZE IR).1 hd;exact hl d (IR.sy _ _ h1) (K2 (IR.lt _ _ (IR.sy _ _ h1)) W)
 clear hl hf W hi;obtain⟨hb,eb,lb,wb,ob⟩:=mV b0 []
 obtain⟨L,ec,lc,wc,oc⟩:∃L,hb.alloc (.map [])=L/\Le hb L/\WF L/\L.own hb.next=some (.map []):=⟨_,rfl,(Le.refl hb).alloc wb _,wb.alloc _,AHeap.vA _ _⟩
 have ei:T.own T.next=none:=(Le.refl T).next b0 (J4 _)
 have bb:hb.own hb.next=none:=(Le.refl hb).next wb (J4 _)
 have X:T.next≠hb.next:=fun e=>by rw[<-e,ob]at bb;cases bb
 have b8:aBuildSlice Tryz.prog T 27 0 []=some (.slice (some ⟨T.next,0,none⟩) 0 0,hb):=by rw[<-eb];exact gi T
 have ek:=(L2 L ((lq.trans lb).trans lc)).1;simp only[Ud,Nat.reduceLT,↓reduceIte,Nat.reduceEqDiff,reduceCtorEq,b8,ec,ek]
 generalize T.next=F0 at*
 generalize hb.next=c at*
 have b9:(L.kill c).own F0=some (.cells []):=by rw[AHeap.pY _ _ _ X];exact lc.own _ _ ob
 have cc:Le T ((L.kill c).kill F0):=((lb.trans lc).ti (lb.none bb)).ti ei;refine dK.intro pK ⟨pw,rfl,xr⟩ (AC.frame oc (AC.frame b9 (sJ W0 _ rs.length es ((L.kill c).kill F0) ⟨ev,rfl,(bY.pr.le l2).le (lq.trans cc)⟩ hr))) ?_;rintro bv h5 w5 ⟨g1,⟨g,⟨bj,lg⟩,nF,rfl⟩,cd,rfl⟩;have nM:g.own c=none:=by rw[AHeap.Dz _ _ _ _ (Hn X)]at cd;exact cd
 have cg:=cc.trans lg;have bm:g.own A=some (.map (OD l)):=cg.own _ _ oB;have en:A≠c:=fun e=>by rw[e,nM]at bm;cases bm
 have eo:=XM rs.length es;have cr:=fun g=>bj.ae g;rw[eo]at cr;have cx:Le g ((g.put F0 (.cells [])).put c (.map [])):=((Le.refl g).put _ nF).put _ nM;have g0:Is (RL IJ) (rem [c] ((g.put F0 (.cells [])).put c (.map []))) (.slice (some ⟨F0,0,none⟩) 0 0) (qd (Yg rs) (KK rs.length (Yg rs) 0)):=by
  have:qd (Yg rs) (KK rs.length (Yg rs) 0)=[]:=by unfold qd KK;rfl
  rw[this];exact Is.empty _ (MR.2 ⟨by rw[AHeap.Dz _ _ _ _ X,AHeap.zm],by simpa using X⟩)
 have cQ:tQ g (.slice (some ⟨F0,0,none⟩) 0 0):=fun b hb=>by injection hb with hb;subst hb;exact nF
 have cY:blk (.slice (some ⟨F0,0,none⟩) 0 0)≠some c:=fun e=>by injection e with e;exact X e
 generalize Value.slice (some ⟨F0,0,none⟩) 0 0=c0 at*;have M:rs.length<=200:=QT;simp only[Ud,Nat.reduceLT,↓reduceIte,Nat.reduceEqDiff,reduceCtorEq,cr];refine W9.intro (fun k fr z=>∃(i:Nat) (f:Value) (m:List (Pr×Int)),k=rs.length-i/\i<=rs.length/\fr=mkF [(6,.map (some A)),(11,f),(12,.map (some c)),(61,bv),(62,.int .i64 rs.length),(63,.int .i64 i)]/\
   z.own c=some (.map (JW m))/\Is (RL IJ) (rem [c] z) f (qd (Yg rs) (KK rs.length (Yg rs) i))/\blk f≠some c/\Le g z/\tQ g f/\∀d∈dl rs.length (Yg rs),((lookK m (wU d)).getD 0≠0↔tK (Yg rs) (KK rs.length (Yg rs) i) d))
  rs.length [(6,.map (some A)),(11,c0),(12,.map (some c)),(61,bv),(62,.int .i64 rs.length),(63,.int .i64 (0:Nat))] vy
  ⟨0,c0,[],rfl,KW _,rfl,AHeap.zm _ _ _,g0,cY,cx,cQ,fun d _=>by simp[lookK,tK,KK]⟩ ?_
 clear g0 cY cQ cx w5 b8;rintro k fr z O ⟨i,f,m,rfl,hi,rfl,oM,gf,bf,K,af,I⟩;refine yq ?_;refine DK.intro (fun U=>?_) (fun hf=>?_)
 rotate_left
 .have W : rs.length <= i := Yv hf
  obtain rfl:i=rs.length:=QT;rw[KS,L5]at gf;refine yq ?_;exact⟨aY.trans (lq.trans (cg.trans K)),.inr ⟨es,f,hr,G,rfl,(gf.rl (Rr.RL Rr.IJ)).le (Rr.RL Rr.IJ) (iq _ _)⟩⟩
 have C:i<rs.length:=Ub U;clear U;have ab:=bj.Jl i QT;obtain⟨bu,c3,bo⟩:=bj.To i QT;have c4:=c3 z K;rw[<-YR (d:=[]) QT]at bo;have fL:=EJ hR hA G i;have ep:=fun j hj er=>qC hR hA G i (j:=j) hj er;have et:=fun j hj=>ddl_at (n:=rs.length) (Yg rs) (v:=i) (j:=j) C hj;have br:=FI rs.length (Yg rs) i;have eu:=OI rs.length es _ (om (show i<(Oc rs.length es).length by omega));rw[<-YR (d:=[]) QT]at eu;generalize (Oc rs.length es).getD i []=R at*;generalize Bb rs.length (Yg rs) i=D at*;have lR:=fun g=>bo.zw g;simp only[Ud,Nat.reduceLT,↓reduceIte,Nat.reduceEqDiff,reduceCtorEq,ab,c4,lR];refine W9.intro (fun k fr u=>∃(j:Nat) (f:Value) (m:List (Pr×Int)),k=R.length-j/\j<=R.length/\fr=mkF [(6,.map (some A)),(11,f),(12,.map (some c)),(13,.int .i64 i),(61,bv),(62,.int .i64 rs.length),(63,.int .i64 i),(68,bu),(69,.int .i64 R.length),(70,.int .i64 j)]/\
   u.own c=some (.map (JW m))/\Is (RL IJ) (rem [c] u) f (qd (Yg rs) (KK rs.length (Yg rs) i++D.take j))/\blk f≠some c/\Le g u/\tQ g f/\∀d∈dl rs.length (Yg rs),((lookK m (wU d)).getD 0≠0↔tK (Yg rs) (KK rs.length (Yg rs) i++D.take j) d))
  R.length [(6,.map (some A)),(11,f),(12,.map (some c)),(13,.int .i64 i),(61,bv),(62,.int .i64 rs.length),(63,.int .i64 i),(68,bu),(69,.int .i64 R.length),(70,.int .i64 (0:Nat))] vy
  ⟨0,f,m,rfl,KW _,rfl,oM,by rw[AP,C7];exact gf,bf,K,af,by rw[AP,C7];exact I⟩ ?_
 clear oM gf bf K af I c4 O;clear z f m;rintro k fr z O ⟨j,f,m,rfl,hj,rfl,oM,gf,bf,K,af,I⟩;refine yq ?_;refine DK.intro (fun U=>?_) (fun hf=>?_)
 rotate_left
 .have W : R.length <= j := Yv hf
  rw[xV QT,<-br]at gf I;have a7:=Gm i QT;simp only[Ud,Nat.reduceLT,↓reduceIte,Nat.reduceEqDiff,reduceCtorEq,a7];exact cX (rs.length-(i+1)) [(6,.map (some A)),(11,f),(12,.map (some c)),(61,bv),(62,.int .i64 rs.length),(63,.int .i64 (i+1:Nat))] (dN C) vy
   ⟨i+1,f,m,rfl,C,rfl,oM,gf,bf,K,af,I⟩
 have r:j<R.length:=Ub U;clear U;have bx:j<D.length:=QT;obtain⟨w,ew,ed,ey⟩:=ep j r bx;obtain⟨Q,hQ⟩:=et j bx;have tk:D.take (j+1)=D.take j++[D[j]]:=QM bx;rw[ed]at hQ tk;have aq:KK rs.length (Yg rs) i++D.take (j+1)=(KK rs.length (Yg rs) i++D.take j)++[(i,w)]:=by rw[tk,Nd]
 generalize KK rs.length (Yg rs) i++D.take j=P at*;have H:((i,w):JE)∈dl rs.length (Yg rs):=(ZE IR).2 ey;have c5:=hd_met IR hQ;have c6:=P2 M hQ;have da:=Oe (Yg rs) P (i,w);have HB:=bo.le Rr.IJ K;have aj:=HB.qW j r;have lj:=HB.HN j r;rw[ew]at lj;have ak:=Gm j QT;obtain⟨fN,F,eE,sE,lE,wE,oE⟩:=bS O ((i:Int),(w:Int))
 have nE:z.own z.next=none:=(Le.refl z).next O (J4 _)
 generalize z.next=E0 at*
 have Y:=lE.own _ _ oM;have lk:=Af Y ((i:Int),(w:Int));have db:=I _ H;have dc:=E3 oE;have bF:=K.trans lE;have av:=gf.le (Rr.RL Rr.IJ) (lE.rS (l:=[c]));by_cases cm:(lookK m ((i:Int),(w:Int))).getD 0=0
 rotate_left
 .have dm : decide ((lookK m ((i : Int), (w : Int))).getD 0 = 0) = false := decide_eq_false cm
  simp only[Ud,Nat.reduceLT,↓reduceIte,Nat.reduceEqDiff,reduceCtorEq,aj,lj,NJ,eE,sE,dc,uI,lk,bne,dm,ak];have S:=db.1 cm;exact cX (R.length-(j+1)) [(6,.map (some A)),(11,f),(12,.map (some c)),(13,.int .i64 i),(61,bv),(62,.int .i64 rs.length),(63,.int .i64 i),(68,bu),(69,.int .i64 R.length),(70,.int .i64 (j+1:Nat))] (dN r) vy
   ⟨j+1,f,m,rfl,r,rfl,Y,by rw[aq,da,if_neg (fun h=>c5.1 h S),C7];exact av,bf,bF,af,fun e he=>by
    rw[aq,Tj,I e he];exact⟨.inl,fun x=>x.elim id fun o=>by obtain⟨y,hy,o'⟩:=S;exact⟨y,hy,o'.trans o⟩⟩⟩
 have dm:decide ((lookK m ((i:Int),(w:Int))).getD 0=0)=true:=decide_eq_true cm;have dd:¬tK (Yg rs) P (i,w):=fun h=>db.2 h cm;obtain⟨o0,o1,o2⟩:=zZ p H;have dj:qS (Mo (Yg rs)) (i,w)<=40000:=by
  have h1:=Jz (lK p H) (B:=ig rs.length (Yg rs)) fun y hy=>(sY IR).2 ((ZE IR).1 (p.vo H ((Ts p H).1 hy)));rw[Dw]at h1;have h2:=hZ rs.length (Yg rs) rs.length;rw[KS]at h2;have h3:rs.length*rs.length<=200*200:=Xd M M;omega
 obtain⟨hF,eF,lF,wF,oF⟩:=mV wE []
 have nC:F.own F.next=none:=(Le.refl F).next wE (J4 _)
 have dp:aBuildSlice Tryz.prog F 49 0 []=some (.slice (some ⟨F.next,0,none⟩) 0 0,hF):=by rw[<-eF];exact mkI0 F
 generalize F.next=C0 at*
 have bI:GI hF (.slice (some ⟨C0,0,none⟩) 0 0) []:=GS.full (k:=1) (n:=0) oF rfl xr;have bQ:tQ F (.slice (some ⟨C0,0,none⟩) 0 0):=Vr nC;generalize Value.slice (some ⟨C0,0,none⟩) 0 0=Z at*;have ldF:=E3 (lF.own _ _ oE);obtain⟨eA,hG,eG,sG,lG,wG,oG⟩:=bS wF ((i:Int),(w:Int))
 have nG:hF.own hF.next=none:=(Le.refl hF).next wF (J4 _)
 generalize hF.next=E1 at*
 have K0:Le (rem [c] F) hG:=(iq _ _).trans (lF.trans lG);have kM:(rem [c] F).own c=none:=by rw[Q3,if_pos YX]
 have kB:(rem [c] F).own A=some (.map (OD l)):=MR.2 ⟨bF.own _ _ bm,by simpa using en⟩;have dr:tQ (rem [c] F) Z:=fun b hb=>(iq [c] F).none (bQ b hb);have dv:=lG.own _ _ (lF.own _ _ Y);have cM:blk Z≠some c:=fun e=>by have:=bQ _ e;rw[Y]at this;cases this
 have cE:blk Z≠some E1:=fun e=>GS.Rf bI e nG;have eM:E1≠c:=fun e=>by rw[e,lF.own _ _ Y]at nG;cases nG
 have kE:(rem [c] F).own E1=none:=(iq [c] F).none (lF.none nG);have eB:Le g (rem [c] F):=bF.Cj (l:=[c]) fun b hb=>by rw[Rb]at hb;subst hb;exact nM
 have eC:=fun g=>(av.rl (Rr.RL Rr.IJ)).ae g;have dw:=aw_len c6;simp only[Ud,Nat.reduceLT,↓reduceIte,Nat.reduceEqDiff,reduceCtorEq,aj,lj,NJ,eE,sE,dc,uI,lk,bne,dm,dp,ldF,eG,sG];refine W9.intro (fun kk fr u=>∃(k:Nat) (cv:Value) (E:Nat) (N:List (Pr×Int)),kk=qS (Mo (Yg rs)) (i,w)-k/\k<=qS (Mo (Yg rs)) (i,w)/\fr=mkF [(6,.map (some A)),(11,f),(12,.map (some c)),(13,.int .i64 i),(18,cv),(19,.pointer (some ⟨E,0,none⟩)),(61,bv),(62,.int .i64 rs.length),(63,.int .i64 i),(68,bu),(69,.int .i64 R.length),(70,.int .i64 j)]/\
   u.own E=some (.cells (Zh (wU (it (Mo (Yg rs)) k (i,w)))))/\u.own c=some (.map (JW N))/\GI u cv ((List.range k).map fun x=>(((it (Mo (Yg rs)) x (i,w)).1:Nat):Int))/\Le (rem [c] F) u/\tQ (rem [c] F) cv/\blk cv≠some c/\blk cv≠some E/\E≠c/\
   ∀e∈dl rs.length (Yg rs),((lookK N (wU e)).getD 0≠0↔tK (Yg rs) P e\/∃x,x<k/\it (Mo (Yg rs)) x (i,w)=e))
  (qS (Mo (Yg rs)) (i,w)) [(6,.map (some A)),(11,f),(12,.map (some c)),(13,.int .i64 i),(18,Z),(19,.pointer (some ⟨E1,0,none⟩)),(61,bv),(62,.int .i64 rs.length),(63,.int .i64 i),(68,bu),(69,.int .i64 R.length),(70,.int .i64 j)] vy
  ⟨0,Z,E1,m,rfl,KW _,rfl,oG,dv,GI.le bI lG,K0,dr,cM,cE,eM,fun e he=>by rw[I e he];exact⟨.inl,fun x=>x.elim id fun⟨y,hy,_⟩=>by omega⟩⟩ ?_
 clear K0 dr dv cM cE eM kE bI bQ oG nG wG lG sG eG ldF dp nC oF wF lF eF;clear hG eA hF;rintro kk fr u ah ⟨k,cv,E,N,rfl,hk,rfl,dx,ag,gc,lz,ac,cM,cE,eM,bV⟩;have dy:=p.F4 H k;have dA:=bV _ dy;have dB:=Af ag (wU (it (Mo (Yg rs)) k (i,w)));have dE:=E3 dx;by_cases ck:k=qS (Mo (Yg rs)) (i,w)
 .have S : (lookK N (wU (it (Mo (Yg rs)) k (i, w)))).getD 0 ≠ 0 := dA.2 (.inr ⟨0, QT, by rw [ck, o1]; rfl⟩)
  have dk:decide ((lookK N (wU (it (Mo (Yg rs)) k (i,w)))).getD 0=0)=false:=decide_eq_false S;simp only[Ud,Nat.reduceLT,↓reduceIte,Nat.reduceEqDiff,reduceCtorEq,dE,uI,dB,dk];rw[ck,Ba]at gc;have eD:Le (rem [c] F) (rem [c] u):=lz.Cj fun b hb=>by rw[Rb]at hb;subst hb;exact kM
  have eI:=av.le (Rr.RL Rr.IJ) eD;have hb:∀b,blk f=some b->b∉[c]:=fun b hb I=>by rw[Rb]at I;subst I;exact bf hb
  have eL:∀b,blk f=some b->blk cv≠some b:=fun b hb L=>by
   obtain⟨us,g1,_⟩:=av;exact GS.Rf g1 hb (ac b L)
  have gu:RL IJ (rem [c] (rem (bl f) u)) cv (aW (uQ (Yg rs) (i,w))):=by
   have q:GI (rem [c] (rem (bl f) u)) cv (aW (uQ (Yg rs) (i,w))):=GS.TQ (GS.TQ gc (l:=bl f) fun b hb L=>eL b (ED.1 L) hb) (l:=[c]) fun b AD L=>by
    rw[Rb]at L;exact cM (L▸AD)
   exact q.rl
  obtain⟨h7,dH,h8,e7,e8,eQ,l7,w7,f8,k8⟩:=Is.zS (P:=Tryz.prog) (t:=27) (Rr.RL Rr.IJ) zd eI ah gu gu.sl.one (le_big c6) hb (fun b hb=>by rw[Rb]at hb;subst hb;rw[ag];simp);obtain⟨eS,eT⟩:=k8 c _ ag bf;obtain⟨l8,a8⟩:=f8 g (eB.trans lz) af;simp only[Ud,Nat.reduceLT,↓reduceIte,Nat.reduceEqDiff,reduceCtorEq,mkL52 u gu.sl,e7,e8,ak];refine cX (R.length-(j+1)) [(6,.map (some A)),(11,dH),(12,.map (some c)),(13,.int .i64 i),(61,bv),(62,.int .i64 rs.length),(63,.int .i64 i),(68,bu),(69,.int .i64 R.length),(70,.int .i64 (j+1:Nat))] (dN r) vy
   ⟨j+1,dH,N,rfl,r,rfl,eS,by rw[aq,da,if_pos (c5.2 dd)];exact eQ,eT,l8,a8,fun e he=>?_⟩
  rw[aq,Tj,bV e he];constructor
  .rintro (h | ⟨x, _, h⟩)
   .exact .inl h
   .exact .inr ⟨x,h⟩
  .rintro (h | ⟨x, h⟩)
   .exact .inl h
   .refine .inr ⟨x % qS (Mo (Yg rs)) (i, w), by rw [ck]; exact JH _ o0, ?_⟩
    rw[<-IN p H];exact h
 .have ay := lt_next hk ck
  have dI:¬((lookK N (wU (it (Mo (Yg rs)) k (i,w)))).getD 0≠0):=fun h=>by
   rcases dA.1 h with⟨y,hy,o⟩|⟨x,hx,e⟩
   .have fO : y ∈ dl rs.length (Yg rs) := (ZE IR).2 ((sY IR).1 (by rw [hQ]; simp [hy]))
    exact dd ⟨y,hy,o.trans (p.Tp H ⟨k,rfl⟩)⟩
   .exact Mb p H ay hx e
  have dk:decide ((lookK N (wU (it (Mo (Yg rs)) k (i,w)))).getD 0=0)=true:=decide_eq_true (mS dI);have aT:=b6 _ dy;have bW:Mo (Yg rs) (it (Mo (Yg rs)) k (i,w))=it (Mo (Yg rs)) (k+1) (i,w):=rfl;rw[bW]at aT;have aB:=Z8 (Mo (Yg rs)) (i,w) k;have st1:=Ge ag (wU (it (Mo (Yg rs)) k (i,w))) ((qd (Yg rs) P).length+1:Nat);generalize hD:it (Mo (Yg rs)) k (i,w)=s at*;have eU:=AHeap.zm u c (.map (JW (setK N (wU s) ((qd (Yg rs) P).length+1:Nat))));have e0:Le (rem [c] F) (u.put c (.map (JW (setK N (wU s) ((qd (Yg rs) P).length+1:Nat))))):=lz.put _ kM;have e1:WF (u.put c (.map (JW (setK N (wU s) ((qd (Yg rs) P).length+1:Nat))))):=ah.put _ (ah.lt ag);have dL:(u.put c (.map (JW (setK N (wU s) ((qd (Yg rs) P).length+1:Nat))))).own E=some (.cells (Zh (wU s))):=by rw[AHeap.Dz _ _ _ _ eM];exact dx
  have e9:GI (u.put c (.map (JW (setK N (wU s) ((qd (Yg rs) P).length+1:Nat))))) cv ((List.range k).map fun x=>(((it (Mo (Yg rs)) x (i,w)).1:Nat):Int)):=GS.put gc _ cM;generalize u.put c (.map (JW (setK N (wU s) ((qd (Yg rs) P).length+1:Nat))))=fb at*;have m0:aload Tryz.prog fb 3 ⟨E,0,none⟩=some (.int .i64 (s.1:Int)):=Ol dL;obtain⟨bX,h4,h5,e4,e5,g5,w5,l4,f5,k5⟩:=e9.push e1 ((s.1:Nat):Int) (by rw[yA,xw];exact len_ok5 ay dj (J4 _));obtain⟨l5,a5⟩:=f5 _ e0 ac;obtain⟨dM,fe⟩:=k5 c _ eU cM;obtain⟨ff,fQ⟩:=k5 E _ dL cE;have fk:=E3 ff;obtain⟨fT,h6,e6,s6,l6,w6,o6⟩:=bS w5 (wU s)
  have aE:h5.own h5.next=none:=(Le.refl h5).next w5 (J4 _)
  generalize h5.next=E' at*
  have fm:=E3 o6;have dQ:=l5.trans l6;have fp:=cT (dQ.own _ _ kB) aT;have st2:=Qf (p:=wU (it (Mo (Yg rs)) (k+1) (i,w))) o6;have dT:E'≠c:=fun e=>by rw[e,dM]at aE;cases aE
  have dV:blk bX≠some E':=fun e=>GS.Rf g5 e aE;have fq:=AHeap.zm h6 E' (.cells (Zh (wU (it (Mo (Yg rs)) (k+1) (i,w)))));have fs:(h6.put E' (.cells (Zh (wU (it (Mo (Yg rs)) (k+1) (i,w)))))).own c=some (.map (JW (setK N (wU s) ((qd (Yg rs) P).length+1:Nat)))):=by rw[AHeap.Dz _ _ _ _ (Hn dT)];exact l6.own _ _ dM
  simp only[Ud,Nat.reduceLT,↓reduceIte,Nat.reduceEqDiff,reduceCtorEq,dE,uI,dB,dk,eC,dw,Cw,st1,Il,Co,Qs,m0,e4,e5,fk,e6,s6,NA,fm,fp,st2];refine cX (qS (Mo (Yg rs)) (i,w)-(k+1)) [(6,.map (some A)),(11,f),(12,.map (some c)),(13,.int .i64 i),(18,bX),(19,.pointer (some ⟨E',0,none⟩)),(61,bv),(62,.int .i64 rs.length),(63,.int .i64 i),(68,bu),(69,.int .i64 R.length),(70,.int .i64 j)] (dN ay) vy
   ⟨k+1,bX,E',_,rfl,ay,rfl,fq,fs,by rw[aB];exact GS.put (GI.le g5 l6) _ dV,dQ.put _ (l5.none aE),a5,fe,dV,dT,fun e he=>?_⟩
  rw[kx];by_cases ee:wU s=wU e
  .have := NI ee
   subst this;rw[if_pos rfl,Option.getD_some];exact⟨fun _=>.inr ⟨k,SP k,hD⟩,fun _=>wu _⟩
  .rw [if_neg ee, bV e he]
   constructor
   .rintro (h | ⟨x, hx, h⟩)
    .exact .inl h
    .exact .inr ⟨x,aaR hx,h⟩
   .rintro (h | ⟨x, hx, h⟩)
    .exact .inl h
    .refine .inr ⟨x, Jp (Nat.le_of_lt_succ hx) fun e2 => ee ?_, h⟩
     subst e2;rw[<-hD,h]
end
section
attribute [local instance] Classical.propDecidable
open Go.Proofs
variable {A B C T a b i j n q v:Nat} {L:LF} {es:List Pr} {h h' hh:AHeap} {r:Nat->wi} {rs:CA} {x:List Value} {α:Type}
noncomputable def Pu {α:Type} (P:Nat->α->Prop) (l:List α) (a:Nat):Nat:=(l.filter fun e=>decide (P a e)).length
def Qa (P:Nat->α->Prop) (l:List α) (a:Nat):Pu P l a<=l.length:=ET _ _
def CD (P:Nat->α->Prop) (l:List α) (e:α) (a:Nat):Pu P (l++[e]) a=Pu P l a+if P a e then 1 else 0:=by
 unfold Pu;rw[zQ,Vw];congr 1;by_cases h:P a e<;>simp[h]
def EG {P:Nat->α->Prop} {l:List α} {e:α} {hs:wi} (g:q<hs.length) (d:P hs[q] e) (h2:∀i (h:i<hs.length),P hs[i] e->i=q):
  (hs.map fun a=>((Pu P (l++[e]) a:Nat):Int))=(hs.map fun a=>((Pu P l a:Nat):Int)).set q (((Pu P l hs[q]:Nat):Int)+1):=by
 apply Ll
 .simp
 .intro i hi f
  have b:i<hs.length:=by simpa using hi
  rw[IP,List.getElem_set];by_cases c:q=i
  .subst c;rw[if_pos rfl,CD,if_pos d];omega
  .rw[if_neg c,IP,CD,if_neg (fun h=>c (h2 i b h).symm)];simp
noncomputable def Q5 (es l:List Pr) (a:Nat):Nat:=Pu (fun a (e:Pr)=>Xb es a e.1.toNat) l a
noncomputable def Ng (es:List Pr) (l:CA) (a:Nat):Nat:=Pu (fun a (f:LF)=>Xb es a (f.headD 0).toNat) l a
def ZX (n:Nat) (es:List Pr) (rs:CA):Prop:=∀a∈Ju n es,0<Q5 es es a->(sH n es a).length+Ng es (dg n rs) a=Q5 es es a+2
def LN (n:Nat) (es:List Pr) (i:Nat) (L:LF):Prop:=L.length=n/\∀(j a v:Nat),j<i->(Ju n es)[j]?=some a->v<n->Xb es a v->L[v]?=some (j:Int)
def LN.zero:LN n es 0 (List.replicate n 0):=⟨YX,fun j a v h=>by omega⟩
def Iz (l:I7 n es) (hi:(Ju n es)[i]?=some a) (k:(Ju n es)[j]?=some b) (ha:Xb es a v) (hb:Xb es b v):i=j:=by
 obtain⟨c,d⟩:=bH.1 hi;obtain⟨e,f⟩:=bH.1 k;have g:a=b:=wW (Jb hi) (Jb k) (ha.trans (hb.symm));have nd:=xk n es;rw[gY,cR]at nd;rcases zX i j with h|h|h
 .exact absurd (by rw[d,f,g]) (nd i j c e h)
 .exact h
 .exact absurd (by rw[d,f,g]) (nd j i e c h)
def LN.put (f:I7 n es) (H:LN n es i L) (hi:(Ju n es)[i]?=some a) (g:Xb es a v):LN n es i (L.set v (i:Int)):=by
 refine⟨by rw[qm];exact H.1,fun j b w h hb hw c=>?_⟩;have d:v≠w:=fun e=>by subst e;have:=Iz f hi hb g c;omega
 rw[Zw d];exact H.2 j b w h hb hw c
def LN.next (H:LN n es i L) (hi:(Ju n es)[i]?=some a) (h:∀v∈sH n es a,L[v]?=some (i:Int)):LN n es (i+1) L:=by
 refine⟨H.1,fun j b w e hb hw d=>?_⟩;by_cases c:j=i
 .subst c;rw[hi]at hb;injection hb with hb;subst hb;exact h w (gD.2 ⟨hw,d⟩)
 .exact H.2 j b w QT hb hw d
def LN.get (f:I7 n es) (H:LN n es (Ju n es).length L) (b:v<n):∃q,∃h:q<(Ju n es).length,L[v]?=some (q:Int)/\Xb es (Ju n es)[q] v:=by
 obtain⟨a,ha,c⟩:=zh f v b;obtain⟨q,d⟩:=OH.1 ha;obtain⟨e,h2⟩:=bH.1 d;exact⟨q,e,H.2 q a v e d b c,by rw[h2];exact c⟩
def sR (b:I7 n es) (h:q<(Ju n es).length) (c:Xb es (Ju n es)[q] v):∀i (h:i<(Ju n es).length),Xb es (Ju n es)[i] v->i=q:=fun i hi a=>
 Iz b (dR hi) (dR h) a c
def XF (R:ZJ n r) {d:JE} (a:d∈dl n r):(aW (uQ r d)).headD 0=(d.1:Int)/\0<(aW (uQ r d)).length:=by
 have:=(zZ (TL R) a).1;have e:List.range (qS (Mo r) d)=0::(List.range' 1 (qS (Mo r) d-1)):=by
  rw[List.range_eq_range',show qS (Mo r) d=(qS (Mo r) d-1)+1 from by omega,aah];simp
 refine⟨?_,by simp[aW,uQ,Vq,this]⟩;simp only[aW,uQ,Vq,e,Kj,OR];rfl
def M0 (b:I7 n es) (ha:BD es) (G:Kk n es rs) {f:LF} (hf:f∈dg n rs):0<f.length/\∃v:Nat,v<n/\f.headD 0=(v:Int):=by
 have R:=G.Tw b ha;rw[dg,T8]at hf;obtain⟨g,hg,rfl⟩:=hf;rw[WW,T8]at hg;obtain⟨d,e,rfl⟩:=hg;have a:=(MN R).1 e;have c:d∈dl n (Yg rs):=(ZE R).2 a.1;obtain⟨h,h2⟩:=XF R c;exact⟨h2,d.1,((G.mem b).1 a.1).lt b|>.1,h⟩
def EN {es:List Pr} (a:n<=200):(dg n rs).length<=40000:=by
 have b:ig n (Yg rs)=ig n (Yg rs)++[]:=(C7 _).symm;have:=P2 a b;rw[L5]at this;omega
def uH (o:hh.own T=some (.cells (oY L))) (hi:i<L.length) (x:Int):
  aStore Tryz.prog hh 3 (.pointer (some ⟨T,i,none⟩)) (.int .i64 x)=some (hh.put T (.cells (oY (L.set i x)))):=by
 rw[Qr (P:=Tryz.prog) (t:=3) (x:=.int .i64 x) Ik zd o (off:=i) (by rw[CW];exact hi) rfl rfl,Ko]
def AK {l:Int} (o:hh.own T=some (.cells (oY L))) (a:L[i]?=some l):aload Tryz.prog hh 3 ⟨T,i,none⟩=some (.int .i64 l):=by
 rw[wT Ik rfl o];simp[oY,a]
def WS (T m:Nat) (k:IntKind) (j:Nat) (a:j<m):aIndexAddr Tryz.prog 49 (.slice (some ⟨T,0,none⟩) m m) (.int k j)=some (.pointer (some ⟨T,j,none⟩)):=by
 rw[vj Rm Ik zd j a];simp[Co]
structure GN (h h':AHeap) (A B C:Nat) (x:List Value):Prop where
 le:Le h h'
 wf:WF h'
 oA:h'.own A=some (.cells x)
 oB:h'.own B=some (.cells x)
 oC:h'.own C=some (.cells x)
 nA:h.own A=none
 nB:h.own B=none
 nC:h.own C=none
 ab:A≠B
 ac:A≠C
 bc:B≠C
def new3 (hw:WF h) (x:List Value):GN h (((h.alloc (.cells x)).alloc (.cells x)).alloc (.cells x)) h.next (h.next+1) (h.next+1+1) x:=by
 have a:∀x,h.next<=x->h.own x=none:=fun x b=>(Le.refl h).next hw b
 have c:h.next+1+1≠h.next:=QT
 have d:h.next+1+1≠h.next+1:=QT
 have e:h.next+1≠h.next:=QT
 exact⟨(((Le.refl h).alloc hw _).alloc (hw.alloc _) _).alloc ((hw.alloc _).alloc _) _,((hw.alloc _).alloc _).alloc _,by simp[QD,sh],by simp[QD,sh],by simp[QD,sh],a _ (J4 _),a _ QT,a _ QT,QT,QT,QT⟩
def GN.s12 (N:GN h h' A B C x):GN h h' B A C x:=⟨N.le,N.wf,N.oB,N.oA,N.oC,N.nB,N.nA,N.nC,N.ab.symm,N.bc,N.ac⟩
def GN.s23 (N:GN h h' A B C x):GN h h' A C B x:=⟨N.le,N.wf,N.oA,N.oC,N.oB,N.nA,N.nC,N.nB,N.ac,N.ab,N.bc.symm⟩
end
section
attribute [local instance] Classical.propDecidable
attribute [local irreducible] Ax YH XZ Uk KO KN KX KE VK DK Q7 dK W9
attribute [local irreducible] dg Q5 Ng Ju sH rP
open Go.Proofs
variable {a b c i j n q:Nat} {es:List Pr} {l:wi} {rs:CA}
def Im (h:a<=40000):awrap .i64 ((a:Int)+1)=(a:Int)+1:=GQ _ QT QT
def cnt_ok2 (h:a<=40000):awrap .i64 ((a:Int)+2)=(a:Int)+2:=GQ _ QT QT
def cnt_ok3 (h:a<=40000) (g:b<=40000):awrap .i64 ((a:Int)+(b:Int))=(a:Int)+(b:Int):=GQ _ QT QT
def vB:((a:Int)+(b:Int)=(c:Int)+2)↔a+b=c+2:=QT
def YQ:((c:Int)>0)↔0<c:=QT
def x3 (h:j<i+1) (c:¬j=i):j<i:=QT
def rep_map (n:Nat):List.replicate n (Value.int .i64 0)=oY (List.replicate n 0):=by simp[oY]
def mJ (n:Nat) (es:List Pr) (k:Nat):(rP n es k).length=(Ju k es).length:=by unfold rP;simp
def XN (n:Nat) (es:List Pr) (k i:Nat) (h:i<(Ju k es).length):(rP n es k)[i]'(by rw[mJ];exact h)=sH n es (Ju k es)[i]:=by unfold rP;simp
def edK_nil (n:Nat) (es b:List Pr):(List.replicate (Ju n b).length (0:Int))=(Ju n b).map fun a=>((Q5 es ([]:List Pr) a:Nat):Int):=by
 apply Ll<;>simp[Q5,Pu]
def faK_nil (n:Nat) (es b:List Pr):(List.replicate (Ju n b).length (0:Int))=(Ju n b).map fun a=>((Ng es ([]:CA) a:Nat):Int):=by
 apply Ll<;>simp[Ng,Pu]
def yV (d:I7 n es) {l:List Pr} {e:Pr} (b:q<(Ju n es).length) (c:Xb es (Ju n es)[q] e.1.toNat):
  ((Ju n es).map fun a=>((Q5 es (l++[e]) a:Nat):Int))=((Ju n es).map fun a=>((Q5 es l a:Nat):Int)).set q (((Q5 es l (Ju n es)[q]:Nat):Int)+1):=by
 unfold Q5;exact EG b c (sR d b c)
def jB (d:I7 n es) {l:CA} {e:LF} (b:q<(Ju n es).length) (c:Xb es (Ju n es)[q] (e.headD 0).toNat):
  ((Ju n es).map fun a=>((Ng es (l++[e]) a:Nat):Int))=((Ju n es).map fun a=>((Ng es l a:Nat):Int)).set q (((Ng es l (Ju n es)[q]:Nat):Int)+1):=by
 unfold Ng;exact EG b c (sR d b c)
def Hz (es l:List Pr) (a:Nat):Q5 es l a<=l.length:=by unfold Q5;exact Qa _ _ _
def QY (es:List Pr) (l:CA) (a:Nat):Ng es l a<=l.length:=by unfold Ng;exact Qa _ _ _
def KB (n:Nat) (es:List Pr) (a:Nat):(sH n es a).length<=n:=by
 unfold sH;exact Jh (ET _ _) YX
def Z6 {f:Nat->Int} (h:i<l.length):(l.map f)[i]?=some (f l[i]):=by simp[h]
def KJ {l:LF} (h:0<l.length):l[0]=l.headD 0:=by
 cases l with
 |nil=>exact absurd h (aaz 0)
 |cons x l=>rfl
def ZX.not (h:i<(Ju n es).length) (a:0<Q5 es es (Ju n es)[i]) (h2:¬(sH n es (Ju n es)[i]).length+Ng es (dg n rs) (Ju n es)[i]=Q5 es es (Ju n es)[i]+2):¬ZX n es rs:=fun H=>h2 (H _ (om h) a)
def Kb (W0:Ac) (v rv:Value) (G:GM) (rs:CA) (h:AHeap) (hg:GR h v G) (hv:RL (RL IJ) h rv rs):
  AC Tryz.prog W0 27 [v,rv] h fun x h'=>BV (xO G/\Kk G.n.toNat G.es rs/\ZX G.n.toNat G.es rs) x/\Le h h':=by
 have b5:=hg;obtain⟨gn,es⟩:=G
 obtain⟨ev,rfl,Y⟩:=hg.open
 refine AC.vE ⟨Tryz.func27,rfl,xr⟩ Tryz.ntmps27 Tryz.results27 fun dd=>?_;simp only[xq,Nat.reduceAdd];obtain⟨h1,b1,T,ee,-,lA⟩:=WY (n:=gn) dd Y
 generalize h.next=B at*
 have dj:=lA h1 (Le.refl _);simp only[Ud,Nat.reduceLT,↓reduceIte,Nat.reduceEqDiff,b1,dj.1];refine dK.intro pK ⟨Tryz.func26,rfl,xr⟩ (eY W0 _ rv ⟨gn,es⟩ rs h1 (b5.le T) (hv.le (Rr.RL Rr.IJ) T)) ?_;rintro x h2 w2 ⟨⟨b,rfl,hb⟩,l2⟩;cases b
 .refine yq ?_
  exact⟨⟨false,rfl,by simp only[Z2,false_iff];exact fun hh=>Bool.false_ne_true (hb.2 ⟨hh.1,hh.2.1⟩)⟩,T.trans l2⟩
 obtain⟨hr,G⟩:=hb.1 rfl;have h0:0<=gn:=hr.n0;obtain⟨n,rfl⟩:=RT h0;simp only[TK]at G ⊢;have hR:=hr.si;have hA:=hr.Fx;have ec:(n:Int)<=200:=hr.n1;have ed:es.length<=594:=hr.len;have a1:n<=200:=QT;have fin:∀b,(b=true↔ZX n es rs)->∀o,Le h o->BV (xO ⟨(n:Int),es⟩/\Kk n es rs/\ZX n es rs) (.bool b)/\Le h o:=fun b hb o lz=>⟨⟨b,rfl,hb.trans ⟨fun p=>⟨hr,G,p⟩,fun p=>p.2.2⟩⟩,lz⟩;have ef:=lA h2 l2;refine yq ?_;refine dK.intro pK ⟨Tryz.func68,rfl,xr⟩ (D5 W0 rv rs h2 (hv.le (Rr.RL Rr.IJ) (T.trans l2))) ?_;rintro x h3 w3 ⟨l3,⟨rfl,dk⟩|⟨dm,U,dp,G',rfl,hf⟩⟩
 .exact absurd ⟨es,by rw[G.len];exact hr,by rw[G.len];exact G⟩ dk
 clear dp G' dm;rw[G.len]at hf;have d0:decide ((0:Int)=0)=true:=by decide
 have zH:=lA h3 (l2.trans l3);simp only[Ud,Nat.reduceLT,↓reduceIte,Nat.reduceEqDiff,bne,zH.1];refine dK.intro pK ⟨Tryz.func64,rfl,xr⟩ (dq W0 _ ⟨(n:Int),es⟩ h3 (b5.le ((T.trans l2).trans l3)) hr) ?_;rintro pv Q w4 ⟨gp,l4,-⟩;simp only[TK]at gp;have rp:=gp.rl (Rr.RL Rr.IJ);have lp:=fun g=>rp.ae g;have b6:((rP n es n).map aW).length=(Ju n es).length:=by rw[yA,mJ]
 rw[b6]at lp;have eg:(Ju n es).length<=n:=NS _ _;have a6:=hf.le (Rr.RL Rr.IJ) l4;have a7:=(l2.trans l3).trans l4;have a8:=T.trans a7;have dr:=lA Q a7;have dv:=fun g:AHeap=>IG (P:=Tryz.prog) (t:=49) (z:=.int .i64 0) g Rm rfl rfl rfl rfl zd Ik zd n QT;have dw:=fun g:AHeap=>IG (P:=Tryz.prog) (t:=49) (z:=.int .i64 0) g Rm rfl rfl rfl rfl zd Ik zd (Ju n es).length QT;obtain⟨h5,e5,l5,w5,o5⟩:=mV w4 (List.replicate n (.int .i64 0))
 have nH:Q.own Q.next=none:=(Le.refl Q).next w4 (J4 _)
 simp only[Ud,Nat.reduceLT,↓reduceIte,Nat.reduceEqDiff,Cq,Co,Qs,dr.2.1,dv,e5]
 generalize Q.next=s at*
 apply P3 (F:=fun(fr:EP) (h':AHeap)=>∃A C D,BM fr [(2,.pointer (some ⟨B,0,none⟩)),(5,U),(7,pv),(8,.slice (some ⟨s,0,none⟩) n n),(9,.slice (some ⟨A,0,none⟩) (Ju n es).length (Ju n es).length),(10,.slice (some ⟨C,0,none⟩) (Ju n es).length (Ju n es).length),(11,.slice (some ⟨D,0,none⟩) (Ju n es).length (Ju n es).length)]/\GN h5 h' A C D (List.replicate (Ju n es).length (.int .i64 0)))
 .intro cont
  refine rD (vu [0,1,3,4,6,7] (.ch 2 [1] (vu [9] (.ch 5 [4] (vu [10] (PO 8 [7] (vu [11] .done))) (PO 8 [7] (PO 5 [4] (vu [10,11] .done))))) (.ch 5 [4] (.ch 2 [1] (vu [9,10] (PO 8 [7] (vu [11] .done))) (PO 8 [7] (PO 2 [1] (vu [9,10,11] .done)))) (PO 8 [7] (.ch 2 [1] (vu [9] (PO 5 [4] (vu [10,11] .done))) (PO 5 [4] (PO 2 [1] (vu [9,10,11] .done)))))))) ?_;simp only[kJJ,Nat.reduceLT,↓reduceIte,Nat.reduceEqDiff,Nat.reduceBEq,rm,lp,dw,sh];have N:=new3 w5 (List.replicate (Ju n es).length (.int .i64 0));refine⟨⟨?_,?_⟩,⟨?_,?_⟩,?_,?_⟩
  all_goals
   refine KN.zC fun fr' h' e1 e2=>cont fr' h' ?_;subst e1 e2
   first
    |(refine⟨_,_,_,?_,N⟩;simp only[BM,Ud,↓reduceIte,Nat.reduceEqDiff];simp;done)
    |(refine⟨_,_,_,?_,N.s12⟩;simp only[BM,Ud,↓reduceIte,Nat.reduceEqDiff];simp;done)
    |(refine⟨_,_,_,?_,N.s23⟩;simp only[BM,Ud,↓reduceIte,Nat.reduceEqDiff];simp;done)
    |(refine⟨_,_,_,?_,N.s12.s23⟩;simp only[BM,Ud,↓reduceIte,Nat.reduceEqDiff];simp;done)
    |(refine⟨_,_,_,?_,N.s23.s12⟩;simp only[BM,Ud,↓reduceIte,Nat.reduceEqDiff];simp;done)
    |(refine⟨_,_,_,?_,N.s12.s23.s12⟩;simp only[BM,Ud,↓reduceIte,Nat.reduceEqDiff];simp;done)
 rintro fr h6 ⟨A,C,D,b8,N⟩;simp only[BM]at b8;obtain⟨f2,f5,f7,f8,f9,b9,cc,-⟩:=b8;simp only[Ud,Nat.reduceLT,↓reduceIte,f7,lp];have l6:=l5.trans N.le;have bb:=N.le.own _ _ o5;have bj:=N.oA;have bm:=N.oB;have bo:=N.oC;rw[rep_map]at bb bj bm bo;have cd:s≠A:=fun e=>by have:=N.nA;rw[<-e,o5]at this;cases this
 have cg:s≠C:=fun e=>by have:=N.nB;rw[<-e,o5]at this;cases this
 have ck:s≠D:=fun e=>by have:=N.nC;rw[<-e,o5]at this;cases this
 have cm:=N.ab;have cr:=N.ac;have cx:=N.bc;have nA:Q.own A=none:=l5.none N.nA;have nC:Q.own C=none:=l5.none N.nB;have nD:Q.own D=none:=l5.none N.nC;have w6:=N.wf;clear N o5 w5;refine W9.intro (fun k fr r=>∃(i:Nat) (L V:LF),k=(Ju n es).length-i/\i<=(Ju n es).length/\fr=mkF [(2,.pointer (some ⟨B,0,none⟩)),(5,U),(7,pv),(8,.slice (some ⟨s,0,none⟩) n n),(9,.slice (some ⟨A,0,none⟩) (Ju n es).length (Ju n es).length),(10,.slice (some ⟨C,0,none⟩) (Ju n es).length (Ju n es).length),(11,.slice (some ⟨D,0,none⟩) (Ju n es).length (Ju n es).length),(46,pv),(47,.int .i64 (Ju n es).length),(48,.int .i64 i)]/\
   r.own s=some (.cells (oY L))/\LN n es i L/\r.own A=some (.cells (oY V))/\V.length=(Ju n es).length/\(∀j (M:j<(Ju n es).length),j<i->V[j]?=some (((sH n es (Ju n es)[j]).length:Nat):Int))/\r.own C=some (.cells (oY (List.replicate (Ju n es).length 0)))/\r.own D=some (.cells (oY (List.replicate (Ju n es).length 0)))/\Le Q r)
  (Ju n es).length [(2,.pointer (some ⟨B,0,none⟩)),(5,U),(7,pv),(8,.slice (some ⟨s,0,none⟩) n n),(9,.slice (some ⟨A,0,none⟩) (Ju n es).length (Ju n es).length),(10,.slice (some ⟨C,0,none⟩) (Ju n es).length (Ju n es).length),(11,.slice (some ⟨D,0,none⟩) (Ju n es).length (Ju n es).length),(46,pv),(47,.int .i64 (Ju n es).length),(48,.int .i64 (0:Nat))] (by simp only[BM,Ud,↓reduceIte,Nat.reduceEqDiff,f2,f5,f7,f8,f9,b9,cc];simp)
  ⟨0,_,_,rfl,KW _,rfl,bb,LN.zero,bj,YX,fun j _ h=>absurd h (kS _),bm,bo,l6⟩ ?_
 clear bb bj bm bo w6 f2 f5 f7 f8 f9 b9 cc l6;clear l5 e5;clear h6;rintro k fr r H ⟨i,L,V,rfl,hi,rfl,R,HP,oA,hV,br,oC,K,J⟩;refine yq ?_;refine DK.intro (fun S=>?_) (fun hf=>?_)
 .have m : i < (Ju n es).length := Ub S
  clear S;have hm:i<((rP n es n).map aW).length:=by rw[b6];exact m
  have bx:=rp.Jl i hm;obtain⟨u,Z,aE⟩:=rp.To i hm;have aK:=Z r J;have dx:((rP n es n).map aW)[i]=aW (sH n es (Ju n es)[i]):=by rw[IP,XN]
  rw[dx]at aE;have lu:=fun g=>aE.zw g;rw[tG]at lu;have cE:=dR m;have st:=uH oA (i:=i) (by rw[hV];exact m) (((sH n es (Ju n es)[i]).length:Nat):Int);have dy:=WS A (Ju n es).length .i64 i m;simp only[Ud,Nat.reduceLT,↓reduceIte,Nat.reduceEqDiff,bx,aK,lu,dy,st];have ad:∀j,j<i+1->∀(M:j<(Ju n es).length),(V.set i (((sH n es (Ju n es)[i]).length:Nat):Int))[j]?=some (((sH n es (Ju n es)[j]).length:Nat):Int):=fun j W M=>by
   by_cases c:i=j
   .subst c;rw[XC (by rw[hV];exact m)]
   .rw[Zw c];exact br j M QT
  have dz:(V.set i (((sH n es (Ju n es)[i]).length:Nat):Int)).length=(Ju n es).length:=by rw[qm];exact hV
  generalize V.set i (((sH n es (Ju n es)[i]).length:Nat):Int)=V2 at*;have w7:WF (r.put A (.cells (oY V2))):=H.put _ (H.lt oA);have l7:Le Q (r.put A (.cells (oY V2))):=J.put _ nA;have aM:(r.put A (.cells (oY V2))).own A=some (.cells (oY V2)):=AHeap.zm _ _ _;have ag:(r.put A (.cells (oY V2))).own s=some (.cells (oY L)):=by rw[AHeap.Dz _ _ _ _ cd];exact R
  have ah:(r.put A (.cells (oY V2))).own C=some (.cells (oY (List.replicate (Ju n es).length 0))):=by rw[AHeap.Dz _ _ _ _ cm.symm];exact oC
  have aQ:(r.put A (.cells (oY V2))).own D=some (.cells (oY (List.replicate (Ju n es).length 0))):=by rw[AHeap.Dz _ _ _ _ cr.symm];exact K
  generalize r.put A (.cells (oY V2))=h7 at*;have dA:∀v∈sH n es (Ju n es)[i],v<n/\Xb es (Ju n es)[i] v:=fun v hv=>gD.1 hv;generalize (Ju n es)[i]=a at*;have eh:=KB n es a;generalize dB:sH n es a=cs at*;refine W9.intro (fun k fr o=>∃(j:Nat) (L:LF),k=cs.length-j/\j<=cs.length/\fr=mkF [(2,.pointer (some ⟨B,0,none⟩)),(5,U),(7,pv),(8,.slice (some ⟨s,0,none⟩) n n),(9,.slice (some ⟨A,0,none⟩) (Ju n es).length (Ju n es).length),(10,.slice (some ⟨C,0,none⟩) (Ju n es).length (Ju n es).length),(11,.slice (some ⟨D,0,none⟩) (Ju n es).length (Ju n es).length),(12,.int .i64 i),(46,pv),(47,.int .i64 (Ju n es).length),(48,.int .i64 i),(58,u),(59,.int .i64 cs.length),(60,.int .i64 j)]/\
    o.own s=some (.cells (oY L))/\LN n es i L/\(∀v∈cs.take j,L[v]?=some (i:Int))/\o.own A=some (.cells (oY V2))/\o.own C=some (.cells (oY (List.replicate (Ju n es).length 0)))/\o.own D=some (.cells (oY (List.replicate (Ju n es).length 0)))/\Le Q o)
   cs.length [(2,.pointer (some ⟨B,0,none⟩)),(5,U),(7,pv),(8,.slice (some ⟨s,0,none⟩) n n),(9,.slice (some ⟨A,0,none⟩) (Ju n es).length (Ju n es).length),(10,.slice (some ⟨C,0,none⟩) (Ju n es).length (Ju n es).length),(11,.slice (some ⟨D,0,none⟩) (Ju n es).length (Ju n es).length),(12,.int .i64 i),(46,pv),(47,.int .i64 (Ju n es).length),(48,.int .i64 i),(58,u),(59,.int .i64 cs.length),(60,.int .i64 (0:Nat))] vy
   ⟨0,L,rfl,KW _,rfl,ag,HP,fun v hv=>absurd hv RF,aM,ah,aQ,l7⟩ ?_
  clear ag HP aM ah aQ l7 w7 oA R oC K J br st H aK;clear h7 r L;rintro k fr o ei ⟨j,L,rfl,M,rfl,R,HP,bF,oA,oC,K,lz⟩;refine yq ?_;refine DK.intro (fun S=>?_) (fun hf=>?_)
  .have d : j < cs.length := Ub S
   clear S;have dE:=uD d;have cM:=aE.qW j (by rw[tG];exact d);have cQ:=(aE.le Rr.IJ lz).HN j (by rw[tG];exact d);rw[dE]at cQ;have aT:=dA cs[j] (om d);have X:cs.take (j+1)=cs.take j++[cs[j]]:=QM d;generalize cs[j]=v at*;have dH:=uH R (i:=v) (by rw[HP.1];exact aT.1) (i:Int);have aj:=WS s n .i64 v aT.1;have cY:=Gm j QT;simp only[Ud,Nat.reduceLT,↓reduceIte,Nat.reduceEqDiff,cM,cQ,aj,dH,cY];refine cX (cs.length-(j+1)) [(2,.pointer (some ⟨B,0,none⟩)),(5,U),(7,pv),(8,.slice (some ⟨s,0,none⟩) n n),(9,.slice (some ⟨A,0,none⟩) (Ju n es).length (Ju n es).length),(10,.slice (some ⟨C,0,none⟩) (Ju n es).length (Ju n es).length),(11,.slice (some ⟨D,0,none⟩) (Ju n es).length (Ju n es).length),(12,.int .i64 i),(46,pv),(47,.int .i64 (Ju n es).length),(48,.int .i64 i),(58,u),(59,.int .i64 cs.length),(60,.int .i64 (j+1:Nat))] (dN d) vy
    ⟨j+1,L.set v (i:Int),rfl,d,rfl,AHeap.zm _ _ _,HP.put hR cE aT.2,fun w hw=>?_,by rw[AHeap.Dz _ _ _ _ cd.symm];exact oA,by rw[AHeap.Dz _ _ _ _ cg.symm];exact oC,by rw[AHeap.Dz _ _ _ _ ck.symm];exact K,lz.put _ nH⟩
   rw[X,uK,Rb]at hw;by_cases c:v=w
   .subst c;rw[XC (by rw[HP.1];exact aT.1)]
   .rw [Zw c]
    rcases hw with hw|hw
    .exact bF w hw
    .exact absurd hw.symm c
  .have y : cs.length <= j := Yv hf
   rw[xV y,<-dB]at bF;have aX:=Gm i QT;simp only[Ud,Nat.reduceLT,↓reduceIte,Nat.reduceEqDiff,aX];exact cX ((Ju n es).length-(i+1)) [(2,.pointer (some ⟨B,0,none⟩)),(5,U),(7,pv),(8,.slice (some ⟨s,0,none⟩) n n),(9,.slice (some ⟨A,0,none⟩) (Ju n es).length (Ju n es).length),(10,.slice (some ⟨C,0,none⟩) (Ju n es).length (Ju n es).length),(11,.slice (some ⟨D,0,none⟩) (Ju n es).length (Ju n es).length),(46,pv),(47,.int .i64 (Ju n es).length),(48,.int .i64 (i+1:Nat))] (dN m) vy
    ⟨i+1,L,V2,rfl,m,rfl,R,HP.next cE bF,oA,dz,fun j M W=>ad j W M,oC,K,lz⟩
 have y:(Ju n es).length<=i:=Yv hf;obtain rfl:i=(Ju n es).length:=QT;clear y hf hi;have c0:=lA r (a7.trans J);have dI:=fun g=>Y.len g;simp only[Ud,Nat.reduceLT,↓reduceIte,Nat.reduceEqDiff,vz,Co,Qs,c0.2.2,dI];have bI:=oC;rw[edK_nil n es es]at bI;have c3:∀p∈es,0<=p.1/\p.1<p.2/\p.2<(n:Int):=fun p aY=>by
  obtain⟨i,hi⟩:=OH.1 aY;exact(hr.ok i (bH.1 hi).1 p hi).1
 refine W9.intro (fun k fr o=>∃(j:Nat),k=es.length-j/\j<=es.length/\fr=mkF [(5,U),(7,pv),(8,.slice (some ⟨s,0,none⟩) n n),(9,.slice (some ⟨A,0,none⟩) (Ju n es).length (Ju n es).length),(10,.slice (some ⟨C,0,none⟩) (Ju n es).length (Ju n es).length),(11,.slice (some ⟨D,0,none⟩) (Ju n es).length (Ju n es).length),(71,ev),(72,.int .i64 es.length),(73,.int .i64 j)]/\
   o.own s=some (.cells (oY L))/\o.own A=some (.cells (oY V))/\o.own C=some (.cells (oY ((Ju n es).map fun a=>((Q5 es (es.take j) a:Nat):Int))))/\o.own D=some (.cells (oY (List.replicate (Ju n es).length 0)))/\Le Q o)
  es.length [(5,U),(7,pv),(8,.slice (some ⟨s,0,none⟩) n n),(9,.slice (some ⟨A,0,none⟩) (Ju n es).length (Ju n es).length),(10,.slice (some ⟨C,0,none⟩) (Ju n es).length (Ju n es).length),(11,.slice (some ⟨D,0,none⟩) (Ju n es).length (Ju n es).length),(71,ev),(72,.int .i64 es.length),(73,.int .i64 (0:Nat))] vy
  ⟨0,rfl,KW _,rfl,R,oA,bI,K,J⟩ ?_
 clear bI oC K oA R J c0 H;clear r;rintro k fr r H ⟨j,rfl,M,rfl,R,oA,oC,K,J⟩;refine yq ?_;refine DK.intro (fun S=>?_) (fun hf=>?_)
 .have d : j < es.length := Ub S
  clear S;have aY:=XR d;have bQ:=c3 es[j] (om d);have X:es.take (j+1)=es.take j++[es[j]]:=QM d;generalize es[j]=p at aY X bQ;have bx:=Y.addr (k:=.i64) j d;have dL:=(Y.le (a8.trans J)).load aY;obtain⟨ej,h7,e7,dM,l7,w7,o7⟩:=bS H p
  have nE:Q.own r.next=none:=J.none ((Le.refl r).next H (J4 _))
  generalize r.next=E at*
  have m0:=Ol o7;obtain⟨x1,x2⟩:=p;obtain⟨v,rfl⟩:=RT bQ.1;have ak:v<n:=by have:=bQ.2;simp only at this;omega
  obtain⟨q,I,bV,bW⟩:=HP.get hR ak;have ag:=l7.own _ _ R;have aM:=l7.own _ _ oA;have ah:=l7.own _ _ oC;have aQ:=l7.own _ _ K;have aj:=WS s n .i64 v ak;have bX:=AK ag bV;have al:=WS C (Ju n es).length .i64 q I;have aq:=AK ah (Z6 (f:=fun a=>((Q5 es (es.take j) a:Nat):Int)) I);have hle:Q5 es (es.take j) (Ju n es)[q]<=40000:=Jh (Hz _ _ _) (by rw[Ja];omega);have O:=Im hle;have c4:=uH ah (i:=q) (by rw[yA];exact I) (((Q5 es (es.take j) (Ju n es)[q]:Nat):Int)+1);have ar:=yV hR (l:=es.take j) (e:=((v:Int),x2)) I (by simpa using bW);rw[<-X]at ar;rw[<-ar]at c4;have ad:=Gm j QT;simp only[Ud,Nat.reduceLT,↓reduceIte,Nat.reduceEqDiff,bx,dL,e7,dM,Il,Co,Qs,m0,aj,bX,al,aq,O,c4,ad];exact cX (es.length-(j+1)) [(5,U),(7,pv),(8,.slice (some ⟨s,0,none⟩) n n),(9,.slice (some ⟨A,0,none⟩) (Ju n es).length (Ju n es).length),(10,.slice (some ⟨C,0,none⟩) (Ju n es).length (Ju n es).length),(11,.slice (some ⟨D,0,none⟩) (Ju n es).length (Ju n es).length),(71,ev),(72,.int .i64 es.length),(73,.int .i64 (j+1:Nat))] (dN d) vy
   ⟨j+1,rfl,d,rfl,by rw[AHeap.Dz _ _ _ _ cg];exact ag,by rw[AHeap.Dz _ _ _ _ cm];exact aM,AHeap.zm _ _ _,by rw[AHeap.Dz _ _ _ _ cx.symm];exact aQ,(J.trans l7).put _ nC⟩
 have y:es.length<=j:=Yv hf;rw[xV y]at oC;clear y hf M;have lF:=fun g=>a6.ae g;have ek:=EN (n:=n) (es:=es) (rs:=rs) a1;have bY:=K;rw[faK_nil n es es]at bY;have dQ:=fun f (hf:f∈dg n rs)=>M0 hR hA G hf;simp only[Ud,Nat.reduceLT,↓reduceIte,Nat.reduceEqDiff,lF];refine W9.intro (fun k fr o=>∃(j:Nat),k=(dg n rs).length-j/\j<=(dg n rs).length/\fr=mkF [(7,pv),(8,.slice (some ⟨s,0,none⟩) n n),(9,.slice (some ⟨A,0,none⟩) (Ju n es).length (Ju n es).length),(10,.slice (some ⟨C,0,none⟩) (Ju n es).length (Ju n es).length),(11,.slice (some ⟨D,0,none⟩) (Ju n es).length (Ju n es).length),(88,U),(89,.int .i64 (dg n rs).length),(90,.int .i64 j)]/\
   o.own s=some (.cells (oY L))/\o.own A=some (.cells (oY V))/\o.own C=some (.cells (oY ((Ju n es).map fun a=>((Q5 es es a:Nat):Int))))/\o.own D=some (.cells (oY ((Ju n es).map fun a=>((Ng es ((dg n rs).take j) a:Nat):Int))))/\Le Q o)
  (dg n rs).length [(7,pv),(8,.slice (some ⟨s,0,none⟩) n n),(9,.slice (some ⟨A,0,none⟩) (Ju n es).length (Ju n es).length),(10,.slice (some ⟨C,0,none⟩) (Ju n es).length (Ju n es).length),(11,.slice (some ⟨D,0,none⟩) (Ju n es).length (Ju n es).length),(88,U),(89,.int .i64 (dg n rs).length),(90,.int .i64 (0:Nat))] vy
  ⟨0,rfl,KW _,rfl,R,oA,oC,bY,J⟩ ?_
 clear bY oC K oA R J H;clear r j;rintro k fr r H ⟨j,rfl,M,rfl,R,oA,oC,K,J⟩;refine yq ?_;refine DK.intro (fun S=>?_) (fun hf=>?_)
 .have d : j < (dg n rs).length := Ub S
  clear S;have dT:=a6.Jl j d;obtain⟨u,Z,hu⟩:=a6.To j d;have aK:=Z r J;obtain⟨b0,v,ak,c5⟩:=dQ (dg n rs)[j] (om d);have X:(dg n rs).take (j+1)=(dg n rs).take j++[(dg n rs)[j]]:=QM d;generalize (dg n rs)[j]=f at*;have c6:=hu.qW 0 b0;have da:=(hu.le Rr.IJ J).HN 0 b0;rw[KJ b0,c5]at da;simp only[Int.cast_ofNat_Int]at c6;obtain⟨q,I,bV,bW⟩:=HP.get hR ak;have aj:=WS s n .i64 v ak;have bX:=AK R bV;have av:=WS D (Ju n es).length .i64 q I;have ay:=AK K (Z6 (f:=fun a=>((Ng es ((dg n rs).take j) a:Nat):Int)) I);have hle:Ng es ((dg n rs).take j) (Ju n es)[q]<=40000:=Jh (QY _ _ _) (by rw[Ja];omega);have O:=Im hle;have db:=uH K (i:=q) (by rw[yA];exact I) (((Ng es ((dg n rs).take j) (Ju n es)[q]:Nat):Int)+1);have ar:=jB hR (l:=(dg n rs).take j) (e:=f) I (by rw[c5];simpa using bW);rw[<-X]at ar;rw[<-ar]at db;have ad:=Gm j QT;simp only[Ud,Nat.reduceLT,↓reduceIte,Nat.reduceEqDiff,dT,aK,c6,da,aj,bX,av,ay,O,db,ad];exact cX ((dg n rs).length-(j+1)) [(7,pv),(8,.slice (some ⟨s,0,none⟩) n n),(9,.slice (some ⟨A,0,none⟩) (Ju n es).length (Ju n es).length),(10,.slice (some ⟨C,0,none⟩) (Ju n es).length (Ju n es).length),(11,.slice (some ⟨D,0,none⟩) (Ju n es).length (Ju n es).length),(88,U),(89,.int .i64 (dg n rs).length),(90,.int .i64 (j+1:Nat))] (dN d) vy
   ⟨j+1,rfl,d,rfl,by rw[AHeap.Dz _ _ _ _ ck];exact R,by rw[AHeap.Dz _ _ _ _ cr];exact oA,by rw[AHeap.Dz _ _ _ _ cx];exact oC,AHeap.zm _ _ _,J.put _ nD⟩
 have y:(dg n rs).length<=j:=Yv hf;rw[xV y]at K;clear y hf M;simp only[Ud,Nat.reduceLT,↓reduceIte,Nat.reduceEqDiff,lp];refine W9.intro (fun k fr o=>∃(i:Nat),k=(Ju n es).length-i/\i<=(Ju n es).length/\fr=mkF [(9,.slice (some ⟨A,0,none⟩) (Ju n es).length (Ju n es).length),(10,.slice (some ⟨C,0,none⟩) (Ju n es).length (Ju n es).length),(11,.slice (some ⟨D,0,none⟩) (Ju n es).length (Ju n es).length),(107,.int .i64 (Ju n es).length),(108,.int .i64 i)]/\
   (∀j (M:j<(Ju n es).length),j<i->0<Q5 es es (Ju n es)[j]->(sH n es (Ju n es)[j]).length+Ng es (dg n rs) (Ju n es)[j]=Q5 es es (Ju n es)[j]+2)/\o=r)
  (Ju n es).length [(9,.slice (some ⟨A,0,none⟩) (Ju n es).length (Ju n es).length),(10,.slice (some ⟨C,0,none⟩) (Ju n es).length (Ju n es).length),(11,.slice (some ⟨D,0,none⟩) (Ju n es).length (Ju n es).length),(107,.int .i64 (Ju n es).length),(108,.int .i64 (0:Nat))] vy
  ⟨0,rfl,KW _,rfl,fun j _ h=>absurd h (kS _),rfl⟩ ?_
 rintro k fr o-⟨i,rfl,hi,rfl,aB,rfl⟩;refine yq ?_;refine DK.intro (fun S=>?_) (fun hf=>?_)
 .have m : i < (Ju n es).length := Ub S
  clear S;have b2:=WS A (Ju n es).length .i64 i m;have al:=WS C (Ju n es).length .i64 i m;have av:=WS D (Ju n es).length .i64 i m;have b3:=AK oA (br i m m);have aq:=AK oC (Z6 (f:=fun a=>((Q5 es es a:Nat):Int)) m);have ay:=AK K (Z6 (f:=fun a=>((Ng es (dg n rs) a:Nat):Int)) m);have hle:Q5 es es (Ju n es)[i]<=40000:=Jh (Hz _ _ _) QT;have dV:Ng es (dg n rs) (Ju n es)[i]<=40000:=Jh (QY _ _ _) QT;have dW:(sH n es (Ju n es)[i]).length<=40000:=Jh (KB _ _ _) QT;have O:=cnt_ok2 hle;have b4:=cnt_ok3 dW dV;have aX:=Gm i QT;by_cases c1:0<Q5 es es (Ju n es)[i]
  .have d1 : decide (((Q5 es es (Ju n es)[i] : Nat) : Int) > 0) = true := decide_eq_true (YQ.2 c1)
   by_cases c2:(sH n es (Ju n es)[i]).length+Ng es (dg n rs) (Ju n es)[i]=Q5 es es (Ju n es)[i]+2
   .have d2 : decide ((((sH n es (Ju n es)[i]).length : Nat) : Int) + ((Ng es (dg n rs) (Ju n es)[i] : Nat) : Int) = ((Q5 es es (Ju n es)[i] : Nat) : Int) + 2) = true := decide_eq_true (vB.2 c2)
    refine yq ?_;refine rD (vu [0,1,2,3,4,5,6,7,8,9,10,11,12,13,14,15,16,17,18,19,20,21] .done) ?_;simp only[Ud,Nat.reduceLT,↓reduceIte,Nat.reduceEqDiff,rm,b2,al,av,b3,aq,ay,O,b4,d1,d2,bne,aX];refine cX ((Ju n es).length-(i+1)) [(9,.slice (some ⟨A,0,none⟩) (Ju n es).length (Ju n es).length),(10,.slice (some ⟨C,0,none⟩) (Ju n es).length (Ju n es).length),(11,.slice (some ⟨D,0,none⟩) (Ju n es).length (Ju n es).length),(107,.int .i64 (Ju n es).length),(108,.int .i64 (i+1:Nat))] (dN m) vy
     ⟨i+1,rfl,m,rfl,fun j M W Y=>?_,rfl⟩
    by_cases c:j=i
    .subst c;exact c2
    .exact aB j M (x3 W c) Y
   .have d2 : decide ((((sH n es (Ju n es)[i]).length : Nat) : Int) + ((Ng es (dg n rs) (Ju n es)[i] : Nat) : Int) = ((Q5 es es (Ju n es)[i] : Nat) : Int) + 2) = false := decide_eq_false (fun e => c2 (vB.1 e))
    refine yq ?_;refine rD (vu [0,1,2,3,4,5,6,7,8,9,10,11,12,13,14,15,16,17,18,19,20,21] .done) ?_;simp only[Ud,Nat.reduceLT,↓reduceIte,Nat.reduceEqDiff,rm,b2,al,av,b3,aq,ay,O,b4,d1,d2,bne];exact fin false ⟨(fun e=>by cases e),fun e=>absurd e (ZX.not m c1 c2)⟩ _ (a8.trans J)
  .have d1 : decide (((Q5 es es (Ju n es)[i] : Nat) : Int) > 0) = false := decide_eq_false (fun e => c1 (YQ.1 e))
   refine yq ?_;refine rD (vu [0,1,2,3,4,5,6,7,8,9,10,11,12,13,14,15,16,17,18,19,20,21] .done) ?_;simp only[Ud,Nat.reduceLT,↓reduceIte,Nat.reduceEqDiff,rm,al,aq,d1,aX];refine cX ((Ju n es).length-(i+1)) [(9,.slice (some ⟨A,0,none⟩) (Ju n es).length (Ju n es).length),(10,.slice (some ⟨C,0,none⟩) (Ju n es).length (Ju n es).length),(11,.slice (some ⟨D,0,none⟩) (Ju n es).length (Ju n es).length),(107,.int .i64 (Ju n es).length),(108,.int .i64 (i+1:Nat))] (dN m) vy
    ⟨i+1,rfl,m,rfl,fun j M W Y=>?_,rfl⟩
   by_cases c:j=i
   .subst c;exact absurd Y c1
   .exact aB j M (x3 W c) Y
 have y:(Ju n es).length<=i:=Yv hf;refine yq ?_;refine fin true ⟨fun _ a ha Y=>?_,fun _=>rfl⟩ _ (a8.trans J);obtain⟨q,dY⟩:=OH.1 ha;obtain⟨dc,rfl⟩:=bH.1 dY;exact aB q dc (K2 dc y) Y
end
end Go.Fw
