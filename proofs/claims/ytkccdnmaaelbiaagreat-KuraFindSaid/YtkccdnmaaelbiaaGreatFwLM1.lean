/- A text. -/
import Derived.Test.YtkccdnmaaelbiaaGreatFwLZ7
import Derived.Test.YtkccdnmaaelbiaaGreatFwLBR
set_option linter.all false
set_option maxRecDepth 99999
set_option maxHeartbeats 9999999
namespace Go.Fw
section
open Go.Proofs
def fT (v:Value) (i:Nat):Addr:=elemAddr v (i*3)
def alloc45' (h:AHeap):aAlloc Tryz.prog h 38=some (.pointer (some ⟨h.next,0,none⟩),h.alloc (.cells [.int .i64 0,.int .i64 0])):=rfl
structure AtS (n:Int) (es:List Pr) (bs:List (List Pr)):Prop where
 ne:∀b∈bs,b≠[]
 right:∀b∈bs,bX ⟨n,b⟩
 q9:∀(i:Nat) b b' p q,bs[i]?=some b->bs[i+1]?=some b'->b[0]?=some p->b'[0]?=some q->p.1<q.1\/p.1=q.1/\p.2<q.2
 mem:∀b∈bs,∀p∈b,p∈es
 TE:∀(i j:Nat) b b' p,bs[i]?=some b->bs[j]?=some b'->p∈b->p∈b'->i=j
 all:∀p∈es,∃b∈bs,p∈b
 len:bs.length<=1000
def Met (bs:List (List Pr)) (i j:Nat) (p:Pr) (x:Int):Prop:=∃(k:Nat) (b:List Pr),bs[k]?=some b/\x=(k:Int)/\(k<i/\p∈b\/k=i/\p∈b.take j)
end
variable {b es:List Pr} {i n v x y:Nat} {p:Pr}
theorem Nl:D3 es↔es.Pairwise fun x y=>x.1<y.1\/x.1=y.1/\x.2<y.2:=by
 rw[DF];constructor
 .intro ha i j hi b a;exact ha.lt a (BS hi) (BS b)
 .intro h i j p q a hi b
  obtain⟨a1,a2⟩:=Ny.1 hi;obtain⟨d,c⟩:=Ny.1 b;rw[Hv,<-a2,<-c];grind
theorem bX.of (a:n<=200) (c:es.length<=594) (d:aV n es) (ha:D3 es):bX ⟨(n:Int),es⟩:=
 ⟨Ma,pw,c,fun i hi p b=>⟨d p (Gc b),fun q f e=>ha (i-1) i q p NH e b⟩⟩
theorem bX.sub {es a:List Pr} (h:bX ⟨(n:Int),es⟩) (hs:a.Sublist es):bX ⟨(n:Int),a⟩:=
 bX.of (by have:(n:Int)<=200:=h.n1;omega) (Hs hs.length_le h.len) (fun p b=>h.GD p (hs.subset b)) (Nl.2 ((Nl.1 h.q9).sublist hs))
theorem Jh (h:(vq n es)[i]?=some b):∃k,(CY (cQ n es) es)[i]?=some k/\b=es.filter fun p=>decide (cQ n es p=k):=by grind [aaB]
theorem sh (h:(vq n es)[i]?=some b) {k:Int} (a:(CY (cQ n es) es)[i]?=some k):p∈b↔p∈es/\cQ n es p=k:=by grind [Jh]
theorem XF (h:bX ⟨(n:Int),es⟩):AtS (n:Int) es (vq n es):=by
 obtain⟨nd,c⟩:=lQ (cQ n es) _ es rfl;have l:∀b∈vq n es,b≠[]:=fun b hb=>by
  obtain⟨i,hi⟩:=IE.1 hb;obtain⟨k,m,rfl⟩:=Jh hi;obtain⟨p,d,e⟩:=(c k).1 (Gc m);have:p∈es.filter fun p=>decide (cQ n es p=k):=by grind
  grind
 refine⟨l,fun b hb=>?_,fun i b B p q hb sZ d C=>?_,fun b hb p d=>?_,fun i j b B p hb sZ d D=>?_,fun p d=>?_,?_⟩
 .grind [List.mem_iff_getElem?,Jh,bX.sub,List.filter_sublist]
 .obtain ⟨k, m, e⟩ := Jh hb
  obtain⟨E,f,e'⟩:=Jh sZ;obtain⟨x,r,w,h2,h3⟩:=fk_first (cQ n es) _ es rfl i (i+1) k E NH m f;have g:=(sh sZ f).1 (Gc C);obtain⟨y,A⟩:=IE.1 g.1;have o:=h3 y q A g.2;have s:=h.q9.lt o w A;have a:r∈b:=by grind [List.mem_of_getElem?]
  have u:b.Pairwise fun x y=>x.1<y.1\/x.1=y.1/\x.2<y.2:=by rw[e];exact(Nl.1 h.q9).filter _
  cases b with
  |nil=>cases a
  |cons z t=>
   simp at d;subst d;rw[gK]at u;rw[EL]at a;rcases a with rfl|a
   .exact s
   grind
 .grind [List.mem_iff_getElem?,Jh]
 .grind [Jh,List.getElem?_inj]
 .obtain ⟨i, hi⟩ := IE.1 ((c _).2 ⟨p, d, rfl⟩)
  have v:(vq n es)[i]?=some (es.filter fun q=>decide (cQ n es q=cQ n es p)):=by grind [aaB]
  exact⟨_,Gc v,(by grind)⟩
 .rw [aaB, jz]
  have w:(CY (cQ n es) es).length<=(es.map (cQ n es)).length:=nd.length_le_of_subset pw;have h2:es.length<=594:=h.len
  grind
theorem Zg (d:bX ⟨(n:Int),es⟩) (e:p∈es):∃(k:Nat) (b:List Pr),(vq n es)[k]?=some b/\p∈b/\Met (vq n es) (vq n es).length 0 p (k:Int):=by
 obtain⟨b,hb,a⟩:=(XF d).all p e;obtain⟨k,c⟩:=IE.1 hb;exact⟨k,b,c,a,k,b,c,rfl,.inl ⟨(Ny.1 c).1,a⟩⟩
def AN (v:Int) (p:Pr):Bool:=decide (p.1=v)||decide (p.2=v)
def woV (es:List Pr) (v:Nat):List Pr:=es.filter fun p=>!AN (v:Int) p
theorem rI:Jp (woV es v) x y↔Jp es x y/\x≠v/\y≠v:=by grind [Jp,woV,AN]
theorem woV_con {v a b:Nat} (ha:a≠v):Pu (woV es v) a b↔Cn (wo v) es a b:=by
 constructor
 .intro h
  induction h with
  |refl _=>exact .refl (iO ha)
  |step _ a _ d=>exact d.step (rI.1 a).1 (by grind [rI])
 .intro h
  induction h with
  |refl _=>grind [Pu.refl]
  |step c a o d=>exact .step d (by grind [rI,Cn.AB]) rfl
theorem ends (e:aV n es) (d:p∈es):∃a c:Nat,p=((a:Int),(c:Int))/\a<c/\c<n/\Jp es a c:=by
 have b:=e p d;obtain⟨x,y⟩:=p;obtain⟨a,rfl⟩:=WA b.1;obtain⟨c,rfl⟩:=WA (show 0<=y by omega);exact⟨a,c,rfl,NH,NH,.inl d⟩
section
open Go.Proofs
variable {h:AHeap} {ps:List Pr} {v:Value}
def Ct (v:Value) (n:Nat):Prop:=∃a cap,v=.slice a n cap/\((cap<RA/\n<=cap)\/(cap=RA+2/\a.isSome))
theorem GP.ct (g:GP h v ps):Ct v ps.length:=by
 obtain⟨_,⟨rfl,b⟩|⟨id,c,cap,rfl,_,_,a⟩⟩:=g
 .exact⟨none,0,by rw[b],.inl ⟨WY,NH⟩⟩
 .refine ⟨_, cap, rfl, ?_⟩
  rcases a with a|⟨rfl,d⟩
  .exact pw
  .exact .inl ⟨V9 d WY,qL0 _⟩
theorem afq (ps:List Pr) (i:Nat):Iu (ps.take i)=(Iu ps).take (i*2):=by
 induction ps generalizing i with
 |nil=>simp[Iu]
 |cons p ps a=>
  cases i with
  |zero=>simp[Iu]
  |succ i=>
   have e:Iu (p::ps)=.int .i64 p.1::.int .i64 p.2::Iu ps:=rfl;have e':Iu (p::ps.take i)=.int .i64 p.1::.int .i64 p.2::Iu (ps.take i):=rfl;rw[abW,e',e,a,show(i+1)*2=i*2+1+1 by omega,abW,abW]
theorem za (ps:List Pr) (i:Nat):Iu (ps.drop i)=(Iu ps).drop (i*2):=by
 induction ps generalizing i with
 |nil=>simp[Iu]
 |cons p ps a=>
  cases i with
  |zero=>simp[Iu]
  |succ i=>
   have e:Iu (p::ps)=.int .i64 p.1::.int .i64 p.2::Iu ps:=rfl
   grind
variable {es:List Pr} {l:II} {x:Nat}
theorem KH {v x:Nat} (h:Pu es v x) (g:x≠v):∃a,Jp es v a/\Pu (woV es v) a x:=by
 induction h with
 |refl _=>grind
 |@step w x c a _ d=>
  by_cases e:w=v
  .grind [Pu.refl]
  .obtain ⟨b, hb, f⟩ := d e
   exact⟨b,hb,.step f (by grind [rI]) rfl⟩
theorem MS {α:Type} (p:α->Bool):∀(l:List α),l.length=(l.filter p).length+(l.filter fun x=>!p x).length
 |[]=>rfl
 |x::l=>by
  have:=MS p l
  grind
theorem Cq (nd:l.Nodup) (c:x∈l) (h:∀y∈l,y=x):l.length=1:=by
 cases l with
 |nil=>cases c
 |cons a l=>
  cases l with
  |nil=>rfl
  |cons b l=>
   have d:=h a Ma;have h2:=h b Ma
   grind
variable {n:Nat} {p:Pr}
def jo (p:Pr) (v:Int):Int:=if p.1=v then p.2 else if p.2=v then p.1 else-1
theorem XH (d:aV n es) (e:p∈es) (v:Nat):
  (∃a:Nat,a<n/\jo p (v:Int)=(a:Int)/\Jp es v a/\p=GW v a)\/(jo p (v:Int)=-1/\∀a,p≠GW v a):=by
 obtain⟨a,c,rfl,f,g,b⟩:=ends d e;unfold jo;by_cases h:a=v
 .grind [bj]
 .by_cases h2 : c = v
  .grind [Jp.symm,bj]
  .grind [bj]
variable {a v:Nat} {k:Int} {α:Type}
theorem Yt {l:List α} (nd:l.Nodup):1<l.length↔∃x y,x∈l/\y∈l/\x≠y:=by
 constructor
 .intro h
  match l,h with
  |x::y::r,_=>
   rw[aaf]at nd;exact⟨x,y,Ma,Ma,pw⟩
 .rintro ⟨x, y, c, e, d⟩
  match l with
  |[]=>cases c
  |[a]=>grind
  |a::b::r=>simp
def rG (v:Int) (b:List Pr):Bool:=b.any (AN v)
theorem inc_pair (b:aV n es) (c:p∈es) (h:AN (v:Int) p=true):∃a,Jp es v a/\p=GW v a:=by
 rcases XH b c v with⟨a,_,_,d,h2⟩|⟨d,_⟩
 .grind
 .have := b p c
  grind [jo,AN]
theorem zo:AN (v:Int) (GW v a)=true:=by grind [AN,GW]
theorem at_iff (b:aV n es):rG (v:Int) (es.filter fun p=>decide (cQ n es p=k))=true↔∃a,Jp es v a/\cQ n es (GW v a)=k:=by grind [rG,inc_pair,T0,zo]
def Sq (n:Nat) (es:List Pr) (v:Nat):Nat:=((vq n es).filter (rG (v:Int))).length
def I7 (n:Nat) (es:List Pr) (v:Nat):RZ:=(CY (cQ n es) es).filter fun k=>rG (v:Int) (es.filter fun p=>decide (cQ n es p=k))
def JW (n:Nat) (es:List Pr) (v:Nat):Sq n es v=(I7 n es v).length:=by rw[Sq,aaB,ag4,jz];rfl
theorem PS (n:Nat) (es:List Pr) (v:Nat):(I7 n es v).Nodup:=(lQ (cQ n es) _ es rfl).1.sublist eR
theorem dG (b:aV n es):k∈I7 n es v↔∃a,Jp es v a/\cQ n es (GW v a)=k:=by
 rw[I7,aax,at_iff b];refine⟨fun h=>h.2,fun⟨a,ha,c⟩=>⟨((lQ (cQ n es) _ es rfl).2 k).2 (by grind [T0]),a,ha,c⟩⟩
theorem YH (c:aV n es) (v:Nat):1<Sq n es v↔Fo.Cut2 es v:=by
 rw[JW,Yt (PS n es v)];constructor
 .rintro ⟨x, y, d, f, g⟩
  obtain⟨a,ha,rfl⟩:=(dG c).1 d;obtain⟨b,hb,rfl⟩:=(dG c).1 f;exact⟨a,b,ha,hb,(by grind [dR])⟩
 .rintro ⟨a, b, ha, hb, h⟩
  exact⟨_,_,(dG c).2 ⟨a,ha,rfl⟩,(dG c).2 ⟨b,hb,rfl⟩,fun e=>h ((dR c ha hb).1 e)⟩
end
end Go.Fw
namespace Go.Fw
open Go.Proofs
namespace Fo
variable {n : Nat} {es : List Pr} {num : Nat → Nat} {up : Nat → Option Nat} {hd : Nat → Nat}
theorem Io {a b:Nat} (h:pJ up a b) (ne:a≠b):up b≠none:=by grind [pJ.last]
def beg (n:Nat) (up:Nat->Option Nat) (hd:Nat->Nat):II:=(List.range n).filter fun c=>decide (up c≠none/\hd c=c)
theorem AF {c:Nat}:c∈beg n up hd↔c<n/\up c≠none/\hd c=c:=by simp[beg]
theorem beg_nd:(beg n up hd).Nodup:=VU.sublist eR
def JB (n:Nat) (up:Nat->Option Nat) (hd:Nat->Nat) (v:Nat):II:=(beg n up hd).filter fun c=>decide (up c=some v)
theorem mF (F:Fo n es num up) (H:abi n es num up hd) {v:Nat} (h:v<n) (c:Nat):(∃a,Jp es v a/\hd (lower num v a)=c)↔c∈JB n up hd v\/(up v≠none/\c=hd v):=by
 rw[JB,aax,AF,decide_eq_true_eq];constructor
 .rintro ⟨a, ha, rfl⟩
  have i:=F.JD ha;have e:=(ha.lt F.rD).2;unfold lower;by_cases q:num a<num v
  .rw [if_pos q]
   exact .inr ⟨Io (F.anc a v ha.symm q) pw,rfl⟩
  .rw [if_neg q]
   obtain⟨c,f,b⟩:=(F.anc v a ha NH).child pw;have d:=(F.yO b e).1;rw[F.zP H f b ha];by_cases hb:ym es num up v c
   all_goals grind [Fo.CJ,Fo.Io,Fo.abi.on,Fo.abi.new]
 .rintro (⟨⟨d, _, hh⟩, f⟩ | ⟨g, rfl⟩)
  .obtain ⟨j, h2⟩ := F.Kd c v d f
   grind [Fo.lower]
  .obtain ⟨u, g⟩ := Db.1 g
   obtain⟨j,h2⟩:=F.Kd v u h g
   grind [Jp.symm,Fo.lower]
theorem hd_notAt (F:Fo n es num up) (H:abi n es num up hd) {v:Nat} (a:v<n):hd v∉JB n up hd v:=by
 intro h;rw[JB,aax,AF,decide_eq_true_eq]at h;have b:=(F.US H (num v) v (qL0 _) a).1;have h2:=(F.Kd _ v h.1.1 h.2).2
 grind [Fo.yO]
end Fo
open Classical in
theorem incN_eq {n:Nat} {es:List Pr} {num:Nat->Nat} {up:Nat->Option Nat} (S:aay n es (Jz n es).1 (Jz n es).2 num up) {v:Nat} (h:v<n):
  Sq n es v=(Fo.JB n up (Cl n es) v).length+(if up v=none then 0 else 1):=by
 have F:=S.fo;have H:=(FY S).1;have d:=F.rD;have b:∀k:Int,k∈I7 n es v↔∃c:Nat,k=(c:Int)/\(c∈Fo.JB n up (Cl n es) v\/(up v≠none/\c=Cl n es v)):=by
  intro k;rw[dG d];constructor
  .rintro ⟨a, ha, rfl⟩
   exact⟨_,jm S ha,(by grind [Fo.mF])⟩
  grind [Fo.mF,jm]
 have e:(Fo.JB n up (Cl n es) v).Nodup:=Fo.beg_nd.sublist eR;rw[JW];by_cases f:up v=none
 .rw [if_pos f]
  have:(I7 n es v).Perm (kz (Fo.JB n up (Cl n es) v)):=by grind [PS,kz.eq_1]
  rw[this.length_eq,y6];rfl
 .have g : (Cl n es v :: Fo.JB n up (Cl n es) v).Nodup := by grind [Fo.hd_notAt]
  have:(I7 n es v).Perm (kz (Cl n es v::Fo.JB n up (Cl n es) v)):=(kS (PS n es v) (by grind [kz.eq_1])).2 (by grind [kz.eq_1])
  grind [List.Perm.length_eq,y6]
theorem VV {n:Nat} {es:List Pr} {num:Nat->Nat} {up:Nat->Option Nat} (S:aay n es (Jz n es).1 (Jz n es).2 num up):(vq n es).length=(Fo.beg n up (Cl n es)).length:=by
 have F:=S.fo;have H:=(FY S).1;have i:=F.rD;obtain⟨l,mk⟩:=lQ (cQ n es) _ es rfl;have:(CY (cQ n es) es).Perm (kz (Fo.beg n up (Cl n es))):=(kS l (by grind [kz.eq_1,Fo.beg_nd])).2 fun k=>by
  rw[mk,kz,Z6];constructor
  .rintro ⟨p, m, rfl⟩
   obtain⟨a,c,rfl,o,d,b⟩:=ends i m;have q:((a:Int),(c:Int))=GW a c:=by grind [bj]
   have w:=jm S b;have r:=F.JD b;have e:Fo.lower num a c<n:=by grind [Fo.lower]
   have s:up (Cl n es (Fo.lower num a c))≠none:=by
    have key:=fun x y f g=>F.link H (fun _ _=>()) (fun _ _=>rfl) pw (num x) x y (qL0 _) f g
    grind [Fo.lower,Jp.symm]
   have t:=F.US H _ (Fo.lower num a c) (qL0 _) e
   grind [Fo.AF,Fo.yO]
  .rintro ⟨c, v, rfl⟩
   obtain⟨d,h,hh⟩:=Fo.AF.1 v;obtain⟨u,h⟩:=Db.1 h;obtain⟨j,h2⟩:=F.Kd c u d h;refine⟨GW c u,T0 i j.symm,?_⟩;rw[jm S j.symm]
   grind [Fo.lower]
 grind [aaB,List.Perm.length_eq,y6]
end Go.Fw
namespace Go.Fw
open Go.Proofs
theorem sum_add (f g:Nat->Nat):∀l:II,(l.map fun x=>f x+g x).sum=(l.map f).sum+(l.map g).sum
 |[]=>rfl
 |x::l=>by simp only[mJ,MY,sum_add f g l];omega
theorem Zl (u:Nat):∀n,((List.range n).map fun v=>if u=v then 1 else 0).sum=if u<n then 1 else 0
 |0=>rfl
 |n+1=>by
  rw[Bx,bC,ahL,Zl u n]
  grind
def Rp:∀n,((List.range n).map fun _=>0).sum=0
 |0=>rfl
 |n+1=>by rw[Bx,bC,ahL,Rp n];rfl
theorem Lz (n:Nat) (up:Nat->Option Nat):∀(l:II),(∀c∈l,∃u,up c=some u/\u<n)->((List.range n).map fun v=>(l.filter fun c=>decide (up c=some v)).length).sum=l.length
 |[],_=>by exact Rp n
 |c::l,h=>by
  obtain⟨u,a,b⟩:=h c Ma;have d:=Lz n up l pw
  have e:(fun v=>((c::l).filter fun c=>decide (up c=some v)).length)=fun v=>(l.filter fun c=>decide (up c=some v)).length+(if u=v then 1 else 0):=pw
  grind [sum_add,Zl]
theorem af8 (p:Nat->Prop) [DecidablePred p]:∀l:II,(l.map fun v=>if p v then 0 else 1).sum=(l.filter fun v=>decide (¬p v)).length
 |[]=>rfl
 |x::l=>by
  rw[mJ,MY,af8 p l,Bc]
  grind
theorem yA (inc:Nat->Nat):∀l:II,(l.map inc).sum+(l.filter fun v=>decide (1<inc v)).length=((l.filter fun v=>decide (1<inc v)).map inc).sum+(l.filter fun v=>decide (0<inc v)).length
 |[]=>rfl
 |x::l=>by
  have a:=yA inc l
  grind
theorem Yu {A B:II} {R:Nat->Nat->Prop} (c:A.Nodup) (h:∀a∈A,∃b∈B,R a b) (inj:∀a∈A,∀a'∈A,∀b,R a b->R a' b->a=a'):A.length<=B.length:=by
 classical
 let f:Nat->Nat:=fun a=>if h:∃b∈B,R a b then Classical.choose h else 0
 have nd:(A.map f).Nodup:=by grind [List.Pairwise.imp_of_mem]
 have:=nd.length_le_of_subset (l₂:=B) pw
 grind
namespace Fo
variable {n : Nat} {es : List Pr} {num : Nat → Nat} {up : Nat → Option Nat}
def root_ex (F:Fo n es num up):∀(k v:Nat),num v<=k->v<n->∃r,r<n/\up r=none/\pJ up r v/\Pu es r v:=by
 intro k
 induction k with
 |zero=>
  intro v d b;cases a:up v with
  |none=>exact⟨v,b,a,.refl v,Pu.refl _ _⟩
  |some u=>have:=(F.Kd v u b a).2;omega
 |succ k e=>
  intro v d b;cases a:up v with
  |none=>exact⟨v,b,a,.refl v,Pu.refl _ _⟩
  |some u=>
   obtain⟨c,h2⟩:=F.Kd v u b a;obtain⟨r,f,h3,g,h⟩:=e u NH (c.lt F.rD).1;exact⟨r,f,h3,g.step a,.step h c rfl⟩
theorem root_con (F:Fo n es num up) {r u v:Nat} (a:up r=none) (h:pJ up r u) (c:Pu es u v):pJ up r v:=by
 induction c<;>grind [Fo.JD,pJ.trans,Fo.anc,Jp.symm,pJ.chain,Fo.Io]
theorem xd (F:Fo n es num up) {r s:Nat} (a:up r=none) (hs:up s=none) (c:Pu es r s):r=s:=by
 have h:=F.root_con a (.refl r) c
 grind [Fo.Io]
end Fo
open Classical in
theorem HJ {n:Nat} {es:List Pr} (b:aV n es) {v:Nat}:0<Sq n es v↔∃a,Jp es v a:=by
 rw[JW,List.length_pos_iff_exists_mem];constructor
 .grind [dG]
 .rintro⟨a,ha⟩;exact⟨_,(dG b).2 ⟨a,ha,rfl⟩⟩
theorem FV {es:List Pr} {u v:Nat} (h:Pu es u v) (ne:u≠v):(∃a,Jp es u a)/\∃a,Jp es v a:=by
 constructor
 .induction h<;>grind
 .cases h<;>grind [Jp.symm]
open Classical in
theorem tZ {n:Nat} {es:List Pr} (f:aV n es):
  (vq n es).length+(JL n es).length=((JL n es).map (Sq n es)).sum+((Es n es).filter fun h=>decide (0<Sq n es h)).length:=by
 obtain⟨num,up,S⟩:=Ob f;have F:=S.fo;have s:JL n es=(List.range n).filter fun v=>decide (1<Sq n es v):=by grind [JL.eq_1,List.filter_congr,YH,Cv]
 have j:=yA (Sq n es) (List.range n);have h2:((List.range n).map (Sq n es)).sum=(Fo.beg n up (Cl n es)).length+((List.range n).filter fun v=>decide (¬up v=none)).length:=by
  have e:(List.range n).map (Sq n es)=(List.range n).map fun v=>(Fo.JB n up (Cl n es) v).length+(if up v=none then 0 else 1):=
   (by grind [List.map_congr_left,incN_eq])
  rw[e,sum_add,af8 (fun v=>up v=none)];congr 1;exact Lz n up _ fun c g=>by
   obtain⟨i,d,_⟩:=Fo.AF.1 g;obtain⟨u,d⟩:=Db.1 d;exact⟨u,d,((F.Kd c u i d).1.lt f).1⟩
 have h3:=MS (fun v=>decide (¬up v=none)) ((List.range n).filter fun v=>decide (0<Sq n es v));rw[qk,qk]at h3;have t:(List.range n).filter (fun v=>decide (¬up v=none)&&decide (0<Sq n es v))=(List.range n).filter fun v=>decide (¬up v=none):=by
  refine j3 fun v k=>?_;rw[iy]at k;by_cases q:up v=none
  .simp[q]
  .obtain ⟨u, d⟩ := Db.1 q
   have:0<Sq n es v:=(HJ f).2 ⟨u,(F.Kd v u k d).1.symm⟩;simp[this]
 have w:((List.range n).filter fun v=>(!decide (¬up v=none))&&decide (0<Sq n es v)).length=((Es n es).filter fun h=>decide (0<Sq n es h)).length:=by
  have l:∀v,v∈((List.range n).filter fun v=>(!decide (¬up v=none))&&decide (0<Sq n es v))↔v<n/\up v=none/\0<Sq n es v:=fun v=>by simp
  have m:∀v,v∈((Es n es).filter fun h=>decide (0<Sq n es h))↔v∈Es n es/\0<Sq n es v:=fun v=>by simp
  have move:∀{a b:Nat},Pu es a b->0<Sq n es a->0<Sq n es b:=fun{a b} c h=>by
   by_cases e:a=b
   all_goals grind [HJ,FV]
  refine Nat.le_antisymm ?_ ?_
  .refine Yu (R := fun a b => Pu es a b) (by grind [List.nodup_range]) (fun a ha => ?_) (fun a ha a' mi b j h2 => ?_)
   .obtain ⟨k1, k2, o⟩ := (l a).1 ha
    obtain⟨h,hh,g⟩:=B6 f a k1
    grind [Cn.symm]
   grind [Fo.xd,Cn.trans,Cn.symm]
  .refine Yu (R := fun a b => Pu es a b) (by grind [qD]) (fun a ha => ?_) (fun a ha a' mi b j h2 => ?_)
   .obtain ⟨k1, o⟩ := (m a).1 ha
    obtain⟨r,p,x,y,g⟩:=F.root_ex (num a) a (qL0 _) (QO.1 k1).1
    grind [Cn.symm]
   grind [rf,Cn.trans,Cn.symm]
 grind [VV]
end Go.Fw
namespace Go.Fw
section
attribute [local irreducible] Kp MQ lU KO1 KO KN KX KE VK Kl ZJ TC aab
open Go.Proofs
variable {n:Nat} {ps:List Pr}
def lZ (p:Pr):Pr:=(min p.1 p.2,max p.1 p.2)
structure YG (n:Int) (ps:List Pr):Prop where
 n0:0<=n
 n1:n<=200
 len:ps.length<=594
 ok:∀p∈ps,0<=(lZ p).1/\(lZ p).1≠(lZ p).2/\(lZ p).2<n
 nd:(ps.map lZ).Nodup
theorem YG.right (k:YG (n:Int) ps):bX ⟨(n:Int),sortP (ps.map lZ)⟩:=by
 have nd:(sortP (ps.map lZ)).Nodup:=(YA _).nodup_iff.2 k.nd;have hle:=VH (ps.map lZ);refine bX.of (by have:=k.n1;omega) (by grind [ZS,YG.len]) (fun q a=>?_) (Nl.2 ?_)
 .rw [Wb, Z6] at a
  obtain⟨p,b,rfl⟩:=a;obtain⟨c,h2,h3⟩:=k.ok p b
  grind [lZ]
 .refine (hle.and nd).imp fun {x y} h => ?_
  grind
end
end Go.Fw
namespace Go.Fw
attribute [local instance] Classical.propDecidable
structure H9 (n:Nat) (es fs:List Pr) (π:Nat->Nat):Prop where
 r1:aV n es
 r2:aV n fs
 lt:∀a,a<n->π a<n
 inj:∀a b,a<n->b<n->π a=π b->a=b
 surj:∀x,x<n->∃a,a<n/\π a=x
 Jp:∀a b,a<n->b<n->(Jp fs (π a) (π b)↔Jp es a b)
namespace H9
variable {n : Nat} {es fs : List Pr} {π : Nat → Nat}
theorem inv (I:H9 n es fs π):∃σ,H9 n fs es σ/\(∀a,a<n->σ (π a)=a)/\∀x,x<n->π (σ x)=x:=by
 let σ:Nat->Nat:=fun x=>if h:∃a,a<n/\π a=x then Classical.choose h else 0
 have hs:∀x,x<n->σ x<n/\π (σ x)=x:=by grind [H9.surj]
 have b:∀a,a<n->σ (π a)=a:=by grind [H9.inj,H9.lt]
 exact⟨σ,⟨I.r2,I.r1,pw,pw,fun x c=>⟨π x,I.lt x c,b x c⟩,
  (by grind [H9.Jp])⟩,b,pw⟩
end H9
theorem acV {n:Nat} {es:List Pr} (d:aV n es) {p:Pr} (e:p∈es):∃a b:Nat,a<n/\b<n/\Jp es a b/\p=GW a b:=by
 obtain⟨a,c,rfl,f,g,h⟩:=ends d e;exact(by grind [bj])
namespace H9
variable {n : Nat} {es fs : List Pr} {π : Nat → Nat}
end H9
namespace H9
variable {n : Nat} {es fs : List Pr} {π : Nat → Nat}
end H9
end Go.Fw
namespace Go.Fw
section
open Go.Proofs
structure TM where
 bs:List (List Pr)
 cs:RZ
 ls:List Pr
end
section
attribute [local irreducible] Jz JL vq cQ
open Go.Proofs
variable {es:List Pr} {n:Nat}
def lkU (i:Nat) (b:List Pr) (cs:II) (k:Nat):List Pr:=((List.range k).filter fun j=>rG ((cs.getD j 0:Nat):Int) b).map fun(j:Nat)=>((i:Int),(j:Int))
def Rb (bs:List (List Pr)) (cs:II) (i:Nat):List Pr:=(List.range i).flatMap fun k=>lkU k (bs.getD k []) cs cs.length
theorem lkU_succ (i:Nat) (b:List Pr) (cs:II) (k:Nat):lkU i b cs (k+1)=lkU i b cs k++if rG ((cs.getD k 0:Nat):Int) b then[((i:Int),(k:Int))]else[]:=by grind [lkU.eq_1,List.range_succ]
theorem DK (bs:List (List Pr)) (cs:II) (i:Nat):Rb bs cs (i+1)=Rb bs cs i++lkU i (bs.getD i []) cs cs.length:=by grind [Rb.eq_1,List.range_succ]
def acF (n:Nat) (es:List Pr):TM:=⟨vq n es,kz (JL n es),Rb (vq n es) (JL n es) (vq n es).length⟩
def JoinG (n:Nat) (es:List Pr):Prop:=es≠[]/\(Es n es).length=1
theorem u5 (b:bX ⟨(n:Int),es⟩) (a:es≠[]):0<(vq n es).length:=by
 obtain⟨p,l,rfl⟩:=xD a
 grind [Zg,List.mem_cons_self]
end
section
open Go.Proofs
structure LinkOK (b n:Nat) (p:Pr):Prop where
 x0:0<=p.1
 x1:p.1<(b:Int)
 y0:0<=p.2
 y1:(b:Int)+p.2<(n:Int)
end
section
attribute [local instance] Classical.propDecidable
def bU (b:Nat) (ls:List Pr):List Pr:=ls.map fun p=>(p.1,(b:Int)+p.2)
structure Lk (b n:Nat) (ls:List Pr):Prop where
 n0:n≠0
 len:ls.length+1=n
 ok:∀p∈ls,LinkOK b n p
 bp:∀v,v<n->Pu (bU b ls) 0 v
end
section
open Go.Proofs
def mk57 (h:AHeap) (n:Nat) (a:n<=1000):aMakeSlice Tryz.prog h 27 (.int .i64 (n:Int)) (.int .i64 (n:Int))=some (.slice (some ⟨h.next,0,none⟩) n n,h.alloc (.cells (List.replicate n (.slice none 0 0)))):=
 Ye (P:=Tryz.prog) (t:=27) (z:=.slice none 0 0) h yU Ji rfl rfl rfl Ji Ac Ji n NH
def mk100 (h:AHeap) (n:Nat) (a:n<=1000):aMakeSlice Tryz.prog h 59 (.int .i64 (n:Int)) (.int .i64 (n:Int))=some (.slice (some ⟨h.next,0,none⟩) n n,h.alloc (.cells (List.replicate n (.bool false)))):=
 Ye (P:=Tryz.prog) (t:=59) (z:=.bool false) h eY rfl rfl rfl rfl Ji AV Ji n NH
def mk35 (h:AHeap) (n:Nat) (a:n<=1000):aMakeSlice Tryz.prog h 49 (.int .i64 (n:Int)) (.int .i64 (n:Int))=some (.slice (some ⟨h.next,0,none⟩) n n,h.alloc (.cells (List.replicate n (.int .i64 0)))):=
 Ye (P:=Tryz.prog) (t:=49) (z:=.int .i64 0) h Ac rfl rfl rfl rfl Ji Mb Ji n NH
end
section
attribute [local irreducible] Jz JL vq cQ
open Go.Proofs
variable {es:List Pr} {n:Nat}
def join_of (d:aV n es) (e:0<n) (c:es≠[]) (h:∀v,v<n->Pu es 0 v):JoinG n es:=by
 refine⟨c,?_⟩;obtain⟨a,ha,f⟩:=B6 d 0 e;have:∀b∈Es n es,b=a:=fun b hb=>rf hb ha ((h b (QO.1 hb).1).symm.trans f.symm);exact Cq (qD n es) ha this
def tM {u v w:Nat} (h:Pu es u v) (a:Jp es v w):Pu es u w:=h.step a rfl
end
section
attribute [local instance] Classical.propDecidable
attribute [local irreducible] Jz JL vq cQ
open Go.Proofs
variable {b es:List Pr} {c i j k n u v:Nat} {p:Pr} {α:Type}
theorem ah {bs:List (List Pr)} {cs:II}:∀k,p∈Rb bs cs k↔∃i j:Nat,i<k/\j<cs.length/\rG ((cs.getD j 0:Nat):Int) (bs.getD i [])=true/\p=((i:Int),(j:Int)):=by grind [Rb,lkU]
theorem FU (i:Nat) (b:List Pr) (cs:II):∀k,k<=cs.length->(lkU i b cs k).length=((cs.take k).filter fun c=>rG ((c:Nat):Int) b).length
 |0,_=>by simp[lkU]
 |k+1,h=>by
  rw[lkU_succ,j9,FU i b cs k NH,Yl,N8,j9]
  grind
theorem Er (bs:List (List Pr)) (cs:II):∀k,k<=bs.length->(Rb bs cs k).length=(cs.map fun c=>((bs.take k).filter (rG ((c:Nat):Int))).length).sum
 |0,_=>by
  rw[Rb]
  induction cs<;>grind
 |k+1,h=>by
  rw[DK,j9,Er bs cs k NH,FU k _ cs cs.length (qL0 _),agR];have hb:bs[k]?=some bs[k]:=BS h;rw[Yl,hb,Option.toList_some,D4 h]
  induction cs<;>grind
theorem uh (h:(Es n es).length=1) (a:u<n) (b:v<n):Pu es u v:=by
 have g:0<n:=NH;have m0:0∈Es n es:=by grind [QO]
 obtain⟨x,i⟩:=qL181.1 h;have key:∀k v,v<=k->v<n->Pu es 0 v:=by
  intro k
  induction k with
  |zero=>grind [Pu.refl]
  |succ k c=>
   intro v j b;by_cases e:v=0
   .grind
   have d:v∉Es n es:=pw;rw[QO]at d;have:∃u,u<v/\Pu es u v:=pw;obtain⟨u,a,f⟩:=this;exact(c u NH NH).trans f
 exact(key _ u (qL0 _) a).symm.trans (key _ v (qL0 _) b)
theorem ZI {l:List α} (nd:l.Nodup) {x:α} (h:l[i]?=some x) (g:l[j]?=some x):i=j:=by grind [List.pairwise_iff_getElem]
theorem bK (h:(vq n es)[k]?=some b):∃x,(CY (cQ n es) es)[k]?=some x/\b=es.filter fun p=>decide (cQ n es p=x):=by grind [aaB]
theorem block_at (h:(vq n es)[k]?=some b) (a:p∈b):p∈es:=by grind [bK]
theorem at_mem {v:Int} (a:p∈b) (h:AN v p=true):rG v b=true:=by grind [rG]
theorem tree_two (hR:bX ⟨(n:Int),es⟩) (f:v<n) {b c:List Pr} (h:(vq n es)[j]?=some b) (g:(vq n es)[k]?=some c) (hb:rG (v:Int) b=true) (d:rG (v:Int) c=true) (ne:j≠k):
  ∃m:Nat,(JL n es)[m]?=some v:=by
 have a:=hR.GD;have h2:1<Sq n es v:=by
  rw[JW,Yt (PS n es v)];obtain⟨x,i,rfl⟩:=bK h;obtain⟨y,l,rfl⟩:=bK g;rw[at_iff a]at hb d;refine⟨x,y,(dG a).2 hb,(dG a).2 d,fun e=>ne ?_⟩;have nd:=(lQ (cQ n es) _ es rfl).1
  grind [ZI]
 rw[YH a]at h2;exact IE.1 (by grind [OI])
theorem link_in (h:(vq n es)[i]?=some b) (g:(JL n es)[j]?=some c):((i:Int),(j:Int))∈(acF n es).ls↔rG (c:Int) b=true:=by
 show _∈Rb _ _ _↔_
 grind [ah]
theorem vC (h:(vq n es)[i]?=some b) (g:(JL n es)[j]?=some c) (ha:rG (c:Int) b=true):Jp (bU (vq n es).length (acF n es).ls) i ((vq n es).length+j):=by
 left;refine Z6.2 ⟨_,(link_in h g).2 ha,?_⟩
 grind
theorem tj (hR:bX ⟨(n:Int),es⟩) (e:v<n) {b c:List Pr} (h:(vq n es)[j]?=some b) (g:(vq n es)[k]?=some c) (hb:rG (v:Int) b=true) (a:rG (v:Int) c=true):Pu (bU (vq n es).length (acF n es).ls) j k:=by
 by_cases ne:j=k
 .grind [Pu.refl]
 obtain⟨m,d⟩:=tree_two hR e h g hb a ne;exact(abu (vC h d hb)).trans (abu (vC g d a)).symm
theorem tree_con (hR:bX ⟨(n:Int),es⟩) (q:u<n) (l:Pu es u v):∀{j k:Nat} {b c:List Pr},(vq n es)[j]?=some b->(vq n es)[k]?=some c->rG (u:Int) b=true->rG (v:Int) c=true->Pu (bU (vq n es).length (acF n es).ls) j k:=by
 have f:=hR.GD
 induction l with
 |refl _=>grind [tj]
 |@step w x _ a _ o=>
  intro j k b c h g hb e;obtain⟨m,d,i,hd,_⟩:=Zg hR (H4 f a);have p:rG (w:Int) d=true:=at_mem hd zo;have h2:rG (x:Int) d=true:=at_mem hd (by rw[so];exact zo);exact(o h i hb p).trans (tj hR (a.lt f).2 i g h2 e)
theorem treeM_lk (hR:bX ⟨(n:Int),es⟩) (k:JoinG n es):Lk (vq n es).length ((vq n es).length+(JL n es).length) (acF n es).ls:=by
 have o:=hR.GD;have f:=u5 hR k.1;have y:=XF hR;have e:∀i b,(vq n es)[i]?=some b->∃a c:Nat,((a:Int),(c:Int))∈b/\a<n/\rG (a:Int) b=true:=fun i b hb=>by
  obtain⟨p,l,rfl⟩:=xD (y.ne b (Gc hb));obtain⟨a,c,rfl,z,q,_⟩:=ends o (block_at hb vg)
  grind [at_mem,AN]
 have blk:∀i,i<(vq n es).length->Pu (bU (vq n es).length (acF n es).ls) 0 i:=fun i hi=>by
  have r:(vq n es)[i]?=some (vq n es)[i]:=BS hi;have w:(vq n es)[0]?=some (vq n es)[0]:=BS f;obtain⟨a,_,_,ha,ea⟩:=e _ _ w;obtain⟨c,_,_,s,A⟩:=e _ _ r;exact tree_con hR ha (uh k.2 ha s) w r ea A
 refine⟨NH,?_,fun p B=>?_,fun v F=>?_⟩
 .have G := tZ o
  have H:(acF n es).ls.length=((JL n es).map (Sq n es)).sum:=by
   show(Rb _ _ _).length=_;rw[Er _ _ _ (qL0 _),agR];rfl
  have r:((Es n es).filter fun h=>decide (0<Sq n es h)).length=1:=by
   obtain⟨x,C⟩:=qL181.1 k.2;have t:x∈Es n es:=by rw[C];simp
   have D:=(QO.1 t).1;obtain⟨p,l,rfl⟩:=xD k.1
   grind [ends,List.mem_cons_self,HJ,FV,uh]
  omega
 .obtain ⟨i, j, hi, E, _, rfl⟩ := (ah _).1 B
  exact⟨Ma,pw,Ma,pw⟩
 .by_cases hb : v < (vq n es).length
  .grind
  obtain⟨j,rfl⟩:∃j,v=(vq n es).length+j:=⟨v-(vq n es).length,NH⟩;have u:j<(JL n es).length:=NH;have s:(JL n es)[j]?=some (JL n es)[j]:=BS u;obtain⟨q,g⟩:=(OI o _).1 (Gc s);obtain⟨a,_,ha,_⟩:=g;obtain⟨m,d,I,hd,_⟩:=Zg hR (H4 o ha)
  grind [at_mem,zo,Cn.trans,abu,vC]
end
end Go.Fw
namespace Go.Fw
open Go.Proofs
attribute [local instance] Classical.propDecidable
def JS {a j:Nat} (h:j<a):a-(j+1)<a-j:=NH
section
variable {n : Nat} {es : List Pr} {rs : List (List Int)}
end
end Go.Fw
namespace Go.Fw
open Go.Proofs
attribute [local instance] Classical.propDecidable
section
variable {α β : Type} [DecidableEq α]
end
section
variable {n : Nat} {es : List Pr} {rs : List (List Int)}
noncomputable def IN (n:Nat) (rs:AM):AM:=(vf n (Xl rs)).map kz
end
end Go.Fw
namespace Go.Fw
section
attribute [local irreducible] Kp MQ lU KO1 KO KN KX KE VK Kl ZJ TC aab
attribute [local irreducible] IN
open Go.Proofs
variable {M:Nat} {h:AHeap}
def SA {l:List (Pr×Int)} (a:h.own M=some (.map (wy l))) (k:Pr):aLookupA Tryz.prog h 88 (.map (some M)) (UI k) false=some (.int .i64 ((lookK l k).getD 0)):=Il a k false
end
section
attribute [local instance] Classical.propDecidable
open Go.Proofs
variable {L:RZ} {T i n:Nat} {es:List Pr} {h hh:AHeap}
noncomputable def VF {α:Type} (P:Nat->α->Prop) (l:List α) (a:Nat):Nat:=(l.filter fun e=>decide (P a e)).length
noncomputable def Gn (es l:List Pr) (a:Nat):Nat:=VF (fun a (e:Pr)=>Pu es a e.1.toNat) l a
noncomputable def sA (es:List Pr) (l:AM) (a:Nat):Nat:=VF (fun a (f:RZ)=>Pu es a (f.headD 0).toNat) l a
def z8 (n:Nat) (es:List Pr) (rs:AM):Prop:=∀a∈Es n es,0<Gn es es a->(Ic n es a).length+sA es (IN n rs) a=Gn es es a+2
theorem JE {r:Nat->II} (R:V7 n r) {d:H8} (hd:d∈dl n r):(kz (zu r d)).headD 0=(d.1:Int)/\0<(kz (zu r d)).length:=by
 have:=(aaM (TG R) hd).1;have e:List.range (bt (Nv r) d)=0::(List.range' 1 (bt (Nv r) d-1)):=by rw[List.range_eq_range',show bt (Nv r) d=(bt (Nv r) d-1)+1 from by omega,PC];simp
 refine⟨?_,by grind [kz,zu,AA]⟩;simp only[kz,zu,AA,e,mJ,qL217];rfl
theorem Uj {rs:AM} (a:aV n es) (ha:D3 es) (G:Av n es rs) {f:RZ} (hf:f∈IN n rs):0<f.length/\∃v:Nat,v<n/\f.headD 0=(v:Int):=by
 have R:=G.jD a ha;rw[IN,Z6]at hf
 grind [vf.eq_1,gQ,dl,IP,JE]
def stI (o:hh.own T=some (.cells (Bp L))) (hi:i<L.length) (x:Int):
  aStore Tryz.prog hh 3 (.pointer (some ⟨T,i,none⟩)) (.int .i64 x)=some (hh.put T (.cells (Bp (L.set i x)))):=by rw[QB (P:=Tryz.prog) (t:=3) (x:=.int .i64 x) Mb Ji o (off:=i) (by rw[uE];exact hi) rfl rfl,yy]
def XP {l:Int} (o:hh.own T=some (.cells (Bp L))) (a:L[i]?=some l):aload Tryz.prog hh 3 ⟨T,i,none⟩=some (.int .i64 l):=by rw[Fq Mb rfl o];simp[Bp,a]
def Kx (T m:Nat) (k:IntKind) (j:Nat) (a:j<m):aIndexAddr Tryz.prog 49 (.slice (some ⟨T,0,none⟩) m m) (.int k j)=some (.pointer (some ⟨T,j,none⟩)):=by rw[Wc Ac Mb Ji j a];simp[Ip]
structure NewT3 (h h':AHeap) (A B C:Nat) (x:List Value):Prop where
 le:Le h h'
 wf:WF h'
 oA:h'.own A=some (.cells x)
 oB:h'.own B=some (.cells x)
 oC:h'.own C=some (.cells x)
 nA:h.own A=none
 nB:h.own B=none
 nC:h.own C=none
 ab:A≠B
 ac:A≠C
 bc:B≠C
theorem new3 (hw:WF h) (x:List Value):NewT3 h (((h.alloc (.cells x)).alloc (.cells x)).alloc (.cells x)) h.next (h.next+1) (h.next+1+1) x:=by
 have a:∀x,h.next<=x->h.own x=none:=fun x b=>(Le.refl h).next hw b
 exact⟨by grind [Le.refl,Le.alloc,WF.alloc],(by grind [WF.alloc]),by grind [Mh],by simp[Mh,om],by simp[Mh,om],pw,a _ NH,a _ NH,NH,NH,NH⟩
end
section
attribute [local instance] Classical.propDecidable
attribute [local irreducible] Kp MQ lU KO1 KO KN KX KE VK Kl ZJ TC aab
open Go.Proofs
variable {b0 h:AHeap} {i w:Nat} {rows:AM} {us:List Value}
theorem Rows.put {L:Nat} (R:Rows b0 h L us rows) (k:WF h) {u:Value} {r:RZ} (j:us[w]?=some u) (l:rows[w]?=some r) (hi:i<r.length) (x:Int):
  ∃h',aStore Tryz.prog h 3 (.pointer (some (elemAddr u i))) (.int .i64 x)=some h'/\Rows b0 h' L us (rows.set w (r.set i x))/\WF h'/\(∀f,Le f h->Z2 f u->Le f h')/\(∀b o,h.own b=some o->blk u≠some b->h'.own b=some o):=by
 obtain⟨h',e,g,wf,m,keep⟩:=GI.store (show GI h u r from R.gs w u r j l) k hi x;refine⟨h',e,⟨keep _ _ R.oL (R.nL w u j),by grind [Rows.len],fun v a q ha d=>?_,R.nL,R.TE,R.ap,m _ R.le (R.ap w u j),R.bL⟩,wf,m,keep⟩;rw[fj]at d;by_cases c:w=v
 .subst c
  rw[if_pos rfl,if_pos (Ny.1 l).1]at d;injection d with d;subst d;rw[j]at ha;injection ha with ha;subst ha;exact g
 .rw [if_neg c] at d
  refine(R.gs v a q ha d).kept fun b o hb n=>keep b o n fun sZ=>R.TE w v u a b c j ha sZ hb
theorem OS (l:LA) (v:Value) (xs:RZ) (y:Int) (h:AHeap) (d:RL RP h v xs) (s:xs.length<=100000):AC Tryz.prog l 141 [v,.int .i64 y] h fun x h'=>((x=.int .i64 (-1)/\y∉xs)\/∃i,∃hi:i<xs.length,x=.int .i64 (i:Nat)/\xs[i]=y/\∀j (b:j<i),xs[j]≠y)/\h'=h:=by
 refine AC.vE ⟨qS34,rfl,WY⟩ Tryz.ntmps141 Tryz.results141 fun m=>?_;simp only[Br,Nat.reduceAdd];have n:=fun g=>d.Uc g;refine Sk n ?_;refine lIn (fun k fr e=>∃i,k=xs.length-i/\i<=xs.length/\fr=mkF [(0,v),(1,.int .i64 y),(7,.int .i64 xs.length),(8,.int .i64 i)]/\e=h/\∀j (b:j<xs.length),j<i->xs[j]≠y) ⟨0,rfl,Og _,rfl,rfl,fun j _ b=>absurd b (ahM _)⟩ ?_;rintro k fr e o ⟨i,rfl,hi,rfl,rfl,p⟩;refine Uy ?_;refine Kl.intro (fun f=>?_) (fun hf=>?_)
 .have a : i < xs.length := CC f
  clear f;have ad:=d.TA i a;have ld:=d.DH i a;have hw:=aaa i NH;by_cases c:y=xs[i]
  .simp only [HO, Nat.reduceLT, ↓reduceIte, Nat.reduceEqDiff, reduceCtorEq, ad, ld, decide_eq_true c]
   grind
  .simp only [HO, Nat.reduceLT, ↓reduceIte, Nat.reduceEqDiff, reduceCtorEq, ad, ld, decide_eq_false c, hw]
   refine lgA (JS a) ⟨i+1,rfl,a,rfl,rfl,fun j b q=>?_⟩
   grind
 .have r : xs.length <= i := vp hf
  refine Uy ?_
  grind [List.mem_iff_getElem]
theorem W3 (b:LA) (v:Value) (xs:RZ) (y:Int) (h:AHeap) (c:RL RP h v xs) (e:xs.length<=100000):AC Tryz.prog b 101 [v,.int .i64 y] h fun x h'=>x=.bool (decide (y∈xs))/\h'=h:=by
 refine AC.vE ⟨qS35,rfl,WY⟩ Tryz.ntmps101 Tryz.results101 fun f=>?_;simp only[Br,Nat.reduceAdd];refine Uy ?_;refine TC.intro PJ ⟨qS34,rfl,WY⟩ (OS b v xs y h c e) ?_;rintro x h2 w2 ⟨⟨rfl,a⟩|⟨i,hi,rfl,a,-⟩,rfl⟩
 .have d : decide ((-1 : Int) >= 0) = false := by decide
  simp only[HO,Nat.reduceLT,↓reduceIte,Nat.reduceEqDiff,reduceCtorEq,d,decide_eq_false a]
  grind
 .have d : decide ((i : Int) >= 0) = true := by simp
  have g:y∈xs:=a▸ZT hi;simp only[HO,Nat.reduceLT,↓reduceIte,Nat.reduceEqDiff,reduceCtorEq,d,decide_eq_true g]
  grind
end
section
open Go.Proofs
variable {es:List Pr} {n:Nat} {rs:AM}
attribute [local instance] Classical.propDecidable in
theorem vS {n:Nat} {es:List Pr} {rs:AM} (c:aV n es) (ha:D3 es) (G:Av n es rs) (d:0<n) (k:∀v,v<n->Pu es 0 v):
  z8 n es rs↔(0<es.length->n+(IN n rs).length=es.length+2):=by
 have all:∀a,a<n->Gn es es a=es.length/\(Ic n es a).length=n/\sA es (IN n rs) a=(IN n rs).length:=fun a g=>by
  have i:∀v,v<n->Pu es a v:=by grind [Cn.symm,Cn.trans]
  refine⟨?_,?_,?_⟩
  .unfold Gn VF
   rw[Bn.2];intro e j;have h:=c e j
   grind
  .grind [Ic,List.filter_eq_self]
  .unfold sA VF
   rw[Bn.2];intro f hf;obtain⟨_,v,l,e⟩:=Uj c ha G hf
   grind
 constructor
 .intro H m
  obtain⟨a,b,_⟩:=B6 c 0 d;obtain⟨o,p,e3⟩:=all a (QO.1 b).1;have:=H a b pw
  grind
 .intro H a b
  grind [QO]
theorem rotG_of (h:rs.length=n) (d:(List.range n).all (fun v=>(rs.getD v []).isPerm ((Zh n es).getD v []))=true):Av n es rs:=
 ⟨h,(by grind [List.isPerm_iff])⟩
theorem X9 (a:bX ⟨(n:Int),es⟩) (G:Av n es rs) {hs:List (H8×Nat)} (C:Cert n (Xl rs) hs):IN n rs=hs.map fun p=>(List.range p.2).map fun j=>(((it (Nv (Xl rs)) j p.1).1:Nat):Int):=by
 rw[IN,Fs (G.jD a.GD a.q9) C,b7]
 grind [List.map_congr_left,kz]
instance (n:Nat) (r:Nat->II) (hs:List (H8×Nat)):Decidable (Cert n r hs):=by unfold Cert;infer_instance
end
end Go.Fw
namespace Go.Fw
attribute [local instance] Classical.propDecidable
theorem Td {α:Type} {p q:α->Bool}:∀(l:List α),(∀v∈l,p v=true\/q v=true)->(l.filter p).length+(l.filter q).length=l.length+(l.filter fun v=>p v&&q v).length
 |[],_=>rfl
 |x::l,h=>by
  have c:=Td l fun v b=>h v (Gw _ b)
  grind
theorem FP {P:Nat->Nat->Prop} {r:Nat->II} {v:Nat} (h:∀w∈r v,P v w):Om P r v=r v:=by grind [Om.eq_1,List.filter_eq_self]
theorem Ud {n:Nat} {s:Nat->II} (S:V7 n s) {l:List Pr} (nd:l.Nodup) (c:aV n l) (h:∀v w,w∈s v↔Jp l v w):(dl n s).length=2*l.length:=by
 have key:∀l:List Pr,(l.flatMap fun p=>[(p.1.toNat,p.2.toNat),(p.2.toNat,p.1.toNat)]).length=2*l.length:=by
  intro l
  induction l<;>grind
 rw[<-key l];refine(yR (J8 S) ?_ fun d=>?_).length_eq
 .rw [si, Po]
  refine⟨fun p b=>?_,?_⟩
  .have := c p b
   grind
  .refine K4 (fun {p q} b e f => ?_) nd
   have g:=c p b;have h2:=c q e
   grind
 .rw [IP S, h, Yi]
  simp only[Jp,EL,EP,or_false,kc];constructor
  .grind
  .rintro ⟨p, b, ⟨rfl, rfl⟩ | ⟨rfl, rfl⟩⟩
   .have := c p b
    grind
   .have := c p b
    grind
section
variable {n : Nat} {es : List Pr} {rs : List (List Int)} {a : Nat}
theorem T8 (t:aV n es) (ha:D3 es) (G:Av n es rs) (E:a∈Es n es) (F:0<Gn es es a):∃g,(Ic n es a).length+sA es (IN n rs) a+2*g=Gn es es a+2:=by
 obtain⟨H,I⟩:=QO.1 E;have R:=G.jD t ha;generalize m:Xl rs=r at R;have i:∀v w,w∈r v↔Jp es v w:=fun v w=>by rw[<-m];exact G.mem t
 have S:V7 n (Om (fun v w=>Pu es a v/\Pu es a w) r):=by grind [OG]
 generalize hs:Om (fun v w=>Pu es a v/\Pu es a w) r=s at S;have j:∀v w,w∈s v↔Jp es v w/\Pu es a v:=fun v w=>by
  rw[<-hs,EM,i];exact⟨pw,fun h=>⟨h.1,h.2,h.2.step h.1 rfl⟩⟩
 have row:∀v,Pu es a v->s v=r v:=fun v u=>by
  rw[<-hs];exact FP fun w hw=>⟨u,u.step ((i v w).1 hw) rfl⟩
 have J:∀v y,Cr s v y->v=y\/(Pu es a v/\Pu es a y):=fun v y h=>by
  induction h with
  |refl=>grind
  |@step b c _ K z=>
   obtain⟨f,h2⟩:=(j _ _).1 K;right;rcases z with rfl|⟨h3,_⟩
   .exact⟨h2,h2.step f rfl⟩
   .exact⟨h3,h2.step f rfl⟩
 have L:∀y,Pu es a y->Cr s a y:=fun y h=>by
  induction h with
  |refl=>exact .refl _
  |step f h2 _ z=>exact z.step pw
 have M:iJ n s+(Ic n es a).length=n+1:=by
  have C:iJ n s=((List.range n).filter fun v=>decide (v=a\/¬Pu es a v)).length:=by
   rw[iJ,Yy (Ug _).symm (Cr.eqv S _),zE (lt:=fun a b=>a<b) (by grind [Nat.lt_asymm]) _ _ rfl (uA n)]
   grind [Cr.symm,Cn.symm]
  have N:=Td (p:=fun v=>decide (v=a\/¬Pu es a v)) (q:=fun v=>decide (Pu es a v)) (List.range n) pw;have e3:((List.range n).filter fun v=>decide (v=a\/¬Pu es a v)&&decide (Pu es a v)).length=1:=by
   refine Cq ?_ (x:=a) ?_ ?_
   all_goals grind [List.nodup_range,Pu.refl]
  grind [Ic]
 have nb:∀v,Pu es a v->∃w,Jp es v w:=fun v u=>by
  obtain⟨e,l⟩:=TV F;rw[aax,decide_eq_true_eq]at l;have O:=t e l.1;by_cases c:v=e.1.toNat
  .refine ⟨e.2.toNat, .inl ?_⟩
   grind
  .exact(FV (u.symm.trans l.2) c).1
 have D:((List.range n).filter fun v=>decide (s v=[])).length+(Ic n es a).length=n:=by
  have N:=Td (p:=fun v=>decide (s v=[])) (q:=fun v=>decide (Pu es a v)) (List.range n) fun v _=>by
   simp only[decide_eq_true_eq];by_cases c:Pu es a v
   .exact .inr c
   .rw [Tn]
    grind
  have e3:((List.range n).filter fun v=>decide (s v=[])&&decide (Pu es a v))=[]:=by
   rw[qL80]
   grind
  grind [Ic]
 have A:(dl n s).length=2*Gn es es a:=by
  refine Ud S (ha.nodup.sublist eR) (fun p P=>t p (aax.1 P).1) fun v w=>?_;rw[j];simp only[Jp,aax,decide_eq_true_eq,HV];constructor
  .rintro ⟨f | f, h2⟩
   .grind
   .exact .inr ⟨f,h2.step (.inr f) rfl⟩
  .rintro (⟨f, h2⟩ | ⟨f, h2⟩)
   .grind
   .exact⟨.inr f,h2.step (.inl f) rfl⟩
 have q:=TG S;have Q:∀d:H8,Pu es a d.2->Nv s d=Nv r d:=fun d hd=>by
  show(d.2,nx (s d.2) d.1)=(d.2,nx (r d.2) d.1);rw[row _ hd]
 have T:∀d:H8,d.2∈s d.1->Pu es a d.2:=fun d hd=>by
  obtain⟨f,h2⟩:=(j _ _).1 hd;exact h2.step f rfl
 have o:∀(k:Nat) (d:H8),d.2∈s d.1->it (Nv s) k d=it (Nv r) k d:=fun k d hd=>by
  induction k with
  |zero=>rfl
  |succ k z=>
   show Nv s (it (Nv s) k d)=Nv r (it (Nv r) k d);have U:=q.uN ((IP S).2 hd) k
   grind [IP]
 have B:sA es (IN n rs) a=(L3 n s).length:=by
  have C:L3 n s=(L3 n r).filter fun d=>decide (Pu es a d.1):=by
   refine afe JN (by grind [Nd]) _ _ ((pI n s).filter _) (((pI n r).filter _).filter _) fun d=>?_;rw[aax,decide_eq_true_eq];rw[gQ S,gQ R,j,i];constructor
   .rintro ⟨⟨f, h2⟩, h3⟩
    refine⟨⟨f,?_⟩,h2⟩;rintro e ⟨k,rfl⟩;rw[<-o k d pw];exact h3 _ ⟨k,rfl⟩
   .rintro ⟨⟨f, h3⟩, h2⟩
    refine⟨⟨f,h2⟩,?_⟩;rintro e ⟨k,rfl⟩;rw[o k d pw];exact h3 _ ⟨k,rfl⟩
  rw[C,sA,VF,IN,m,vf,b7,ag4,jz]
  grind [List.filter_congr,gQ,JE,IP,Int.toNat_natCast]
 obtain⟨g,hg⟩:=Z4 S;rw[mj,<-yp S,<-B,A]at hg;exact⟨g,NH⟩
end
end Go.Fw
namespace Go.Fw
attribute [local instance] Classical.propDecidable
theorem yB {P:Nat->Prop}:∀(hs:II),hs.Nodup->(∃a∈hs,P a)->(∀a∈hs,∀b∈hs,P a->P b->a=b)->(hs.map fun a=>if P a then 1 else 0).sum=1
 |[],_,h,_=>by obtain⟨a,ha,_⟩:=h;cases ha
 |x::hs,nd,h,u=>by
  rw[aaf]at nd;rw[mJ,MY];by_cases c:P x
  .have:∀l:II,(∀a∈l,¬P a)->(l.map fun a=>if P a then 1 else 0).sum=0:=by
    intro l
    induction l<;>grind
   grind
  .rw [if_neg c, yB hs nd.2 ?_ (by grind [List.mem_cons_of_mem])]
   grind
def aS (f g:Nat->Nat):∀l:II,(l.map fun a=>f a+g a).sum=(l.map f).sum+(l.map g).sum
 |[]=>rfl
 |x::l=>by simp only[mJ,MY,aS f g l];omega
theorem fH {α:Type} {P:Nat->α->Prop} {hs:II} (nd:hs.Nodup):∀(l:List α),(∀e∈l,∃a∈hs,P a e)->(∀e∈l,∀a∈hs,∀b∈hs,P a e->P b e->a=b)->(hs.map fun a=>VF P l a).sum=l.length
 |[],_,_=>by
  have:∀l:II,(l.map fun a=>VF P ([]:List α) a).sum=0:=by
   intro l
   induction l with
   |nil=>rfl
   |cons x l c=>rw[mJ,MY,c];rfl
  exact this hs
 |e::l,h,u=>by
  have c:=fH nd l (fun x d=>h x (Gw _ d)) fun x d=>u x (Gw _ d)
  have f:∀a,VF P (e::l) a=(if P a e then 1 else 0)+VF P l a:=by grind [VF]
  simp only[f];rw[aS,c,yB (P:=fun a=>P a e) hs nd (h e vg) (u e vg),Uz];omega
theorem Qs (l:II) (p:Nat->Prop) [DecidablePred p]:(l.map fun a=>if p a then 1 else 0).sum=(l.filter fun a=>decide (p a)).length:=by
 induction l<;>grind
section
variable {n : Nat} {es : List Pr} {rs : List (List Int)}
theorem acn (c:aV n es) {v:Nat} (d:v<n):(∃a∈Es n es,Pu es a v)/\∀a∈Es n es,∀b∈Es n es,Pu es a v->Pu es b v->a=b:=
 (by grind [B6,rf,Cn.trans,Cn.symm])
theorem yr (c:aV n es):((Es n es).map fun a=>(Ic n es a).length).sum=n:=by
 have:=fH (P:=fun a v=>Pu es a v) (qD n es) (List.range n) (fun v b=>(acn c (iy.1 b)).1) fun v b=>(acn c (iy.1 b)).2
 grind [VF,Ic]
theorem Rr (b:aV n es):((Es n es).map fun a=>Gn es es a).sum=es.length:=by
 have d:∀e∈es,e.1.toNat<n:=fun e c=>by have:=b e c;omega
 unfold Gn
 grind [fH,qD,acn]
theorem lJ (b:aV n es) (ha:D3 es) (G:Av n es rs):((Es n es).map fun a=>sA es (IN n rs) a).sum=(IN n rs).length:=by
 have c:∀f∈IN n rs,(f.headD 0).toNat<n:=fun f hf=>by obtain⟨_,v,c,e⟩:=Uj b ha G hf;grind
 unfold sA
 grind [fH,qD,acn]
theorem ed_pos (f:aV n es) {a:Nat} (g:a<n):0<Gn es es a↔1<(Ic n es a).length:=by
 have nd:(Ic n es a).Nodup:=by grind [Ic,List.filter_sublist]
 constructor
 .intro h
  obtain⟨e,b⟩:=TV h;rw[aax,decide_eq_true_eq]at b;have k:=f e b.1;have h2:Pu es a e.2.toNat:=b.2.step (.inl pw) rfl;have:=tf (A:=[e.1.toNat,e.2.toNat]) (B:=Ic n es a) (by simp;omega) (by grind [mY])
  grind
 .intro h
  have:∃v∈Ic n es a,v≠a:=qy fun i=>by
   have c:∀v∈Ic n es a,v=a:=pw;have:=Cq nd (by grind [mY,Pu.refl]) c;omega
  obtain⟨v,j,d⟩:=this;obtain⟨w,hw⟩:=(FV (mY.1 j).2 (uV d)).1;have:∃e∈es,Pu es a e.1.toNat:=by
   rcases hw with hw|hw
   .exact⟨_,hw,by simpa using Pu.refl es a⟩
   .exact⟨_,hw,by simpa using abu (.inr hw)⟩
  obtain⟨e,b,i⟩:=this;exact IK (aax.2 ⟨b,pw⟩)
end
end Go.Fw
namespace Go.Fw
section
attribute [local instance] Classical.propDecidable
attribute [local irreducible] Kp MQ lU KO1 KO KN KX KE VK Kl ZJ TC aab
open Go.Proofs
theorem QY (g:LA) (v:Value) (xs:RZ) (h:AHeap) (e:RL RP h v xs) (p:xs.length<=100000):AC Tryz.prog g 93 [v] h fun x h'=>GI h' x xs/\Le h h'/\Z2 h x:=by
 obtain⟨a,c,rfl,hs⟩:=e.sl;refine AC.vE ⟨Md,rfl,WY⟩ Tryz.ntmps93 Tryz.results93 fun d=>?_;simp only[Br,Nat.reduceAdd];cases a with
 |none=>
  have i:xs=[]:=by
   cases xs<;>grind
  subst i;simp only[HO,Nat.reduceLT,↓reduceIte,Nat.reduceEqDiff,reduceCtorEq,aEq,Ac,Option.isNone_none];exact⟨GI.nil _,Le.refl _,fun b hb=>by grind [blk]⟩
 |some a=>
  obtain⟨f,j,l1,w1,k⟩:=Tt d []
  have mk:aBuildSlice Tryz.prog h 49 0 []=some (.slice (some ⟨h.next,0,none⟩) 0 0,f):=by rw[<-j];rfl
  have q:h.own h.next=none:=(Le.refl h).next d (qL0 _)
  have l:GI f (.slice (some ⟨h.next,0,none⟩) 0 0) []:=GS.full k rfl WY
  have m:Z2 h (.slice (some ⟨h.next,0,none⟩) 0 0):=fun b hb=>by injection hb with hb;grind
  obtain⟨r,s,n,t,u,o,-⟩:=GI.join l w1 (e.le Nn.RP l1) (by simp;omega);obtain⟨l6,w⟩:=o h l1 m;simp only[HO,Nat.reduceLT,↓reduceIte,Nat.reduceEqDiff,reduceCtorEq,aEq,Ac,Dl,mk,n]
  grind
end
section
attribute [local instance] Classical.propDecidable
open Go.Proofs
variable {i:Nat} {xs ys:RZ}
def eD (xs ys:RZ) (i:Nat):Prop:=ys.length=xs.length/\∀p,p<xs.length->ys[p]?=if p<i\/xs.length-i<=p then xs[xs.length-1-p]? else xs[p]?
theorem eD.zero (xs:RZ):eD xs xs 0:=⟨rfl,pw⟩
theorem eD.fin (R:eD xs ys i) (h:xs.length<=2*i+1):ys=xs.reverse:=by
 apply V3;intro p;by_cases a:p<xs.length
 .rw [R.2 p a, Gg a]
  grind
 .rw[Ry (by rw[R.1];omega),Ry pw]
theorem eD.step {xs ys:RZ} {i:Nat} (R:eD xs ys i) (h:2*i+1<xs.length) (b:i<ys.length) (h2:xs.length-1-i<ys.length):
  eD xs ((ys.set i ys[xs.length-1-i]).set (xs.length-1-i) ys[i]) (i+1):=by
 refine⟨by simp[R.1],fun p a=>?_⟩;have c:ys[xs.length-1-i]?=xs[xs.length-1-i]?:=by rw[R.2 _ NH,if_neg NH]
 have d:ys[i]?=xs[i]?:=by rw[R.2 _ NH,if_neg NH]
 by_cases c1:p=xs.length-1-i
 .grind
 .rw [qL237 (uV c1)]
  by_cases c2:p=i
  .grind
  .rw [qL237 (uV c2), R.2 p a]
   grind
end
section
attribute [local instance] Classical.propDecidable
attribute [local irreducible] Kp MQ lU KO1 KO KN KX KE VK Kl ZJ TC aab
open Go.Proofs
theorem Wk (w:LA) (u:Value) (xs:RZ) (h:AHeap) (g:GI h u xs) (L:xs.length<=100000):
  AC Tryz.prog w 94 [u] h fun _ h'=>GI h' u xs.reverse/\(∀f,Le f h->Z2 f u->Le f h')/\∀b o,h.own b=some o->blk u≠some b->h'.own b=some o:=by
 refine AC.vE ⟨XX,rfl,WY⟩ Tryz.ntmps94 Tryz.results94 fun x=>?_;simp only[Br,Nat.reduceAdd];have lu:=fun y=>(GI.rl g).Uc y;have z:awrap .i64 ((xs.length:Int)-1)=(xs.length:Int)-1-((0:Nat):Int):=by grind [ie]
 simp only[HO,Nat.reduceLT,↓reduceIte,Nat.reduceEqDiff,reduceCtorEq,lu,z];refine lIn (fun k fr j=>∃(i:Nat) (ys:RZ),k=xs.length-i/\2*i<=xs.length/\fr=mkF [(0,u),(2,.int .i64 i),(3,.int .i64 ((xs.length:Int)-1-(i:Int)))]/\eD xs ys i/\GI j u ys/\(∀f,Le f h->Z2 f u->Le f j)/\∀b o,h.own b=some o->blk u≠some b->j.own b=some o) ⟨0,xs,rfl,Og _,rfl,eD.zero xs,g,fun f n _=>n,fun b o hb _=>hb⟩ ?_;rintro k fr j p ⟨i,ys,rfl,hi,rfl,R,v,A,B⟩;by_cases c:2*i+1<xs.length
 .have d : decide ((i : Int) < (xs.length : Int) - 1 - (i : Int)) = true := decide_eq_true NH
  have C:(xs.length:Int)-1-(i:Int)=((xs.length-1-i:Nat):Int):=NH;have l:i<ys.length:=by rw[R.1];omega
  have h2:xs.length-1-i<ys.length:=by rw[R.1];omega
  have m:=GI.rl v;have q:=m.TA i l;have e:=m.TA _ h2;have ld1:=m.DH i l;have r:=m.DH _ h2;obtain⟨M,D,E,F,l5,G⟩:=GI.store v p l ys[xs.length-1-i];obtain⟨N,H,I,O,l6,J⟩:=GI.store E F (i:=xs.length-1-i) pw ys[i];have K:=R.step c l h2;have s:=aaa i NH;have t:awrap .i64 ((xs.length:Int)-1-(i:Int)-1)=(xs.length:Int)-1-((i+1:Nat):Int):=by grind [ie]
  rw[<-C]at e;refine Sk d ?_;refine gh (tA [0,1,2,3,4,5,6,7,8,9,10,11,12] (JQ 13 [0,1,4,5,6,7,11,12] (tA [14] (JQ 15 [0,1,2,3,4,5,6,7,8,9,10,11,12,13,14] .done)))) ?_;simp only[HO,Nat.reduceLT,↓reduceIte,Nat.reduceEqDiff,reduceCtorEq,Nat.reduceBEq,Qg,q,e,ld1,r,D,H,s,t];exact lgA (JS NH) ⟨i+1,_,rfl,NH,rfl,K,I,fun f n af=>l6 f (l5 f (A f n af) af) af,fun b o hb a=>J b o (G b o (B b o hb a) a) a⟩
 .have d : decide ((i : Int) < (xs.length : Int) - 1 - (i : Int)) = false := decide_eq_false NH
  refine Sk d ?_
  grind [eD.fin]
end
end Go.Fw
namespace Go.Fw
open Go.Proofs
attribute [local instance] Classical.propDecidable
section
variable {n : Nat} {es : List Pr} {rs : List (List Int)}
theorem Tk (d:aV n es) (G:Av n es rs) {a b:Nat}:Cr (Xl rs) a b↔Pu es a b:=by
 constructor
 .intro h
  induction h with
  |refl=>grind [Pu.refl]
  |step _ e c=>exact c.step ((G.mem d).1 e) rfl
 .intro h
  induction h with
  |refl _=>exact .refl _
  |step _ h2 _ c=>exact c.step ((G.mem d).2 h2)
theorem IL (c:aV n es) (ha:D3 es) (G:Av n es rs):iJ n (Xl rs)=(Es n es).length:=by
 have R:=G.jD c ha;rw[iJ,Yy (Ug _).symm (Cr.eqv R _),zE (lt:=fun a b=>a<b) (by grind [Nat.lt_asymm]) _ _ rfl (uA n),Es];congr 1;refine j3 fun v d=>?_;rw[decide_eq_decide];rw[iy]at d;constructor
 .intro h u e f
  exact h u (by grind) ((Tk c G).2 f.symm) e
 grind [Tk,Cn.symm]
theorem agA (d:aV n es) (ha:D3 es) (G:Av n es rs):((List.range n).filter fun v=>decide (Xl rs v=[])).length=((Es n es).filter fun a=>decide (Gn es es a=0)).length:=by
 refine(yR (by grind [List.filter_sublist]) (by grind [qD]) fun v=>?_).length_eq;rw[aax,aax,iy,QO,decide_eq_true_eq,decide_eq_true_eq];constructor
 .rintro ⟨c, i⟩
  have j:∀w,¬Jp es v w:=fun w hw=>by
   have:=(G.mem d).2 hw;grind
  have k:∀u,Pu es v u->u=v:=fun u g=>qy fun f=>by
   obtain⟨w,hw⟩:=(FV g (uV f)).1
   grind
  refine⟨⟨c,fun u g l=>?_⟩,?_⟩
  .grind [Cn.symm]
  .refine qL225 fun m => ?_
   have p:=(ed_pos d c).1 m;have h2:(Ic n es v).length=1:=Cq (by grind [Ic,List.filter_sublist]) (x:=v) (by grind [mY,Pu.refl]) (by grind [mY]);omega
 .rintro ⟨⟨c, _⟩, i⟩
  refine⟨c,Tn.2 fun w hw=>?_⟩;have b:=(G.mem d).1 hw;have:∃e∈es,Pu es v e.1.toNat:=by
   rcases b with h|h
   .exact⟨_,h,by simpa using Pu.refl es v⟩
   .exact⟨_,h,by simpa using abu (.inr h)⟩
  obtain⟨e,o,k⟩:=this;have:0<Gn es es v:=by
   unfold Gn VF;exact IK (aax.2 ⟨o,pw⟩)
  omega
theorem U3 {l:II} (h:l.length=1) {x y:Nat} (a:x∈l) (b:y∈l):x=y:=by
 match l,h with
 |[z],_=>grind
theorem sumz:∀(l:II) (f:Nat->Nat),(l.map f).sum=0↔∀a∈l,f a=0
 |[],f=>by simp
 |a::l,f=>by
  have b:=sumz l f
  grind
theorem Va (f g:Nat->Nat):∀l:II,(∀a∈l,f a=g a)->(l.map f).sum=(l.map g).sum
 |[],_=>rfl
 |a::l,h=>by rw[mJ,mJ,MY,MY,h a vg,Va f g l (by grind [List.mem_cons_of_mem])]
theorem En (i:aV n es) (ha:D3 es) (G:Av n es rs):z8 n es rs↔Flat n (Xl rs):=by
 have R:=G.jD i ha
 have key:∀a,a∈Es n es->∃g,(Ic n es a).length+(sA es (IN n rs) a+if Gn es es a=0 then 1 else 0)+2*g=Gn es es a+2/\(g=0↔(0<Gn es es a->(Ic n es a).length+sA es (IN n rs) a=Gn es es a+2)):=fun a j=>by
  by_cases c:0<Gn es es a
  .grind [T8]
  .refine ⟨0, ?_, pw⟩
   have p:Gn es es a=0:=NH;rw[if_pos p,p];have u:¬1<(Ic n es a).length:=by grind [ed_pos,QO]
   have h2:0<(Ic n es a).length:=IK (mY.2 ⟨(QO.1 j).1,Pu.refl es a⟩);have h3:sA es (IN n rs) a=0:=by
    refine qL225 fun q=>?_;obtain⟨f,hf⟩:=TV q;rw[aax,decide_eq_true_eq]at hf;obtain⟨o,h⟩:=hf;obtain⟨v,k,rfl⟩:=Z6.1 o;rw[vf,Z6]at k;obtain⟨d,hd,rfl⟩:=k;have m:=((gQ R).1 hd).1;rw[(JE R ((IP R).2 m)).1,HV]at h;have b:=(G.mem i).1 m;have:d.2=d.1:=by
     have e:(Ic n es a).length=1:=NH;exact U3 e (mY.2 ⟨Pu.lt i (show Pu es a d.2 from h.step b rfl) (QO.1 j).1,h.step b rfl⟩) (by grind [mY,Pu.lt,QO])
    grind [V7.ir]
   omega
 obtain⟨g,hg⟩:=Fu (r:=fun a g=>a∈Es n es->(Ic n es a).length+(sA es (IN n rs) a+if Gn es es a=0 then 1 else 0)+2*g=Gn es es a+2/\(g=0↔(0<Gn es es a->(Ic n es a).length+sA es (IN n rs) a=Gn es es a+2))) fun a=>by
  by_cases j:a∈Es n es
  .grind
  .exact⟨0,pw⟩
 have S:=Va _ _ (Es n es) fun a j=>(hg a j).1
 rw[aS (fun a=>(Ic n es a).length+(sA es (IN n rs) a+if Gn es es a=0 then 1 else 0)),aS (fun a=>(Ic n es a).length),aS (fun a=>sA es (IN n rs) a),aS (fun a=>Gn es es a) (fun _=>2),yr i,Rr i,lJ i ha G,Qs]at S
 have w:((Es n es).map fun _=>2).sum=2*(Es n es).length:=by
  have:∀l:II,(l.map fun _=>2).sum=2*l.length:=fun l=>by
   induction l<;>grind
  exact this _
 have s:mj n (Xl rs)=(IN n rs).length+((Es n es).filter fun a=>decide (Gn es es a=0)).length:=by grind [mj.eq_1,yp,agA,IN.eq_1,vf.eq_1]
 have t:(dl n (Xl rs)).length=2*es.length:=by grind [Ud,D3.nodup,Av.mem]
 grind [z8,sumz,Flat.eq_1,IL]
end
end Go.Fw
namespace Go.Fw
open Go.Proofs
attribute [local instance] Classical.propDecidable
structure zW (n:Nat) (es:List Pr):Prop where
 n3:3<=n
 one:(Es n es).length=1
 Bi:∀v,¬Fo.Cut2 es v
section
variable {n : Nat} {es : List Pr}
theorem zW.bp (T:zW n es) {u v:Nat} (a:u<n) (b:v<n):Pu es u v:=uh T.one a b
theorem nb_of (hR:aV n es) {u v:Nat} (h:Pu es u v) (a:u≠v):∃w,Jp es v w:=by
 cases h<;>grind [Jp.symm]
theorem zW.ne (T:zW n es) (hR:aV n es) {v:Nat} (a:v<n):∃w,Jp es v w:=by
 have h3:=T.n3;by_cases c:v=0
 .exact nb_of hR (T.bp (u:=1) NH a) NH
 .exact nb_of hR (T.bp (u:=0) NH a) NH
theorem cnW (hR:aV n es) {c a b:Nat} (h:Cn (wo c) es a b):Cr (Om (fun x y=>x≠c/\y≠c) (eN n es)) a b:=by
 induction h with
 |refl=>exact .refl _
 |@step x y f h2 h3 d=>
  have g:x≠c:=by grind [Cn.AB]
  have i:y≠c:=fun e=>by grind
  exact d.step (by grind [EM,vD])
theorem aU (hR:aV n es) {v:Nat}:eN n es v≠[]↔∃w,Jp es v w:=by
 constructor
 .intro h
  obtain⟨w,l,e⟩:=xD h;exact⟨w,(vD hR).1 (by rw[e];simp)⟩
 .rintro ⟨w, h⟩ e
  have:=(vD hR).2 h
  grind
theorem zW.Z7 (T:zW n es) (hR:aV n es):QG (eN n es):=by
 have lt:∀{v},eN n es v≠[]->v<n:=fun h=>by obtain⟨w,hw⟩:=(aU hR).1 h;exact(hw.lt hR).1
 refine⟨fun v w f hw=>(Tk hR (qG n es)).2 (by grind [zW.bp]),fun c v w g h2 f hw=>cnW hR ?_⟩;by_cases d:c<n
 .obtain ⟨a, h3, l⟩ := KH (T.bp d (lt f)) g
  obtain⟨b,i,m⟩:=KH (T.bp d (lt hw)) h2;have j:Cn (wo c) es a b:=qy fun q=>T.Bi c ⟨a,b,h3,i,q⟩
  grind [woV_con,Cn.symm,Cn.trans]
 .have:∀{a b},Pu es a b->a≠c->Cn (wo c) es a b:=fun h ha=>by
   induction h with
   |refl=>exact .refl (iO ha)
   |step _ a _ k=>exact .step k a (iO fun e=>d (by have:=(a.lt hR).2;omega))
  grind [zW.bp]
def zW.es_ne (T:zW n es) (hR:aV n es):es≠[]:=fun e=>by
 obtain⟨w,hw⟩:=T.ne hR (v:=0) (by have:=T.n3;omega);rw[e]at hw;rcases hw with h|h<;>cases h
theorem Uv (a:bX ⟨(n:Int),es⟩) (h3:3<=n) (b:(Es n es).length=1):(vq n es).length=1↔zW n es:=by
 have hR:=a.GD;constructor
 .intro d
  refine⟨h3,b,fun v c=>?_⟩;have:=(YH hR v).2 c
  grind [Sq]
 .intro T
  have K:=treeM_lk a ⟨T.es_ne hR,b⟩;have e:JL n es=[]:=Tn.2 (by grind [zW.Bi,OI])
  grind [acF,Er,Lk.len]
theorem zW.less (T:zW n es) (hR:aV n es) {a b:Nat} {rest:List Pr} (ha:a<n) (hb:b<n) (d:a≠b) (e:∀x y,Jp es x y->¬((x=a/\y=b)\/(x=b/\y=a))->Jp rest x y):Pu rest b a:=by
 have D:=T.Z7 hR;have h3:=T.n3;obtain⟨t,i,f,g⟩:∃t,t<n/\t≠a/\t≠b:=by
  by_cases k:a≠0/\b≠0
  .exact⟨0,NH,NH,NH⟩
  by_cases c1:a≠1/\b≠1
  .exact⟨1,NH,NH,NH⟩
  .exact⟨2,NH,NH,NH⟩
 have key:∀{c x y:Nat},(c=a\/c=b)->Cr (Om (fun x y=>x≠c/\y≠c) (eN n es)) x y->Pu rest x y:=fun{c x y} l h=>by
  induction h with
  |refl=>grind [Pu.refl]
  |@step u w m h2 j=>
   obtain⟨k1,k2,o⟩:=EM.1 h2;refine .step j (e _ _ ((vD hR).1 k1) ?_) rfl
   grind
 have ne:∀{v},v<n->eN n es v≠[]:=by grind [aU,zW.ne]
 have p:=key (.inl rfl) (D.Z7 a b t (uV d) f (ne hb) (ne i));have q:=key (.inr rfl) (D.Z7 b t a g d (ne i) (ne ha))
 grind [Cn.trans]
theorem pth_ok (hR:aV n es) {b:Nat} {L:RZ} (F:ai n es b L):∀(k v:Nat),L[v]?=some (k:Int)->∃l:II,pthM (Zh n es) L k v=kz l/\l.length=k+1/\l[0]?=some v/\l[k]?=some b/\
  (∀(i x:Nat),l[i]?=some x->L[x]?=some ((k-i:Nat):Int))/\∀(i x y:Nat),l[i]?=some x->l[i+1]?=some y->Jp es x y
 |0,v,h=>by
  have hb:=F.zero v h;subst hb;refine⟨[v],rfl,rfl,rfl,rfl,fun i x m=>?_,pw⟩
  grind
 |k+1,v,h=>by
  obtain⟨w,ha,hw⟩:=F.pre v _ h NH;have a:L.getD v 0=((k+1:Nat):Int):=pw;cases hf:((Zh n es).getD v []).find? (fun w=>decide (L.getD w.toNat 0=L.getD v 0-1))with
  |none=>
   grind [EW,Int.toNat_natCast]
  |some x=>
   have e:=List.mem_of_find?_eq_some hf;have h2:=List.find?_some hf;obtain⟨u,rfl,o⟩:=Ru hR e;have c:=CA (show u<L.length by grind [ai.len]);rw[decide_eq_true_eq,HV,qH,c,a]at h2;have d:L[u]?=some (k:Int):=pw;obtain⟨l,f,g,e3,e4,p,q⟩:=pth_ok hR F k u d;refine⟨v::l,?_,by simp[g],rfl,pw,fun i y j=>?_,fun i y z j r=>?_⟩
   .rw [pthM, hf]
    simp only[HV];rw[f];rfl
   .cases i with
    |zero=>grind
    |succ i=>
     grind
   .cases i with
    |zero=>
     grind [EW]
    |succ i=>
     grind
theorem iS (w:bX ⟨(n:Int),es⟩) {a b:Nat} {rest:List Pr} (r:es=((a:Int),(b:Int))::rest) (F:ai n rest b (NY (Zh n rest) n b)) (C:Pu rest b a):
  ∃l,DO n rest a b=kz l/\Ho n es l:=by
 have hR:=w.GD;have d:aV n rest:=fun p M=>hR p pw;have s:(((a:Int),(b:Int)):Pr)∈es:=by rw[r];simp
 have t:=(hR _ s).2.1;simp only at t;have u:=(hR _ s).2.2;simp only at u;have nd:es.Nodup:=w.q9.nodup;have f:=CA (show a<(NY (Zh n rest) n b).length by grind [ai.len]);have g:=(F.pos a _ f).2 C;obtain⟨k,D⟩:=WA g;have m:(NY (Zh n rest) n b)[a]?=some (k:Int):=by rw[f,D]
 obtain⟨l,E,N,e3,e4,z,A⟩:=pth_ok d F k a m;have G:k≠0:=pw;have H:k≠1:=fun e=>by
  subst e;have:=A 0 a b e3 e4;rw[r,aaf]at nd;rcases this with h|h
  .exact nd.1 h
  .have:=(d _ h).2.1;grind
 have o:l.Nodup:=by
  rw[si,DF];intro i j hi q I e;have B:=z i _ (BS hi);have h2:=z j _ (BS q)
  grind
 refine⟨l,?_,o,NH,fun v J=>?_⟩
 .unfold DO
  rw[qH,m];exact E
 .obtain ⟨j, q, rfl⟩ := U9.1 J
  rw[nx_idx o q];have sub:∀{x y},Jp rest x y->Jp es x y:=fun h=>by rw[r];exact h.imp (Gw _) (Gw _)
  by_cases c:j+1<l.length
  .have e : l[(j + 1) % l.length]'(C4 _ NH) = l[j + 1] := by grind [Nat.mod_eq_of_lt]
   rw[e];exact sub (A j _ _ (BS q) (BS c))
  .have K : j = k := NH
   subst K;have e:l[(j+1)%l.length]'(C4 _ NH)=l[0]:=by grind [Nat.mod_self]
   rw[e];have B:l[j]=b:=pw;have L:l[0]=a:=pw;rw[B,L];exact .inr s
end
end Go.Fw
namespace Go.Fw
open Go.Proofs
attribute [local instance] Classical.propDecidable
noncomputable def runM (n:Nat) (rows:AM):Nat->kR->Option kR
  |0,S=>some S
  |k+1,S=>if S.left=[]then some S else match AU n rows S with
    |some a=>runM n rows k a
    |none=>none
def ZO (f:II):List (Nat×Nat×Nat):=(List.range f.length).map fun i=>(f.getD i 0,f.getD ((i+f.length-1)%f.length) 0,f.getD ((i+1)%f.length) 0)
def XN (T:AM) (t:Nat×Nat×Nat):AM:=T.set t.1 ((T.getD t.1 []).set t.2.1 (t.2.2:Int))
def N4 (n:Nat) (Jv:Cs):AM:=(Jv.flatMap ZO).foldl XN (List.replicate n (List.replicate n (-1)))
def itI (T:RZ):Nat->Int->Int
 |0,u=>u
 |k+1,u=>T.getD (itI T k u).toNat 0
def lH (T:AM) (rows:AM) (v:Nat):RZ:=(List.range (rows.getD v []).length).map fun k=>itI (T.getD v []) k ((rows.getD v []).getD 0 0)
def xY (n:Nat) (rows:AM) (Jv:Cs):AM:=(List.range n).map (lH (N4 n Jv) rows)
def zl (n:Nat) (es:List Pr):II:=(DO n (es.drop 1) (es.getD 0 (0,0)).1.toNat (es.getD 0 (0,0)).2.toNat).map Int.toNat
noncomputable def RB (n:Nat) (es:List Pr):kR:=Mw n es (zl n es) (MF n (Qw n (sortP (ZH (zl n es)))) es)
noncomputable def embM (n:Nat) (es:List Pr):Option AM:=(runM n (Zh n es) es.length (RB n es)).map fun S=>xY n (Zh n es) S.Jv
section
variable {n : Nat} {es : List Pr} {H : Nat → Nat → Prop} {S : kR}
theorem run_ok (hR:aV n es) (hA:D3 es) (D:QG (eN n es)):∀(k:Nat) (H:Nat->Nat->Prop) (S:kR),Z8 n es H S->OW es H<=k->
  (runM n (Zh n es) k S=none/\¬XU n (eN n es))\/∃a b,runM n (Zh n es) k S=some a/\Z8 n es b a/\a.left=[]
 |0,H,S,I,h=>by
  refine .inr ⟨S,H,rfl,I,?_⟩;refine qy fun q=>?_;obtain⟨p,l,e⟩:=xD q;have P:=I.Aa p (by rw[e];simp);obtain⟨x,t,i⟩:=xD P.ne;have f:x∈p.zp:=by rw[i];simp
  obtain⟨v,w,e3,d,j⟩:=P.UQ hR f;have m:x∈es.filter fun e=>decide (¬H e.1.toNat e.2.toNat):=by
   rw[aax];refine⟨P.sub.subset f,?_⟩;rw[e3,Ix d];simpa using j.2
  have o:(es.filter fun e=>decide (¬H e.1.toNat e.2.toNat)).length=0:=Nat.le_zero.1 h
  grind
 |k+1,H,S,I,h=>by
  rw[runM];by_cases c:S.left=[]
  .grind
  .rw [if_neg c]
   rcases I.lay hR hA D c with⟨g,h2⟩|⟨a,b,g,h2,h3⟩
   .grind
   .rw [g]
    exact run_ok hR hA D k b a h2 NH
def MC (T:AM) (v u:Nat):Int:=(T.getD v []).getD u 0
theorem sQ {T:AM} {t:Nat×Nat×Nat} (h:T.length=n/\∀v,v<n->(T.getD v []).length=n):(XN T t).length=n/\∀v,v<n->((XN T t).getD v []).length=n:=by grind [XN]
theorem tabS_get {T:AM} {t:Nat×Nat×Nat} (h:T.length=n/\∀v,v<n->(T.getD v []).length=n) (a:t.1<n) (h2:t.2.1<n) (v u:Nat):MC (XN T t) v u=if t.1=v/\t.2.1=u then(t.2.2:Int)else MC T v u:=by grind [MC,XN]
theorem Vx {G:Nat->Nat->Nat}:∀(a:List (Nat×Nat×Nat)) (T:AM),(T.length=n/\∀v,v<n->(T.getD v []).length=n)->(∀t∈a,t.1<n/\t.2.1<n/\t.2.2=G t.1 t.2.1)->
  ((a.foldl XN T).length=n/\∀v,v<n->((a.foldl XN T).getD v []).length=n)/\∀v u,(MC T v u=(G v u:Int)\/∃t∈a,t.1=v/\t.2.1=u)->MC (a.foldl XN T) v u=(G v u:Int)
 |[],T,h,_=>by grind
 |t::a,T,h,hg=>by
  obtain⟨c,d,e⟩:=hg t Ma;obtain⟨k1,k2⟩:=Vx a (XN T t) (sQ h) fun t b=>hg t (by simp[b])
  grind [tabS_get]
theorem XM {f:II} (nd:f.Nodup) {i:Nat} (hi:i<f.length):f.getD ((i+f.length-1)%f.length) 0=pv f (f.getD i 0):=by
 have a:(i+f.length-1)%f.length<f.length:=C4 _ NH;have b:=dN nd a;have e:((i+f.length-1)%f.length+1)%f.length=i:=by rw[Nat.mod_add_mod,show i+f.length-1+1=i+f.length by omega,afI,Cg hi]
 grind [c7]
theorem vh {f:II} (nd:f.Nodup) {t:Nat×Nat×Nat} (h:t∈ZO f):t.1∈f/\t.2.1=pv f t.1/\t.2.2=nx f t.1:=by grind [ZO,XM,dN]
theorem wA {f:II} (nd:f.Nodup) {v:Nat} (h:v∈f):(v,pv f v,nx f v)∈ZO f:=by
 obtain⟨i,hi,rfl⟩:=U9.1 h;refine Z6.2 ⟨i,iy.2 hi,?_⟩
 grind [XM,dN]
def HN {T:RZ} {g:Nat->Nat} {P:Nat->Prop} (a:∀u,P u->T.getD u 0=(g u:Int)) (b:∀u,P u->P (g u)) {u:Nat} (c:P u):∀k,itI T k (u:Int)=((it g k u:Nat):Int)/\P (it g k u)
 |0=>⟨rfl,c⟩
 |k+1=>by
  obtain⟨e,p⟩:=HN a b c k;refine⟨?_,b _ p⟩;rw[itI,e,HV,a _ p];rfl
theorem circ_ok (q:bX ⟨(n:Int),es⟩) (A:zW n es) {r:Nat->II} {F:Cs} (G:vy n r F) (fl:Flat n r) (B:∀x y,y∈r x↔y∈eN n es x):
  Av n es (xY n (Zh n es) F)/\Flat n (Xl (xY n (Zh n es) F)):=by
 have hR:=q.GD;have hA:=q.q9;have s:=MG hR hA;have z:∀f∈F,f.Nodup:=G.O.nd;let a:Nat->Nat->Nat:=fun v u=>nx (r v) u;have j:∀t∈F.flatMap ZO,t.1<n/\t.2.1<n/\t.2.2=a t.1 t.2.1:=fun t C=>by
  obtain⟨f,hf,h⟩:=Yi.1 C;obtain⟨d,h2,h3⟩:=vh (z f hf) h;obtain⟨M,N,Q⟩:=G.O.pv hf d;have hi:=G.O.df G.Rl hf d;refine⟨G.Rl.lt _ _ hi,by rw[h2];exact G.Rl.lt _ _ (G.Rl.sy _ _ hi),?_⟩
  grind
 have D:(List.replicate n (List.replicate n (-1:Int))).length=n/\∀v,v<n->((List.replicate n (List.replicate n (-1:Int))).getD v []).length=n:=pw;obtain⟨-,E⟩:=Vx (F.flatMap ZO) _ D j;have m:∀v u,u∈r v->MC (N4 n F) v u=(a v u:Int):=fun v u i=>by
  refine E v u (.inr ?_);obtain⟨f,hf,I,e⟩:=G.O.cover u v (G.Rl.sy _ _ i);have b:v∈f:=by grind [ZP]
  refine⟨_,Yi.2 ⟨f,hf,wA (z f hf) b⟩,rfl,?_⟩
  grind [c7]
 have row:∀v,v<n->∃u c,eN n es v=u::c/\(Zh n es).getD v []=(u:Int)::kz c/\u∈r v:=fun v b=>by
  obtain⟨w,hw⟩:=A.ne hR b;obtain⟨u,c,e⟩:=xD ((aU hR).2 ⟨w,hw⟩);have hb:=(qG n es).back hR v;refine⟨u,c,e,?_,pw⟩;rw[<-hb];show(eN n es v).map _=_;rw[e];rfl
 have cyc:∀v,v<n->∃l:II,lH (N4 n F) (Zh n es) v=kz l/\Cyc (r v) l:=fun v b=>by
  obtain⟨u,c,J,K,i⟩:=row v b;have hlen:((Zh n es).getD v []).length=(r v).length:=by
   have d:(eN n es v).length=((Zh n es).getD v []).length:=by grind [kz]
   rw[<-d];exact(yR (s.nd v) (G.Rl.nd v) pw).length_eq
  refine⟨(List.range (r v).length).map fun k=>it (a v) k u,?_,nZ G.Rl G.O (next:=a) (fun f hf x o=>(G.O.pv hf o).2.2) i⟩
  unfold lH;rw[hlen,K];show _=((List.range (r v).length).map fun k=>it (a v) k u).map fun(x:Nat)=>(x:Int);rw[b7];refine Qn fun k _=>?_;exact(HN (g:=a v) (P:=fun x=>x∈r v) (fun x o=>m v x o) (by grind [ZP]) i k).1
 have get:∀v,v<n->(xY n (Zh n es) F).getD v []=lH (N4 n F) (Zh n es) v:=by grind [xY]
 have p:∀v,v<n->∃l:II,(xY n (Zh n es) F).getD v []=kz l/\Xl (xY n (Zh n es) F) v=l/\Cyc (r v) l:=fun v b=>by
  obtain⟨l,d,h2⟩:=cyc v b;refine⟨l,pw,?_,h2⟩;unfold Xl;rw[get v b,d,kz,b7]
  conv=>rhs;rw[<-ag7 l]
  grind [List.map_congr_left]
 have len:(xY n (Zh n es) F).length=n:=by simp[xY]
 have R:Av n es (xY n (Zh n es) F):=⟨len,fun v b=>by
  obtain⟨l,d,h2,h3⟩:=p v b;rw[d];have L:l.Perm (eN n es v):=h3.perm.symm.trans (yR (G.Rl.nd v) (s.nd v) fun x=>B v x);have:=L.map fun(x:Nat)=>(x:Int);rw[(qG n es).back hR v]at this;exact this⟩
 refine⟨R,?_⟩;have same:pP r (Xl (xY n (Zh n es) F)):=fun v=>by
  by_cases b:v<n
  .grind
  .have J : r v = [] := Tn.2 fun w hw => b (G.Rl.lt _ _ hw)
   grind [Xl,xY,Cyc.refl]
 exact(same.flat G.Rl).1 fl
theorem Mz (l:II):(kz l).map Int.toNat=l:=by
 rw[kz,b7]
 conv=>rhs;rw[<-ag7 l]
 grind [List.map_congr_left]
theorem ringM_ok (c:bX ⟨(n:Int),es⟩) {a b:Nat} {rest:List Pr} (d:es=((a:Int),(b:Int))::rest) (F:ai n rest b (NY (Zh n rest) n b)) (e:Pu rest b a):
  DO n rest a b=kz (zl n es)/\Ho n es (zl n es):=by grind [iS,zl,Mz]
theorem XU.qE {E E':Nat->II} (h:∀v w,w∈E v↔w∈E' v):XU n E↔XU n E':=
 ⟨fun⟨R,a,h2,h3⟩=>⟨R,a,h2,pw⟩,fun⟨R,a,h2,h3⟩=>⟨R,a,h2,pw⟩⟩
theorem Vg (hR:aV n es) (hA:D3 es) {rs:AM} (G:Av n es rs) (fl:Flat n (Xl rs)):XU n (eN n es):=⟨Xl rs,G.jD hR hA,fl,(by grind [Av.mem,vD])⟩
theorem many_no (b:bX ⟨(n:Int),es⟩) (a:zW n es) (h:3*n<es.length+6):¬XU n (eN n es):=fun⟨R,c,h2,h3⟩=>by
 have hR:=b.GD;have D:=(a.Z7 hR).same h3;have ne:∀v,v<n->R v≠[]:=fun v d e=>by
  obtain⟨w,hw⟩:=a.ne hR d;have:=(h3 v w).2 ((vD hR).2 hw)
  grind
 have:=(UU c h2 D a.n3 ne).1;have hA:D3 es:=b.q9
 grind [Ud,D3.nodup,vD]
end
end Go.Fw
namespace Go.Fw
section
attribute [local irreducible] Kp MQ lU KO1 KO KN KX KE VK Kl ZJ TC aab
open Go.Proofs
variable {c i j m t:Nat}
def pair_any (d:LA) (a b:Nat) (h:AHeap):AC Tryz.prog d 91 [.int .i64 (a:Int),.int .i64 (b:Int)] h fun x h'=>x=UI (GW a b)/\Le h h':=by
 refine AC.vE ⟨Tryz.func91,rfl,WY⟩ Tryz.ntmps91 Tryz.results91 fun c=>?_;simp only[Br,Nat.reduceAdd];obtain⟨e,f,l1,w1,g⟩:=Tt c [.int .i64 0,.int .i64 0]
 have i:h.own h.next=none:=(Le.refl h).next c (qL0 _)
 have st:=gD (p:=(min (a:Int) (b:Int),max (a:Int) (b:Int))) g
 have oo:=AHeap.Y3 e h.next (.cells (xM (min (a:Int) (b:Int),max (a:Int) (b:Int))))
 have ld:=uM oo;simp only[HO,Nat.reduceLT,↓reduceIte,Nat.reduceEqDiff,reduceCtorEq,alloc45',f,Dv,z6,xe,st,ld];exact⟨rfl,l1.put _ i⟩
theorem JG (h:0<m):((c:Int)+1).tmod (m:Int)=(((c+1)%m:Nat):Int):=pw
theorem ke (hi:i<m) (a:j<m) (b:t<=(j+m-i)%m):(i+t)%m=j↔t=(j+m-i)%m:=by
 have c:(j+m-i)%m<m:=C4 _ NH;have e:(i+(j+m-i)%m)%m=j:=by grind [Nat.add_mod_mod,Nat.add_mod_right,Nat.mod_eq_of_lt]
 constructor
 .intro h
  have:=aeQ hi (show t<m by omega)
  grind
 grind
theorem Ra (z:LA) (v:Value) (f:II) (i j:Nat) (h:AHeap) (o:RL RP h v (kz f)) (hi:i<f.length) (A:j<f.length) (Q:f.length<=1000):
  AC Tryz.prog z 142 [v,.int .i64 (i:Int),.int .i64 (j:Int)] h fun x h'=>GI h' x (kz (Qk f i j))/\Le h h'/\Z2 h x:=by
 refine AC.vE ⟨Tryz.func142,rfl,WY⟩ Tryz.ntmps142 Tryz.results142 fun a=>?_;simp only[Br,Nat.reduceAdd];have B:(kz f).length=f.length:=y6 f;have y:=fun g=>o.Uc g;rw[B]at y;have ad:∀c,c<f.length->aIndexAddr Tryz.prog 49 v (.int .i64 (c:Int))=some (.pointer (some (elemAddr v c))):=fun c p=>o.TA c NH;have ld:∀g,Le h g->∀c,c<f.length->aload Tryz.prog g 3 (elemAddr v c)=some (.int .i64 ((f.getD c 0:Nat):Int)):=fun g C c p=>by rw[(o.le Nn.RP C).DH c NH,sY p,D4 p]
 obtain⟨E,F,l1,w1,G⟩:=Tt a [.int .i64 ((f.getD i 0:Nat):Int)];simp only[HO,Nat.reduceLT,↓reduceIte,Nat.reduceEqDiff,reduceCtorEq,ad i hi,ld h (Le.refl _) i hi,DQ,F]
 have nB:h.own h.next=none:=(Le.refl h).next a (qL0 _)
 have D:(j+f.length-i)%f.length<f.length:=C4 _ NH;let L:Nat->II:=fun t=>(List.range (t+1)).map fun t=>f.getD ((i+t)%f.length) 0;have H:L 0=[f.getD i 0]:=by grind [Nat.mod_eq_of_lt]
 have I:GI E (.slice (some ⟨h.next,0,none⟩) 1 1) (kz (L 0)):=by rw[H];exact GS.full G rfl (show 1<1000000000000 by decide)
 refine lIn (fun k fr l=>∃(t:Nat) (n:Value),k=(j+f.length-i)%f.length-t/\t<=(j+f.length-i)%f.length/\fr=mkF [(0,v),(1,.int .i64 (((i+t)%f.length:Nat):Int)),(2,.int .i64 (j:Int)),(7,n)]/\GI l n (kz (L t))/\Le h l/\Z2 h n) ⟨0,_,rfl,Og _,by rw[zx,Cg hi],I,l1,fun b hb=>by grind [blk]⟩ ?_;rintro k fr l q ⟨t,n,rfl,J,rfl,g,leq,ap⟩;have st:=ke hi A J;have R:(i+t)%f.length<f.length:=C4 _ NH;by_cases c:(i+t)%f.length=j
 .have d : decide ((((i + t) % f.length : Nat) : Int) = (j : Int)) = true := decide_eq_true NH
  refine Sk (XC @bne.eq_1.{0} d) ?_
  grind [Qk]
 .have d : decide ((((i + t) % f.length : Nat) : Int) = (j : Int)) = false := decide_eq_false NH
  have r:t<(j+f.length-i)%f.length:=pw;have aw:=aaa ((i+t)%f.length) NH;have K:((i+t)%f.length+1)%f.length=(i+(t+1))%f.length:=by rw[Nat.mod_add_mod];rfl
  have e:(i+(t+1))%f.length<f.length:=C4 _ NH;have M:¬((f.length:Int)=0):=NH;have N:=JG (c:=(i+t)%f.length) (m:=f.length) NH;rw[K]at N;have s:(((((i+t)%f.length+1:Nat):Int))).tmod (f.length:Int)=(((i+(t+1))%f.length:Nat):Int):=pw;have u:awrap .i64 (((i+(t+1))%f.length:Nat):Int)=(((i+(t+1))%f.length:Nat):Int):=cT _ NH NH;obtain⟨w,S,T,e4,O,U,V,l4,hf,-⟩:=g.push q ((f.getD ((i+(t+1))%f.length) 0:Nat):Int) (by grind [y6]);obtain⟨l5,P⟩:=hf h leq ap;simp only[HO,Nat.reduceLT,↓reduceIte,Nat.reduceEqDiff,reduceCtorEq,bne,d,aw,y,M,s,u,ad _ e,ld l leq _ e,e4,O];refine lgA NH ⟨t+1,w,rfl,r,rfl,?_,l5,P⟩;have:L (t+1)=L t++[f.getD ((i+(t+1))%f.length) 0]:=by grind [List.range_succ]
  grind [kz]
variable {h:AHeap} {v:Value} {xs:RZ}
theorem GI.tail (g:GI h v xs) (hi:i<=xs.length):
  ∃u,aSlice Tryz.prog 49 v (some (.int .i64 (i:Int))) none none=some u/\((i=xs.length/\xO u 0)\/(i<xs.length/\∃cap,u=.slice (some (elemAddr v i)) (xs.length-i) cap)):=by
 obtain⟨k,⟨rfl,d⟩|⟨id,c,cap,rfl,l,m,f⟩⟩:=g
 .have : i = 0 := NH
  subst this;refine⟨.slice none 0 0,?_,.inl ⟨d.symm,⟨none,0,rfl,Ma⟩⟩⟩;have:¬RA<=0:=by decide
  simp[aSlice,Ac,Mb,this,aBounds,aBound]
 .have h2 : (0 : Int) <= (i : Int) := NH
  have h3:(i:Int)<=(xs.length:Int):=NH;have b:UA Tryz.prog 3=1:=Ji;rcases f with rfl|⟨rfl,j⟩
  .refine ⟨.slice (some (Ip ⟨id, 0, none⟩ i)) (xs.length - i) (RA + 1), by simp [aSlice, Ac, Mb, b, aBounds, aBound, h2, h3], ?_⟩
   by_cases c:i=xs.length
   .exact .inl ⟨c,⟨_,_,by rw[c,Q4],Ma⟩⟩
   .exact .inr ⟨NH,_,rfl⟩
  .have a : ¬ RA <= xs.length := Fk.2 (V9 j WY)
   refine⟨.slice (if xs.length=i then some ⟨id,0,none⟩else some (Ip ⟨id,0,none⟩ i)) (xs.length-i) (xs.length-i),by simp[aSlice,Ac,Mb,b,aBounds,aBound,h2,h3,a],?_⟩
   by_cases c:i=xs.length
   .refine .inl ⟨c,⟨_,_,by rw[c,Q4],Ma⟩⟩
   .exact .inr ⟨NH,_,by rw[if_neg (fun e=>c e.symm)];rfl⟩
theorem Ao (g:GI h v xs) (hi:i<xs.length):elemAddr (.slice (some (elemAddr v i)) (xs.length-i) c) j=elemAddr v (i+j):=by
 obtain⟨a,⟨rfl,b⟩|⟨id,c,cap,rfl,d,e,f⟩⟩:=g
 all_goals grind [fA,Ub]
theorem rev_w (h:m<=100000) (a:2*j<=m):awrap .i64 ((m:Int)-1-(j:Int)-1)=(m:Int)-1-((j+1:Nat):Int):=by grind [ie]
def rev_2 (h:2*j+1<m):2*(j+1)<=m:=NH
theorem xB (U:LA) (u v:Value) (xs:RZ) (i:Nat) (h:AHeap) (g:GI h v xs) (hn:xs.length<=100000) (L:(i=xs.length/\xO u 0)\/(i<xs.length/\∃cap,u=.slice (some (elemAddr v i)) (xs.length-i) cap)):
  AC Tryz.prog U 94 [u] h fun _ h'=>GI h' v (xs.take i++(xs.drop i).reverse)/\(∀f,Le f h->Z2 f v->Le f h')/\∀b o,h.own b=some o->blk v≠some b->h'.own b=some o:=by
 have V:i<=xs.length:=pw;have n:(xs.drop i).length=xs.length-i:=ahJ;have lu:∀w,aLen Tryz.prog w 49 u=some (.int .i64 ((xs.drop i).length:Int)):=fun w=>by
  rcases L with⟨e,a,c,rfl,_⟩|⟨_,cap,rfl⟩
  .rw[Jg Ac w,n,e,Q4]
  .rw[Jg Ac w,n]
 refine AC.vE ⟨XX,rfl,WY⟩ Tryz.ntmps94 Tryz.results94 fun W=>?_;simp only[Br,Nat.reduceAdd];have X:awrap .i64 (((xs.drop i).length:Int)-1)=((xs.drop i).length:Int)-1-((0:Nat):Int):=by grind [ie]
 simp only[HO,Nat.reduceLT,↓reduceIte,Nat.reduceEqDiff,reduceCtorEq,lu,X];refine aab.intro (fun k fr y=>∃(j:Nat) (ys:RZ),k=(xs.drop i).length-j/\2*j<=(xs.drop i).length/\fr=mkF [(0,u),(2,.int .i64 j),(3,.int .i64 (((xs.drop i).length:Int)-1-(j:Int)))]/\eD (xs.drop i) ys j/\GI y v (xs.take i++ys)/\(∀f,Le f h->Z2 f v->Le f y)/\∀b o,h.own b=some o->blk v≠some b->y.own b=some o)
  (xs.drop i).length [(0,u),(2,.int .i64 (0:Nat)),(3,.int .i64 (((xs.drop i).length:Int)-1-((0:Nat):Int)))] fD
  ⟨0,xs.drop i,rfl,Og _,rfl,eD.zero _,by grind [List.take_append_drop],fun f z _=>z,fun b o hb _=>hb⟩ ?_
 rintro k fr y A ⟨j,ys,rfl,Y,rfl,R,M,Z,kq⟩;have B:(xs.drop i).length<=100000:=NH;generalize aa:xs.drop i=ds at*;by_cases c:2*j+1<ds.length
 .have d : decide ((j : Int) < (ds.length : Int) - 1 - (j : Int)) = true := decide_eq_true NH
  have C:(ds.length:Int)-1-(j:Int)=((ds.length-1-j:Nat):Int):=NH;have N:j<ys.length:=by rw[R.1];omega
  have h2:ds.length-1-j<ys.length:=by rw[R.1];omega
  have D:i<xs.length:=NH;obtain⟨_,cap,rfl⟩:=L.resolve_left fun q=>by omega
  have tl:(xs.take i).length=i:=pw;have ll:(xs.take i++ys).length=xs.length:=by rw[j9,tl,R.1];omega
  have E:i+j<(xs.take i++ys).length:=pw;have O:i+(ds.length-1-j)<(xs.take i++ys).length:=pw;have Q:=GI.rl M;have r:∀p:Nat,p<xs.length-i->aIndexAddr Tryz.prog 49 (.slice (some (elemAddr v i)) (xs.length-i) cap) (.int .i64 (p:Int))=some (.pointer (some (elemAddr v (i+p)))):=fun p F=>by rw[Wc (P:=Tryz.prog) Ac Mb Ji p F,<-Ao g D (c:=cap)];rfl
  have G:=r j NH;have s:=r (ds.length-1-j) NH;have ld1:=Q.DH _ E;have t:=Q.DH _ O;have ge:∀p (F:i+p<(xs.take i++ys).length) (H:p<ys.length),(xs.take i++ys)[i+p]=ys[p]:=fun p F H=>by
   rw[SR NH];exact getElem_congr_idx NH
  rw[ge _ E N]at ld1;rw[ge _ O h2]at t;have st:∀(I:RZ) p x,(xs.take i++I).set (i+p) x=xs.take i++I.set p x:=fun I p x=>by grind [List.set_append_right,Nat.add_sub_cancel_left]
  obtain⟨h5,e5,S,w5,l5,k5⟩:=GI.store M A E ys[ds.length-1-j];rw[st]at S;obtain⟨h6,e6,T,w6,l6,k6⟩:=GI.store S w5 (i:=i+(ds.length-1-j)) pw ys[j];rw[st]at T;have R6:=R.step c N h2;have J:=aaa j NH;have K:=rev_w (m:=ds.length) (j:=j) B Y;rw[<-C]at s;refine Sk d ?_;refine gh (tA [0,1,2,3,4,5,6,7,8,9,10,11,12] (JQ 13 [0,1,4,5,6,7,11,12] (tA [14] (JQ 15 [0,1,2,3,4,5,6,7,8,9,10,11,12,13,14] .done)))) ?_;simp only[HO,Nat.reduceLT,↓reduceIte,Nat.reduceEqDiff,reduceCtorEq,Nat.reduceBEq,Qg,G,s,ld1,t,e5,e6,J,K];exact lgA NH ⟨j+1,_,rfl,rev_2 c,rfl,R6,T,fun f z af=>l6 f (l5 f (Z f z af) af) af,fun b o hb l=>k6 b o (k5 b o (kq b o hb l) l) l⟩
 .have d : decide ((j : Int) < (ds.length : Int) - 1 - (j : Int)) = false := decide_eq_false NH
  refine Sk d ?_
  grind [eD.fin]
end
end Go.Fw
