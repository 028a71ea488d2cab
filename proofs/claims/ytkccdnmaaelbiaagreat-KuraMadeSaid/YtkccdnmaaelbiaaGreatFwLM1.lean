/- A text. -/
import Derived.Test.YtkccdnmaaelbiaaGreatFwLZ7
import Derived.Test.YtkccdnmaaelbiaaGreatFwLBR
set_option linter.all false
set_option maxRecDepth 99999
set_option maxHeartbeats 9999999
namespace Go.Fw
section
open Go.Proofs
def fT (v:Value) (i:Nat):Addr:=elemAddr v (i*3)
def uy (h:AHeap):aAlloc Tryz.prog h 38=some (.pointer (some ⟨h.next,0,none⟩),h.alloc (.cells [.int .i64 0,.int .i64 0])):=rfl
variable {es:List Pr}
structure AtS (n:Int) (es:List Pr) (bs:List (List Pr)):Prop where
 ne:∀b∈bs,b≠[]
 right:∀b∈bs,bX ⟨n,b⟩
 q9:∀(i:Nat) b b' p q,bs[i]?=some b->bs[i+1]?=some b'->b[0]?=some p->b'[0]?=some q->p.1<q.1\/p.1=q.1/\p.2<q.2
 mem:∀b∈bs,∀p∈b,p∈es
 TE:∀(i j:Nat) b b' p,bs[i]?=some b->bs[j]?=some b'->p∈b->p∈b'->i=j
 all:∀p∈es,∃b∈bs,p∈b
 len:bs.length<=1000
def Met (bs:List (List Pr)) (i j:Nat) (p:Pr) (x:Int):Prop:=∃(k:Nat) (b:List Pr),bs[k]?=some b/\x=(k:Int)/\(k<i/\p∈b\/k=i/\p∈b.take j)
theorem bX.nodup {n:Int} (h:bX ⟨n,es⟩):es.Nodup:=by
 have hA:=h.q9;rw[List.Nodup,V3];intro i j hi b a e;have:=hA.lt a (XJ hi) (XJ b)
 grind
end
variable {b es:List Pr} {i n:Nat} {p:Pr}
theorem Nl:D3 es↔es.Pairwise fun x y=>x.1<y.1\/x.1=y.1/\x.2<y.2:=by
 rw[V3];constructor
 .intro ha i j hi b a;exact ha.lt a (XJ hi) (XJ b)
 .intro h i j p q a hi b
  obtain⟨a1,a2⟩:=Ny.1 hi;obtain⟨d,c⟩:=Ny.1 b;rw[Hv,<-a2,<-c];grind
theorem bX.of (a:n<=200) (c:es.length<=594) (d:aV n es) (ha:D3 es):bX ⟨(n:Int),es⟩:=
 ⟨Ma,pw,c,fun i hi p b=>⟨d p (Gc b),fun q f e=>ha (i-1) i q p NH e b⟩⟩
theorem bX.sub {es a:List Pr} (h:bX ⟨(n:Int),es⟩) (hs:a.Sublist es):bX ⟨(n:Int),a⟩:=
 bX.of (by have:(n:Int)<=200:=h.n1;omega) (jz hs.length_le h.len) (fun p b=>h.GD p (hs.subset b)) (Nl.2 ((Nl.1 h.q9).sublist hs))
theorem Jh (h:(vq n es)[i]?=some b):∃k,(CY (cQ n es) es)[i]?=some k/\b=es.filter fun p=>decide (cQ n es p=k):=by grind [aay]
theorem sh (h:(vq n es)[i]?=some b) {k:Int} (a:(CY (cQ n es) es)[i]?=some k):p∈b↔p∈es/\cQ n es p=k:=by grind [Jh]
theorem XF (h:bX ⟨(n:Int),es⟩):AtS (n:Int) es (vq n es):=by
 obtain⟨nd,c⟩:=lQ (cQ n es) _ es rfl;have l:∀b∈vq n es,b≠[]:=fun b hb=>by
  obtain⟨i,hi⟩:=yM.1 hb;obtain⟨k,m,rfl⟩:=Jh hi;obtain⟨p,d,e⟩:=(c k).1 (Gc m);have:p∈es.filter fun p=>decide (cQ n es p=k):=pw
  grind
 refine⟨l,fun b hb=>?_,fun i b B p q hb sZ d C=>?_,fun b hb p d=>?_,fun i j b B p hb sZ d D=>?_,fun p d=>?_,?_⟩
 .grind [List.mem_iff_getElem?,Jh,bX.sub,List.filter_sublist]
 .obtain ⟨k, m, e⟩ := Jh hb
  obtain⟨E,f,e'⟩:=Jh sZ;obtain⟨x,r,w,h2,h3⟩:=Iq (cQ n es) _ es rfl i (i+1) k E NH m f;have g:=(sh sZ f).1 (Gc C);obtain⟨y,A⟩:=yM.1 g.1;have o:=h3 y q A g.2;have s:=h.q9.lt o w A;have a:r∈b:=by grind [List.mem_of_getElem?]
  have u:b.Pairwise fun x y=>x.1<y.1\/x.1=y.1/\x.2<y.2:=by rw[e];exact(Nl.1 h.q9).filter _
  cases b with
  |nil=>cases a
  |cons z t=>
   simp at d;subst d;rw[Ry]at u;rw[WA]at a;rcases a with rfl|a
   .exact s
   grind
 .grind [List.mem_iff_getElem?,Jh]
 .grind [Jh,List.getElem?_inj]
 .obtain ⟨i, hi⟩ := yM.1 ((c _).2 ⟨p, d, rfl⟩)
  have v:(vq n es)[i]?=some (es.filter fun q=>decide (cQ n es q=cQ n es p)):=by grind [aay]
  exact⟨_,Gc v,pw⟩
 .rw [aay, eR]
  have w:(CY (cQ n es) es).length<=(es.map (cQ n es)).length:=nd.length_le_of_subset pw;have h2:es.length<=594:=h.len
  grind
theorem Zg (d:bX ⟨(n:Int),es⟩) (e:p∈es):∃(k:Nat) (b:List Pr),(vq n es)[k]?=some b/\p∈b/\Met (vq n es) (vq n es).length 0 p (k:Int):=by
 obtain⟨b,hb,a⟩:=(XF d).all p e;obtain⟨k,c⟩:=yM.1 hb;exact⟨k,b,c,a,k,b,c,rfl,.inl ⟨(Ny.1 c).1,a⟩⟩
def AN (v:Int) (p:Pr):Bool:=decide (p.1=v)||decide (p.2=v)
def woV (es:List Pr) (v:Nat):List Pr:=es.filter fun p=>!AN (v:Int) p
theorem rI {v x y:Nat}:Jp (woV es v) x y↔Jp es x y/\x≠v/\y≠v:=by grind [Jp,woV,AN]
theorem woV_con {v a b:Nat} (ha:a≠v):Pu (woV es v) a b↔Cn (wo v) es a b:=by
 constructor
 .intro h
  induction h with
  |refl _=>exact .refl (iO ha)
  |step _ a _ d=>exact d.step (rI.1 a).1 (by grind [rI])
 .intro h
  induction h with
  |refl _=>grind [Pu.refl]
  |step c a o d=>exact .step d (by grind [rI,Cn.AB]) rfl
theorem ends (e:aV n es) (d:p∈es):∃a c:Nat,p=((a:Int),(c:Int))/\a<c/\c<n/\Jp es a c:=by
 have b:=e p d;obtain⟨x,y⟩:=p;obtain⟨a,rfl⟩:=yY b.1;obtain⟨c,rfl⟩:=yY (show 0<=y by omega);exact⟨a,c,rfl,NH,NH,.inl d⟩
section
open Go.Proofs
variable {h:AHeap} {i:Nat} {ps:List Pr} {v:Value}
def Ct (v:Value) (n:Nat):Prop:=∃a cap,v=.slice a n cap/\((cap<UNK/\n<=cap)\/(cap=UNK+2/\a.isSome))
theorem GP.ct (g:GP h v ps):Ct v ps.length:=by
 obtain⟨_,⟨rfl,b⟩|⟨id,c,cap,rfl,_,_,a⟩⟩:=g
 .exact⟨none,0,by rw[b],.inl ⟨WY,NH⟩⟩
 .refine ⟨_, cap, rfl, ?_⟩
  rcases a with a|⟨rfl,d⟩
  .exact pw
  .exact .inl ⟨Q4 d WY,qL0 _⟩
theorem acB (ps:List Pr) (i:Nat):Iu (ps.take i)=(Iu ps).take (i*2):=by
 induction ps generalizing i with
 |nil=>simp[Iu]
 |cons p ps a=>
  cases i with
  |zero=>simp[Iu]
  |succ i=>
   have e:Iu (p::ps)=.int .i64 p.1::.int .i64 p.2::Iu ps:=rfl;have e':Iu (p::ps.take i)=.int .i64 p.1::.int .i64 p.2::Iu (ps.take i):=rfl;rw[TN,e',e,a,show(i+1)*2=i*2+1+1 by omega,TN,TN]
theorem za (ps:List Pr) (i:Nat):Iu (ps.drop i)=(Iu ps).drop (i*2):=by
 induction ps generalizing i with
 |nil=>simp[Iu]
 |cons p ps a=>
  cases i with
  |zero=>simp[Iu]
  |succ i=>
   have e:Iu (p::ps)=.int .i64 p.1::.int .i64 p.2::Iu ps:=rfl
   grind
theorem PR.take {h:AHeap} {a a':Option Addr} {ps:List Pr} {cap cap':Nat} (r:PR h (.slice a ps.length cap) ps) {i:Nat} (hi:i<=ps.length) (ha:0<i->∀x,a=some x->a'=some (Ip x 0)):PR h (.slice a' i cap') (ps.take i):=by
 obtain⟨_,_,e,hs⟩:=r.sl;injection e with g k e3;subst g;have d:(ps.take i).length=i:=by rw[Cg];omega
 refine⟨⟨a',cap',by rw[d],fun f=>?_⟩,Ta _,fun j x b=>?_⟩
 .rw [d] at f
  obtain⟨y,c⟩:=Gw.1 (hs NH);rw[ha f y c];rfl
 .rw [acB, adH] at b
  split at b
  .obtain ⟨y, c⟩ := Gw.1 (hs NH)
   have:=CS.get r j x b;subst c;rw[ha NH y rfl,fA];simpa[fA,Ip]using this
  .cases b
theorem PR.drop {h:AHeap} {a a':Option Addr} {ps:List Pr} {cap cap':Nat} (r:PR h (.slice a ps.length cap) ps) {i m:Nat} (hi:i<=ps.length) (g:m=ps.length-i) (ha:i<ps.length->∀x,a=some x->a'=some (Ip x (i*2))):PR h (.slice a' m cap') (ps.drop i):=by
 obtain⟨_,_,e,hs⟩:=r.sl;injection e with k n e3;subst k;subst g;have f:(ps.drop i).length=ps.length-i:=adJ;refine⟨⟨a',cap',by rw[f],fun l=>?_⟩,Ta _,fun j x b=>?_⟩
 .rw [f] at l
  obtain⟨y,c⟩:=Gw.1 (hs NH);rw[ha NH y c];rfl
 .rw [za, Vn] at b
  have d:=(Ny.1 b).1;rw[Ta]at d;obtain⟨y,c⟩:=Gw.1 (hs NH);have:=CS.get r _ x b;subst c;rw[ha NH y rfl,fA];simpa[fA,Ip,aeF]using this
def PR.lo (r:PR h v ps) (ct:Ct v ps.length) (hi:i<=ps.length):∃v',aSlice Tryz.prog 22 v none (some (.int .i64 i)) none=some v'/\PR h v' (ps.take i):=by
 obtain⟨a,cap,rfl,⟨e,h2⟩|⟨rfl,e⟩⟩:=ct
 .have n1 : (i : Int) <= cap := NH
  have n0:(0:Int)<=i:=NH;have c:¬UNK<=cap:=NH
  have d:aSlice Tryz.prog 22 (.slice a ps.length cap) none (some (.int .i64 i)) none=some (.slice (if cap=0 then a else a.map (fun a=>Ip a 0)) i cap):=by simp[aSlice,eY,yU,WE,aBounds,aBound,n0,n1,c,h2]
  refine⟨_,d,r.take hi fun f x b=>?_⟩;subst b;have:cap≠0:=NH;simp[this]
 .obtain ⟨a, rfl⟩ := Gw.1 e
  have n1:(i:Int)<=ps.length:=NH;have n0:(0:Int)<=i:=NH;have d:aSlice Tryz.prog 22 (.slice (some a) ps.length (UNK+2)) none (some (.int .i64 i)) none=some (.slice (some (Ip a 0)) i (UNK+2)):=by simp[aSlice,eY,yU,WE,aBounds,aBound,n0,n1]
  exact⟨_,d,r.take hi fun f x b=>by injection b with b;rw[b]⟩
theorem PR.up (r:PR h v ps) (ct:Ct v ps.length) (hi:i<=ps.length):∃v',aSlice Tryz.prog 22 v (some (.int .i64 i)) none none=some v'/\PR h v' (ps.drop i):=by
 obtain⟨a,cap,rfl,⟨e,h2⟩|⟨rfl,e⟩⟩:=ct
 .have n1 : (i : Int) <= ps.length := NH
  have n0:(0:Int)<=i:=NH;have c:¬UNK<=cap:=NH
  have d:aSlice Tryz.prog 22 (.slice a ps.length cap) (some (.int .i64 i)) none none=some (.slice (if cap=i then a else a.map (fun a=>Ip a (i*2))) (ps.length-i) (cap-i)):=by simp[aSlice,eY,yU,WE,aBounds,aBound,n0,n1,c,h2]
  refine⟨_,d,r.drop hi rfl fun f x b=>?_⟩;subst b;have:cap≠i:=NH;simp[this]
 .obtain ⟨a, rfl⟩ := Gw.1 e
  have n1:(i:Int)<=ps.length:=NH;have n0:(0:Int)<=i:=NH;have d:aSlice Tryz.prog 22 (.slice (some a) ps.length (UNK+2)) (some (.int .i64 i)) none none=some (.slice (some (Ip a (i*2))) (ps.length-i) (UNK+2)):=by simp[aSlice,eY,yU,WE,aBounds,aBound,n0,n1]
  exact⟨_,d,r.drop hi rfl fun f x b=>by injection b with b;rw[b]⟩
variable {es:List Pr} {l:II} {x:Nat}
theorem acS {v x:Nat} (h:Pu es v x) (g:x≠v):∃a,Jp es v a/\Pu (woV es v) a x:=by
 induction h with
 |refl _=>grind
 |@step w x c a _ d=>
  by_cases e:w=v
  .grind [Pu.refl]
  .obtain ⟨b, hb, f⟩ := d e
   exact⟨b,hb,.step f (by grind [rI]) rfl⟩
theorem MS {α:Type} (p:α->Bool):∀(l:List α),l.length=(l.filter p).length+(l.filter fun x=>!p x).length
 |[]=>rfl
 |x::l=>by
  have:=MS p l
  grind
theorem Cq (nd:l.Nodup) (c:x∈l) (h:∀y∈l,y=x):l.length=1:=by
 cases l with
 |nil=>cases c
 |cons a l=>
  cases l with
  |nil=>rfl
  |cons b l=>
   have d:=h a Ma;have h2:=h b Ma
   grind
variable {n:Nat} {p:Pr}
def jo (p:Pr) (v:Int):Int:=if p.1=v then p.2 else if p.2=v then p.1 else-1
theorem XH (d:aV n es) (e:p∈es) (v:Nat):
  (∃a:Nat,a<n/\jo p (v:Int)=(a:Int)/\Jp es v a/\p=GW v a)\/(jo p (v:Int)=-1/\∀a,p≠GW v a):=by
 obtain⟨a,c,rfl,f,g,b⟩:=ends d e;unfold jo;by_cases h:a=v
 .grind [bj]
 .by_cases h2 : c = v
  .grind [Jp.symm,bj]
  .grind [bj]
variable {a v:Nat} {k:Int} {α:Type}
theorem Yt {l:List α} (nd:l.Nodup):1<l.length↔∃x y,x∈l/\y∈l/\x≠y:=by
 constructor
 .intro h
  match l,h with
  |x::y::r,_=>
   rw[ZT]at nd;exact⟨x,y,Ma,Ma,pw⟩
 .rintro ⟨x, y, c, e, d⟩
  match l with
  |[]=>cases c
  |[a]=>grind
  |a::b::r=>simp
def rG (v:Int) (b:List Pr):Bool:=b.any (AN v)
theorem Tf (b:aV n es) (c:p∈es) (h:AN (v:Int) p=true):∃a,Jp es v a/\p=GW v a:=by
 rcases XH b c v with⟨a,_,_,d,h2⟩|⟨d,_⟩
 .grind
 .have := b p c
  grind [jo,AN]
theorem zo:AN (v:Int) (GW v a)=true:=by grind [AN,GW]
theorem KQ (b:aV n es):rG (v:Int) (es.filter fun p=>decide (cQ n es p=k))=true↔∃a,Jp es v a/\cQ n es (GW v a)=k:=by grind [rG,Tf,aa4,zo]
def Sq (n:Nat) (es:List Pr) (v:Nat):Nat:=((vq n es).filter (rG (v:Int))).length
def I7 (n:Nat) (es:List Pr) (v:Nat):RZ:=(CY (cQ n es) es).filter fun k=>rG (v:Int) (es.filter fun p=>decide (cQ n es p=k))
def JW (n:Nat) (es:List Pr) (v:Nat):Sq n es v=(I7 n es v).length:=by rw[Sq,aay,agf,eR];rfl
theorem PS (n:Nat) (es:List Pr) (v:Nat):(I7 n es v).Nodup:=(lQ (cQ n es) _ es rfl).1.sublist xD
theorem dG (b:aV n es):k∈I7 n es v↔∃a,Jp es v a/\cQ n es (GW v a)=k:=by
 rw[I7,VU,KQ b];refine⟨fun h=>h.2,fun⟨a,ha,c⟩=>⟨((lQ (cQ n es) _ es rfl).2 k).2 (by grind [aa4]),a,ha,c⟩⟩
theorem YH (c:aV n es) (v:Nat):1<Sq n es v↔Fo.iE es v:=by
 rw[JW,Yt (PS n es v)];constructor
 .rintro ⟨x, y, d, f, g⟩
  obtain⟨a,ha,rfl⟩:=(dG c).1 d;obtain⟨b,hb,rfl⟩:=(dG c).1 f;exact⟨a,b,ha,hb,(by grind [dR])⟩
 .rintro ⟨a, b, ha, hb, h⟩
  exact⟨_,_,(dG c).2 ⟨a,ha,rfl⟩,(dG c).2 ⟨b,hb,rfl⟩,fun e=>h ((dR c ha hb).1 e)⟩
end
end Go.Fw
namespace Go.Fw
open Go.Proofs
namespace Fo
variable {n : Nat} {es : List Pr} {num : Nat → Nat} {up : Nat → Option Nat} {hd : Nat → Nat}
theorem Io {a b:Nat} (h:pJ up a b) (ne:a≠b):up b≠none:=by grind [pJ.last]
def beg (n:Nat) (up:Nat->Option Nat) (hd:Nat->Nat):II:=(List.range n).filter fun c=>decide (up c≠none/\hd c=c)
theorem AF {c:Nat}:c∈beg n up hd↔c<n/\up c≠none/\hd c=c:=by simp[beg]
theorem Ky:(beg n up hd).Nodup:=Tn.sublist xD
def JB (n:Nat) (up:Nat->Option Nat) (hd:Nat->Nat) (v:Nat):II:=(beg n up hd).filter fun c=>decide (up c=some v)
theorem mF (F:Fo n es num up) (H:abb n es num up hd) {v:Nat} (h:v<n) (c:Nat):(∃a,Jp es v a/\hd (lower num v a)=c)↔c∈JB n up hd v\/(up v≠none/\c=hd v):=by
 rw[JB,VU,AF,decide_eq_true_eq];constructor
 .rintro ⟨a, ha, rfl⟩
  have i:=F.JD ha;have e:=(ha.lt F.rD).2;unfold lower;by_cases q:num a<num v
  .rw [if_pos q]
   exact .inr ⟨Io (F.iA a v ha.symm q) pw,rfl⟩
  .rw [if_neg q]
   obtain⟨c,f,b⟩:=(F.iA v a ha NH).child pw;have d:=(F.yO b e).1;rw[F.zP H f b ha];by_cases hb:ym es num up v c
   all_goals grind [Fo.CJ,Fo.Io,Fo.abb.on,Fo.abb.new]
 .rintro (⟨⟨d, _, hh⟩, f⟩ | ⟨g, rfl⟩)
  .obtain ⟨j, h2⟩ := F.Kd c v d f
   grind [Fo.lower]
  .obtain ⟨u, g⟩ := N8.1 g
   obtain⟨j,h2⟩:=F.Kd v u h g
   grind [Jp.symm,Fo.lower]
theorem Zc (F:Fo n es num up) (H:abb n es num up hd) {v:Nat} (a:v<n):hd v∉JB n up hd v:=by
 intro h;rw[JB,VU,AF,decide_eq_true_eq]at h;have b:=(F.US H (num v) v (qL0 _) a).1;have h2:=(F.Kd _ v h.1.1 h.2).2
 grind [Fo.yO]
end Fo
open Classical in
theorem incN_eq {n:Nat} {es:List Pr} {num:Nat->Nat} {up:Nat->Option Nat} (S:aau n es (Jz n es).1 (Jz n es).2 num up) {v:Nat} (h:v<n):
  Sq n es v=(Fo.JB n up (Cl n es) v).length+(if up v=none then 0 else 1):=by
 have F:=S.fo;have H:=(FY S).1;have d:=F.rD;have b:∀k:Int,k∈I7 n es v↔∃c:Nat,k=(c:Int)/\(c∈Fo.JB n up (Cl n es) v\/(up v≠none/\c=Cl n es v)):=by
  intro k;rw[dG d];constructor
  .rintro ⟨a, ha, rfl⟩
   exact⟨_,jm S ha,(by grind [Fo.mF])⟩
  grind [Fo.mF,jm]
 have e:(Fo.JB n up (Cl n es) v).Nodup:=Fo.Ky.sublist xD;rw[JW];by_cases f:up v=none
 .rw [if_pos f]
  have:(I7 n es v).Perm (aaa (Fo.JB n up (Cl n es) v)):=by grind [PS,aaa.eq_1]
  rw[this.length_eq,y6];rfl
 .have g : (Cl n es v :: Fo.JB n up (Cl n es) v).Nodup := by grind [Fo.Zc]
  have:(I7 n es v).Perm (aaa (Cl n es v::Fo.JB n up (Cl n es) v)):=(Zw (PS n es v) (by grind [aaa.eq_1])).2 (by grind [aaa.eq_1])
  grind [List.Perm.length_eq,y6]
theorem VV {n:Nat} {es:List Pr} {num:Nat->Nat} {up:Nat->Option Nat} (S:aau n es (Jz n es).1 (Jz n es).2 num up):(vq n es).length=(Fo.beg n up (Cl n es)).length:=by
 have F:=S.fo;have H:=(FY S).1;have i:=F.rD;obtain⟨l,mk⟩:=lQ (cQ n es) _ es rfl;have:(CY (cQ n es) es).Perm (aaa (Fo.beg n up (Cl n es))):=(Zw l (by grind [aaa.eq_1,Fo.Ky])).2 fun k=>by
  rw[mk,aaa,HV];constructor
  .rintro ⟨p, m, rfl⟩
   obtain⟨a,c,rfl,o,d,b⟩:=ends i m;have q:((a:Int),(c:Int))=GW a c:=by grind [bj]
   have w:=jm S b;have r:=F.JD b;have e:Fo.lower num a c<n:=by grind [Fo.lower]
   have s:up (Cl n es (Fo.lower num a c))≠none:=by
    have key:=fun x y f g=>F.link H (fun _ _=>()) (fun _ _=>rfl) pw (num x) x y (qL0 _) f g
    grind [Fo.lower,Jp.symm]
   have t:=F.US H _ (Fo.lower num a c) (qL0 _) e
   grind [Fo.AF,Fo.yO]
  .rintro ⟨c, v, rfl⟩
   obtain⟨d,h,hh⟩:=Fo.AF.1 v;obtain⟨u,h⟩:=N8.1 h;obtain⟨j,h2⟩:=F.Kd c u d h;refine⟨GW c u,aa4 i j.symm,?_⟩;rw[jm S j.symm]
   grind [Fo.lower]
 grind [aay,List.Perm.length_eq,y6]
end Go.Fw
namespace Go.Fw
open Go.Proofs
theorem sum_add (f g:Nat->Nat):∀l:II,(l.map fun x=>f x+g x).sum=(l.map f).sum+(l.map g).sum
 |[]=>rfl
 |x::l=>by simp only[wI,MY,sum_add f g l];omega
theorem Zl (u:Nat):∀n,((List.range n).map fun v=>if u=v then 1 else 0).sum=if u<n then 1 else 0
 |0=>rfl
 |n+1=>by
  rw[Bx,j3,agh,Zl u n]
  grind
def Rp:∀n,((List.range n).map fun _=>0).sum=0
 |0=>rfl
 |n+1=>by rw[Bx,j3,agh,Rp n];rfl
theorem Lz (n:Nat) (up:Nat->Option Nat):∀(l:II),(∀c∈l,∃u,up c=some u/\u<n)->((List.range n).map fun v=>(l.filter fun c=>decide (up c=some v)).length).sum=l.length
 |[],_=>by exact Rp n
 |c::l,h=>by
  obtain⟨u,a,b⟩:=h c Ma;have d:=Lz n up l pw
  have e:(fun v=>((c::l).filter fun c=>decide (up c=some v)).length)=fun v=>(l.filter fun c=>decide (up c=some v)).length+(if u=v then 1 else 0):=pw
  grind [sum_add,Zl]
theorem Sv (p:Nat->Prop) [DecidablePred p]:∀l:II,(l.map fun v=>if p v then 0 else 1).sum=(l.filter fun v=>decide (¬p v)).length
 |[]=>rfl
 |x::l=>by
  rw[wI,MY,Sv p l,oZ]
  grind
theorem yA (inc:Nat->Nat):∀l:II,(l.map inc).sum+(l.filter fun v=>decide (1<inc v)).length=((l.filter fun v=>decide (1<inc v)).map inc).sum+(l.filter fun v=>decide (0<inc v)).length
 |[]=>rfl
 |x::l=>by
  have a:=yA inc l
  grind
theorem Yu {A B:II} {R:Nat->Nat->Prop} (c:A.Nodup) (h:∀a∈A,∃b∈B,R a b) (inj:∀a∈A,∀a'∈A,∀b,R a b->R a' b->a=a'):A.length<=B.length:=by
 classical
 let f:Nat->Nat:=fun a=>if h:∃b∈B,R a b then Classical.choose h else 0
 have nd:(A.map f).Nodup:=by grind [List.Pairwise.imp_of_mem]
 have:=nd.length_le_of_subset (l₂:=B) pw
 grind
namespace Fo
variable {n : Nat} {es : List Pr} {num : Nat → Nat} {up : Nat → Option Nat}
def root_ex (F:Fo n es num up):∀(k v:Nat),num v<=k->v<n->∃r,r<n/\up r=none/\pJ up r v/\Pu es r v:=by
 intro k
 induction k with
 |zero=>
  intro v d b;cases a:up v with
  |none=>exact⟨v,b,a,.refl v,Pu.refl _ _⟩
  |some u=>have:=(F.Kd v u b a).2;omega
 |succ k e=>
  intro v d b;cases a:up v with
  |none=>exact⟨v,b,a,.refl v,Pu.refl _ _⟩
  |some u=>
   obtain⟨c,h2⟩:=F.Kd v u b a;obtain⟨r,f,h3,g,h⟩:=e u NH (c.lt F.rD).1;exact⟨r,f,h3,g.step a,.step h c rfl⟩
theorem Sp (F:Fo n es num up) {r u v:Nat} (a:up r=none) (h:pJ up r u) (c:Pu es u v):pJ up r v:=by
 induction c<;>grind [Fo.JD,pJ.trans,Fo.iA,Jp.symm,pJ.chain,Fo.Io]
theorem xd (F:Fo n es num up) {r s:Nat} (a:up r=none) (hs:up s=none) (c:Pu es r s):r=s:=by
 have h:=F.Sp a (.refl r) c
 grind [Fo.Io]
end Fo
open Classical in
theorem HJ {n:Nat} {es:List Pr} (b:aV n es) {v:Nat}:0<Sq n es v↔∃a,Jp es v a:=by
 rw[JW,List.length_pos_iff_exists_mem];constructor
 .grind [dG]
 .rintro⟨a,ha⟩;exact⟨_,(dG b).2 ⟨a,ha,rfl⟩⟩
theorem FV {es:List Pr} {u v:Nat} (h:Pu es u v) (ne:u≠v):(∃a,Jp es u a)/\∃a,Jp es v a:=by
 constructor
 .induction h<;>grind
 .cases h<;>grind [Jp.symm]
open Classical in
theorem tZ {n:Nat} {es:List Pr} (f:aV n es):
  (vq n es).length+(JL n es).length=((JL n es).map (Sq n es)).sum+((Es n es).filter fun h=>decide (0<Sq n es h)).length:=by
 obtain⟨num,up,S⟩:=Ob f;have F:=S.fo;have s:JL n es=(List.range n).filter fun v=>decide (1<Sq n es v):=by grind [JL.eq_1,List.filter_congr,YH,Cv]
 have j:=yA (Sq n es) (List.range n);have h2:((List.range n).map (Sq n es)).sum=(Fo.beg n up (Cl n es)).length+((List.range n).filter fun v=>decide (¬up v=none)).length:=by
  have e:(List.range n).map (Sq n es)=(List.range n).map fun v=>(Fo.JB n up (Cl n es) v).length+(if up v=none then 0 else 1):=
   (by grind [List.map_congr_left,incN_eq])
  rw[e,sum_add,Sv (fun v=>up v=none)];congr 1;exact Lz n up _ fun c g=>by
   obtain⟨i,d,_⟩:=Fo.AF.1 g;obtain⟨u,d⟩:=N8.1 d;exact⟨u,d,((F.Kd c u i d).1.lt f).1⟩
 have h3:=MS (fun v=>decide (¬up v=none)) ((List.range n).filter fun v=>decide (0<Sq n es v));rw[Bc,Bc]at h3;have t:(List.range n).filter (fun v=>decide (¬up v=none)&&decide (0<Sq n es v))=(List.range n).filter fun v=>decide (¬up v=none):=by
  refine qH fun v k=>?_;rw[uV]at k;by_cases q:up v=none
  .simp[q]
  .obtain ⟨u, d⟩ := N8.1 q
   have:0<Sq n es v:=(HJ f).2 ⟨u,(F.Kd v u k d).1.symm⟩;simp[this]
 have w:((List.range n).filter fun v=>(!decide (¬up v=none))&&decide (0<Sq n es v)).length=((Es n es).filter fun h=>decide (0<Sq n es h)).length:=by
  have l:∀v,v∈((List.range n).filter fun v=>(!decide (¬up v=none))&&decide (0<Sq n es v))↔v<n/\up v=none/\0<Sq n es v:=fun v=>by simp
  have m:∀v,v∈((Es n es).filter fun h=>decide (0<Sq n es h))↔v∈Es n es/\0<Sq n es v:=fun v=>by simp
  have move:∀{a b:Nat},Pu es a b->0<Sq n es a->0<Sq n es b:=fun{a b} c h=>by
   by_cases e:a=b
   all_goals grind [HJ,FV]
  refine Nat.le_antisymm ?_ ?_
  .refine Yu (R := fun a b => Pu es a b) (by grind [List.nodup_range]) (fun a ha => ?_) (fun a ha a' mi b j h2 => ?_)
   .obtain ⟨k1, k2, o⟩ := (l a).1 ha
    obtain⟨h,hh,g⟩:=B6 f a k1
    grind [Cn.symm]
   grind [Fo.xd,Cn.trans,Cn.symm]
  .refine Yu (R := fun a b => Pu es a b) (by grind [qD]) (fun a ha => ?_) (fun a ha a' mi b j h2 => ?_)
   .obtain ⟨k1, o⟩ := (m a).1 ha
    obtain⟨r,p,x,y,g⟩:=F.root_ex (num a) a (qL0 _) (QO.1 k1).1
    grind [Cn.symm]
   grind [rf,Cn.trans,Cn.symm]
 grind [VV]
end Go.Fw
namespace Go.Fw
section
attribute [local irreducible] Kp MQ lU rS KO KN KX KE VK Kl ZJ TC aab
open Go.Proofs
variable {P:Program} {R id m n:Nat} {c:List Value} {ev x:Value} {h:AHeap} {ps:List Pr}
theorem uj {t xt:TypeId} {k n n' id cap:Nat} {c news:List Value} (a:apT P t xt k=true) (A:h.own id=some (.cells c)) (b:cap*k<=c.length) (d:cap<1000000000000) (hf:n+n'<=cap)
  (hs:∀e,UA P e=k->srcCells P h e x=some (n',news)) (p:news.all (·.oneCell')=true) (f:news.length=n'*k) (hb:n+n'<=1000000000) (B:n'≠0):
  aAppend P h t xt (.slice (some ⟨id,0,none⟩) n cap) x=some (.slice (some ⟨id,0,none⟩) (n+n') cap,h.put id (.cells (putCells c (n*k) news))):=by
 unfold apT at a;split at a
 .rename_i e dx q r
  split at a
  .rename_i z s
   simp only[Yi,beq_iff_eq,decide_eq_true_eq]at a;obtain⟨⟨⟨⟨⟨g,i⟩,hd⟩,j⟩,u⟩,l⟩:=a;have hs:=hs e u;have v:(n+n')*P.bytesOf e<=140737488355328:=jz (kS hb l) WY;have w:n+n'<=140737488355328:=NH;have o:z.cells.size=UA P e/\z.cells.toList.all (·.oneCell')/\(P.underlying e).isSome/\notIntD dx/\news.all (·.oneCell')/\(n+n')*P.bytesOf e<=140737488355328/\n+n'<=140737488355328/\news.length=n'*UA P e:=
    ⟨g,i,hd,j,p,v,w,pw⟩
   have y:¬UNK<=cap:=iu.2 (Q4 d WY);have m:n*k+news.length<=c.length:=by rw[f,<-aaL];exact jz (Gg _ hf) b
   simp only[aAppend,q,r,s,hs]
   grind
  .cases a
 .cases a
theorem mkCapP (h:AHeap) (n:Nat) (f:n<=100000):∃c,aMakeSlice Tryz.prog h 22 (.int .i64 0) (.int .i64 (n:Int))=some (.slice (some ⟨h.next,0,none⟩) 0 n,h.alloc (.cells c))/\c.length=n*2:=by
 have g:azero Tryz.prog 38=some (.agg #[.int .i64 0,.int .i64 0]):=Ji;have b:(Value.agg #[.int .i64 0,.int .i64 0]).cells=#[.int .i64 0,.int .i64 0]:=rfl;have hb:Tryz.prog.bytesOf 38=16:=Ji;have d:(16:Int)*n<=140737488355328:=NH;have e:(n:Int)<=140737488355328:=NH;have a:(zrow [Value.int .i64 0,.int .i64 0] n).all (·.oneCell')=true:=by
  clear d e f
  induction n with
  |zero=>rfl
  |succ n i=>simp only[zrow,ti,i,afw];rfl
 refine⟨zrow [.int .i64 0,.int .i64 0] n,?_,by grind [jY]⟩;simp[aMakeSlice,eY,yU,g,b,hb,WE,flat,d,e,IF,a]
theorem push_in (hw:WF h) (l:h.own id=some (.cells c)) (A:c.length=m*2) (B:c.take (ps.length*2)=Iu ps) (q:ps.length<m) (C:m<=100000) (p:Pr):
  ∃a d,aBuildSlice Tryz.prog h 22 1 [(0,UI p)]=some (.slice (some ⟨h.next,0,none⟩) 1 1,a)/\aAppend Tryz.prog a 22 22 (.slice (some ⟨id,0,none⟩) ps.length m) (.slice (some ⟨h.next,0,none⟩) 1 1)=some (.slice (some ⟨id,0,none⟩) (ps.length+1) m,d)/\WF d/\
   (∃c',d.own id=some (.cells c')/\c'.length=m*2/\c'.take ((ps++[p]).length*2)=Iu (ps++[p]))/\(∀f,Le f h->f.own id=none->Le f d)/\(∀b o,h.own b=some o->b≠id->d.own b=some o):=by
 obtain⟨a,e4,l4,j,r⟩:=Tt hw (xM p)
 have s:PR a (.slice (some ⟨h.next,0,none⟩) 1 1) [p]:=by
  have:=CS.own (k:=2) (off:=0) (n:=1) (cap:=1) r (by simp[xM]);exact this
 have g:=l4.own _ _ l
 have key:=uj (P:=Tryz.prog) (t:=22) (xt:=22) (k:=2) (n:=ps.length) (n':=1) (cap:=m) (x:=.slice (some ⟨h.next,0,none⟩) 1 1) Ji g NH NH NH (fun e u=>CS.src u s) (WI [p]) (Ta [p]) NH NH
 have v:Iu [p]=xM p:=by simp[Iu]
 have i:ps.length*2+(Iu [p]).length<=c.length:=by grind [Ta]
 refine⟨a,_,by rw[mkP1,e4],key,j.put _ (j.lt g),⟨_,AHeap.Y3 _ _ _,by grind [O7],?_⟩,fun f w y=>(w.trans l4).put _ y,fun b o hb z=>?_⟩
 all_goals grind [Ta,IW,mZ,AHeap.By,Le.own]
def DG {x y:Value} {n:Int} (d:h.own R=some (.cells [x,y])) (one:ev.oneCell'=true) (b:ev.cells=#[ev]):aStore Tryz.prog h 24 (.pointer (some ⟨R,0,none⟩)) (.agg #[.int .i64 n,ev])=some (h.put R (.cells [.int .i64 n,ev])):=by
 have a:UA Tryz.prog 24=2:=Ji;have e:(Value.agg #[.int .i64 n,ev]).cells=#[.int .i64 n,ev]:=by
  have c:(Value.int IntKind.i64 n).cells=#[.int .i64 n]:=rfl;simp[Value.cells,b]
 have c:(Value.int IntKind.i64 n).oneCell'=true:=rfl;simp[aStore,d,e,a,putCells,UP,one,c]
def tY {n:Int} (e:h.own R=some (.cells [.int .i64 n,ev])) (d:∃a l c,ev=.slice a l c):aload Tryz.prog h 24 ⟨R,0,none⟩=some (.agg #[.int .i64 n,ev]):=by
 have b:UA Tryz.prog 24=2:=Ji;obtain⟨a,l,c,rfl⟩:=d;rw[Wx UP rfl b e Ma];rfl
def lZ (p:Pr):Pr:=(min p.1 p.2,max p.1 p.2)
structure YG (n:Int) (ps:List Pr):Prop where
 n0:0<=n
 n1:n<=200
 len:ps.length<=594
 ok:∀p∈ps,0<=(lZ p).1/\(lZ p).1≠(lZ p).2/\(lZ p).2<n
 nd:(ps.map lZ).Nodup
def CZ:Value:=.agg #[.int .i64 0,.slice none 0 0]
def jQ:aBuild Tryz.prog 24 []=some CZ:=Ji
def Ap (n:Int) (id m c:Nat):aBuild Tryz.prog 24 [(0,.int .i64 n),(1,.slice (some ⟨id,0,none⟩) m c)]=some (.agg #[.int .i64 n,.slice (some ⟨id,0,none⟩) m c]):=Ji
theorem YG.right (k:YG (n:Int) ps):bX ⟨(n:Int),sortP (ps.map lZ)⟩:=by
 have nd:(sortP (ps.map lZ)).Nodup:=(YA _).nodup_iff.2 k.nd;have hle:=VH (ps.map lZ);refine bX.of (by have:=k.n1;omega) (by grind [ZS,YG.len]) (fun q a=>?_) (Nl.2 ?_)
 .rw [Wb, HV] at a
  obtain⟨p,b,rfl⟩:=a;obtain⟨c,h2,h3⟩:=k.ok p b
  grind [lZ]
 .refine (hle.and nd).imp fun {x y} h => ?_
  grind
theorem gZ (W0:LA) (n:Int) (v:Value) (ps:List Pr) (h:AHeap) (hp:PR h v ps) (C:ps.length<=100000):
  AC Tryz.prog W0 29 [.int .i64 n,v] h fun x h'=>Le h h'/\((¬YG n ps/\∃k:Int,k≠0/\x=.tuple #[CZ,.int .i64 k])\/(YG n ps/\∃ev,x=.tuple #[.agg #[.int .i64 n,ev],.int .i64 0]/\GP h' ev (sortP (ps.map lZ))/\Z2 h ev)):=by
 refine AC.vE ⟨Tryz.func29,rfl,WY⟩ Tryz.ntmps29 Tryz.results29 fun K=>?_;simp only[Br,Nat.reduceAdd];obtain⟨j,e1,l1,w1,L⟩:=Tt K [.int .i64 0,.slice none 0 0];have l:=Lo h;rw[e1]at l
 have nR:h.own h.next=none:=(Le.refl h).next K (qL0 _)
 generalize h.next=R at*
 have hlen:=fun g=>hp.len g;have r:∀g:AHeap,g.own R=some (.cells [.int .i64 0,.slice none 0 0])->aStore Tryz.prog g 24 (.pointer (some ⟨R,0,none⟩)) CZ=some (g.put R (.cells [.int .i64 0,.slice none 0 0])):=fun g o=>DG o rfl rfl;have ldE:∀g:AHeap,aload Tryz.prog (g.put R (.cells [.int .i64 0,.slice none 0 0])) 24 ⟨R,0,none⟩=some CZ:=fun g=>tY (AHeap.Y3 _ _ _) ⟨_,_,_,rfl⟩;have fail:∀(g:AHeap) (k:Int),k≠0->Le h g->¬YG n ps->Le h (g.put R (.cells [.int .i64 0,.slice none 0 0]))/\((¬YG n ps/\∃k':Int,k'≠0/\Value.tuple #[CZ,.int .i64 k]=.tuple #[CZ,.int .i64 k'])\/(YG n ps/\∃ev,Value.tuple #[CZ,.int .i64 k]=.tuple #[.agg #[.int .i64 n,ev],.int .i64 0]/\GP (g.put R (.cells [.int .i64 0,.slice none 0 0])) ev (sortP (ps.map lZ))/\Z2 h ev)):=
  fun g k hk lg az=>⟨lg.put _ nR,.inl ⟨az,k,hk,rfl⟩⟩
 by_cases c1:n>200
 .have d1 : decide (n > 200) = true := decide_eq_true c1
  simp only[HO,Nat.reduceLT,↓reduceIte,Nat.reduceEqDiff,reduceCtorEq,l,d1,jQ,r j L,ldE j];exact fail j 21 WY l1 (fun k=>by have:=k.n1;omega)
 have d1:decide (n>200)=false:=decide_eq_false c1;by_cases c2:(ps.length:Int)>594
 .have d2 : decide ((ps.length : Int) > 594) = true := decide_eq_true c2
  simp only[HO,Nat.reduceLT,↓reduceIte,Nat.reduceEqDiff,reduceCtorEq,l,d1,hlen,d2,jQ,r j L,ldE j];exact fail j 21 WY l1 (fun k=>by grind [YG.len])
 have d2:decide ((ps.length:Int)>594)=false:=decide_eq_false c2;by_cases c3:n<0
 .have d3 : decide (n < 0) = true := decide_eq_true c3
  simp only[HO,Nat.reduceLT,↓reduceIte,Nat.reduceEqDiff,reduceCtorEq,l,d1,hlen,d2,d3,jQ,r j L,ldE j];exact fail j 20 WY l1 (fun k=>by have:=k.n0;omega)
 have d3:decide (n<0)=false:=decide_eq_false c3
 obtain⟨h2,e2,l2,w2,o2⟩:∃h2,j.alloc (.map [])=h2/\Le j h2/\WF h2/\h2.own j.next=some (.map []):=⟨_,rfl,(Le.refl j).alloc w1 _,w1.alloc _,AHeap.zT _ _⟩
 have nM:j.own j.next=none:=(Le.refl j).next w1 (qL0 _)
 have N:R≠j.next:=fun e=>by grind
 obtain⟨c0,mk,O⟩:=mkCapP h2 ps.length C;obtain⟨h3,e3,l3,w3,o3⟩:=Tt w2 c0;rw[e3]at mk
 have nI:h2.own h2.next=none:=(Le.refl h2).next w2 (qL0 _)
 simp only[HO,Nat.reduceLT,↓reduceIte,Nat.reduceEqDiff,reduceCtorEq,l,d1,hlen,d2,d3,e2,mk];have P:=l3.own _ _ o2;have Q:=l3.own _ _ (l2.own _ _ L)
 have D:h2.next≠j.next:=fun e=>by grind
 have S:h2.next≠R:=fun e=>by grind [Le.own]
 have aC:h.own h2.next=none:=(l1.trans l2).none nI
 have aD:h.own j.next=none:=l1.none nM
 have T:=(l1.trans l2).trans l3
 generalize j.next=M at*
 generalize h2.next=I at*
 refine aab.intro (fun k fr t=>∃(i:Nat) (l:List (Pr×Int)) (c:List Value),k=ps.length-i/\i<=ps.length/\fr=mkF [(0,.int .i64 n),(4,.pointer (some ⟨R,0,none⟩)),(6,.map (some M)),(7,.slice (some ⟨I,0,none⟩) ((ps.take i).map lZ).length ps.length),(28,v),(29,.int .i64 ps.length),(30,.int .i64 i)]/\
   t.own R=some (.cells [.int .i64 0,.slice none 0 0])/\t.own M=some (.map (aan l))/\(∀q,q∈l.map (·.1)↔q∈(ps.take i).map lZ)/\t.own I=some (.cells c)/\c.length=ps.length*2/\c.take (((ps.take i).map lZ).length*2)=Iu ((ps.take i).map lZ)/\
   (∀p∈ps.take i,0<=(lZ p).1/\(lZ p).1≠(lZ p).2/\(lZ p).2<n)/\((ps.take i).map lZ).Nodup/\Le h t)
  ps.length [(0,.int .i64 n),(4,.pointer (some ⟨R,0,none⟩)),(6,.map (some M)),(7,.slice (some ⟨I,0,none⟩) 0 ps.length),(28,v),(29,.int .i64 ps.length),(30,.int .i64 (0:Nat))] fD
  ⟨0,[],c0,rfl,aal _,rfl,Q,P,Ma,o3,O,rfl,Ma,Ma,T⟩ ?_
 clear o3 O P Q w3 l3 T e3 mk o2 w2 l2 e2 nI nM l L w1 l1 e1;clear h3 h2 j c0;rintro k fr t U ⟨i,l,c,rfl,hi,rfl,oR,oM,V,oI,aH,X,Y,F,leq⟩;have Z:((ps.take i).map lZ).length=i:=pw;refine Uy ?_;refine Kl.intro (fun ht=>?_) (fun hf=>?_)
 rotate_left
 .have br : ps.length <= i := vp hf
  obtain rfl:i=ps.length:=NH;rw[Z,IE (qL0 _)]at X;rw[IE (qL0 _)]at Y F;have aJ:YG n ps:=⟨NH,NH,NH,Y,F⟩;have g:GP t (.slice (some ⟨I,0,none⟩) ps.length ps.length) (ps.map lZ):=by grind [GS.full,GP.eq_1]
  have ag:Z2 h (.slice (some ⟨I,0,none⟩) ps.length ps.length):=fun b hb=>by injection hb with hb;grind
  have bs:=Ap n I ps.length ps.length;have bI:blk (.slice (some ⟨I,0,none⟩) ps.length ps.length)=some I:=rfl;rw[Z];refine Uy ?_;generalize G:Value.slice (some ⟨I,0,none⟩) ps.length ps.length=sv at*;refine TC.intro PJ ⟨Tryz.func69,rfl,WY⟩ (Lr W0 g (by rw[eR];omega) 63 (enters_of Tryz.func63 Ji rfl) fun W p q=>(DU _ p q _).mono fun _ _ h=>h.1) ?_;rintro x h4 w4 ⟨rfl,g4,f4⟩;have l4:=f4 h leq ag;have aK:h4.own R=some (.cells [.int .i64 0,.slice none 0 0]):=(aG (v':=sv) (fun f _ lf af=>⟨f4 f lf af,af⟩) U oR pw).1;have st:=DG (n:=n) (ev:=sv) aK (by rw[<-G];rfl) (by rw[<-G];rfl);have ld:=tY (n:=n) (ev:=sv) (AHeap.Y3 h4 R _) ⟨_,_,_,G.symm⟩;simp only[HO,Nat.reduceLT,↓reduceIte,Nat.reduceEqDiff,reduceCtorEq,bs,st,ld];exact⟨l4.put _ nR,.inr ⟨aJ,sv,rfl,GS.put g4 _ pw,ag⟩⟩
 have u:i<ps.length:=CC ht;clear ht;have ae:=CA u;have A:ps.take (i+1)=ps.take i++[ps[i]]:=EL u;have aj:=Og u;generalize ps[i]=p at ae A aj;have ad:=hp.addr (k:=.i64) i u;have ld:=(hp.le leq).load ae;obtain⟨bx,h7,e7,aP,l7,w7,o7⟩:=Ut U p;obtain⟨bB,m,e8,aT,l8,w8,o8⟩:=Ut w7 (lZ p);have bn:aBuild Tryz.prog 38 [(0,.int .i64 (min p.1 p.2)),(1,.int .i64 (max p.1 p.2))]=some (UI (lZ p)):=bP2 _ _;simp only[HO,Nat.reduceLT,↓reduceIte,Nat.reduceEqDiff,reduceCtorEq,ad,ld,e7,aP,Dh,Z0,Ip,BS,lK o7,HY o7,Dv,z6,bn,e8,aT];have w:=leq.trans (l7.trans l8);have y:=(l7.trans l8).own _ _ oR;have H:=(l7.trans l8).own _ _ oM;have aW:=(l7.trans l8).own _ _ oI
 have aX:h7.next≠M:=fun e=>by grind
 have bF:h7.next≠I:=fun e=>by grind [Le.next]
 generalize hE:h7.next=E at*
 have m0:=lK o8;have m1:=HY o8;have bad:¬(0<=(lZ p).1/\(lZ p).1≠(lZ p).2/\(lZ p).2<n)->¬YG n ps:=fun hn k=>hn (k.ok p aj);by_cases q1:(lZ p).1<0
 .have d : decide ((lZ p).1 < 0) = true := decide_eq_true q1
  simp only[HO,Nat.reduceLT,↓reduceIte,Nat.reduceEqDiff,reduceCtorEq,Dh,Z0,Ip,BS,m0,m1,d,jQ,r m y,ldE m];exact fail m 20 WY w (bad NH)
 have B:decide ((lZ p).1<0)=false:=decide_eq_false q1;by_cases q2:(lZ p).1=(lZ p).2
 .have d : decide ((lZ p).1 = (lZ p).2) = true := decide_eq_true q2
  simp only[HO,Nat.reduceLT,↓reduceIte,Nat.reduceEqDiff,reduceCtorEq,Dh,Z0,Ip,BS,m0,m1,B,d,jQ,r m y,ldE m];exact fail m 20 WY w (bad NH)
 have J:decide ((lZ p).1=(lZ p).2)=false:=decide_eq_false q2;by_cases q3:(lZ p).2>=n
 .have d : decide ((lZ p).2 >= n) = true := decide_eq_true q3
  simp only[HO,Nat.reduceLT,↓reduceIte,Nat.reduceEqDiff,reduceCtorEq,Dh,Z0,Ip,BS,m0,m1,B,J,d,jQ,r m y,ldE m];exact fail m 20 WY w (bad NH)
 have aq:decide ((lZ p).2>=n)=false:=decide_eq_false q3;have lp:=uM o8;have lk:=Il H (lZ p) true;by_cases q4:lZ p∈(ps.take i).map lZ
 .have hs:(lookK l (lZ p)).isSome=true:=by
   have:=HU.2 ((V _).2 q4);cases hh:lookK l (lZ p)with
   |none=>grind
   |some x=>rfl
  rw[hs]at lk;simp only[HO,Nat.reduceLT,↓reduceIte,Nat.reduceEqDiff,reduceCtorEq,Dh,Z0,Ip,BS,m0,m1,B,J,aq,lp,wD,lk,jQ,r m y,ldE m];refine fail m 20 WY w fun k=>?_;have nd:=k.nd;rw[<-qL82 (i+1) ps,A,j3,j3]at nd;have:=(si.1 nd).1;rw[si]at this
  grind
 have hs:lookK l (lZ p)=none:=by
  cases hh:lookK l (lZ p)with
  |none=>rfl
  |some x=>grind [HU]
 rw[hs]at lk;simp only[Option.isSome_none,Option.getD_none]at lk;have sm:=pW H (lZ p) (i:Int);have w9:=w8.put (.map (aan (setK l (lZ p) (i:Int)))) (w8.lt H);have a6:=AHeap.Y3 m M (.map (aan (setK l (lZ p) (i:Int))));have s:∀b o,m.own b=some o->b≠M->(m.put M (.map (aan (setK l (lZ p) (i:Int))))).own b=some o:=fun b o ho hb=>by grind [AHeap.By]
 have a7:=s R _ y N;have a8:=s I _ aW D;have bb:=s E _ o8 aX;have l9:=w.put (.map (aan (setK l (lZ p) (i:Int)))) aD;refine Sk (Da @Dh @Z0 @Ip.eq_1 @BS m0 m1 B J aq lp @wD lk @afa sm) ?_;generalize m.put M (.map (aan (setK l (lZ p) (i:Int))))=h9 at*;have bg:=uM bb;obtain⟨bH,bN,bh,bk,bQ,⟨c',ar,av,bo⟩,bm,ay⟩:=push_in w9 a8 aH X pw C (lZ p);have z:(ps.take (i+1)).map lZ=(ps.take i).map lZ++[lZ p]:=by rw[A,j3];rfl
 refine Sk (xU bg bh bk (Tw i NH)) ?_;refine tn (ps.length-(i+1)) [(0,.int .i64 n),(4,.pointer (some ⟨R,0,none⟩)),(6,.map (some M)),(7,.slice (some ⟨I,0,none⟩) (((ps.take i).map lZ).length+1) ps.length),(28,v),(29,.int .i64 ps.length),(30,.int .i64 (i+1:Nat))] NH fD
  ⟨i+1,_,c',rfl,u,by rw[z,vZ];rfl,ay R _ a7 (fj S),ay M _ a6 (fj D),fun q=>?_,ar,av,pw,fun q t=>?_,?_,bm h l9 aC⟩
 .rw[Kf,V,z,Sb];simp;exact or_comm
 .rw [A, Sb] at t
  rcases t with t|t
  .grind
  .simp at t;grind
 .rw [z, si]
  refine⟨F,Ma,fun a ha b hb e=>?_⟩;simp at hb;grind
variable {a b x:Nat} {es:List Pr} {ps:RZ}
structure Q5 (ps:RZ):Prop where
 len:ps.length<=200
 rD:∀x∈ps,0<=x/\x<(ps.length:Int)
 nd:ps.Nodup
theorem kT (J:LA) (pv:Value) (ps:RZ) (h:AHeap) (u:RL RP h pv ps):AC Tryz.prog J 89 [pv] h fun x h'=>RR (Q5 ps) x/\Le h h':=by
 refine AC.vE ⟨Tryz.func89,rfl,WY⟩ Tryz.ntmps89 Tryz.results89 fun l=>?_;simp only[Br,Nat.reduceAdd];have n:=fun g=>u.Uc g;by_cases c1:(ps.length:Int)>200
 .have d1 : decide ((ps.length : Int) > 200) = true := decide_eq_true c1
  refine Sk (XC n d1) ?_
  grind [RR.f,Q5.len,Le.refl]
 have d1:decide ((ps.length:Int)>200)=false:=decide_eq_false c1;generalize O:ps.length=m at*;have mk:=Ye (P:=Tryz.prog) (t:=59) (z:=.bool false) h Uh rfl rfl rfl rfl Ji AV Ji m NH;obtain⟨C,D,l1,w1,E⟩:=Tt l (List.replicate m (.bool false));rw[D]at mk
 have nM:h.own h.next=none:=(Le.refl h).next l (qL0 _)
 generalize h.next=M at*
 have oM:C.own M=some (.cells (Bo (List.replicate m false))):=by rw[E];simp[Bo]
 have o:∀(k:IntKind) (j:Nat),j<m->aIndexAddr Tryz.prog 59 (.slice (some ⟨M,0,none⟩) m m) (.int k j)=some (.pointer (some ⟨M,j,none⟩)):=fun k j F=>by rw[Wc Uh AV Ji j F];simp[Ip]
 simp only[HO,Nat.reduceLT,↓reduceIte,Nat.reduceEqDiff,reduceCtorEq,n,d1,mk];refine lIn (fun k fr s=>∃(i:Nat) (met:List Bool),k=m-i/\i<=m/\fr=mkF [(0,pv),(3,.slice (some ⟨M,0,none⟩) m m),(12,pv),(13,.int .i64 m),(14,.int .i64 i)]/\s.own M=some (.cells (Bo met))/\met.length=m/\
   (∀x∈ps.take i,0<=x/\x<(m:Int))/\(ps.take i).Nodup/\(∀j:Nat,j<m->(met[j]?=some true↔(j:Int)∈ps.take i))/\Le h s) ⟨0,_,rfl,aal _,rfl,oM,Ma,Ma,Ma,pw,l1⟩ ?_
 clear mk oM E w1 l1 D;clear C;rintro k fr s K ⟨i,met,rfl,hi,rfl,oM,p,v,q,L,leq⟩;refine Uy ?_;refine Kl.intro (fun G=>?_) (fun hf=>?_)
 rotate_left
 .have N : m <= i := vp hf
  rw[IE NH]at v q;refine Uy ?_;exact⟨.t ⟨NH,pw,q⟩,leq⟩
 have w:i<m:=CC G;clear G;have a:i<ps.length:=NH;have ad:=u.TA i a;have ld:=(u.le Nn.RP leq).DH i a;have c:ps.take (i+1)=ps.take i++[ps[i]]:=EL a;have A:=Og a;generalize ps[i]=x at*;by_cases H:x<0
 .have d : decide (x < 0) = true := decide_eq_true H
  simp only[HO,Nat.reduceLT,↓reduceIte,Nat.reduceEqDiff,reduceCtorEq,ad,ld,d];exact⟨.f fun k=>by have:=(k.rD x A).1;omega,leq⟩
 have e:decide (x<0)=false:=decide_eq_false H;by_cases I:x>=(m:Int)
 .have d : decide (x >= (m : Int)) = true := decide_eq_true I
  simp only[HO,Nat.reduceLT,↓reduceIte,Nat.reduceEqDiff,reduceCtorEq,ad,ld,e,n,d]
  grind [RR.f,Q5.rD]
 have r:decide (x>=(m:Int))=false:=decide_eq_false I;obtain⟨z,rfl⟩:=yY (show 0<=x by omega);have B:z<m:=NH;have b:aload Tryz.prog s 4 ⟨M,z,none⟩=some (.bool (met[z]'(by omega))):=by rw[Fq AV rfl oM];simp[Bo,p,B]
 by_cases Q:(z:Int)∈ps.take i
 .have hb : met[z]'(by omega) = true := pw
  rw[hb]at b;simp only[HO,Nat.reduceLT,↓reduceIte,Nat.reduceEqDiff,reduceCtorEq,ad,ld,e,n,r,o _ z B,b];refine⟨.f fun k=>?_,leq⟩;have nd:=k.nd;rw[<-qL82 (i+1) ps,c]at nd;have:=(si.1 nd).1;rw[si]at this
  grind
 have hb:met[z]'(by omega)=false:=by
  cases hh:met[z]'(by omega)<;>grind
 rw[hb]at b;have st:=QB (P:=Tryz.prog) (t:=4) (x:=.bool true) AV Ji oM (off:=z) (by simp[Bo];omega) rfl rfl;rw[Tr]at st;simp only[HO,Nat.reduceLT,↓reduceIte,Nat.reduceEqDiff,reduceCtorEq,ad,ld,e,n,r,o _ z B,b,st,Tw i NH];refine lgA NH ⟨i+1,met.set z true,rfl,w,rfl,AHeap.Y3 _ _ _,by simp[p],fun y R=>?_,?_,fun j F=>?_,leq.put _ nM⟩
 .grind
 .rw [c, si]
  grind
 .rw [c, Sb, K4]
  grind
def sT (ps:RZ) (a:Nat):Nat:=(ps.getD a 0).toNat
theorem Q5.get (k:Q5 ps) (ha:a<ps.length):ps.getD a 0=(sT ps a:Int)/\sT ps a<ps.length:=by
 have hg:ps.getD a 0=ps[a]:=D4 ha;obtain⟨b,h2⟩:=k.rD _ (Og ha)
 grind [sT.eq_1]
theorem Q5.inj (k:Q5 ps) (ha:a<ps.length) (hb:b<ps.length) (e:sT ps a=sT ps b):a=b:=by
 have c:=(k.get ha).1;have h2:=(k.get hb).1;rw[D4 ha]at c;rw[D4 hb]at h2;have nd:=k.nd
 grind [List.pairwise_iff_getElem]
theorem Q5.UB (k:Q5 ps) (f:x<ps.length):∃a,a<ps.length/\sT ps a=x:=by
 have c:(x:Int)∈ps:=Eh fun d=>by
  have nd:((x:Int)::ps).Nodup:=ZT.2 ⟨d,k.nd⟩;have hs:((x:Int)::ps)⊆(List.range ps.length).map fun(i:Nat)=>(i:Int):=fun y b=>by
   rw[HV];rcases WA.1 b with rfl|b
   .grind
   .have:=k.rD y b;exact⟨y.toNat,uV.2 NH,NH⟩
  have:=nd.length_le_of_subset hs
  grind
 obtain⟨a,ha,e⟩:=Bn.1 c;have:=(k.get ha).1
 grind
def Qh (ps:RZ) (p:Pr):Pr:=(ps.getD p.1.toNat 0,ps.getD p.2.toNat 0)
def uc (ps:RZ) (es:List Pr):List Pr:=sortP ((es.map (Qh ps)).map lZ)
def ZE (G:GM) (ps:RZ):Prop:=bX G/\Q5 ps/\(ps.length:Int)=G.n
theorem zt (k:Q5 ps) (ha:a<ps.length) (hb:b<ps.length):Qh ps ((a:Int),(b:Int))=((sT ps a:Int),(sT ps b:Int)):=by grind [Qh,Q5.get]
theorem ZE.new (A:ZE ⟨(n:Int),es⟩ ps):YG (n:Int) (es.map (Qh ps)):=by
 obtain⟨g,k,s⟩:=A;have l:ps.length=n:=pw;have nat:∀p∈es,∃a b:Nat,p=((a:Int),(b:Int))/\a<b/\b<n:=fun p f=>by
  have:=g.GD p f;exact⟨p.1.toNat,p.2.toNat,IC pw pw,NH,NH⟩
 refine⟨NH,g.n1,by rw[eR];exact g.len,fun q h=>?_,?_⟩
 .obtain ⟨p, f, rfl⟩ := HV.1 h
  obtain⟨a,b,rfl,i,hb⟩:=nat p f;have m:=(k.get (show a<ps.length by omega)).2;have o:=(k.get (show b<ps.length by omega)).2;have ne:sT ps a≠sT ps b:=fun e=>by have:=k.inj NH NH e;omega
  grind [zt,lZ]
 .rw [KG, kc, Hs]
  have nd:=g.nodup;rw[kc]at nd;refine nd.imp_of_mem fun{p q} f h j e=>j ?_;obtain⟨a,b,rfl,i,hb⟩:=nat p f;obtain⟨c,d,rfl,r,hd⟩:=nat q h;simp only[Function.comp]at e;rw[zt k NH NH,zt k NH NH]at e;simp only[lZ,qy]at e;have inj:=fun{x y:Nat} (t:x<n) (u:y<n)=>k.inj (show x<ps.length by omega) (show y<ps.length by omega)
  grind
theorem Sc:∀(a:List Pr) (i:Nat) (q:Pr),((Iu a).set (i*2) (.int .i64 q.1)).set (i*2+1) (.int .i64 q.2)=Iu (a.set i q)
 |[],i,q=>by simp[Iu]
 |p::r,0,q=>rfl
 |p::r,i+1,q=>by
  have b:=Sc r i q;have e:∀x:Pr,∀l,Iu (x::l)=.int .i64 x.1::.int .i64 x.2::Iu l:=fun x l=>rfl
  grind
def stP {E i:Nat} {a:List Pr} (b:h.own E=some (.cells (Iu a))) (hi:i<a.length) (q:Pr):
  aStore Tryz.prog h 38 (.pointer (some ⟨E,i*2,none⟩)) (UI q)=some (h.put E (.cells (Iu (a.set i q)))):=by
 have c:(UI q).cells=#[.int .i64 q.1,.int .i64 q.2]:=rfl;have d:(Value.int IntKind.i64 q.1).oneCell'=true:=rfl;have h2:(Value.int IntKind.i64 q.2).oneCell'=true:=rfl;have e:i*2+2<=(Iu a).length:=by rw[Ta];omega
 rw[<-Sc];simp[aStore,b,c,WE,putCells,yU,d,h2,e]
def mkFullP (h:AHeap) (n:Nat) (i:n<=100000):aMakeSlice Tryz.prog h 22 (.int .i64 (n:Int)) (.int .i64 (n:Int))=some (.slice (some ⟨h.next,0,none⟩) n n,h.alloc (.cells (Iu (List.replicate n (0,0))))):=by
 have d:azero Tryz.prog 38=some (.agg #[.int .i64 0,.int .i64 0]):=Ji;have c:(Value.agg #[.int .i64 0,.int .i64 0]).cells=#[.int .i64 0,.int .i64 0]:=rfl;have hb:Tryz.prog.bytesOf 38=16:=Ji;have e:(16:Int)*n<=140737488355328:=NH;have f:(n:Int)<=140737488355328:=NH;have a:∀n:Nat,zrow [Value.int .i64 0,.int .i64 0] n=Iu (List.replicate n (0,0)):=fun n=>by
  induction n with
  |zero=>rfl
  |succ n g=>rw[ur];simp only[zrow,g];rfl
 have b:=WI (List.replicate n ((0:Int),(0:Int)));simp[aMakeSlice,eY,yU,d,c,hb,WE,flat,e,f,IF,a,b]
def idxP (E m i:Nat) (hi:i<m):aIndexAddr Tryz.prog 22 (.slice (some ⟨E,0,none⟩) m m) (.int .i64 (i:Int))=some (.pointer (some ⟨E,i*2,none⟩)):=by
 have a:(i:Int)<(m:Int):=NH;simp[aIndexAddr,eY,yU,a,WE,Ip]
theorem D5 (V:LA) (v pv:Value) (G:GM) (ps:RZ) (h:AHeap) (hg:GR h v G) (D:RL RP h pv ps):
  AC Tryz.prog V 49 [v,pv] h fun x h'=>Le h h'/\((¬ZE G ps/\∃k:Int,k≠0/\x=.tuple #[CZ,.int .i64 k])\/(ZE G ps/\∃ev,x=.tuple #[.agg #[.int .i64 G.n,ev],.int .i64 0]/\GP h' ev (uc ps G.es)/\Z2 h ev)):=by
 have Z:=hg;obtain⟨gn,es⟩:=G
 obtain⟨ev,rfl,r⟩:=hg.open
 refine AC.vE ⟨Tryz.func49,rfl,WY⟩ Tryz.ntmps49 Tryz.results49 fun ae=>?_;simp only[Br,Nat.reduceAdd];obtain⟨h1,b1,H,I,-,J⟩:=r8 (n:=gn) ae r
 generalize h.next=B at*
 obtain⟨h2,e2,l2,w2,o2⟩:=Tt I [.int .i64 0,.slice none 0 0];have al:=Lo h1;rw[e2]at al
 have W:h.own h1.next=none:=H.next I (qL0 _)
 generalize h1.next=R at*
 have hl:=fun g=>D.Uc g;have K:=H.trans l2;have u:∀g:AHeap,g.own R=some (.cells [.int .i64 0,.slice none 0 0])->aStore Tryz.prog g 24 (.pointer (some ⟨R,0,none⟩)) CZ=some (g.put R (.cells [.int .i64 0,.slice none 0 0])):=fun g o=>DG o rfl rfl;have ldE:∀g:AHeap,aload Tryz.prog (g.put R (.cells [.int .i64 0,.slice none 0 0])) 24 ⟨R,0,none⟩=some CZ:=fun g=>tY (AHeap.Y3 _ _ _) ⟨_,_,_,rfl⟩;have ag:=J h2 l2;refine Sk (Yb b1 al ag.1) ?_;refine TC.intro PJ ⟨qv,rfl,WY⟩ (ak V _ _ h2 (Z.le K)) ?_;rintro x h3 w3 ⟨⟨bb,rfl,f⟩,l3⟩;have w:=K.trans l3;have o3:=l3.own _ _ o2;have fT:=J h3 (l2.trans l3);cases bb with
 |false=>
  simp only[HO,Nat.reduceLT,↓reduceIte,Nat.reduceEqDiff,reduceCtorEq,jQ,u h3 o3,ldE h3];exact⟨w.put _ W,.inl ⟨fun A=>Bool.noConfusion (f.2 A.1),20,WY,rfl⟩⟩
 |true=>
 have X:=f.1 rfl;clear f;have h0:0<=gn:=X.n0;obtain⟨n,rfl⟩:=yY h0;have a6:es.length<=594:=X.len;refine Uy ?_;refine TC.intro PJ ⟨Tryz.func89,rfl,WY⟩ (kT V pv ps h3 (D.le Nn.RP w)) ?_;rintro x m w4 ⟨⟨bb,rfl,f⟩,l4⟩;have s:=w.trans l4;have o4:=l4.own _ _ o3;have y:=J m ((l2.trans l3).trans l4);cases bb with
 |false=>
  simp only[HO,Nat.reduceLT,↓reduceIte,Nat.reduceEqDiff,reduceCtorEq,jQ,u m o4,ldE m];exact⟨s.put _ W,.inl ⟨fun A=>Bool.noConfusion (f.2 A.2.1),30,WY,rfl⟩⟩
 |true=>
 have hk:=f.1 rfl;clear f;by_cases t:(ps.length:Int)=(n:Int)
 rotate_left
 .have d : decide ((ps.length : Int) = (n : Int)) = false := decide_eq_false t
  simp only[HO,Nat.reduceLT,↓reduceIte,Nat.reduceEqDiff,reduceCtorEq,hl,Ii,Ip,BS,y.2.1,bne,d,jQ,u m o4,ldE m];exact⟨s.put _ W,.inl ⟨fun A=>t A.2.2,30,WY,rfl⟩⟩
 have d:decide ((ps.length:Int)=(n:Int))=true:=decide_eq_true t;have A:ZE ⟨(n:Int),es⟩ ps:=⟨X,hk,t⟩;have hN:=A.new;have hlen:=fun g=>r.len g;obtain⟨h5,e5,l5,w5,o5⟩:=Tt w4 (Iu (List.replicate es.length (0,0)));have mk:=mkFullP m es.length NH;rw[e5]at mk
 have nE:m.own m.next=none:=(Le.refl m).next w4 (qL0 _)
 simp only[HO,Nat.reduceLT,↓reduceIte,Nat.reduceEqDiff,reduceCtorEq,hl,Ii,Di,Ip,BS,y.2.1,y.2.2,bne,d,hlen,mk,(J h5 (((l2.trans l3).trans l4).trans l5)).2.2]
 have a7:R≠m.next:=fun e=>by grind
 generalize m.next=E at*
 have a8:h.own E=none:=s.none nE;have aj:=(l2.trans l3).trans l4;refine lIn (fun k fr z=>∃(i:Nat) (L:List Pr),k=es.length-i/\i<=es.length/\fr=mkF [(1,pv),(2,.pointer (some ⟨B,0,none⟩)),(4,.pointer (some ⟨R,0,none⟩)),(6,.slice (some ⟨E,0,none⟩) es.length es.length),(29,ev),(30,.int .i64 es.length),(31,.int .i64 i)]/\
   z.own E=some (.cells (Iu L))/\L.length=es.length/\L.take i=(es.take i).map (Qh ps)/\Le m z) ⟨0,_,rfl,aal _,rfl,o5,Ma,Ma,l5⟩ ?_
 clear mk o5 w5 l5 e5;clear h5;rintro k fr z aq ⟨i,L,rfl,hi,rfl,oE,M,C,leq⟩;have q:=s.trans leq;refine Uy ?_;refine Kl.intro (fun ht=>?_) (fun hf=>?_)
 .have j : i < es.length := CC ht
  clear ht;have N:=CA j;have O:es.take (i+1)=es.take i++[es[i]]:=EL j;have P:=Og j;generalize es[i]=p at N O P;have av:=X.GD p P;obtain⟨a,ea⟩:=yY av.1;obtain⟨b,eb⟩:=yY (show 0<=p.2 by omega);have Q:a<ps.length:=NH;have S:b<ps.length:=NH;have ad:=r.addr (k:=.i64) i j;have ld:=(r.le q).load N;obtain⟨bg,h7,e7,ay,Y,w7,o7⟩:=Ut aq p;have m0:=lK o7;have m1:=HY o7;rw[ea]at m0;rw[eb]at m1;have az:=D.TA a Q;have aC:=D.TA b S;have aD:=(D.le Nn.RP (q.trans Y)).DH a Q;have aH:=(D.le Nn.RP (q.trans Y)).DH b S;have T:Qh ps p=(ps[a],ps[b]):=by grind [Qh.eq_1,Int.toNat_natCast]
  have bn:aBuild Tryz.prog 38 [(0,.int .i64 ps[a]),(1,.int .i64 ps[b])]=some (UI (Qh ps p)):=by rw[T];exact bP2 _ _
  have aJ:=Y.own _ _ oE;have st:=stP aJ (i:=i) NH (Qh ps p);have ix:=idxP E es.length i j
  generalize z.next=Ev at*
  generalize ps[a]=pa at*;generalize ps[b]=pb at*;simp only[HO,Nat.reduceLT,↓reduceIte,Nat.reduceEqDiff,reduceCtorEq,ad,ld,e7,ay];refine gh (tA [0,1,2,3,4,5,6,7,8,9,10,11,12,13] (JQ 14 [0,1,2,3,4,5,6,7,8,9,10,11,12,13] .done)) ?_;simp only[HO,Nat.reduceLT,↓reduceIte,Nat.reduceEqDiff,reduceCtorEq,Nat.reduceBEq,Qg,Dh,Z0,Ip,BS,m0,m1,az,aC,aD,aH,bn,ix,st,Tw i NH];refine lgA NH ⟨i+1,_,rfl,j,rfl,AHeap.Y3 _ _ _,by simp[M],?_,(leq.trans Y).put _ nE⟩;rw[O,j3,<-C,qL194,EL NH,MA _ _ pw];congr 1;have:i-(L.take i).length=0:=pw
  grind
 have bh:es.length<=i:=vp hf;rw[IE NH,IE NH]at C;subst C;have aK:PR z (.slice (some ⟨E,0,none⟩) es.length es.length) (es.map (Qh ps)):=by
  have:=CS.own (k:=2) (off:=0) (n:=es.length) (cap:=es.length) oE (by grind [Ta])
  grind [Ta,PR.eq_1]
 have aP:=J z (aj.trans leq);refine Sk (xU @Ii @Ip.eq_1 @BS aP.2.1) ?_;refine TC.intro PJ ⟨Tryz.func29,rfl,WY⟩ (gZ V (n:Int) _ (es.map (Qh ps)) z aK (by rw[M];omega)) ?_;rintro x h9 w9 ⟨l9,⟨aT,_⟩|⟨_,F,rfl,gr,ar⟩⟩
 .exact absurd hN aT
 have aW:=l9.own _ _ (leq.own _ _ o4);have one:=gr.pr.sl.one;have U:∃a l c,F=.slice a l c:=by obtain⟨a,c,rfl,_⟩:=gr.pr.sl;grind
 have aX:F.cells=#[F]:=by obtain⟨a,l,c,rfl⟩:=U;rfl
 have st:=DG (n:=(n:Int)) (ev:=F) aW one aX;have ld:=tY (n:=(n:Int)) (ev:=F) (AHeap.Y3 h9 R _) U;simp only[HO,Nat.reduceLT,↓reduceIte,Nat.reduceEqDiff,reduceCtorEq,st,ld];refine⟨(q.trans l9).put _ W,.inr ⟨A,F,rfl,GS.put gr _ ?_,fun b hb=>q.none (ar b hb)⟩⟩;intro e;have:=ar R e
 grind [Le.own]
end
end Go.Fw
