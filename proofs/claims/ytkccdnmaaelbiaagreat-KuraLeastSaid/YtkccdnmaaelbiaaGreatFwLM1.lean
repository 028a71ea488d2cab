/- A text. -/
import Derived.Test.YtkccdnmaaelbiaaGreatFwLZ7
import Derived.Test.YtkccdnmaaelbiaaGreatFwLBR
set_option linter.all false
set_option maxRecDepth 99999
set_option maxHeartbeats 9999999
namespace Go.Fw
section
open Go.Proofs
def fT (v:Value) (i:Nat):Addr:=elemAddr v (i*3)
def uy (h:AHeap):aAlloc Tryz.prog h 38=some (.pointer (some ⟨h.next,0,none⟩),h.alloc (.cells [.int .i64 0,.int .i64 0])):=rfl
structure AtS (n:Int) (es:List Pr) (bs:List (List Pr)):Prop where
 ne:∀b∈bs,b≠[]
 right:∀b∈bs,bX ⟨n,b⟩
 q9:∀(i:Nat) b b' p q,bs[i]?=some b->bs[i+1]?=some b'->b[0]?=some p->b'[0]?=some q->p.1<q.1\/p.1=q.1/\p.2<q.2
 mem:∀b∈bs,∀p∈b,p∈es
 TE:∀(i j:Nat) b b' p,bs[i]?=some b->bs[j]?=some b'->p∈b->p∈b'->i=j
 all:∀p∈es,∃b∈bs,p∈b
 len:bs.length<=1000
def Met (bs:List (List Pr)) (i j:Nat) (p:Pr) (x:Int):Prop:=∃(k:Nat) (b:List Pr),bs[k]?=some b/\x=(k:Int)/\(k<i/\p∈b\/k=i/\p∈b.take j)
end
variable {b es:List Pr} {i n:Nat} {p:Pr}
theorem Nl:D3 es↔es.Pairwise fun x y=>x.1<y.1\/x.1=y.1/\x.2<y.2:=by
 rw[vY];constructor
 .intro ha i j hi b a;exact ha.lt a (XJ hi) (XJ b)
 .intro h i j p q a hi b
  obtain⟨a1,a2⟩:=qL0.1 hi;obtain⟨d,c⟩:=qL0.1 b;rw[Hv,<-a2,<-c];grind
theorem bX.of (a:n<=200) (c:es.length<=594) (d:aV n es) (ha:D3 es):bX ⟨(n:Int),es⟩:=
 ⟨Ma,pw,c,fun i hi p b=>⟨d p (Gc b),fun q f e=>ha (i-1) i q p NH e b⟩⟩
theorem bX.sub {es a:List Pr} (h:bX ⟨(n:Int),es⟩) (hs:a.Sublist es):bX ⟨(n:Int),a⟩:=
 bX.of (by have:(n:Int)<=200:=h.n1;omega) (VU hs.length_le h.len) (fun p b=>h.GD p (hs.subset b)) (Nl.2 ((Nl.1 h.q9).sublist hs))
theorem Jh (h:(vq n es)[i]?=some b):∃k,(CY (cQ n es) es)[i]?=some k/\b=es.filter fun p=>decide (cQ n es p=k):=by grind [aaq]
theorem sh (h:(vq n es)[i]?=some b) {k:Int} (a:(CY (cQ n es) es)[i]?=some k):p∈b↔p∈es/\cQ n es p=k:=by grind [Jh]
theorem XF (m:bX ⟨(n:Int),es⟩):AtS (n:Int) es (vq n es):=by
 obtain⟨nd,d⟩:=lQ (cQ n es) _ es rfl;have o:∀b∈vq n es,b≠[]:=fun b hb=>by
  obtain⟨i,hi⟩:=Og.1 hb;obtain⟨k,l,rfl⟩:=Jh hi;obtain⟨p,a,e⟩:=(d k).1 (Gc l);intro h;have:p∈es.filter fun p=>decide (cQ n es p=k):=iy.2 ⟨a,by simpa using e⟩
  grind
 refine⟨o,fun b hb=>?_,fun i b C p q hb sZ a D=>?_,fun b hb p a=>?_,fun i j b C p hb sZ a E=>?_,fun p a=>?_,?_⟩
 .grind [List.mem_iff_getElem?,Jh,bX.sub,List.filter_sublist]
 .obtain ⟨k, l, e⟩ := Jh hb
  obtain⟨F,f,e'⟩:=Jh sZ;obtain⟨x,r,s,h2,h3⟩:=Iq (cQ n es) _ es rfl i (i+1) k F NH l f;have g:=(sh sZ f).1 (Gc D);obtain⟨y,B⟩:=Og.1 g.1;have u:=h3 y q B g.2;have v:=m.q9.lt u s B;have c:r∈b:=(sh hb l).2 ⟨Gc s,h2⟩;have w:b.Pairwise fun x y=>x.1<y.1\/x.1=y.1/\x.2<y.2:=by rw[e];exact(Nl.1 m.q9).filter _
  cases b with
  |nil=>cases c
  |cons z t=>
   simp at a;subst a;rw[y5]at w;rw[Z6]at c;rcases c with rfl|c
   .exact v
   grind
 .grind [List.mem_iff_getElem?,Jh]
 .grind [Jh,List.getElem?_inj]
 .obtain ⟨i, hi⟩ := Og.1 ((d _).2 ⟨p, a, rfl⟩)
  have A:(vq n es)[i]?=some (es.filter fun q=>decide (cQ n es q=cQ n es p)):=by grind [aaq]
  exact⟨_,Gc A,iy.2 ⟨a,Ma⟩⟩
 .rw [aaq, LH]
  have s:(CY (cQ n es) es).length<=(es.map (cQ n es)).length:=nd.length_le_of_subset fun x G=>by grind
  have h2:es.length<=594:=m.len
  grind
theorem Zg (d:bX ⟨(n:Int),es⟩) (e:p∈es):∃(k:Nat) (b:List Pr),(vq n es)[k]?=some b/\p∈b/\Met (vq n es) (vq n es).length 0 p (k:Int):=by
 obtain⟨b,hb,a⟩:=(XF d).all p e;obtain⟨k,c⟩:=Og.1 hb;exact⟨k,b,c,a,k,b,c,rfl,.inl ⟨(qL0.1 c).1,a⟩⟩
def AN (v:Int) (p:Pr):Bool:=decide (p.1=v)||decide (p.2=v)
def woV (es:List Pr) (v:Nat):List Pr:=es.filter fun p=>!AN (v:Int) p
theorem rI {v x y:Nat}:Jp (woV es v) x y↔Jp es x y/\x≠v/\y≠v:=by grind [Jp,woV,AN]
theorem woV_con {v a b:Nat} (ha:a≠v):Pu (woV es v) a b↔Cn (wo v) es a b:=by
 constructor
 .intro h
  induction h with
  |refl _=>exact .refl (iO ha)
  |step _ a _ d=>exact d.step (rI.1 a).1 (iO (rI.1 a).2.2)
 .intro h
  induction h with
  |refl _=>grind [Pu.refl]
  |step c a o d=>exact .step d (rI.2 ⟨a,by grind [Cn.AB],pw⟩) rfl
theorem ends (e:aV n es) (d:p∈es):∃a c:Nat,p=((a:Int),(c:Int))/\a<c/\c<n/\Jp es a c:=by
 have b:=e p d;obtain⟨x,y⟩:=p;simp only at b;obtain⟨a,rfl⟩:=HV b.1;obtain⟨c,rfl⟩:=HV (show 0<=y by omega);exact⟨a,c,rfl,NH,NH,.inl d⟩
section
open Go.Proofs
variable {h:AHeap} {i:Nat} {ps:List Pr} {v:Value}
def Ct (v:Value) (n:Nat):Prop:=∃a cap,v=.slice a n cap/\((cap<RA/\n<=cap)\/(cap=RA+2/\a.isSome))
def GP.ct (g:GP h v ps):Ct v ps.length:=by
 obtain⟨_,⟨rfl,b⟩|⟨id,c,cap,rfl,_,_,a⟩⟩:=g
 .exact⟨none,0,by rw[b],.inl ⟨WY,NH⟩⟩
 .refine ⟨_, cap, rfl, ?_⟩
  rcases a with a|⟨rfl,d⟩
  .exact .inr ⟨a,rfl⟩
  .exact .inl ⟨zx d WY,Ny _⟩
def abr (ps:List Pr) (i:Nat):Iu (ps.take i)=(Iu ps).take (i*2):=by
 induction ps generalizing i with
 |nil=>simp[Iu]
 |cons p ps a=>
  cases i with
  |zero=>simp[Iu]
  |succ i=>
   have e:Iu (p::ps)=.int .i64 p.1::.int .i64 p.2::Iu ps:=rfl;have e':Iu (p::ps.take i)=.int .i64 p.1::.int .i64 p.2::Iu (ps.take i):=rfl;rw[NC,e',e,a,show(i+1)*2=i*2+1+1 by omega,NC,NC]
theorem za (ps:List Pr) (i:Nat):Iu (ps.drop i)=(Iu ps).drop (i*2):=by
 induction ps generalizing i with
 |nil=>simp[Iu]
 |cons p ps a=>
  cases i with
  |zero=>simp[Iu]
  |succ i=>
   have e:Iu (p::ps)=.int .i64 p.1::.int .i64 p.2::Iu ps:=rfl
   grind
theorem PR.take {h:AHeap} {a a':Option Addr} {ps:List Pr} {cap cap':Nat} (r:PR h (.slice a ps.length cap) ps) {i:Nat} (hi:i<=ps.length) (ha:0<i->∀x,a=some x->a'=some (Ip x 0)):PR h (.slice a' i cap') (ps.take i):=by
 obtain⟨_,_,e,hs⟩:=r.sl;injection e with g k e3;subst g;have d:(ps.take i).length=i:=by rw[Bn];omega
 refine⟨⟨a',cap',by rw[d],fun f=>?_⟩,Ta _,fun j x b=>?_⟩
 .rw [d] at f
  obtain⟨y,c⟩:=eR.1 (hs NH);rw[ha f y c];rfl
 .rw [abr, V9] at b
  split at b
  .obtain ⟨y, c⟩ := eR.1 (hs NH)
   have:=CS.get r j x b;subst c;rw[ha NH y rfl,fA];simpa[fA,Ip]using this
  .cases b
theorem PR.drop {h:AHeap} {a a':Option Addr} {ps:List Pr} {cap cap':Nat} (r:PR h (.slice a ps.length cap) ps) {i m:Nat} (hi:i<=ps.length) (g:m=ps.length-i) (ha:i<ps.length->∀x,a=some x->a'=some (Ip x (i*2))):PR h (.slice a' m cap') (ps.drop i):=by
 obtain⟨_,_,e,hs⟩:=r.sl;injection e with k n e3;subst k;subst g;have f:(ps.drop i).length=ps.length-i:=iB;refine⟨⟨a',cap',by rw[f],fun l=>?_⟩,Ta _,fun j x b=>?_⟩
 .rw [f] at l
  obtain⟨y,c⟩:=eR.1 (hs NH);rw[ha NH y c];rfl
 .rw [za, DF] at b
  have d:=(qL0.1 b).1;rw[Ta]at d;obtain⟨y,c⟩:=eR.1 (hs NH);have:=CS.get r _ x b;subst c;rw[ha NH y rfl,fA];simpa[fA,Ip,adS]using this
def PR.lo (r:PR h v ps) (ct:Ct v ps.length) (hi:i<=ps.length):∃v',aSlice Tryz.prog 22 v none (some (.int .i64 i)) none=some v'/\PR h v' (ps.take i):=by
 obtain⟨a,cap,rfl,⟨e,h2⟩|⟨rfl,e⟩⟩:=ct
 .have n1 : (i : Int) <= cap := NH
  have n0:(0:Int)<=i:=NH;have c:¬RA<=cap:=NH
  have d:aSlice Tryz.prog 22 (.slice a ps.length cap) none (some (.int .i64 i)) none=some (.slice (if cap=0 then a else a.map (fun a=>Ip a 0)) i cap):=by simp[aSlice,AV,yU,WE,aBounds,aBound,n0,n1,c,h2]
  refine⟨_,d,r.take hi fun f x b=>?_⟩;subst b;have:cap≠0:=NH;simp[this]
 .obtain ⟨a, rfl⟩ := eR.1 e
  have n1:(i:Int)<=ps.length:=NH;have n0:(0:Int)<=i:=NH;have d:aSlice Tryz.prog 22 (.slice (some a) ps.length (RA+2)) none (some (.int .i64 i)) none=some (.slice (some (Ip a 0)) i (RA+2)):=by simp[aSlice,AV,yU,WE,aBounds,aBound,n0,n1]
  exact⟨_,d,r.take hi fun f x b=>by injection b with b;rw[b]⟩
theorem PR.up (r:PR h v ps) (ct:Ct v ps.length) (hi:i<=ps.length):∃v',aSlice Tryz.prog 22 v (some (.int .i64 i)) none none=some v'/\PR h v' (ps.drop i):=by
 obtain⟨a,cap,rfl,⟨e,h2⟩|⟨rfl,e⟩⟩:=ct
 .have n1 : (i : Int) <= ps.length := NH
  have n0:(0:Int)<=i:=NH;have c:¬RA<=cap:=NH
  have d:aSlice Tryz.prog 22 (.slice a ps.length cap) (some (.int .i64 i)) none none=some (.slice (if cap=i then a else a.map (fun a=>Ip a (i*2))) (ps.length-i) (cap-i)):=by simp[aSlice,AV,yU,WE,aBounds,aBound,n0,n1,c,h2]
  refine⟨_,d,r.drop hi rfl fun f x b=>?_⟩;subst b;have:cap≠i:=NH;simp[this]
 .obtain ⟨a, rfl⟩ := eR.1 e
  have n1:(i:Int)<=ps.length:=NH;have n0:(0:Int)<=i:=NH;have d:aSlice Tryz.prog 22 (.slice (some a) ps.length (RA+2)) (some (.int .i64 i)) none none=some (.slice (some (Ip a (i*2))) (ps.length-i) (RA+2)):=by simp[aSlice,AV,yU,WE,aBounds,aBound,n0,n1]
  exact⟨_,d,r.drop hi rfl fun f x b=>by injection b with b;rw[b]⟩
variable {es:List Pr} {l:II} {x:Nat}
theorem KH {v x:Nat} (h:Pu es v x) (d:x≠v):∃a,Jp es v a/\Pu (woV es v) a x:=by
 induction h with
 |refl _=>grind
 |@step w x c a _ f=>
  by_cases e:w=v
  .grind [Pu.refl]
  .obtain ⟨b, hb, g⟩ := f e
   exact⟨b,hb,.step g (rI.2 ⟨a,e,d⟩) rfl⟩
theorem MS {α:Type} (p:α->Bool):∀(l:List α),l.length=(l.filter p).length+(l.filter fun x=>!p x).length
 |[]=>rfl
 |x::l=>by
  have:=MS p l
  grind
theorem Cq (nd:l.Nodup) (c:x∈l) (h:∀y∈l,y=x):l.length=1:=by
 cases l with
 |nil=>cases c
 |cons a l=>
  cases l with
  |nil=>rfl
  |cons b l=>
   have d:=h a Ma;have h2:=h b Ma
   grind
variable {n:Nat} {p:Pr}
def jo (p:Pr) (v:Int):Int:=if p.1=v then p.2 else if p.2=v then p.1 else-1
theorem XH (f:aV n es) (g:p∈es) (v:Nat):
  (∃a:Nat,a<n/\jo p (v:Int)=(a:Int)/\Jp es v a/\p=GW v a)\/(jo p (v:Int)=-1/\∀a,p≠GW v a):=by
 obtain⟨a,c,rfl,h,i,d⟩:=ends f g;unfold jo;by_cases j:a=v
 .grind [bj]
 .by_cases h2 : c = v
  .grind [Jp.symm,bj]
  .refine .inr ⟨pw, fun b e => ?_⟩
   grind [bj]
variable {a v:Nat} {k:Int} {α:Type}
theorem Yt {l:List α} (nd:l.Nodup):1<l.length↔∃x y,x∈l/\y∈l/\x≠y:=by
 constructor
 .intro h
  match l,h with
  |x::y::r,_=>
   rw[xD]at nd;exact⟨x,y,Ma,Ma,fun e=>nd.1 (by rw[e];simp)⟩
 .rintro ⟨x, y, c, f, d⟩
  match l with
  |[]=>cases c
  |[a]=>grind
  |a::b::r=>simp
def rG (v:Int) (b:List Pr):Bool:=b.any (AN v)
theorem Tf (b:aV n es) (c:p∈es) (h:AN (v:Int) p=true):∃a,Jp es v a/\p=GW v a:=by
 rcases XH b c v with⟨a,_,_,d,h2⟩|⟨d,_⟩
 .grind
 .have := b p c
  grind [jo,AN]
theorem zo:AN (v:Int) (GW v a)=true:=by grind [AN,GW]
theorem KQ (b:aV n es):rG (v:Int) (es.filter fun p=>decide (cQ n es p=k))=true↔∃a,Jp es v a/\cQ n es (GW v a)=k:=by grind [rG,Tf,T0,zo]
def Sq (n:Nat) (es:List Pr) (v:Nat):Nat:=((vq n es).filter (rG (v:Int))).length
def I7 (n:Nat) (es:List Pr) (v:Nat):RZ:=(CY (cQ n es) es).filter fun k=>rG (v:Int) (es.filter fun p=>decide (cQ n es p=k))
def JW (n:Nat) (es:List Pr) (v:Nat):Sq n es v=(I7 n es v).length:=by rw[Sq,aaq,aeN,LH];rfl
def PS (n:Nat) (es:List Pr) (v:Nat):(I7 n es v).Nodup:=(lQ (cQ n es) _ es rfl).1.sublist jf
theorem dG (b:aV n es):k∈I7 n es v↔∃a,Jp es v a/\cQ n es (GW v a)=k:=by
 rw[I7,iy,KQ b];refine⟨fun h=>h.2,fun⟨a,ha,c⟩=>⟨((lQ (cQ n es) _ es rfl).2 k).2 ⟨_,T0 b ha,c⟩,a,ha,c⟩⟩
theorem YH (d:aV n es) (v:Nat):1<Sq n es v↔Fo.iE es v:=by
 rw[JW,Yt (PS n es v)];constructor
 .rintro ⟨x, y, g, h, f⟩
  obtain⟨a,ha,rfl⟩:=(dG d).1 g;obtain⟨b,hb,rfl⟩:=(dG d).1 h;exact⟨a,b,ha,hb,fun c=>f ((dR d ha hb).2 c)⟩
 .rintro ⟨a, b, ha, hb, i⟩
  exact⟨_,_,(dG d).2 ⟨a,ha,rfl⟩,(dG d).2 ⟨b,hb,rfl⟩,fun e=>i ((dR d ha hb).1 e)⟩
end
end Go.Fw
namespace Go.Fw
open Go.Proofs
namespace Fo
variable {n : Nat} {es : List Pr} {num : Nat → Nat} {up : Nat → Option Nat} {hd : Nat → Nat}
theorem Io {a b:Nat} (h:pJ up a b) (ne:a≠b):up b≠none:=by grind [pJ.last]
def beg (n:Nat) (up:Nat->Option Nat) (hd:Nat->Nat):II:=(List.range n).filter fun c=>decide (up c≠none/\hd c=c)
theorem AF {c:Nat}:c∈beg n up hd↔c<n/\up c≠none/\hd c=c:=by simp[beg]
theorem Ky:(beg n up hd).Nodup:=jz.sublist jf
def JB (n:Nat) (up:Nat->Option Nat) (hd:Nat->Nat) (v:Nat):II:=(beg n up hd).filter fun c=>decide (up c=some v)
theorem mF (F:Fo n es num up) (H:aaP n es num up hd) {v:Nat} (i:v<n) (c:Nat):(∃a,Jp es v a/\hd (lower num v a)=c)↔c∈JB n up hd v\/(up v≠none/\c=hd v):=by
 rw[JB,iy,AF,decide_eq_true_eq];constructor
 .rintro ⟨a, ha, rfl⟩
  have j:=F.JD ha;have f:=(ha.lt F.rD).2;unfold lower;by_cases q:num a<num v
  .rw [if_pos q]
   exact .inr ⟨Io (F.iA a v ha.symm q) (fun e=>by grind),rfl⟩
  .rw [if_neg q]
   obtain⟨c,g,b⟩:=(F.iA v a ha NH).child (fun e=>by grind);have d:=(F.yO b f).1;rw[F.zP H g b ha];by_cases hb:ym es num up v c
   all_goals grind [Fo.CJ,Fo.Io,Fo.aaP.on,Fo.aaP.new]
 .rintro (⟨⟨d, _, hh⟩, g⟩ | ⟨h, rfl⟩)
  .obtain ⟨k, h2⟩ := F.Kd c v d g
   grind [Fo.lower]
  .obtain ⟨u, h⟩ := Tn.1 h
   obtain⟨k,h2⟩:=F.Kd v u i h
   grind [Jp.symm,Fo.lower]
theorem Zc (F:Fo n es num up) (H:aaP n es num up hd) {v:Nat} (a:v<n):hd v∉JB n up hd v:=by
 intro h;rw[JB,iy,AF,decide_eq_true_eq]at h;have b:=(F.US H (num v) v (Ny _) a).1;have h2:=(F.Kd _ v h.1.1 h.2).2
 grind [Fo.yO]
end Fo
open Classical in
theorem incN_eq {n:Nat} {es:List Pr} {num:Nat->Nat} {up:Nat->Option Nat} (S:aao n es (Jz n es).1 (Jz n es).2 num up) {v:Nat} (d:v<n):
  Sq n es v=(Fo.JB n up (Cl n es) v).length+(if up v=none then 0 else 1):=by
 have F:=S.fo;have H:=(FY S).1;have g:=F.rD;have e:∀k:Int,k∈I7 n es v↔∃c:Nat,k=(c:Int)/\(c∈Fo.JB n up (Cl n es) v\/(up v≠none/\c=Cl n es v)):=by
  intro k;rw[dG g];constructor
  .rintro ⟨a, ha, rfl⟩
   exact⟨_,jm S ha,(F.mF H d _).1 ⟨a,ha,rfl⟩⟩
  grind [Fo.mF,jm]
 have b:(Fo.JB n up (Cl n es) v).Nodup:=Fo.Ky.sublist jf;rw[JW];by_cases f:up v=none
 .rw [if_pos f]
  have:(I7 n es v).Perm (kz (Fo.JB n up (Cl n es) v)):=(mg (PS n es v) (by grind [kz.eq_1])).2 fun k=>by grind [kz.eq_1]
  rw[this.length_eq,y6];rfl
 .rw [if_neg f]
  have h:(Cl n es v::Fo.JB n up (Cl n es) v).Nodup:=xD.2 ⟨F.Zc H d,b⟩;have:(I7 n es v).Perm (kz (Cl n es v::Fo.JB n up (Cl n es) v)):=(mg (PS n es v) (by grind [kz.eq_1])).2 fun k=>by grind [kz.eq_1]
  grind [List.Perm.length_eq,y6]
theorem VV {n:Nat} {es:List Pr} {num:Nat->Nat} {up:Nat->Option Nat} (S:aao n es (Jz n es).1 (Jz n es).2 num up):(vq n es).length=(Fo.beg n up (Cl n es)).length:=by
 have F:=S.fo;have H:=(FY S).1;have e:=F.rD;obtain⟨l,mk⟩:=lQ (cQ n es) _ es rfl;have:(CY (cQ n es) es).Perm (kz (Fo.beg n up (Cl n es))):=(mg l (by grind [kz.eq_1,Fo.Ky])).2 fun k=>by
  rw[mk,kz,aae];constructor
  .rintro ⟨p, m, rfl⟩
   obtain⟨a,c,rfl,o,d,b⟩:=ends e m;have q:((a:Int),(c:Int))=GW a c:=by grind [bj]
   have z:=jm S b;have r:=F.JD b;have s:=(b.lt e).1;have f:Fo.lower num a c<n:=by grind [Fo.lower]
   have t:up (Cl n es (Fo.lower num a c))≠none:=by
    have key:=fun x y g h=>F.link H (fun _ _=>()) (fun _ _=>rfl) (fun _ _ _ _ _ _=>rfl) (num x) x y (Ny _) g h
    grind [Fo.lower,Jp.symm]
   have v:=F.US H _ (Fo.lower num a c) (Ny _) f
   grind [Fo.AF,Fo.yO]
  .rintro ⟨c, w, rfl⟩
   obtain⟨d,i,hh⟩:=Fo.AF.1 w;obtain⟨u,i⟩:=Tn.1 i;obtain⟨j,h2⟩:=F.Kd c u d i;refine⟨GW c u,T0 e j.symm,?_⟩;rw[jm S j.symm]
   grind [Fo.lower]
 grind [aaq,List.Perm.length_eq,y6]
end Go.Fw
namespace Go.Fw
open Go.Proofs
theorem sum_add (f g:Nat->Nat):∀l:II,(l.map fun x=>f x+g x).sum=(l.map f).sum+(l.map g).sum
 |[]=>rfl
 |x::l=>by simp only[j3,aaS,sum_add f g l];omega
theorem Zl (u:Nat):∀n,((List.range n).map fun v=>if u=v then 1 else 0).sum=if u<n then 1 else 0
 |0=>rfl
 |n+1=>by
  rw[rY,U9,aeO,Zl u n];simp only[j3,List.map_nil,aaS,List.sum_nil]
  grind
def Rp:∀n,((List.range n).map fun _=>0).sum=0
 |0=>rfl
 |n+1=>by rw[rY,U9,aeO,Rp n];rfl
theorem Lz (n:Nat) (up:Nat->Option Nat):∀(l:II),(∀c∈l,∃u,up c=some u/\u<n)->((List.range n).map fun v=>(l.filter fun c=>decide (up c=some v)).length).sum=l.length
 |[],_=>by
  simp only[adQ,Zw];exact Rp n
 |c::l,h=>by
  obtain⟨u,a,b⟩:=h c Ma;have f:=Lz n up l fun d hd=>h d (by simp[hd])
  have e:(fun v=>((c::l).filter fun c=>decide (up c=some v)).length)=fun v=>(l.filter fun c=>decide (up c=some v)).length+(if u=v then 1 else 0):=pw
  grind [sum_add,Zl]
theorem Sv (p:Nat->Prop) [DecidablePred p]:∀l:II,(l.map fun v=>if p v then 0 else 1).sum=(l.filter fun v=>decide (¬p v)).length
 |[]=>rfl
 |x::l=>by
  rw[j3,aaS,Sv p l,JR]
  grind
theorem yA (inc:Nat->Nat):∀l:II,(l.map inc).sum+(l.filter fun v=>decide (1<inc v)).length=((l.filter fun v=>decide (1<inc v)).map inc).sum+(l.filter fun v=>decide (0<inc v)).length
 |[]=>rfl
 |x::l=>by
  have a:=yA inc l
  grind
theorem Yu {A B:II} {R:Nat->Nat->Prop} (c:A.Nodup) (h:∀a∈A,∃b∈B,R a b) (inj:∀a∈A,∀a'∈A,∀b,R a b->R a' b->a=a'):A.length<=B.length:=by
 classical
 let f:Nat->Nat:=fun a=>if h:∃b∈B,R a b then Classical.choose h else 0
 have hf:∀a∈A,f a∈B/\R a (f a):=fun a ha=>by grind
 have nd:(A.map f).Nodup:=by grind [List.Pairwise.imp_of_mem]
 have:=nd.length_le_of_subset (l₂:=B) (fun x d=>by grind)
 grind
namespace Fo
variable {n : Nat} {es : List Pr} {num : Nat → Nat} {up : Nat → Option Nat}
def root_ex (F:Fo n es num up):∀(k v:Nat),num v<=k->v<n->∃r,r<n/\up r=none/\pJ up r v/\Pu es r v:=by
 intro k
 induction k with
 |zero=>
  intro v d b;cases a:up v with
  |none=>exact⟨v,b,a,.refl v,Pu.refl _ _⟩
  |some u=>have:=(F.Kd v u b a).2;omega
 |succ k e=>
  intro v d b;cases a:up v with
  |none=>exact⟨v,b,a,.refl v,Pu.refl _ _⟩
  |some u=>
   obtain⟨c,h2⟩:=F.Kd v u b a;obtain⟨r,f,h3,g,h⟩:=e u NH (c.lt F.rD).1;exact⟨r,f,h3,g.step a,.step h c rfl⟩
theorem Sp (F:Fo n es num up) {r u v:Nat} (a:up r=none) (h:pJ up r u) (c:Pu es u v):pJ up r v:=by
 induction c<;>grind [Fo.JD,pJ.trans,Fo.iA,Jp.symm,pJ.chain,Fo.Io]
theorem xd (F:Fo n es num up) {r s:Nat} (a:up r=none) (hs:up s=none) (c:Pu es r s):r=s:=by
 have h:=F.Sp a (.refl r) c
 grind [Fo.Io]
end Fo
open Classical in
theorem HJ {n:Nat} {es:List Pr} (b:aV n es) {v:Nat}:0<Sq n es v↔∃a,Jp es v a:=by
 rw[JW,List.length_pos_iff_exists_mem];constructor
 .grind [dG]
 .rintro⟨a,ha⟩;exact⟨_,(dG b).2 ⟨a,ha,rfl⟩⟩
theorem FV {es:List Pr} {u v:Nat} (h:Pu es u v) (ne:u≠v):(∃a,Jp es u a)/\∃a,Jp es v a:=by
 constructor
 .induction h<;>grind
 .cases h<;>grind [Jp.symm]
open Classical in
theorem tZ {n:Nat} {es:List Pr} (f:aV n es):
  (vq n es).length+(JL n es).length=((JL n es).map (Sq n es)).sum+((Es n es).filter fun h=>decide (0<Sq n es h)).length:=by
 obtain⟨num,up,S⟩:=Ob f;have F:=S.fo;have l:JL n es=(List.range n).filter fun v=>decide (1<Sq n es v):=by grind [JL.eq_1,List.filter_congr,YH,Cv]
 have i:=yA (Sq n es) (List.range n);rw[<-l]at i;have h2:((List.range n).map (Sq n es)).sum=(Fo.beg n up (Cl n es)).length+((List.range n).filter fun v=>decide (¬up v=none)).length:=by
  have e:(List.range n).map (Sq n es)=(List.range n).map fun v=>(Fo.JB n up (Cl n es) v).length+(if up v=none then 0 else 1):=
   Yi fun v g=>incN_eq S (j9.1 g)
  rw[e,sum_add,Sv (fun v=>up v=none)];congr 1;exact Lz n up _ fun c j=>by
   obtain⟨k,d,_⟩:=Fo.AF.1 j;obtain⟨u,d⟩:=Tn.1 d;exact⟨u,d,((F.Kd c u k d).1.lt f).1⟩
 have h3:=MS (fun v=>decide (¬up v=none)) ((List.range n).filter fun v=>decide (0<Sq n es v));rw[jV,jV]at h3;have m:(List.range n).filter (fun v=>decide (¬up v=none)&&decide (0<Sq n es v))=(List.range n).filter fun v=>decide (¬up v=none):=by
  refine qH fun v g=>?_;rw[j9]at g;by_cases q:up v=none
  .simp[q]
  .obtain ⟨u, d⟩ := Tn.1 q
   have:0<Sq n es v:=(HJ f).2 ⟨u,(F.Kd v u g d).1.symm⟩;simp[this]
 rw[m]at h3;have w:((List.range n).filter fun v=>(!decide (¬up v=none))&&decide (0<Sq n es v)).length=((Es n es).filter fun h=>decide (0<Sq n es h)).length:=by
  have o:∀v,v∈((List.range n).filter fun v=>(!decide (¬up v=none))&&decide (0<Sq n es v))↔v<n/\up v=none/\0<Sq n es v:=fun v=>by simp
  have p:∀v,v∈((Es n es).filter fun h=>decide (0<Sq n es h))↔v∈Es n es/\0<Sq n es v:=fun v=>by simp
  have move:∀{a b:Nat},Pu es a b->0<Sq n es a->0<Sq n es b:=fun{a b} c h=>by
   by_cases e:a=b
   all_goals grind [HJ,FV]
  refine Nat.le_antisymm ?_ ?_
  .refine Yu (R := fun a b => Pu es a b) (jz.sublist jf) (fun a ha => ?_) (fun a ha a' mi b i h2 => ?_)
   .obtain ⟨k1, k2, s⟩ := (o a).1 ha
    obtain⟨h,hh,j⟩:=B6 f a k1
    grind [Cn.symm]
   grind [Fo.xd,Cn.trans,Cn.symm]
  .refine Yu (R := fun a b => Pu es a b) ((qD n es).sublist jf) (fun a ha => ?_) (fun a ha a' mi b i h2 => ?_)
   .obtain ⟨k1, s⟩ := (p a).1 ha
    obtain⟨r,t,x,y,j⟩:=F.root_ex (num a) a (Ny _) (QO.1 k1).1
    grind [Cn.symm]
   grind [rf,Cn.trans,Cn.symm]
 grind [VV]
end Go.Fw
namespace Go.Fw
section
attribute [local irreducible] Kp MQ lU rS KO KN KX KE VK Kl ZJ TC aaa
open Go.Proofs
variable {R n:Nat} {ev:Value} {h:AHeap} {ps:List Pr}
def DG {x y:Value} {n:Int} (d:h.own R=some (.cells [x,y])) (one:ev.oneCell'=true) (b:ev.cells=#[ev]):aStore Tryz.prog h 24 (.pointer (some ⟨R,0,none⟩)) (.agg #[.int .i64 n,ev])=some (h.put R (.cells [.int .i64 n,ev])):=by
 have a:UA Tryz.prog 24=2:=Ji;have e:(Value.agg #[.int .i64 n,ev]).cells=#[.int .i64 n,ev]:=by
  have c:(Value.int IntKind.i64 n).cells=#[.int .i64 n]:=rfl;simp[Value.cells,b]
 have c:(Value.int IntKind.i64 n).oneCell'=true:=rfl;simp[aStore,d,e,a,putCells,qS8,one,c]
def lZ (p:Pr):Pr:=(min p.1 p.2,max p.1 p.2)
structure YG (n:Int) (ps:List Pr):Prop where
 n0:0<=n
 n1:n<=200
 len:ps.length<=594
 ok:∀p∈ps,0<=(lZ p).1/\(lZ p).1≠(lZ p).2/\(lZ p).2<n
 nd:(ps.map lZ).Nodup
theorem YG.right (k:YG (n:Int) ps):bX ⟨(n:Int),sortP (ps.map lZ)⟩:=by
 have nd:(sortP (ps.map lZ)).Nodup:=(YA _).nodup_iff.2 k.nd;have hle:=VH (ps.map lZ);refine bX.of (by have:=k.n1;omega) (by grind [ZS,YG.len]) (fun q a=>?_) (Nl.2 ?_)
 .rw [Wb, aae] at a
  obtain⟨p,b,rfl⟩:=a;obtain⟨c,h2,h3⟩:=k.ok p b
  grind [lZ]
 .refine (hle.and nd).imp fun {x y} h => ?_
  grind
end
end Go.Fw
namespace Go.Fw
attribute [local instance] Classical.propDecidable
structure H9 (n:Nat) (es fs:List Pr) (π:Nat->Nat):Prop where
 r1:aV n es
 r2:aV n fs
 lt:∀a,a<n->π a<n
 inj:∀a b,a<n->b<n->π a=π b->a=b
 surj:∀x,x<n->∃a,a<n/\π a=x
 Jp:∀a b,a<n->b<n->(Jp fs (π a) (π b)↔Jp es a b)
namespace H9
variable {n : Nat} {es fs : List Pr} {π : Nat → Nat}
end H9
def abW {n:Nat} {es:List Pr} (e:aV n es) {p:Pr} (f:p∈es):∃a b:Nat,a<n/\b<n/\Jp es a b/\p=GW a b:=by
 obtain⟨a,c,rfl,g,d,h⟩:=ends e f;exact⟨a,c,NH,d,h,by rw[bj,ab5 NH,Nat.max_eq_right NH]⟩
namespace H9
variable {n : Nat} {es fs : List Pr} {π : Nat → Nat}
end H9
namespace H9
variable {n : Nat} {es fs : List Pr} {π : Nat → Nat}
end H9
end Go.Fw
namespace Go.Fw
section
open Go.Proofs
structure TM where
 bs:List (List Pr)
 cs:RZ
 ls:List Pr
end
section
attribute [local irreducible] Jz JL vq cQ
open Go.Proofs
variable {es:List Pr} {n:Nat}
def lkU (i:Nat) (b:List Pr) (cs:II) (k:Nat):List Pr:=((List.range k).filter fun j=>rG ((cs.getD j 0:Nat):Int) b).map fun(j:Nat)=>((i:Int),(j:Int))
def Rb (bs:List (List Pr)) (cs:II) (i:Nat):List Pr:=(List.range i).flatMap fun k=>lkU k (bs.getD k []) cs cs.length
theorem wQ (i:Nat) (b:List Pr) (cs:II) (k:Nat):lkU i b cs (k+1)=lkU i b cs k++if rG ((cs.getD k 0:Nat):Int) b then[((i:Int),(k:Int))]else[]:=by grind [lkU.eq_1,List.range_succ]
theorem DK (bs:List (List Pr)) (cs:II) (i:Nat):Rb bs cs (i+1)=Rb bs cs i++lkU i (bs.getD i []) cs cs.length:=by grind [Rb.eq_1,List.range_succ]
def mR (n:Nat) (es:List Pr):TM:=⟨vq n es,kz (JL n es),Rb (vq n es) (JL n es) (vq n es).length⟩
def JoinG (n:Nat) (es:List Pr):Prop:=es≠[]/\(Es n es).length=1
theorem u5 (b:bX ⟨(n:Int),es⟩) (a:es≠[]):0<(vq n es).length:=by
 obtain⟨p,l,rfl⟩:=EP a
 grind [Zg,List.mem_cons_self]
end
section
open Go.Proofs
structure LinkOK (b n:Nat) (p:Pr):Prop where
 x0:0<=p.1
 x1:p.1<(b:Int)
 y0:0<=p.2
 y1:(b:Int)+p.2<(n:Int)
end
section
attribute [local instance] Classical.propDecidable
def bU (b:Nat) (ls:List Pr):List Pr:=ls.map fun p=>(p.1,(b:Int)+p.2)
structure Lk (b n:Nat) (ls:List Pr):Prop where
 n0:n≠0
 len:ls.length+1=n
 ok:∀p∈ls,LinkOK b n p
 bp:∀v,v<n->Pu (bU b ls) 0 v
end
section
open Go.Proofs
def mk57 (h:AHeap) (n:Nat) (a:n<=1000):aMakeSlice Tryz.prog h 27 (.int .i64 (n:Int)) (.int .i64 (n:Int))=some (.slice (some ⟨h.next,0,none⟩) n n,h.alloc (.cells (List.replicate n (.slice none 0 0)))):=
 Ye (P:=Tryz.prog) (t:=27) (z:=.slice none 0 0) h pE Ji rfl rfl rfl Ji Ac Ji n NH
def PO (h:AHeap) (n:Nat) (a:n<=1000):aMakeSlice Tryz.prog h 59 (.int .i64 (n:Int)) (.int .i64 (n:Int))=some (.slice (some ⟨h.next,0,none⟩) n n,h.alloc (.cells (List.replicate n (.bool false)))):=
 Ye (P:=Tryz.prog) (t:=59) (z:=.bool false) h Uh rfl rfl rfl rfl Ji eY Ji n NH
def mk35 (h:AHeap) (n:Nat) (a:n<=1000):aMakeSlice Tryz.prog h 49 (.int .i64 (n:Int)) (.int .i64 (n:Int))=some (.slice (some ⟨h.next,0,none⟩) n n,h.alloc (.cells (List.replicate n (.int .i64 0)))):=
 Ye (P:=Tryz.prog) (t:=49) (z:=.int .i64 0) h Ac rfl rfl rfl rfl Ji Mb Ji n NH
end
section
attribute [local irreducible] Jz JL vq cQ
open Go.Proofs
variable {es:List Pr} {n:Nat}
def join_of (d:aV n es) (e:0<n) (c:es≠[]) (h:∀v,v<n->Pu es 0 v):JoinG n es:=by
 refine⟨c,?_⟩;obtain⟨a,ha,f⟩:=B6 d 0 e;have:∀b∈Es n es,b=a:=fun b hb=>rf hb ha ((h b (QO.1 hb).1).symm.trans f.symm);exact Cq (qD n es) ha this
def tM {u v w:Nat} (h:Pu es u v) (a:Jp es v w):Pu es u w:=h.step a rfl
end
section
attribute [local instance] Classical.propDecidable
attribute [local irreducible] Jz JL vq cQ
open Go.Proofs
variable {b es:List Pr} {c i j k n u v:Nat} {p:Pr} {α:Type}
theorem ah {bs:List (List Pr)} {cs:II}:∀k,p∈Rb bs cs k↔∃i j:Nat,i<k/\j<cs.length/\rG ((cs.getD j 0:Nat):Int) (bs.getD i [])=true/\p=((i:Int),(j:Int)):=by grind [Rb,lkU]
theorem FU (i:Nat) (b:List Pr) (cs:II):∀k,k<=cs.length->(lkU i b cs k).length=((cs.take k).filter fun c=>rG ((c:Nat):Int) b).length
 |0,_=>by simp[lkU]
 |k+1,h=>by
  rw[wQ,kc,FU i b cs k NH,iu,Db,kc]
  grind
theorem Er (bs:List (List Pr)) (cs:II):∀k,k<=bs.length->(Rb bs cs k).length=(cs.map fun c=>((bs.take k).filter (rG ((c:Nat):Int))).length).sum
 |0,_=>by
  rw[Rb];simp only[List.range_zero,List.flatMap_nil,Zw,yQ,adQ]
  induction cs<;>grind
 |k+1,h=>by
  rw[DK,kc,Er bs cs k NH,FU k _ cs cs.length (Ny _),aC];have hb:bs[k]?=some bs[k]:=XJ h;rw[iu,hb,Option.toList_some,D4 h];clear hb;generalize bs[k]=b;generalize bs.take k=l
  induction cs<;>grind
theorem uh (h:(Es n es).length=1) (a:u<n) (c:v<n):Pu es u v:=by
 have g:0<n:=NH;have m0:0∈Es n es:=QO.2 ⟨g,fun u a=>by omega⟩;obtain⟨x,i⟩:=qL177.1 h;rw[i,Eh]at m0;subst m0;have key:∀k v,v<=k->v<n->Pu es 0 v:=by
  intro k
  induction k with
  |zero=>grind [Pu.refl]
  |succ k j=>
   intro v l c;by_cases e:v=0
   .grind
   have f:v∉Es n es:=pw;rw[QO]at f;have:∃u,u<v/\Pu es u v:=IE fun d=>f ⟨c,fun u a b=>d ⟨u,a,b⟩⟩;obtain⟨u,a,d⟩:=this;exact(j u NH NH).trans d
 exact(key _ u (Ny _) a).symm.trans (key _ v (Ny _) c)
theorem ZI {l:List α} (nd:l.Nodup) {x:α} (h:l[i]?=some x) (g:l[j]?=some x):i=j:=by grind [List.pairwise_iff_getElem]
theorem bK (h:(vq n es)[k]?=some b):∃x,(CY (cQ n es) es)[k]?=some x/\b=es.filter fun p=>decide (cQ n es p=x):=by grind [aaq]
theorem X5 (h:(vq n es)[k]?=some b) (a:p∈b):p∈es:=by grind [bK]
theorem at_mem {v:Int} (a:p∈b) (h:AN v p=true):rG v b=true:=by grind [rG]
theorem NF (hR:bX ⟨(n:Int),es⟩) (f:v<n) {b c:List Pr} (h:(vq n es)[j]?=some b) (g:(vq n es)[k]?=some c) (hb:rG (v:Int) b=true) (d:rG (v:Int) c=true) (ne:j≠k):
  ∃m:Nat,(JL n es)[m]?=some v:=by
 have a:=hR.GD;have h2:1<Sq n es v:=by
  rw[JW,Yt (PS n es v)];obtain⟨x,i,rfl⟩:=bK h;obtain⟨y,l,rfl⟩:=bK g;rw[KQ a]at hb d;refine⟨x,y,(dG a).2 hb,(dG a).2 d,fun e=>ne ?_⟩;subst e;have nd:=(lQ (cQ n es) _ es rfl).1
  grind [ZI]
 rw[YH a]at h2;exact Og.1 ((OI a v).2 ⟨f,h2⟩)
theorem link_in (h:(vq n es)[i]?=some b) (g:(JL n es)[j]?=some c):((i:Int),(j:Int))∈(mR n es).ls↔rG (c:Int) b=true:=by
 have a:=(qL0.1 h).1;have d:=(qL0.1 g).1;have eb:(vq n es).getD i []=b:=pw;have e:(JL n es).getD j 0=c:=pw;show _∈Rb _ _ _↔_
 grind [ah]
theorem vC (h:(vq n es)[i]?=some b) (g:(JL n es)[j]?=some c) (ha:rG (c:Int) b=true):Jp (bU (vq n es).length (mR n es).ls) i ((vq n es).length+j):=by
 left;refine aae.2 ⟨_,(link_in h g).2 ha,?_⟩
 grind
theorem tj (hR:bX ⟨(n:Int),es⟩) (e:v<n) {b c:List Pr} (h:(vq n es)[j]?=some b) (g:(vq n es)[k]?=some c) (hb:rG (v:Int) b=true) (a:rG (v:Int) c=true):Pu (bU (vq n es).length (mR n es).ls) j k:=by
 by_cases ne:j=k
 .grind [Pu.refl]
 obtain⟨m,d⟩:=NF hR e h g hb a ne;exact(aa3 (vC h d hb)).trans (aa3 (vC g d a)).symm
theorem fW (hR:bX ⟨(n:Int),es⟩) (q:u<n) (l:Pu es u v):∀{j k:Nat} {b c:List Pr},(vq n es)[j]?=some b->(vq n es)[k]?=some c->rG (u:Int) b=true->rG (v:Int) c=true->Pu (bU (vq n es).length (mR n es).ls) j k:=by
 have f:=hR.GD
 induction l with
 |refl _=>grind [tj]
 |@step w x _ a _ o=>
  intro j k b c h g hb e;obtain⟨m,d,i,hd,_⟩:=Zg hR (H4 f a);have p:rG (w:Int) d=true:=at_mem hd zo;have h2:rG (x:Int) d=true:=at_mem hd (by rw[so];exact zo);exact(o h i hb p).trans (tj hR (a.lt f).2 i g h2 e)
theorem ae5 (hR:bX ⟨(n:Int),es⟩) (k:JoinG n es):Lk (vq n es).length ((vq n es).length+(JL n es).length) (mR n es).ls:=by
 have o:=hR.GD;have f:=u5 hR k.1;have y:=XF hR;have e:∀i b,(vq n es)[i]?=some b->∃a c:Nat,((a:Int),(c:Int))∈b/\a<n/\rG (a:Int) b=true:=fun i b hb=>by
  obtain⟨p,l,rfl⟩:=EP (y.ne b (Gc hb));obtain⟨a,c,rfl,z,q,_⟩:=ends o (X5 hb N8)
  grind [at_mem,AN]
 have blk:∀i,i<(vq n es).length->Pu (bU (vq n es).length (mR n es).ls) 0 i:=fun i hi=>by
  have r:(vq n es)[i]?=some (vq n es)[i]:=XJ hi;have w:(vq n es)[0]?=some (vq n es)[0]:=XJ f;obtain⟨a,_,_,ha,ea⟩:=e _ _ w;obtain⟨c,_,_,s,A⟩:=e _ _ r;exact fW hR ha (uh k.2 ha s) w r ea A
 refine⟨NH,?_,fun p B=>?_,fun v F=>?_⟩
 .have G := tZ o
  have H:(mR n es).ls.length=((JL n es).map (Sq n es)).sum:=by
   show(Rb _ _ _).length=_;rw[Er _ _ _ (Ny _),aC];rfl
  have r:((Es n es).filter fun h=>decide (0<Sq n es h)).length=1:=by
   obtain⟨x,C⟩:=qL177.1 k.2;have t:x∈Es n es:=by rw[C];simp
   have D:=(QO.1 t).1;obtain⟨p,l,rfl⟩:=EP k.1
   grind [ends,List.mem_cons_self,HJ,FV,uh]
  omega
 .obtain ⟨i, j, hi, E, _, rfl⟩ := (ah _).1 B
  exact⟨Ma,pw,Ma,pw⟩
 .by_cases hb : v < (vq n es).length
  .grind
  obtain⟨j,rfl⟩:∃j,v=(vq n es).length+j:=⟨v-(vq n es).length,NH⟩;have u:j<(JL n es).length:=NH;have s:(JL n es)[j]?=some (JL n es)[j]:=XJ u;obtain⟨q,g⟩:=(OI o _).1 (Gc s);obtain⟨a,_,ha,_⟩:=g;obtain⟨m,d,I,hd,_⟩:=Zg hR (H4 o ha)
  grind [at_mem,zo,Cn.trans,aa3,vC]
end
end Go.Fw
namespace Go.Fw
open Go.Proofs
attribute [local instance] Classical.propDecidable
def JS {a j:Nat} (h:j<a):a-(j+1)<a-j:=NH
section
variable {n : Nat} {es : List Pr} {rs : List (List Int)}
end
end Go.Fw
namespace Go.Fw
open Go.Proofs
attribute [local instance] Classical.propDecidable
section
variable {α β : Type} [DecidableEq α]
end
section
variable {n : Nat} {es : List Pr} {rs : List (List Int)}
noncomputable def IN (n:Nat) (rs:AM):AM:=(vf n (Xl rs)).map kz
end
end Go.Fw
namespace Go.Fw
section
attribute [local irreducible] Kp MQ lU rS KO KN KX KE VK Kl ZJ TC aaa
attribute [local irreducible] IN
open Go.Proofs
variable {M:Nat} {h:AHeap}
def tm_nat (a b:Nat):((a:Int)).tmod (b:Int)=((a%b:Nat):Int):=rfl
def SA {l:List (Pr×Int)} (a:h.own M=some (.map (wy l))) (k:Pr):aLookupA Tryz.prog h 88 (.map (some M)) (UI k) false=some (.int .i64 ((lookK l k).getD 0)):=Il a k false
end
section
attribute [local instance] Classical.propDecidable
open Go.Proofs
variable {L:RZ} {T i n:Nat} {es:List Pr} {h hh:AHeap}
noncomputable def VF {α:Type} (P:Nat->α->Prop) (l:List α) (a:Nat):Nat:=(l.filter fun e=>decide (P a e)).length
noncomputable def Gn (es l:List Pr) (a:Nat):Nat:=VF (fun a (e:Pr)=>Pu es a e.1.toNat) l a
noncomputable def sA (es:List Pr) (l:AM) (a:Nat):Nat:=VF (fun a (f:RZ)=>Pu es a (f.headD 0).toNat) l a
def z8 (n:Nat) (es:List Pr) (rs:AM):Prop:=∀a∈Es n es,0<Gn es es a->(Ic n es a).length+sA es (IN n rs) a=Gn es es a+2
theorem JE {r:Nat->II} (R:V7 n r) {d:H8} (hd:d∈dl n r):(kz (zu r d)).headD 0=(d.1:Int)/\0<(kz (zu r d)).length:=by
 have:=(aax (TG R) hd).1;have e:List.range (bt (Nv r) d)=0::(List.range' 1 (bt (Nv r) d-1)):=by rw[List.range_eq_range',show bt (Nv r) d=(bt (Nv r) d-1)+1 from by omega,aeI];simp
 refine⟨?_,by grind [kz,zu,AA]⟩;simp only[kz,zu,AA,e,j3,sD];rfl
theorem Uj {rs:AM} (a:aV n es) (ha:D3 es) (G:Av n es rs) {f:RZ} (hf:f∈IN n rs):0<f.length/\∃v:Nat,v<n/\f.headD 0=(v:Int):=by
 have R:=G.jD a ha;rw[IN,aae]at hf
 grind [vf.eq_1,gQ,dl,IP,JE]
def stI (o:hh.own T=some (.cells (Bp L))) (hi:i<L.length) (x:Int):
  aStore Tryz.prog hh 3 (.pointer (some ⟨T,i,none⟩)) (.int .i64 x)=some (hh.put T (.cells (Bp (L.set i x)))):=by rw[QB (P:=Tryz.prog) (t:=3) (x:=.int .i64 x) Mb Ji o (off:=i) (by rw[uE];exact hi) rfl rfl,yy]
def XP {l:Int} (o:hh.own T=some (.cells (Bp L))) (a:L[i]?=some l):aload Tryz.prog hh 3 ⟨T,i,none⟩=some (.int .i64 l):=by rw[Fq Mb rfl o];simp[Bp,a]
def Kx (T m:Nat) (k:IntKind) (j:Nat) (a:j<m):aIndexAddr Tryz.prog 49 (.slice (some ⟨T,0,none⟩) m m) (.int k j)=some (.pointer (some ⟨T,j,none⟩)):=by rw[Wc Ac Mb Ji j a];simp[Ip]
structure NewT3 (h h':AHeap) (A B C:Nat) (x:List Value):Prop where
 le:Le h h'
 wf:WF h'
 oA:h'.own A=some (.cells x)
 oB:h'.own B=some (.cells x)
 oC:h'.own C=some (.cells x)
 nA:h.own A=none
 nB:h.own B=none
 nC:h.own C=none
 ab:A≠B
 ac:A≠C
 bc:B≠C
theorem new3 (hw:WF h) (x:List Value):NewT3 h (((h.alloc (.cells x)).alloc (.cells x)).alloc (.cells x)) h.next (h.next+1) (h.next+1+1) x:=by
 have a:∀x,h.next<=x->h.own x=none:=fun x b=>(Le.refl h).next hw b
 have c:h.next+1+1≠h.next:=NH
 have d:h.next+1+1≠h.next+1:=NH
 have e:h.next+1≠h.next:=NH
 exact⟨(((Le.refl h).alloc hw _).alloc (hw.alloc _) _).alloc ((hw.alloc _).alloc _) _,((hw.alloc _).alloc _).alloc _,by grind [Mh],by simp[Mh,om],by simp[Mh,om],a _ (Ny _),a _ NH,a _ NH,NH,NH,NH⟩
end
end Go.Fw
