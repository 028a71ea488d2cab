/- A text. -/
import Derived.Test.YtkccdnmaaelbiaaGreatFwLZ7
import Derived.Test.YtkccdnmaaelbiaaGreatFwLBR
set_option linter.all false
set_option maxRecDepth 99999
set_option maxHeartbeats 9999999
namespace Go.Fw
section
open Go.Proofs
def fT (v:Value) (i:Nat):Addr:=elemAddr v (i*3)
def uy (h:AHeap):aAlloc Tryz.prog h 38=some (.pointer (some ⟨h.next,0,none⟩),h.alloc (.cells [.int .i64 0,.int .i64 0])):=rfl
variable {es:List Pr}
structure AtS (n:Int) (es:List Pr) (bs:List (List Pr)):Prop where
 ne:∀b∈bs,b≠[]
 right:∀b∈bs,bX ⟨n,b⟩
 q9:∀(i:Nat) b b' p q,bs[i]?=some b->bs[i+1]?=some b'->b[0]?=some p->b'[0]?=some q->p.1<q.1\/p.1=q.1/\p.2<q.2
 mem:∀b∈bs,∀p∈b,p∈es
 TE:∀(i j:Nat) b b' p,bs[i]?=some b->bs[j]?=some b'->p∈b->p∈b'->i=j
 all:∀p∈es,∃b∈bs,p∈b
 len:bs.length<=1000
def Met (bs:List (List Pr)) (i j:Nat) (p:Pr) (x:Int):Prop:=∃(k:Nat) (b:List Pr),bs[k]?=some b/\x=(k:Int)/\(k<i/\p∈b\/k=i/\p∈b.take j)
theorem bX.nodup {n:Int} (h:bX ⟨n,es⟩):es.Nodup:=by
 have hA:=h.q9;rw[List.Nodup,ff];intro i j hi b a e;have:=hA.lt a (BS hi) (BS b)
 grind
end
variable {b es fs:List Pr} {i n:Nat} {p:Pr}
theorem Nl:D3 es↔es.Pairwise fun x y=>x.1<y.1\/x.1=y.1/\x.2<y.2:=by
 rw[ff];constructor
 .intro ha i j hi b a;exact ha.lt a (BS hi) (BS b)
 .intro h i j p q a hi b
  obtain⟨e,c⟩:=Ny.1 hi;obtain⟨f,d⟩:=Ny.1 b;rw[Hv,<-c,<-d];grind
theorem bX.of (a:n<=200) (c:es.length<=594) (d:aV n es) (ha:D3 es):bX ⟨(n:Int),es⟩:=
 ⟨Ma,pw,c,fun i hi p b=>⟨d p (Gc b),fun q f e=>ha (i-1) i q p NH e b⟩⟩
theorem bX.sub (h:bX ⟨(n:Int),es⟩) (hs:fs.Sublist es):bX ⟨(n:Int),fs⟩:=
 bX.of (by have:(n:Int)<=200:=h.n1;omega) (Db hs.length_le h.len) (fun p a=>h.GD p (hs.subset a)) (Nl.2 ((Nl.1 h.q9).sublist hs))
theorem Jh (h:(vq n es)[i]?=some b):∃k,(CY (cQ n es) es)[i]?=some k/\b=es.filter fun p=>decide (cQ n es p=k):=by grind [Tm]
theorem sh (h:(vq n es)[i]?=some b) {k:Int} (a:(CY (cQ n es) es)[i]?=some k):p∈b↔p∈es/\cQ n es p=k:=by grind [Jh]
theorem XF (m:bX ⟨(n:Int),es⟩):AtS (n:Int) es (vq n es):=by
 obtain⟨nd,d⟩:=lQ (cQ n es) _ es rfl;have o:∀b∈vq n es,b≠[]:=fun b hb=>by
  obtain⟨i,hi⟩:=IE.1 hb;obtain⟨k,l,rfl⟩:=Jh hi;obtain⟨p,a,e⟩:=(d k).1 (Gc l);intro h;have:p∈es.filter fun p=>decide (cQ n es p=k):=Tn.2 ⟨a,by simpa using e⟩
  grind
 refine⟨o,fun b hb=>?_,fun i b C p q hb sZ a D=>?_,fun b hb p a=>?_,fun i j b C p hb sZ a E=>?_,fun p a=>?_,?_⟩
 .grind [List.mem_iff_getElem?,Jh,bX.sub,List.filter_sublist]
 .obtain ⟨k, l, e⟩ := Jh hb
  obtain⟨F,f,e'⟩:=Jh sZ;obtain⟨x,r,s,h2,h3⟩:=Iq (cQ n es) _ es rfl i (i+1) k F NH l f;have g:=(sh sZ f).1 (Gc D);obtain⟨y,B⟩:=IE.1 g.1;have u:=h3 y q B g.2;have v:=m.q9.lt u s B;have c:r∈b:=(sh hb l).2 ⟨Gc s,h2⟩;have w:b.Pairwise fun x y=>x.1<y.1\/x.1=y.1/\x.2<y.2:=by rw[e];exact(Nl.1 m.q9).filter _
  cases b with
  |nil=>cases c
  |cons z t=>
   simp at a;subst a;rw[pM]at w;rw[vZ]at c;rcases c with rfl|c
   .exact v
   grind
 .grind [List.mem_iff_getElem?,Jh]
 .grind [Jh,List.getElem?_inj]
 .obtain ⟨i, hi⟩ := IE.1 ((d _).2 ⟨p, a, rfl⟩)
  have A:(vq n es)[i]?=some (es.filter fun q=>decide (cQ n es q=cQ n es p)):=by grind [Tm]
  exact⟨_,Gc A,Tn.2 ⟨a,Ma⟩⟩
 .rw [Tm, QD]
  have s:(CY (cQ n es) es).length<=(es.map (cQ n es)).length:=nd.length_le_of_subset fun x G=>by grind
  have h2:es.length<=594:=m.len
  grind
theorem Zg (d:bX ⟨(n:Int),es⟩) (e:p∈es):∃(k:Nat) (b:List Pr),(vq n es)[k]?=some b/\p∈b/\Met (vq n es) (vq n es).length 0 p (k:Int):=by
 obtain⟨b,hb,a⟩:=(XF d).all p e;obtain⟨k,c⟩:=IE.1 hb;exact⟨k,b,c,a,k,b,c,rfl,.inl ⟨(Ny.1 c).1,a⟩⟩
def AN (v:Int) (p:Pr):Bool:=decide (p.1=v)||decide (p.2=v)
def woV (es:List Pr) (v:Nat):List Pr:=es.filter fun p=>!AN (v:Int) p
theorem rI {v x y:Nat}:Jp (woV es v) x y↔Jp es x y/\x≠v/\y≠v:=by grind [Jp,woV,AN]
theorem woV_con {v a b:Nat} (ha:a≠v):Pu (woV es v) a b↔Cn (wo v) es a b:=by
 constructor
 .intro h
  induction h with
  |refl _=>exact .refl (iO ha)
  |step _ a _ d=>exact d.step (rI.1 a).1 (iO (rI.1 a).2.2)
 .intro h
  induction h with
  |refl _=>grind [Pu.refl]
  |step c a o d=>exact .step d (rI.2 ⟨a,by grind [Cn.AB],pw⟩) rfl
theorem ends (e:aV n es) (d:p∈es):∃a c:Nat,p=((a:Int),(c:Int))/\a<c/\c<n/\Jp es a c:=by
 have b:=e p d;obtain⟨x,y⟩:=p;simp only at b;obtain⟨a,rfl⟩:=WA b.1;obtain⟨c,rfl⟩:=WA (show 0<=y by omega);exact⟨a,c,rfl,NH,NH,.inl d⟩
section
open Go.Proofs
def Ct (v:Value) (n:Nat):Prop:=∃a cap,v=.slice a n cap/\((cap<RA/\n<=cap)\/(cap=RA+2/\a.isSome))
def GRC (h:AHeap) (v:Value) (G:GM):Prop:=∃ev,v=.agg #[.int .i64 G.n,ev]/\PR h ev G.es/\Ct ev G.es.length
theorem za (ps:List Pr) (i:Nat):Iu (ps.drop i)=(Iu ps).drop (i*2):=by
 induction ps generalizing i with
 |nil=>simp[Iu]
 |cons p ps a=>
  cases i with
  |zero=>simp[Iu]
  |succ i=>
   have e:Iu (p::ps)=.int .i64 p.1::.int .i64 p.2::Iu ps:=rfl
   grind
variable {es:List Pr} {l:II} {x:Nat}
theorem KH {v x:Nat} (h:Pu es v x) (d:x≠v):∃a,Jp es v a/\Pu (woV es v) a x:=by
 induction h with
 |refl _=>grind
 |@step w x c a _ f=>
  by_cases e:w=v
  .grind [Pu.refl]
  .obtain ⟨b, hb, g⟩ := f e
   exact⟨b,hb,.step g (rI.2 ⟨a,e,d⟩) rfl⟩
theorem MS {α:Type} (p:α->Bool):∀(l:List α),l.length=(l.filter p).length+(l.filter fun x=>!p x).length
 |[]=>rfl
 |x::l=>by
  have:=MS p l
  grind
theorem Cq (nd:l.Nodup) (c:x∈l) (h:∀y∈l,y=x):l.length=1:=by
 cases l with
 |nil=>cases c
 |cons a l=>
  cases l with
  |nil=>rfl
  |cons b l=>
   have d:=h a Ma;have h2:=h b Ma
   grind
variable {n:Nat} {p:Pr}
def jo (p:Pr) (v:Int):Int:=if p.1=v then p.2 else if p.2=v then p.1 else-1
theorem XH (f:aV n es) (g:p∈es) (v:Nat):
  (∃a:Nat,a<n/\jo p (v:Int)=(a:Int)/\Jp es v a/\p=GW v a)\/(jo p (v:Int)=-1/\∀a,p≠GW v a):=by
 obtain⟨a,c,rfl,h,i,d⟩:=ends f g;unfold jo;by_cases j:a=v
 .grind [bj]
 .by_cases h2 : c = v
  .grind [Jp.symm,bj]
  .refine .inr ⟨pw, fun b e => ?_⟩
   grind [bj]
end
end Go.Fw
namespace Go.Fw
open Go.Proofs Go.ChangeShapes Go.WideShapes Go.RowKit Go.ChangeAt
open Go.Proofs.YtkccdnmaaelbiaaGreat
section
variable {H : Type} {enc : TypeId × Value → H} {W : World}
theorem rd_room {e:TypeId} {t:TypeId} {fuel:Nat} {cs:List Value} {x:DataW H×List MemPlace} {v' v:Value} (f:Tryz.prog.underlying t=some (.slice e)) (h:DataW.trod enc Tryz.prog W 0 (fun _=>true) true fuel t cs=some x) (c:cs=[v']) (d:tag v'=some v):
  ∃a n cap,v=.slice a n cap/\cap<RA/\n<=cap:=by
 rcases Go.Deep.open_slice f h with⟨rfl,_⟩|⟨a,len,cap,m,n,D,j,rfl,hb,l,g,i,_,o⟩
 .injection c with c; subst c
  have d:some (Value.slice none 0 0)=some v:=d;injection d with d;exact⟨none,0,0,d.symm,WY,vT _⟩
 .injection c with c; subst c
  have p:cap<RA:=Ua g WY;obtain⟨b,off,sp⟩:=a;cases sp with
  |none=>
   grind [tag]
  |some k=>
   unfold tag at d
   grind
theorem Ia {v:Value} {d:DataW H} {ps:List MemPlace} {b0:Nat} (c:Value.okWide Tryz.prog W .any b0 24 v) (h:DataW.Trod enc Tryz.prog W 0 (fun _=>true) true 24 v d ps) (m:rC):
  ∃u G,VR 0 m u v/\GRC (MR W) u G:=by
 obtain⟨fuel,h⟩:=h;simp only[Value.okWide,pE]at c;obtain⟨cs,rfl,e,_⟩:=c;have g:Tryz.prog.cellsOf 24=2:=Ji;have s:Tryz.prog.cellsOf 3=1:=Ji;have j:Tryz.prog.cellsOf 22=1:=Ji;obtain⟨l⟩:=cs;rw[g]at e
 match l,e with
 |[x,y],_=>
  obtain⟨y0,y1,n,-,-,q,o⟩:=trod_struct2 pE h;simp only[s,j,Value.cells,LN,List.drop_succ_cons,List.take_succ_cons,SR,List.drop_nil,List.take_nil]at q o;obtain⟨a,ea,_,_⟩:=DataW.trod_int Ac q;obtain⟨v',v,V,f,t1,r⟩:=BE o;obtain⟨t,k,cap,rfl,w,z⟩:=rd_room Uh o f t1;injection ea with ea;injection f with f;subst ea f;obtain⟨_,_,p,_⟩:=r.sl;injection p with _ p _;refine⟨_,⟨a,V⟩,?_,_,rfl,r,t,cap,by rw[p],.inl ⟨w,pw⟩⟩;refine .agg Ma fun i a b ha hb=>?_
  match i with
  |0=>simp at ha hb;subst ha hb;exact .flat rfl
  |1=>grind [VR.jC]
  |i+2=>simp at ha
end
end Go.Fw
namespace Go.Fw
section
open Go.Proofs
variable {a n v:Nat} {es:List Pr} {k:Int} {p:Pr} {α:Type}
theorem Yt {l:List α} (nd:l.Nodup):1<l.length↔∃x y,x∈l/\y∈l/\x≠y:=by
 constructor
 .intro h
  match l,h with
  |x::y::r,_=>
   rw[iy]at nd;exact⟨x,y,Ma,Ma,fun e=>nd.1 (by rw[e];simp)⟩
 .rintro ⟨x, y, c, f, d⟩
  match l with
  |[]=>cases c
  |[a]=>grind
  |a::b::r=>simp
def rG (v:Int) (b:List Pr):Bool:=b.any (AN v)
theorem Tf (b:aV n es) (c:p∈es) (h:AN (v:Int) p=true):∃a,Jp es v a/\p=GW v a:=by
 rcases XH b c v with⟨a,_,_,d,h2⟩|⟨d,_⟩
 .grind
 .have := b p c
  grind [jo,AN]
theorem zo:AN (v:Int) (GW v a)=true:=by grind [AN,GW]
theorem KQ (b:aV n es):rG (v:Int) (es.filter fun p=>decide (cQ n es p=k))=true↔∃a,Jp es v a/\cQ n es (GW v a)=k:=by grind [rG,Tf,T0,zo]
def Sq (n:Nat) (es:List Pr) (v:Nat):Nat:=((vq n es).filter (rG (v:Int))).length
def I7 (n:Nat) (es:List Pr) (v:Nat):RZ:=(CY (cQ n es) es).filter fun k=>rG (v:Int) (es.filter fun p=>decide (cQ n es p=k))
def JW (n:Nat) (es:List Pr) (v:Nat):Sq n es v=(I7 n es v).length:=by rw[Sq,Tm,yQ,QD];rfl
def PS (n:Nat) (es:List Pr) (v:Nat):(I7 n es v).Nodup:=(lQ (cQ n es) _ es rfl).1.sublist j9
theorem dG (b:aV n es):k∈I7 n es v↔∃a,Jp es v a/\cQ n es (GW v a)=k:=by
 rw[I7,Tn,KQ b];refine⟨fun h=>h.2,fun⟨a,ha,c⟩=>⟨((lQ (cQ n es) _ es rfl).2 k).2 ⟨_,T0 b ha,c⟩,a,ha,c⟩⟩
theorem YH (d:aV n es) (v:Nat):1<Sq n es v↔Fo.iE es v:=by
 rw[JW,Yt (PS n es v)];constructor
 .rintro ⟨x, y, g, h, f⟩
  obtain⟨a,ha,rfl⟩:=(dG d).1 g;obtain⟨b,hb,rfl⟩:=(dG d).1 h;exact⟨a,b,ha,hb,fun c=>f ((dR d ha hb).2 c)⟩
 .rintro ⟨a, b, ha, hb, i⟩
  exact⟨_,_,(dG d).2 ⟨a,ha,rfl⟩,(dG d).2 ⟨b,hb,rfl⟩,fun e=>i ((dR d ha hb).1 e)⟩
end
end Go.Fw
namespace Go.Fw
open Go.Proofs
namespace Fo
variable {n : Nat} {es : List Pr} {num : Nat → Nat} {up : Nat → Option Nat} {hd : Nat → Nat}
theorem Io {a b:Nat} (h:pJ up a b) (ne:a≠b):up b≠none:=by grind [pJ.last]
def beg (n:Nat) (up:Nat->Option Nat) (hd:Nat->Nat):II:=(List.range n).filter fun c=>decide (up c≠none/\hd c=c)
theorem AF {c:Nat}:c∈beg n up hd↔c<n/\up c≠none/\hd c=c:=by simp[beg]
theorem Ky:(beg n up hd).Nodup:=K4.sublist j9
def JB (n:Nat) (up:Nat->Option Nat) (hd:Nat->Nat) (v:Nat):II:=(beg n up hd).filter fun c=>decide (up c=some v)
theorem mF (F:Fo n es num up) (H:RQ n es num up hd) {v:Nat} (i:v<n) (c:Nat):(∃a,Jp es v a/\hd (lower num v a)=c)↔c∈JB n up hd v\/(up v≠none/\c=hd v):=by
 rw[JB,Tn,AF,decide_eq_true_eq];constructor
 .rintro ⟨a, ha, rfl⟩
  have j:=F.JD ha;have f:=(ha.lt F.rD).2;unfold lower;by_cases q:num a<num v
  .rw [if_pos q]
   exact .inr ⟨Io (F.iA a v ha.symm q) (fun e=>by grind),rfl⟩
  .rw [if_neg q]
   obtain⟨c,g,b⟩:=(F.iA v a ha NH).child (fun e=>by grind);have d:=(F.yO b f).1;rw[F.zP H g b ha];by_cases hb:ym es num up v c
   all_goals grind [Fo.CJ,Fo.Io,Fo.RQ.on,Fo.RQ.new]
 .rintro (⟨⟨d, _, hh⟩, g⟩ | ⟨h, rfl⟩)
  .obtain ⟨k, h2⟩ := F.Kd c v d g
   grind [Fo.lower]
  .obtain ⟨u, h⟩ := xD.1 h
   obtain⟨k,h2⟩:=F.Kd v u i h
   grind [Jp.symm,Fo.lower]
theorem Zc (F:Fo n es num up) (H:RQ n es num up hd) {v:Nat} (a:v<n):hd v∉JB n up hd v:=by
 intro h;rw[JB,Tn,AF,decide_eq_true_eq]at h;have b:=(F.US H (num v) v (vT _) a).1;have h2:=(F.Kd _ v h.1.1 h.2).2
 grind [Fo.yO]
end Fo
open Classical in
theorem incN_eq {n:Nat} {es:List Pr} {num:Nat->Nat} {up:Nat->Option Nat} (S:dp n es (Jz n es).1 (Jz n es).2 num up) {v:Nat} (d:v<n):
  Sq n es v=(Fo.JB n up (Cl n es) v).length+(if up v=none then 0 else 1):=by
 have F:=S.fo;have H:=(FY S).1;have g:=F.rD;have e:∀k:Int,k∈I7 n es v↔∃c:Nat,k=(c:Int)/\(c∈Fo.JB n up (Cl n es) v\/(up v≠none/\c=Cl n es v)):=by
  intro k;rw[dG g];constructor
  .rintro ⟨a, ha, rfl⟩
   exact⟨_,jm S ha,(F.mF H d _).1 ⟨a,ha,rfl⟩⟩
  grind [Fo.mF,jm]
 have b:(Fo.JB n up (Cl n es) v).Nodup:=Fo.Ky.sublist j9;rw[JW];by_cases f:up v=none
 .rw [if_pos f]
  have:(I7 n es v).Perm (kz (Fo.JB n up (Cl n es) v)):=(oZ (PS n es v) (by grind [kz.eq_1])).2 fun k=>by grind [kz.eq_1]
  rw[this.length_eq,y6];rfl
 .rw [if_neg f]
  have h:(Cl n es v::Fo.JB n up (Cl n es) v).Nodup:=iy.2 ⟨F.Zc H d,b⟩;have:(I7 n es v).Perm (kz (Cl n es v::Fo.JB n up (Cl n es) v)):=(oZ (PS n es v) (by grind [kz.eq_1])).2 fun k=>by grind [kz.eq_1]
  grind [List.Perm.length_eq,y6]
theorem VV {n:Nat} {es:List Pr} {num:Nat->Nat} {up:Nat->Option Nat} (S:dp n es (Jz n es).1 (Jz n es).2 num up):(vq n es).length=(Fo.beg n up (Cl n es)).length:=by
 have F:=S.fo;have H:=(FY S).1;have e:=F.rD;obtain⟨l,mk⟩:=lQ (cQ n es) _ es rfl;have:(CY (cQ n es) es).Perm (kz (Fo.beg n up (Cl n es))):=(oZ l (by grind [kz.eq_1,Fo.Ky])).2 fun k=>by
  rw[mk,kz,jf];constructor
  .rintro ⟨p, m, rfl⟩
   obtain⟨a,c,rfl,o,d,b⟩:=ends e m;have q:((a:Int),(c:Int))=GW a c:=by grind [bj]
   have z:=jm S b;have r:=F.JD b;have s:=(b.lt e).1;have f:Fo.lower num a c<n:=by grind [Fo.lower]
   have t:up (Cl n es (Fo.lower num a c))≠none:=by
    have key:=fun x y g h=>F.link H (fun _ _=>()) (fun _ _=>rfl) (fun _ _ _ _ _ _=>rfl) (num x) x y (vT _) g h
    grind [Fo.lower,Jp.symm]
   have v:=F.US H _ (Fo.lower num a c) (vT _) f
   grind [Fo.AF,Fo.yO]
  .rintro ⟨c, w, rfl⟩
   obtain⟨d,i,hh⟩:=Fo.AF.1 w;obtain⟨u,i⟩:=xD.1 i;obtain⟨j,h2⟩:=F.Kd c u d i;refine⟨GW c u,T0 e j.symm,?_⟩;rw[jm S j.symm]
   grind [Fo.lower]
 grind [Tm,List.Perm.length_eq,y6]
end Go.Fw
namespace Go.Fw
open Go.Proofs
theorem sum_add (f g:Nat->Nat):∀l:II,(l.map fun x=>f x+g x).sum=(l.map f).sum+(l.map g).sum
 |[]=>rfl
 |x::l=>by simp only[im,MA,sum_add f g l];omega
theorem Zl (u:Nat):∀n,((List.range n).map fun v=>if u=v then 1 else 0).sum=if u<n then 1 else 0
 |0=>rfl
 |n+1=>by
  rw[AQ,b5,List.sum_append,Zl u n];simp only[im,List.map_nil,MA,List.sum_nil]
  grind
def Rp:∀n,((List.range n).map fun _=>0).sum=0
 |0=>rfl
 |n+1=>by rw[AQ,b5,List.sum_append,Rp n];rfl
theorem Lz (n:Nat) (up:Nat->Option Nat):∀(l:II),(∀c∈l,∃u,up c=some u/\u<n)->((List.range n).map fun v=>(l.filter fun c=>decide (up c=some v)).length).sum=l.length
 |[],_=>by
  simp only[QU,Jj];exact Rp n
 |c::l,h=>by
  obtain⟨u,b,f⟩:=h c Ma;have g:=Lz n up l fun d a=>h d (by simp[a])
  have e:(fun v=>((c::l).filter fun c=>decide (up c=some v)).length)=fun v=>(l.filter fun c=>decide (up c=some v)).length+(if u=v then 1 else 0):=pw
  grind [sum_add,Zl]
theorem Sv (p:Nat->Prop) [DecidablePred p]:∀l:II,(l.map fun v=>if p v then 0 else 1).sum=(l.filter fun v=>decide (¬p v)).length
 |[]=>rfl
 |x::l=>by
  rw[im,MA,Sv p l,Po]
  grind
theorem yA (inc:Nat->Nat):∀l:II,(l.map inc).sum+(l.filter fun v=>decide (1<inc v)).length=((l.filter fun v=>decide (1<inc v)).map inc).sum+(l.filter fun v=>decide (0<inc v)).length
 |[]=>rfl
 |x::l=>by
  have a:=yA inc l
  grind
theorem Yu {A B:II} {R:Nat->Nat->Prop} (c:A.Nodup) (h:∀a∈A,∃b∈B,R a b) (inj:∀a∈A,∀a'∈A,∀b,R a b->R a' b->a=a'):A.length<=B.length:=by
 classical
 let f:Nat->Nat:=fun a=>if h:∃b∈B,R a b then Classical.choose h else 0
 have hf:∀a∈A,f a∈B/\R a (f a):=fun a ha=>by grind
 have nd:(A.map f).Nodup:=by grind [List.Pairwise.imp_of_mem]
 have:=nd.length_le_of_subset (l₂:=B) (fun x d=>by grind)
 grind
namespace Fo
variable {n : Nat} {es : List Pr} {num : Nat → Nat} {up : Nat → Option Nat}
def root_ex (F:Fo n es num up):∀(k v:Nat),num v<=k->v<n->∃r,r<n/\up r=none/\pJ up r v/\Pu es r v:=by
 intro k
 induction k with
 |zero=>
  intro v d b;cases a:up v with
  |none=>exact⟨v,b,a,.refl v,Pu.refl _ _⟩
  |some u=>have:=(F.Kd v u b a).2;omega
 |succ k e=>
  intro v d b;cases a:up v with
  |none=>exact⟨v,b,a,.refl v,Pu.refl _ _⟩
  |some u=>
   obtain⟨c,h2⟩:=F.Kd v u b a;obtain⟨r,f,h3,g,h⟩:=e u NH (c.lt F.rD).1;exact⟨r,f,h3,g.step a,.step h c rfl⟩
theorem Sp (F:Fo n es num up) {r u v:Nat} (a:up r=none) (h:pJ up r u) (c:Pu es u v):pJ up r v:=by
 induction c<;>grind [Fo.JD,pJ.trans,Fo.iA,Jp.symm,pJ.chain,Fo.Io]
theorem xd (F:Fo n es num up) {r s:Nat} (a:up r=none) (hs:up s=none) (c:Pu es r s):r=s:=by
 have h:=F.Sp a (.refl r) c
 grind [Fo.Io]
end Fo
open Classical in
theorem HJ {n:Nat} {es:List Pr} (b:aV n es) {v:Nat}:0<Sq n es v↔∃a,Jp es v a:=by
 rw[JW,List.length_pos_iff_exists_mem];constructor
 .grind [dG]
 .rintro⟨a,ha⟩;exact⟨_,(dG b).2 ⟨a,ha,rfl⟩⟩
theorem FV {es:List Pr} {u v:Nat} (h:Pu es u v) (ne:u≠v):(∃a,Jp es u a)/\∃a,Jp es v a:=by
 constructor
 .induction h<;>grind
 .cases h<;>grind [Jp.symm]
open Classical in
theorem tZ {n:Nat} {es:List Pr} (f:aV n es):
  (vq n es).length+(JL n es).length=((JL n es).map (Sq n es)).sum+((Es n es).filter fun h=>decide (0<Sq n es h)).length:=by
 obtain⟨num,up,S⟩:=Ob f;have F:=S.fo;have l:JL n es=(List.range n).filter fun v=>decide (1<Sq n es v):=by grind [JL.eq_1,List.filter_congr,YH,Cv]
 have i:=yA (Sq n es) (List.range n);rw[<-l]at i;have h2:((List.range n).map (Sq n es)).sum=(Fo.beg n up (Cl n es)).length+((List.range n).filter fun v=>decide (¬up v=none)).length:=by
  have e:(List.range n).map (Sq n es)=(List.range n).map fun v=>(Fo.JB n up (Cl n es) v).length+(if up v=none then 0 else 1):=
   Lm fun v g=>incN_eq S (fR.1 g)
  rw[e,sum_add,Sv (fun v=>up v=none)];congr 1;exact Lz n up _ fun c j=>by
   obtain⟨k,d,_⟩:=Fo.AF.1 j;obtain⟨u,d⟩:=xD.1 d;exact⟨u,d,((F.Kd c u k d).1.lt f).1⟩
 have h3:=MS (fun v=>decide (¬up v=none)) ((List.range n).filter fun v=>decide (0<Sq n es v));rw[Q9,Q9]at h3;have m:(List.range n).filter (fun v=>decide (¬up v=none)&&decide (0<Sq n es v))=(List.range n).filter fun v=>decide (¬up v=none):=by
  refine j3 fun v g=>?_;rw[fR]at g;by_cases q:up v=none
  .simp[q]
  .obtain ⟨u, d⟩ := xD.1 q
   have:0<Sq n es v:=(HJ f).2 ⟨u,(F.Kd v u g d).1.symm⟩;simp[this]
 rw[m]at h3;have w:((List.range n).filter fun v=>(!decide (¬up v=none))&&decide (0<Sq n es v)).length=((Es n es).filter fun h=>decide (0<Sq n es h)).length:=by
  have o:∀v,v∈((List.range n).filter fun v=>(!decide (¬up v=none))&&decide (0<Sq n es v))↔v<n/\up v=none/\0<Sq n es v:=fun v=>by simp
  have p:∀v,v∈((Es n es).filter fun h=>decide (0<Sq n es h))↔v∈Es n es/\0<Sq n es v:=fun v=>by simp
  have move:∀{a b:Nat},Pu es a b->0<Sq n es a->0<Sq n es b:=fun{a b} c h=>by
   by_cases e:a=b
   all_goals grind [HJ,FV]
  refine Nat.le_antisymm ?_ ?_
  .refine Yu (R := fun a b => Pu es a b) (K4.sublist j9) (fun a ha => ?_) (fun a ha a' mi b i h2 => ?_)
   .obtain ⟨k1, k2, s⟩ := (o a).1 ha
    obtain⟨h,hh,j⟩:=B6 f a k1
    grind [Cn.symm]
   grind [Fo.xd,Cn.trans,Cn.symm]
  .refine Yu (R := fun a b => Pu es a b) ((qD n es).sublist j9) (fun a ha => ?_) (fun a ha a' mi b i h2 => ?_)
   .obtain ⟨k1, s⟩ := (p a).1 ha
    obtain⟨r,t,x,y,j⟩:=F.root_ex (num a) a (vT _) (QO.1 k1).1
    grind [Cn.symm]
   grind [rf,Cn.trans,Cn.symm]
 grind [VV]
end Go.Fw
