/- A text. -/
import Derived.Test.YtkccdnmaaelbiaaGreatFwLI1
set_option linter.all false
set_option maxRecDepth 99999
set_option maxHeartbeats 9999999
namespace Go.Fw
open Go.Proofs
attribute [local instance] Classical.propDecidable
theorem WV {F:Cs} {Fm:RZ} {c:II} {i:Nat}:i∈zh F Fm c↔i∈c/\∀x∈Fm,x.toNat∈F.getD i []:=by grind [zh,lD]
theorem Pe (on:List Bool) (way:II):(tV on way).length=on.length:=by
 unfold tV
 induction way generalizing on<;>grind
theorem mQ {v:Nat}:∀(way:II) (on:List Bool),v<on.length->(Wg (tV on way) v=true↔Wg on v=true\/v∈way)
 |[],on,_=>by simp[tV]
 |w::way,on,h=>by
  have e:tV on (w::way)=tV (on.set w true) way:=rfl;rw[e,mQ way _ pw]
  grind
def kY (F:Cs) (f:Nat) (way:II):Cs:=F.set f (Ee (F.getD f []) way)++[kP (F.getD f []) way]
def Yz {F:Cs} {f:Nat} {way:II}:(kY F f way).length=F.length+1:=by simp[kY]
theorem qw {F:Cs} {f i:Nat} {way:II} (hf:f<F.length):(kY F f way).getD i []=if i=f then Ee (F.getD f []) way else if i=F.length then kP (F.getD f []) way else F.getD i []:=by grind [kY]
theorem dg {a b v:Nat} {A inn:II}:v∈half a A b inn↔v=a\/v∈A\/v=b\/v∈inn:=by grind [half]
section
variable {n : Nat} {es : List Pr} {H : Nat → Nat → Prop} {F : List (List Nat)} {p q : wW} {a b f : Nat} {inn A B : List Nat}
structure Vf (n:Nat) (es:List Pr) (H:Nat->Nat->Prop) (F:Cs) (p:wW) (a:Nat) (inn:II) (b f:Nat) (A B:II):Prop where
 hR:aV n es
 hA:D3 es
 hs:∀v w,H v w->H w v
 I:PU n (eN n es) H F
 P:EJ n es H F p
 W:Ka (eN n es) H a inn b
 fst:GW a ((inn++[b]).headD 0)∈p.zp
 hf:f<F.length
 cy:Cyc (F.getD f []) ((a::A)++(b::B))
theorem Vf.Rl (L:Vf n es H F p a inn b f A B):V7 n (eN n es):=MG L.hR L.hA
def Vf.hs' (L:Vf n es H F p a inn b f A B):∀v w,XZ H a inn b v w->XZ H a inn b w v:=fun v w h=>h.imp (L.hs v w) Ef
theorem Vf.EI (L:Vf n es H F p a inn b f A B):F.getD f []∈F:=by grind [Vf.hf]
def Vf.Gf (L:Vf n es H F p a inn b f A B):Ee (F.getD f []) (nr a inn b)=half a A b inn/\kP (F.getD f []) (nr a inn b)=half b B a inn.reverse:=_root_.Go.Fw.Gf (L.I.O0 L.EI).1 L.cy
theorem Vf.GN (L:Vf n es H F p a inn b f A B) {v:Nat}:v∈F.getD f []↔v=a\/v∈A\/v=b\/v∈B:=by rw[L.cy.perm.mem_iff];grind
theorem Vf.wM (L:Vf n es H F p a inn b f A B) {i v:Nat} (hi:i=f\/i=F.length) (h:v∈(kY F f (nr a inn b)).getD i []):v∈F.getD f []\/v∈inn:=by
 rw[qw L.hf]at h;rw[L.GN];have hh:=L.Gf
 grind [dg]
theorem Vf.LY (L:Vf n es H F p a inn b f A B) {i:Nat} (c:i≠f) (h2:i≠F.length):(kY F f (nr a inn b)).getD i []=F.getD i []:=by grind [qw,Vf.hf]
theorem Vf.keyK (L:Vf n es H F p a inn b f A B) {x y:Nat} (h:Ay a inn b x y):QI (eN n es) H x y=QI (eN n es) H a ((inn++[b]).headD 0):=L.W.PW L.Rl L.hs h
theorem Vf.Oe (L:Vf n es H F p a inn b f A B) {v:Nat} (h:v∈inn):off (eN n es) H v:=L.W.off v h
theorem Vf.other (L:Vf n es H F p a inn b f A B) (Q:EJ n es H F q) (hd:∀e∈p.zp,e∉q.zp):EJ n es (XZ H a inn b) (kY F f (nr a inn b)) (GF (kY F f (nr a inn b)) f F.length q):=by
 have hR:=L.hR;have d:=L.Rl;have g:∀{v w},GW v w∈q.zp->QI (eN n es) H v w≠QI (eN n es) H a ((inn++[b]).headD 0):=fun{v w} h e=>
  hd _ ((L.P.one _ _ v w (L.P.XB hR L.fst) (Q.XB hR h) L.fst).2 e) h
 have G:∀{v w},GW v w∈q.zp->¬Ay a inn b v w:=by grind [Vf.keyK]
 have o:∀{v w},GW v w∈q.zp->¬XZ H a inn b v w:=by grind [EJ.un]
 have down:∀{v w},Un (eN n es) (XZ H a inn b) v w->Un (eN n es) H v w:=fun h=>⟨h.1,fun e=>h.2 (.inl e)⟩;have j:∀{v},off (eN n es) (XZ H a inn b) v↔off (eN n es) H v/\v∉inn:=fun{v}=>yw L.W d;have z:(GF (kY F f (nr a inn b)) f F.length q).zp=q.zp:=by grind [GF]
 have r:(GF (kY F f (nr a inn b)) f F.length q).Fm=q.Fm:=by grind [GF]
 have s:∀x∈q.Fm,x.toNat∉inn:=fun x l C=>by
  obtain⟨t,rfl⟩:=yY (Q.nat x l)
  grind [Int.toNat_natCast,EJ.Fm,Vf.Oe]
 have D:∀i,(i<F.length+1/\∀x∈q.Fm,x.toNat∈(kY F f (nr a inn b)).getD i [])->i∈q.fits\/(f∈q.fits/\i=F.length):=by grind [EJ.fits,Vf.hf,Vf.wM,Vf.LY]
 have I:∀i,i∈q.fits->i<F.length:=by grind [EJ.fits]
 refine⟨by grind [EJ.ne],by grind [EJ.sub],pw,fun v w x y m l h=>?_,fun u=>?_,by rw[r];exact Q.nat,by grind [EJ.fnd],fun i=>?_,?_⟩
 .rw [z] at h ⊢
  rw[Q.one v w x y (down m) (down l) h];rw[Uu d l.1 m.1,Uu d l.1 m.1];constructor
  .intro k
   exact(((k.symm d).keep L.W d L.hs m.1 (g h))).symm d
  grind [jJ.mono]
 .rw [r, z, Q.Fm u]
  constructor
  .rintro ⟨E, w, h2, h3⟩
   exact⟨pw,w,⟨h2.1,o h3⟩,h3⟩
  .rintro ⟨E, w, h2, h3⟩
   refine⟨fun k=>E (j.2 ⟨k,fun C=>?_⟩),w,down h2,h3⟩;exact g h3 (by rw[L.W.QC d L.hs C,IV d h2.1 (.inl rfl) k])
 .rw [r, Yz]
  by_cases c:f∈q.fits
  .grind [GF,WV]
  .have e : (GF (kY F f (nr a inn b)) f F.length q).fits = q.fits := by grind [GF]
   grind [EJ.fits,Vf.LY]
 .unfold GF
  split
  .refine Ng xD ?_
   grind [EJ.tnd]
  .exact Q.tnd
end
end Go.Fw
namespace Go.Fw
open Go.Proofs
attribute [local instance] Classical.propDecidable
theorem Ou (n:Nat) (way:II):∀i,(KI n way i).length=n
 |0=>by simp[KI]
 |i+1=>by rw[KI,M1,Ou n way i]
theorem Lc {n:Nat} {way:II} (nd:way.Nodup) {v:Nat} (d:v<n):∀i,i<=way.length->
  (∃k:Nat,k<i/\way[k]?=some v/\(KI n way i).getD v 0=(k:Int))\/((∀k,k<i->way[k]?≠some v)/\(KI n way i).getD v 0=-1)
 |0,_=>by grind [KI.eq_1]
 |i+1,hi=>by
  have e:=Lc nd d i NH;have c:way.getD i 0=way[i]:=D4 NH;rw[KI,cA,Ou,c]
  grind
theorem Ph {n a b:Nat} {inn:II} (nd:(nr a inn b).Nodup) {v w:Nat} (s:v<n) (hw:w<n):aI (KI n (nr a inn b) (nr a inn b).length) (GW v w)=true↔¬Ay a inn b v w:=by
 have key:∀{x y:Nat},x<n->y<n->(aI (KI n (nr a inn b) (nr a inn b).length) ((x:Int),(y:Int))=true↔¬Ay a inn b x y):=fun{x y} d g=>by
  simp only[aI,Z6,uu,Yi,decide_eq_true_eq];generalize h:nr a inn b=l at*;unfold Ay;rw[h];rcases Lc nd d l.length (qL0 _)with⟨k,j,h2,h3⟩|⟨j,h2⟩
  .rcases Lc nd g l.length (qL0 _) with ⟨m, o, c, t⟩ | ⟨o, c⟩
   .constructor
    .intro q r
     rcases r with⟨i,r1,r2⟩|⟨i,r1,r2⟩
     all_goals grind [X6]
    .intro q
     refine .inr ⟨fun e=>q (.inr ⟨m,c,?_⟩),fun e=>q (.inl ⟨k,h2,?_⟩)⟩
     all_goals grind
   .refine ⟨fun _ r => ?_, pw⟩
    rcases r with⟨i,_,r2⟩|⟨i,r1,_⟩
    all_goals grind
  .refine ⟨fun _ r => ?_, pw⟩
   rcases r with⟨i,r1,_⟩|⟨i,_,r2⟩
   all_goals grind
 grind [Ef,bj]
theorem ddS_mem {l:RZ} {x y:Int}:y∈Uo l x↔y∈l\/y=x:=by grind [Uo]
theorem ddS_nd {l:RZ} {x:Int} (h:l.Nodup):(Uo l x).Nodup:=by grind [Uo]
theorem KC:∀(l acc:RZ),acc.Nodup->(l.foldl Uo acc).Nodup/\∀y,y∈l.foldl Uo acc↔y∈acc\/y∈l
 |[],acc,h=>by grind
 |x::l,acc,h=>by
  obtain⟨c,h2⟩:=KC l (Uo acc x) (ddS_nd h)
  grind [ddS_mem]
theorem VW (l:RZ):(kZ l).Nodup/\∀y,y∈kZ l↔y∈l:=by grind [KC,kZ]
theorem zS {on:Nat->Bool} {g:List Pr} {x:Int}:x∈BY on g↔on x.toNat=true/\∃e∈g,x=e.1\/x=e.2:=by grind [BY,ftP]
section
variable {n : Nat} {es : List Pr} {H : Nat → Nat → Prop} {F : List (List Nat)} {p q : wW} {a b f : Nat} {inn A B : List Nat} {on : List Bool}
def Vf.left (L:Vf n es H F p a inn b f A B) {v w:Nat}:GW v w∈V8 n p.zp (nr a inn b)↔GW v w∈p.zp/\¬Ay a inn b v w:=by
 unfold V8;rw[VU];constructor
 .rintro ⟨c, h2⟩
  have d:=L.P.XB L.hR c;obtain⟨l1,l2⟩:=((vD L.hR).1 d.1).lt L.hR;exact⟨c,(Ph L.W.nd l1 l2).1 h2⟩
 .rintro ⟨c, h2⟩
  have d:=L.P.XB L.hR c;obtain⟨l1,l2⟩:=((vD L.hR).1 d.1).lt L.hR;exact⟨c,(Ph L.W.nd l1 l2).2 h2⟩
theorem Vf.uq (L:Vf n es H F p a inn b f A B) {v w:Nat} (h:GW v w∈V8 n p.zp (nr a inn b)):Un (eN n es) (XZ H a inn b) v w:=by
 obtain⟨d,h2⟩:=L.left.1 h;have c:=L.P.XB L.hR d;exact⟨c.1,fun q=>q.elim c.2 h2⟩
theorem Vf.left_of (L:Vf n es H F p a inn b f A B) {v w x y:Nat} (c:Un (eN n es) (XZ H a inn b) x y) (h:GW v w∈V8 n p.zp (nr a inn b)) (j:QI (eN n es) (XZ H a inn b) x y=QI (eN n es) (XZ H a inn b) v w):
  GW x y∈V8 n p.zp (nr a inn b):=by
 have d:=L.Rl;have g:=L.uq h;have i:=(L.left.1 h).1;have k:=(Uu d c.1 g.1).1 j;have k2:=(Uu d c.1 g.1).2 (k.mono fun _ _=>OH);exact L.left.2 ⟨(L.P.one v w x y (L.P.XB L.hR i) ⟨c.1,fun e=>c.2 (.inl e)⟩ i).2 k2,fun e=>c.2 (.inr e)⟩
theorem Vf.on' (L:Vf n es H F p a inn b f A B) (i:on.length=n) (c:∀v,v<n->(Wg on v=true↔¬off (eN n es) H v)):∀v,v<n->(Wg (tV on (nr a inn b)) v=true↔¬off (eN n es) (XZ H a inn b) v):=fun v g=>by
 rw[mQ _ _ pw,c v g,yw L.W L.Rl];constructor
 .rintro (h | h) ⟨k1, k2⟩
  .exact h k1
  .rw [nr, WA, Sb, jf] at h
   rcases h with rfl|h|rfl
   .obtain⟨z,d,e⟩:=L.W.ona;exact k1 z d e
   .exact k2 h
   .obtain⟨z,d,e⟩:=L.W.sN;exact k1 z d e
 grind [nr.eq_1]
theorem Vf.Zf (L:Vf n es H F p a inn b f A B):cK (V8 n p.zp (nr a inn b)) (fun e=>e∉([]:List Pr)) (FW (Wg (tV on (nr a inn b))) (V8 n p.zp (nr a inn b)))
  ((grpsM (Zo n (Wg (tV on (nr a inn b))) (MF n (Wg (tV on (nr a inn b))) (V8 n p.zp (nr a inn b)))) (V8 n p.zp (nr a inn b)) [] (V8 n p.zp (nr a inn b)).length).map (·.2)):=by
 have sl:(V8 n p.zp (nr a inn b)).Sublist es:=qL190 xD L.P.sub;have nd:(V8 n p.zp (nr a inn b)).Nodup:=L.hA.nodup.sublist sl;have c:aV n (V8 n p.zp (nr a inn b)):=fun e d=>L.hR e (sl.subset d);exact Yn (n:=n) nd (by grind [K2,uY])
theorem Vf.fresh (L:Vf n es H F p a inn b f A B) (K:on.length=n) (N:∀v,v<n->(Wg on v=true↔¬off (eN n es) H v)) (aj:f∈p.fits) {q:wW} (hq:q∈vX n (tV on (nr a inn b)) (V8 n p.zp (nr a inn b))):
  EJ n es (XZ H a inn b) (kY F f (nr a inn b)) {q with fits:=zh (kY F f (nr a inn b)) q.Fm (p.fits++[F.length])}/\q.zp.Sublist (V8 n p.zp (nr a inn b)):=by
 have hR:=L.hR;have o:=L.Rl;have D:=L.on' K N;have T:=L.Zf (on:=on);have sl:(V8 n p.zp (nr a inn b)).Sublist es:=qL190 xD L.P.sub;obtain⟨gr,al,rfl⟩:=HV.1 hq;have hg:gr.2∈((grpsM (Zo n (Wg (tV on (nr a inn b))) (MF n (Wg (tV on (nr a inn b))) (V8 n p.zp (nr a inn b)))) (V8 n p.zp (nr a inn b)) [] (V8 n p.zp (nr a inn b)).length).map (·.2)):=pw;generalize gr.2=g at hg;have one:∀{v w x y:Nat},Un (eN n es) (XZ H a inn b) x y->GW v w∈g->(GW x y∈g↔QI (eN n es) (XZ H a inn b) x y=QI (eN n es) (XZ H a inn b) v w):=fun{v w x y} m s=>
  Nj hR L.hA L.hs' (fun e C=>sl.subset C) D T (by grind [Vf.uq]) (by grind [Vf.left_of]) hg m s
 have j:=T.sub g hg;have un:∀{v w},GW v w∈g->Un (eN n es) (XZ H a inn b) v w:=by grind [Vf.uq]
 obtain⟨fn,fm⟩:=VW (BY (Wg (tV on (nr a inn b))) g);have Fm:∀u:Nat,(u:Int)∈kZ (BY (Wg (tV on (nr a inn b))) g)↔¬off (eN n es) (XZ H a inn b) u/\∃w,Un (eN n es) (XZ H a inn b) u w/\GW u w∈g:=fun u=>by
  rw[fm,zS,Z6];constructor
  .rintro ⟨ho, e, C, m⟩
   obtain⟨c,d,rfl,O,hd⟩:=jB hR (sl.subset (j.subset C));have e1:((c:Int),(d:Int))=GW c d:=(Ix O).symm;rcases m with m|m
   .have hu : u = c := NH
    grind
   grind [aag]
  .rintro ⟨M, w, h2, h3⟩
   have hu:=(((vD hR).1 h2.1).lt hR).1
   grind [Sl]
 have ag:∀{v},off (eN n es) (XZ H a inn b) v↔off (eN n es) H v/\v∉inn:=fun{v}=>yw L.W o;have E:∃c∈inn,(c:Int)∈kZ (BY (Wg (tV on (nr a inn b))) g):=by
  obtain⟨e,l,C⟩:=iy (T.ne g hg);have s:e∈g:=by rw[C];simp
  obtain⟨v,w,rfl,Q,hd⟩:=jB hR (sl.subset (j.subset s));rw[show(((v:Int),(w:Int)):Pr)=GW v w from(Ix Q).symm]at s;have R:=un s;have K:=L.left.1 (j.subset s);have hU:=L.P.XB hR K.1;have k:=L.P.key hR L.fst K.1;cases hi:inn with
  |nil=>
   subst hi;have e0:((([]:II)++[b]).headD 0)=b:=rfl;rw[e0]at k;obtain⟨z,z1,z2⟩:=L.W.ona;obtain⟨z',S,U⟩:=L.W.sN;rw[rj (fun q=>q z z1 z2) (fun q=>q z' S U)]at k;have aq:Ay a [] b a b:=.inl ⟨0,rfl,rfl⟩;by_cases c1:off (eN n es) H v
   .grind [M6]
   by_cases c2:off (eN n es) H w
   .grind [Jn]
   rw[rj c1 c2]at k
   all_goals grind [Ef]
  |cons c t=>
   rw[<-hi];have V:c∈inn:=by rw[hi];simp
   rw[L.W.QC o L.hs V]at k;have ht:∃t,(t=v\/t=w)/\off (eN n es) H t:=by grind [rj]
   obtain⟨t,G,ot⟩:=ht;rw[IV o hU.1 G ot]at k;injection k with _ k;injection k with k _;have X:=(fX o).1 k;by_cases ct:t∈inn
   .all_goals grind [aag]
   .have J : off (eN n es) (XZ H a inn b) t := pw
    rcases tq (H:=XZ H a inn b) o (r:=Mm (eN n es) H) (fun v w h=>(EM.1 h).1) X J with h|⟨y,z,M,h2,h3,h4⟩
    .grind
    .obtain ⟨m1, m2, m3⟩ := EM.1 h4
     have Y:Un (eN n es) (XZ H a inn b) y z:=⟨m1,h2 z m1⟩;have ar:GW y z∈g:=(one Y s).2 (by rw[M6 h2,IV o R.1 G J,(fX o).2 M])
     grind [aag]
 have av:∀i,i∈p.fits->i<F.length:=fun i h=>((L.P.fits i).1 h).1;refine⟨⟨T.ne g hg,j.trans sl,fun v w h=>(un h).2,pw,Fm,fun x m=>?_,fn,fun i=>?_,?_⟩,j⟩
 .have := ((zS.1 ((fm x).1 m)).2)
  obtain⟨e,C,h⟩:=this;obtain⟨M,h2,_⟩:=hR e (sl.subset (j.subset C))
  grind
 .rw [WV, Yz, Sb, jf]
  constructor
  .grind
  .rintro ⟨M, h2⟩
   refine⟨?_,h2⟩;by_cases c1:i=f
   .grind
   by_cases c2:i=F.length
   .exact .inr c2
   exfalso;obtain⟨c,V,Z⟩:=E;have:=h2 _ Z;rw[Z6,L.LY c1 c2]at this;have ae:F.getD i []∈F:=by rw[D4 NH];grind
   exact L.I.on_face ae this (L.Oe V)
 .refine Ng xD ?_
  rw[si];refine⟨L.P.tnd,Ma,fun x m y hy e=>?_⟩
  grind
end
end Go.Fw
namespace Go.Fw
open Go.Proofs
attribute [local instance] Classical.propDecidable
theorem vd {l:II} (h:l.length=1) {x y:Nat} (b:x∈l) (c:y∈l):x=y:=by
 match l,h with
 |[a],_=>grind
noncomputable def OW (es:List Pr) (H:Nat->Nat->Prop):Nat:=(es.filter fun e=>decide (¬H e.1.toNat e.2.toNat)).length
structure Z8 (n:Nat) (es:List Pr) (H:Nat->Nat->Prop) (S:kR):Prop where
 inv:PU n (eN n es) H S.Jv
 ZA:S.on.length=n
 on:∀v,v<n->(Wg S.on v=true↔¬off (eN n es) H v)
 Aa:∀p∈S.left,EJ n es H S.Jv p
 cov:∀v w,Un (eN n es) H v w->∃p∈S.left,GW v w∈p.zp
 TE:S.left.Pairwise fun p q=>∀e∈p.zp,e∉q.zp
 OT:S.Jv.length+OW es H<=es.length+2
theorem EY (left:List wW):∀k,(0<k->bestK left k<k)/\∀j,j<k->LF left (bestK left k)<=LF left j
 |0=>by grind
 |k+1=>by
  obtain⟨a,h2⟩:=EY left k
  grind [bestK.eq_1,bestK.eq_2]
theorem unN_lt {es:List Pr} {H a:Nat->Nat->Prop} (c:∀v w,H v w->a v w) {e:Pr} (b:e∈es) (d:¬H e.1.toNat e.2.toNat) (h2:a e.1.toNat e.2.toNat):OW es a<OW es H:=by
 unfold OW
 induction es with
 |nil=>cases b
 |cons x es f=>
  have le:∀l:List Pr,(l.filter fun e=>decide (¬a e.1.toNat e.2.toNat)).length<=(l.filter fun e=>decide (¬H e.1.toNat e.2.toNat)).length:=fun l=>by
   induction l<;>grind
  grind
section
variable {n : Nat} {es : List Pr} {H : Nat → Nat → Prop} {S : kR}
theorem Z8.way (I:Z8 n es H S) (hR:aV n es) (hA:D3 es) (D:QG (eN n es)) {p:wW} (O:p∈S.left):
  ∃a inn b,J6 n (Zh n es) S.on p=nr a inn b/\Ka (eN n es) H a inn b/\GW a ((inn++[b]).headD 0)∈p.zp:=by
 have r:=MG hR hA;have P:=I.Aa p O;have hs:=I.inv.sym;obtain⟨⟨T,s⟩,tw⟩:=P.two hR hA hs D I.inv.Re;have w:2<=p.Fm.length:=by
  obtain⟨z,Q,A⟩:=tw T s
  match O:p.Fm with
  |[]=>grind
  |[x]=>
   grind
  |x::y::l=>simp
 have B:∃a:Nat,p.Fm.headD 0=(a:Int)/\(a:Int)∈p.Fm:=by
  obtain⟨x,l,e⟩:=iy (show p.Fm≠[]from fun e=>by grind);obtain⟨a,ha⟩:=yY (P.nat x (by rw[e];simp))
  grind
 obtain⟨a,ea,h⟩:=B;obtain⟨sa,d,j⟩:=P.wm hR h;have C:a<n:=r.lt _ _ d.mem;have c:∀v,v<n->Wg S.on v=false->off (eN n es) H v:=by grind [Z8.on]
 rcases way_spec (on:=S.on) hR (p:=p) w pw C (fun e U=>P.sub.subset U)with⟨inn,b,V,nd,hb,W,R,k,ch⟩|⟨_,M,E,F⟩
 .refine ⟨a, inn, b, V, ⟨nd, fun i x y g h2 => ?_, fun x q => ?_, Q7 d.on, Q7 ((I.on b hb).1 W)⟩, k⟩
  .have m := ch i x y g h2
   refine⟨by grind [vD],?_⟩;cases i with
   |zero=>
    grind [yT,EJ.un]
   |succ i=>
    have X:=(Ny.1 h2).1;rw[Eo]at X;have e:nr a inn b=a::(inn++[b]):=rfl;rw[e,BR,fR NH]at g;have q:x∈inn:=Gc g;exact c x (m.lt hR).1 (R x q) y (by grind [vD])
  .obtain ⟨i, y, g, h2⟩ := qm (a := a) (b := b) (inn := inn) (v := x) (.inr q)
   exact c x (((ch i _ _ g h2).lt hR).2) (R x q)
 .exfalso
  have has:sa≠a:=by grind [V7.ir,QP.mem]
  have o:=E sa j has;have G:sa<n:=(((vD hR).1 d.mem).lt hR).2;have J:=c sa G (F sa o).2.1;obtain⟨z,Q,A⟩:=tw a h;obtain⟨y,K,L⟩:=P.wm hR Q;have f:=P.key hR j L;rw[Jn d.on J]at f;have N:off (eN n es) H y:=by grind [rj,QP.on]
  rw[Jn K.on N]at f;injection f with _ f;injection f with f _;have Y:=((fX r).1 f).symm (QM r);have clo:∀t,Cr (Mm (eN n es) H) sa t->t∈M:=fun t Z=>by
   induction Z with
   |refl=>exact o
   |@step t u g h2 ih=>
    obtain⟨m1,m2,m3⟩:=EM.1 h2
    grind [vD,QP.on]
  grind [vD,QP.mem,Jp.symm,QP.on,V7.lt]
theorem Z8.lay (I:Z8 n es H S) (hR:aV n es) (hA:D3 es) (D:QG (eN n es)) (av:S.left≠[]):
  (AU n (Zh n es) S=none/\¬XU n (eN n es))\/∃S' H',AU n (Zh n es) S=some S'/\Z8 n es H' S'/\OW es H'<OW es H:=by
 have hr:=MG hR hA;have hs:=I.inv.sym;have hlen:0<S.left.length:=qL186.2 av;obtain⟨ay,bg⟩:=EY S.left S.left.length;have X:=ay hlen;unfold AU;generalize bestK S.left S.left.length=m at*;have az:S.left.getD m default=S.left[m]:=D4 X;have Y:S.left[m]∈S.left:=Og X;have Z:S.left=S.left.take m++S.left[m]::S.left.drop (m+1):=by grind [List.drop_eq_getElem_cons,List.take_append_drop]
 have J:S.left.eraseIdx m=S.left.take m++S.left.drop (m+1):=dU _ _;have bb:∀q∈S.left,(S.left[m]).fits.length<=q.fits.length:=fun q t=>by
  obtain⟨j,hj,e⟩:=Bn.1 t
  grind [LF]
 simp only[az];generalize S.left[m]=p at*;have P:=I.Aa p Y;obtain⟨⟨u0,aC⟩,_⟩:=P.two hR hA hs D I.inv.Re;by_cases c0:p.fits.length=0
 .rw [if_pos c0]
  refine .inl ⟨rfl,?_⟩;obtain⟨x,hF,C⟩:=P.wm hR aC;refine I.inv.fail D hF fun f hf k=>?_;obtain⟨i,hi,e⟩:=Bn.1 hf;have:=(P.fits i).2 ⟨hi,fun y hy=>by grind [EJ.VN]⟩
  grind
 rw[if_neg c0];obtain⟨a,inn,b,ew,W,o⟩:=I.way hR hA D Y;rw[ew];have aD:¬(nr a inn b).length<2:=by grind [Eo]
 simp only[aD,if_false];have M:p.fits.headD 0∈p.fits:=by grind [Lt]
 generalize p.fits.headD 0=f at*;obtain⟨aH,ae⟩:=(P.fits f).1 M;have N:S.Jv.getD f []∈S.Jv:=pw;obtain⟨sa,bh⟩:∃s,s=(inn++[b]).headD 0:=⟨_,rfl⟩;have F:=P.XB hR o;have F0:QP (eN n es) H a ((inn++[b]).headD 0):=⟨fun q=>by obtain⟨z,z1,z2⟩:=W.ona;exact q z z1 z2,F.1,F.2⟩;have ag:Fits (eN n es) H (QI (eN n es) H a ((inn++[b]).headD 0)) (S.Jv.getD f []):=by grind [EJ.VN]
 have aj:a∈S.Jv.getD f []:=by have:=ae _ (P.E8 F0 o);grind [Int.toNat_natCast]
 have al:b∈S.Jv.getD f []:=by
  have V:=W.lst hr hs;have wb:Ay a inn b b ((inn.reverse++[a]).headD 0):=(W.Kk hr hs).2 rfl;have hk:=W.PW hr hs wb;have C:=(P.one _ _ b _ F ⟨V.1,V.2⟩ o).2 hk;have:=ae _ ((P.Fm b).2 ⟨fun q=>by obtain⟨z,z1,z2⟩:=W.sN;exact q z z1 z2,_,⟨V.1,V.2⟩,C⟩)
  grind [Int.toNat_natCast]
 obtain⟨A,B,cy⟩:=cyc_two aj al W.ab;have L:Vf n es H S.Jv p a inn b f A B:=⟨hR,hA,hs,I.inv,P,W,o,aH,cy⟩;have O:(∀h∈S.Jv,Fits (eN n es) H (QI (eN n es) H a ((inn++[b]).headD 0)) h->h=S.Jv.getD f [])\/
   ∀u x,QP (eN n es) H u x->∃E∈S.Jv,∃h2∈S.Jv,E≠h2/\Fits (eN n es) H (QI (eN n es) H u x) E/\Fits (eN n es) H (QI (eN n es) H u x) h2:=by
  by_cases c1:p.fits.length=1
  .refine .inl fun h hh k => ?_
   obtain⟨i,hi,e⟩:=Bn.1 hh;have C:=(P.fits i).2 (by grind [EJ.VN])
   grind [vd]
  .refine .inr fun u x hF => ?_
   obtain⟨q,t,C⟩:=I.cov u x ⟨hF.mem,hF.nh⟩;have Q:=I.Aa q t;have h2:2<=q.fits.length:=pw
   match bk:q.fits with
   |[]=>grind
   |[_]=>grind
   |i::j::l=>
    have hi:=(Q.fits i).1 pw;have hj:=(Q.fits j).1 pw;have aJ:i≠j:=by grind [EJ.tnd]
    refine⟨S.Jv.getD i [],by grind [List.getElem_mem],S.Jv.getD j [],by grind [List.getElem_mem],fun e=>aJ ?_,(Q.VN hR C).2 hi.2,(Q.VN hR C).2 hj.2⟩;rw[D4 hi.1,D4 hj.1]at e;exact(qL206 I.inv.nodup).1 e
 have I1:=I.inv.step D hr N F0 ag O W rfl cy;have hh:=L.Gf;have aK:S.Jv.set f (Ee (S.Jv.getD f []) (nr a inn b))++[kP (S.Jv.getD f []) (nr a inn b)]=kY S.Jv f (nr a inn b):=rfl;have R:(half a A b inn::half b B a inn.reverse::S.Jv.erase (S.Jv.getD f [])).Perm (kY S.Jv f (nr a inn b)):=by
  unfold kY;rw[hh.1,hh.2];refine List.Perm.trans ?_ (Dl (l₁:=[half b B a inn.reverse]));refine(List.Perm.swap _ _ _).trans (List.Perm.cons _ ?_);exact(set_perm pw I.inv.nodup).symm
 have I2:=I1.perm R;rw[aK];have K:=I.TE;rw[Z,Ah,Ry]at K;obtain⟨d1,⟨d2,d3⟩,d4⟩:=K;have aq:∀q∈S.left.eraseIdx m,q∈S.left/\∀e∈p.zp,e∉q.zp:=fun q t=>by
  rw[J]at t;rcases Sb.1 t with h|h
  .grind
  grind
 have T:=L.Zf (on:=S.on);have aP:OW es (XZ H a inn b)<OW es H:=by
  have C:=P.sub.subset o;obtain⟨c,d,e,ar,hd⟩:=jB hR C;have wf:Ay a inn b a ((inn++[b]).headD 0):=W.Fp.2 rfl;refine unN_lt pw C ?_ ?_
  .rw [e]; simp only [Z6]
   rw[<-Ix ar]at e;rcases Dc e with⟨E,h2⟩|⟨E,h2⟩
   .rw[<-E,<-h2];exact F.2
   .rw[<-E,<-h2];exact fun q=>F.2 (hs _ _ q)
  .rw [e]; simp only [Z6]
   rw[<-Ix ar]at e;rcases Dc e with⟨E,h2⟩|⟨E,h2⟩
   all_goals grind [Ef]
 refine .inr ⟨_,XZ H a inn b,rfl,⟨I2,by grind [Pe,Z8.ZA],L.on' I.ZA I.on,fun q t=>?_,fun v w hU=>?_,?_,?_⟩,aP⟩
 .simp only at t ⊢
  rcases Sb.1 t with h|h
  .obtain ⟨q0, G, rfl⟩ := HV.1 h
   obtain⟨E,h2⟩:=aq q0 G;exact L.other (I.Aa q0 E) h2
  .obtain ⟨q0, G, rfl⟩ := HV.1 h
   exact(L.fresh I.ZA I.on M G).1
 .have aT : Un (eN n es) H v w := ⟨hU.1, fun q => hU.2 (.inl q)⟩
  obtain⟨q,t,C⟩:=I.cov v w aT;rw[Z]at t;have U:q=p\/q∈S.left.eraseIdx m:=pw;rcases U with rfl|h
  .have V := L.left.2 ⟨C, fun e => hU.2 (.inr e)⟩
   obtain⟨g,hg,aW⟩:=T.cov _ V Ma;obtain⟨gr,aX,rfl⟩:=HV.1 hg;refine⟨_,Ki _ (HV.2 ⟨_,HV.2 ⟨gr,aX,rfl⟩,rfl⟩),aW⟩
  .refine ⟨_, im _ (HV.2 ⟨q, h, rfl⟩), ?_⟩
   unfold GF;split<;>exact C
 .simp only
  have r:∀q,(GF (kY S.Jv f (nr a inn b)) f S.Jv.length q).zp=q.zp:=fun q=>by unfold GF;split<;>rfl
  rw[Ah];refine⟨?_,?_,fun q t q' a6 e he a7=>?_⟩
  .rw [Hs, J, Ah]
   refine⟨d1.imp fun{x y} h=>by rw[r,r];exact h,d3.imp fun{x y} h=>by rw[r,r];exact h,fun x hx y hy=>?_⟩;rw[r,r];exact d4 x hx y (by simp[hy])
  .rw [Hs]
   unfold vX;have:=T.TE
   grind
  .obtain ⟨q0, G, rfl⟩ := HV.1 t
   obtain⟨q1,a8,rfl⟩:=HV.1 a6;rw[r]at he;have E:=(L.fresh I.ZA I.on M a8).2.subset a7;have h2:e∈p.zp:=(xD (l:=p.zp)).subset E
   grind
 .simp only
  rw[Yz];have:=I.OT;omega
theorem Z8.done (I:Z8 n es H S) (h:S.left=[]):∃r,vy n r S.Jv/\Flat n r/\∀x y,y∈r x↔y∈eN n es x:=
 I.inv.done fun x y a=>Eh fun q=>by
  obtain⟨p,b,_⟩:=I.cov x y ⟨a,q⟩
  grind
end
end Go.Fw
