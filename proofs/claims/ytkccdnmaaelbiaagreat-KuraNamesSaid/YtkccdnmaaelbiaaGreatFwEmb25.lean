/- A text. -/
import Derived.Test.YtkccdnmaaelbiaaGreatFwEmb21
set_option linter.all false
set_option maxRecDepth 99999
set_option maxHeartbeats 9999999
namespace Go.Fw
attribute [local instance] Classical.propDecidable
section
variable {n : Nat} {r r' : Nat → List Nat} {F : List (List Nat)} {f A B : List Nat} {a b : Nat} {inn : List Nat}
theorem Lay.mem (L:Lay n r r' a b inn) {x y:Nat}:y∈r' x↔y∈r x\/Ay a inn b x y:=by
 have ends:∀{a b:Nat} {inn:II} (_:Lay n r r' a b inn) {y:Nat},y∈r' a->y∈r a\/Ay a inn b a y:=fun{a b inn} L {y} h=>by
  by_cases c:y=(inn++[b]).headD 0
  .subst c
   obtain⟨k,m⟩:=yT a b inn;exact .inr (.inl ⟨0,k,m⟩)
  grind [Lay.ea]
 constructor
 .intro h
  by_cases c1:x=a
  .grind
  by_cases c2:x=b
  .subst c2;exact(ends L.swap h).imp id Ha.1
  by_cases o:x∈inn
  .obtain ⟨i, p, e, d⟩ := qm (a := a) (b := b) (.inr o)
   have q:=(Ny.1 d).1;have hi:i+2<(nr a inn b).length:=by grind [Eo,Fg]
   have g:(nr a inn b)[i+2]?=some ((nr a inn b)[i+2]'hi):=XJ hi
   rcases((L.mid i p x _ e d g).2.2 y).1 h with rfl|rfl
   .exact .inr (.inr ⟨i,e,d⟩)
   .exact .inr (.inl ⟨i+1,d,g⟩)
  grind [Lay.Wn]
 .rintro (h | ⟨i, j, h2⟩ | ⟨i, j, h2⟩)
  .exact L.sub h
  .grind [Lay.UQ]
  .exact L.R'.sy _ _ (L.UQ j h2)
theorem Lay.conn2 (L:Lay n r r' a b inn) (bp:∀v w,r v≠[]->r w≠[]->Cr r v w):∀v w,r' v≠[]->r' w≠[]->Cr r' v w:=by
 have along:∀(i x:Nat),(nr a inn b)[i]?=some x->Cr r' a x:=fun i=>by
  induction i with
  |zero=>
   intro x c;have:=c.symm.trans (yT a b inn).1;injection this with this;subst this;exact .refl _
  |succ i j=>
   intro x c;have k:=(Ny.1 c).1;have g:(nr a inn b)[i]?=some ((nr a inn b)[i]'(by omega)):=XJ NH
   exact(j _ g).step (L.UQ g c)
 have toA:∀v,r' v≠[]->Cr r' a v:=fun v d=>by
  obtain⟨w,l,e⟩:=iy d;have hw:w∈r' v:=by rw[e];simp
  rcases L.mem.1 hw with h|⟨i,m,_⟩|⟨i,_,h2⟩
  .exact(bp a v L.ra fun q=>by grind).mono fun x y h=>L.sub h
  all_goals grind
 exact fun v w d hw=>((toA v d).symm L.R').trans (toA w hw)
structure vy (n:Nat) (r:Nat->II) (F:Cs):Prop where
 Rl:V7 n r
 O:FO r F
 bp:∀v w,r v≠[]->r w≠[]->Cr r v w
 num:Num n r F
 ne:F≠[]
theorem vy.flat (G:vy n r F):Flat n r:=by
 obtain⟨f,l,e⟩:=iy G.ne;have hf:f∈F:=by rw[e];simp
 have hd:=G.O.bz f hf _ (Lt (G.O.ne f hf));exact G.num.flat G.Rl G.O G.bp ⟨_,G.Rl.lt _ _ hd,fun q=>by grind⟩
theorem vy.lay (G:vy n r F) (hf:f∈F) (C:UN n r f a b inn) (cy:Cyc f ((a::A)++(b::B))):
  vy n (EO r f a b inn) (half a A b inn::half b B a inn.reverse::F.erase f)/\∀x y,y∈EO r f a b inn x↔y∈r x\/Ay a inn b x y:=by
 obtain⟨L,c,h2,h3,d⟩:=C.lay G.Rl G.O hf;refine⟨⟨L.R',L.gY G.O hf cy c h2 h3 d,L.conn2 G.bp,L.num ?_ G.num,Ma⟩,fun x y=>L.mem⟩
 grind
end
noncomputable def gH (l:II) (v:Nat):II:=if v∈l then[pv l v,nx l v]else[]
section
variable {n : Nat} {l : List Nat}
theorem aaJ (nd:l.Nodup) {v w:Nat}:w∈gH l v↔Ei l v w:=by grind [gH,Ei,BJ,G5,c7,ZP]
theorem dP (nd:l.Nodup) (h3:3<=l.length) (lt:∀v∈l,v<n):vy n (gH l) [l,l.reverse]:=by
 have d:=fun{v w}=>aaJ (v:=v) (w:=w) nd;have i:l≠[]:=fun e=>by grind
 have m:∀v∈l,nx l v≠v:=fun v c e=>by grind [Bk]
 have R:V7 n (gH l):=by
  refine⟨fun v=>?_,fun v w h=>?_,fun v w h=>d.2 (ki (d.1 h)),fun v h=>?_⟩
  .grind [gH,aag]
  .rcases d.1 h with h | h
   all_goals grind [ZP]
  .rcases d.1 h with h | h
   all_goals grind
 have s:Om (Ei l) (gH l)=gH l:=cS fun v w h=>d.1 h;have two:∀v∈l,nx (gH l v) (pv l v)=nx l v/\nx (gH l v) (nx l v)=pv l v:=fun v c=>by grind [gH,ss,aag]
 have O:FO (gH l) [l,l.reverse]:=by
  refine⟨fun f hf=>?_,fun f hf=>?_,fun f hf v c=>?_,fun f hf v c=>?_,fun v w hw=>?_,fun f hf g hg v o h2 e=>?_,?_⟩
  .grind
  .simp at hf; rcases hf with rfl | rfl
   .exact i
   .simpa using i
  .simp at hf; rcases hf with rfl | rfl
   .exact d.2 (.inl ⟨c,rfl⟩)
   .have c := V3.1 c
    exact d.2 (.inr ⟨BJ c,G5 nd c⟩)
  .simp at hf; rcases hf with rfl | rfl
   .grind [ZP,c7]
   .have c := V3.1 c
    have:=(two _ (BJ c)).2;rw[G5 nd c]at this;exact this
  .rcases d.1 hw with h | h
   all_goals grind [ZP,pv,c7]
  .simp at hf hg
   rcases hf with rfl|rfl
   .rcases hg with rfl | rfl
    .rfl
    .exact absurd e (aag nd h3 o)
   .rcases hg with rfl | rfl
    .exact absurd e.symm (aag nd h3 h2)
    .rfl
  .simp only [xD, jf, K4, not_false_eq_true, aaX, and_true]
   intro e;have c:=Lt i
   grind [aag,pv]
 have inl:∀{v},gH l v≠[]->v∈l:=fun{v} h=>j9 fun q=>h (if_neg q);refine⟨R,O,fun v w c hw=>?_,?_,Ma⟩
 .obtain ⟨k, rfl⟩ := JT nd (inl c) (inl hw)
  have j:=inl c;clear hw c;have:∀k,Cr (gH l) v (it (nx l) k v):=fun k=>by
   induction k with
   |zero=>exact .refl _
   |succ k p=>exact p.step (d.2 (.inl ⟨(O.it Ma j k).1,rfl⟩))
  exact this k
 .have t:(kV n (gH l)).length=l.length:=by
   rw[<-Xp nd lt]
   grind [kV,gH]
  have u:(dl n (gH l)).length=2*l.length:=by
   rw[Vq,<-Xp nd lt,<-nu]
   grind [gH]
  grind [Num]
end
end Go.Fw
namespace Go.Fw
attribute [local instance] Classical.propDecidable
def XU (n:Nat) (E:Nat->II):Prop:=∃R,V7 n R/\Flat n R/\∀v w,w∈R v↔w∈E v
structure PU (n:Nat) (E:Nat->II) (H:Nat->Nat->Prop) (F:Cs):Prop where
 sub:∀x y,H x y->y∈E x
 XK:∃r,vy n r F/\∀x y,y∈r x↔H x y
 full:XU n E->∃R,(∀v w,w∈R v↔w∈E v)/\Ctx n R H F
section
variable {n : Nat} {E : Nat → List Nat} {H : Nat → Nat → Prop} {F : List (List Nat)} {f A B inn l : List Nat} {a b s : Nat}
theorem BW {R R':Nat->II} (d:∀v w,w∈R' v↔w∈R v) {k:Nat×Nat×Nat} {h:II}:Fits R' H k h↔Fits R H k h:=
 ⟨fun q u x c e=>q u x ((Fv d).2 c) (by grind [Py]),fun q u x c e=>q u x ((Fv d).1 c) (by grind [Py])⟩
theorem PU.start (nd:l.Nodup) (h3:3<=l.length) (g:V7 n E) (d:∀v∈l,nx l v∈E v):PU n E (Ei l) [l,l.reverse]:=by
 refine⟨fun x y h=>?_,⟨_,dP nd h3 fun v c=>g.lt _ _ (d v c),fun x y=>aaJ nd⟩,fun⟨R,i,fl,e⟩=>⟨R,e,Cy i fl nd h3 fun v c=>(e _ _).2 (d v c)⟩⟩;rcases h with h|h
 all_goals grind [V7.sy]
def PU.Re (I:PU n E H F):∃p q,p≠q/\¬off E H p/\¬off E H q:=by
 obtain⟨r,G,c⟩:=I.XK;obtain⟨f,t,e⟩:=iy G.ne;have hf:f∈F:=by rw[e];simp
 have hd:=G.O.bz f hf _ (Lt (G.O.ne f hf));have d:=(c _ _).1 hd;have h2:=(c _ _).1 (G.Rl.sy _ _ hd);exact⟨_,_,fun e=>G.Rl.ir _ (by rw[<-e]at hd;exact hd),fun q=>q _ (I.sub _ _ d) d,fun q=>q _ (I.sub _ _ h2) h2⟩
def PU.pieces (I:PU n E H F) (D:QG E) {R:Nat->II} (c:∀v w,w∈R v↔w∈E v) (C:Ctx n R H F):Pg n R H F:=by
 obtain⟨p,q,d,h2,h3⟩:=I.Re;exact C.pieces (D.same c) ⟨p,q,d,fun k=>h2 ((uR c p).1 k),fun k=>h3 ((uR c q).1 k)⟩
theorem PU.step (I:PU n E H F) (D:QG E) (k:V7 n E) (hf:f∈F) (z:QP E H a s) (fit:Fits E H (QI E H a s) f)
  (cond:(∀h∈F,Fits E H (QI E H a s) h->h=f)\/∀u x,QP E H u x->∃c∈F,∃h2∈F,c≠h2/\Fits E H (QI E H u x) c/\Fits E H (QI E H u x) h2)
  (W:Ka E H a inn b) (hs:(inn++[b]).headD 0=s) (cy:Cyc f ((a::A)++(b::B))):
  PU n E (fun x y=>H x y\/Ay a inn b x y) (half a A b inn::half b B a inn.reverse::F.erase f):=by
 obtain⟨r,G,m⟩:=I.XK;have g:∀v w,H v w->H w v:=fun v w h=>(m _ _).1 (G.Rl.sy _ _ ((m _ _).2 h));refine⟨fun x y h=>h.elim (I.sub x y) fun h=>(W.wE k g h).1,?_,fun J=>?_⟩
 .have C:UN n r f a b inn:=by
   refine⟨W.ab,cy.perm.mem_iff.2 Ma,cy.perm.mem_iff.2 Ma,?_,fun x o=>?_,fun x o=>?_,fun e q=>?_⟩
   .have := W.nd
    grind [nr.eq_1]
   .refine j9 fun q => ?_
    obtain⟨w,t,e⟩:=iy q;have h:=(m x w).1 (by rw[e];simp);exact W.off x o w (I.sub _ _ h) h
   .obtain ⟨i, p, c, h2⟩ := qm (a := a) (b := b) (.inr o)
    exact k.lt _ _ (k.sy _ _ (W.UQ i p x c h2).1)
   .subst e
    have c:(nr a [] b)[0]?=some a:=rfl
    grind [nr,Ka.UQ]
  obtain⟨N,j⟩:=G.lay hf C cy
  grind
 .obtain ⟨R, j, C⟩ := I.full J
  have P:=I.pieces D j C;have d:(∀h∈F,Fits R H (QI R H a s) h->h=f)\/∀u x,QP R H u x->∃c∈F,∃h2∈F,c≠h2/\Fits R H (QI R H u x) c/\Fits R H (QI R H u x) h2:=by
   rcases cond with q|q
   .grind [Py,BW]
   .refine .inr fun u x K => ?_
    obtain⟨c,m1,h2,m2,L,O,Q⟩:=q u x ((Fv j).1 K)
    grind [Py,BW]
  obtain⟨R',M,C'⟩:=P.step hf ((Fv j).2 z) (by grind [Py,BW]) d (W.same j) hs cy
  grind
theorem PU.fail (I:PU n E H F) (D:QG E) {u x:Nat} (d:QP E H u x) (h:∀f∈F,¬Fits E H (QI E H u x) f):¬XU n E:=fun e=>by
 obtain⟨R,c,C⟩:=I.full e;obtain⟨g,hg,k⟩:=(I.pieces D c C).fits ((Fv c).2 d)
 grind [Py,BW]
def PU.done (I:PU n E H F) (h:∀x y,y∈E x->H x y):∃r,vy n r F/\Flat n r/\∀x y,y∈r x↔y∈E x:=by
 obtain⟨r,G,c⟩:=I.XK;exact⟨r,G,G.flat,fun x y=>(c x y).trans ⟨I.sub x y,h x y⟩⟩
end
end Go.Fw
namespace Go.Fw
attribute [local instance] Classical.propDecidable
theorem len_sub {α:Type} {A B:List α} (b:A.Nodup) (nb:B.Nodup) (h:∀a∈A,a∈B):A.length<=B.length:=by
 have pm:B.Perm (A++B.filter fun x=>decide (x∉A)):=pw;rw[pm.length_eq,Eh];omega
theorem vR {α β:Type} {k:Nat} {g:α->List β}:∀{L:List α},(∀x∈L,k<=(g x).length)->k*L.length<=(L.flatMap g).length
 |[],_=>by simp
 |x::L,h=>by
  have:=vR (L:=L) fun y a=>h y (kc _ a)
  grind [Nat.mul_succ]
section
variable {n : Nat} {r : Nat → List Nat}
theorem Gj (R:V7 n r) {k:Nat} (h:∀d∈dl n r,k<=bt (Nv r) d):k*cls (WD (Nv r)) (dl n r)<=(dl n r).length:=by
 have p:=TG R;rw[<-yp R];have hd:∀d∈L3 n r,d∈dl n r:=fun d hd=>(IP R).2 ((gQ R).1 hd).1;have c:(L3 n r).Nodup:=(dy n r).sublist (by grind [L3,List.filter_sublist]);refine EP (vR (g:=AA (Nv r)) fun d a=>by grind [oN]) (len_sub ?_ (J8 R) fun e b=>?_)
 .rw [IE, aa4]
  grind [Ri,List.Pairwise.imp_of_mem,vA,RM,WD.trans,Pm.xw]
 .obtain ⟨d, a, b⟩ := Cg.1 b
  obtain⟨j,rfl⟩:=(vA p (hd d a)).1 b
  grind [Pm.uN]
theorem Bu (R:V7 n r) (hf:Flat n r) (bp:∀v w,r v≠[]->r w≠[]->Cr r v w) (all:∀v,v<n->r v≠[]) (a:0<n):2*(n+cls (WD (Nv r)) (dl n r))=(dl n r).length+4:=by
 have d:((List.range n).filter fun v=>decide (r v=[]))=[]:=filter_none fun z b q=>all z (ZT.1 b) (of_decide_eq_true q);have e:iJ n r=1:=by
  unfold iJ;rw[qo (Cr.eqv R _) Hs (L:=[0]) (fun y f=>by grind) Ma fun x c=>⟨0,Ma,bp x 0 (all x (ZT.1 c)) (all 0 a)⟩];rfl
 grind [Flat,mj]
theorem QG.deg (D:QG r) {v w:Nat} (h:r v=[w]) {x:Nat} (a:r x≠[]) (b:x≠v) (h2:x≠w) (hw:v≠w):False:=by
 have c:=D.Z7 w v x hw h2 (by rw[h];simp) a;have:∀y,Cr (Om (fun x y=>x≠w/\y≠w) r) v y->y=v:=fun y c=>by
  induction c<;>grind [EM]
 grind
theorem Co (R:V7 n r) (D:QG r) (h3:3<=n) (all:∀v,v<n->r v≠[]) {d:H8} (hd:d∈dl n r):3<=bt (Nv r) d/\(bt (Nv r) d=3->∃x y z,y∈r x/\z∈r y/\x∈r z):=by
 have p:=TG R;obtain⟨l,f,_⟩:=abM p hd;have h:=Sg R hd;have m0:=(IP R).1 hd;have m1:=(IP R).1 (p.uN hd 1);have m2:=(IP R).1 (p.uN hd 2);obtain⟨v,w⟩:=d;have a:∃x,x<n/\x≠v/\x≠w:=by
  by_cases g:0≠v/\0≠w
  .exact⟨0,NH,g.1,g.2⟩
  by_cases a1:1≠v/\1≠w
  .exact⟨1,NH,a1.1,a1.2⟩
  .exact⟨2,NH,NH,NH⟩
 obtain⟨x,i,x1,j⟩:=a;have k:v≠w:=fun e=>R.ir v pw;constructor
 .refine Nat.lt_of_le_of_ne h fun e => ?_
  rw[<-e]at f;have b:(nx (r w) v,nx (r (nx (r w) v)) w)=((v,w):H8):=f;injection b with b _;have c:v∈r w:=R.sy _ _ m0;have:=(Bk (R.nd w) c).1 b;exact D.deg this (all x i) j x1 (ff k)
 grind [it,Nv]
theorem UU (R:V7 n r) (hf:Flat n r) (D:QG r) (h3:3<=n) (all:∀v,v<n->r v≠[]):(dl n r).length+12<=6*n/\((∀x y z,y∈r x->z∈r y->x∉r z)->(dl n r).length+8<=4*n):=by
 have e:=Bu R hf D.bp all NH;constructor
 .have := Gj R (k := 3) fun d hd => (Co R D h3 all hd).1
  omega
 .intro a
  have:=Gj R (k:=4) fun d hd=>by grind [Co]
  omega
end
end Go.Fw
namespace Go.Fw
section
attribute [local instance] Classical.propDecidable
variable {l:II} {n u:Nat}
theorem J5 {f g:Nat->Nat} {P:Nat->Prop} (b:∀x,P x->P (f x)) (h:∀x,P x->f x=g x) {u:Nat} (a:P u):∀k,it f k u=it g k u/\P (it f k u)
 |0=>⟨rfl,a⟩
 |k+1=>by
  obtain⟨e,p⟩:=J5 b h a k
  grind [it]
def Pc {l:II} (nd:l.Nodup) {u:Nat} {c:II} (e:l=u::c):∀k,k<l.length->l[k]?=some (it (nx l) k u)
 |0,_=>by rw[e];rfl
 |k+1,hk=>by
  have ih:=Pc nd e k NH;have h1:l[k+1]?=some (l[k+1]'hk):=XJ hk
  rw[h1];congr 1;exact(aZ nd ih h1).1.symm
theorem N1 (nd:l.Nodup) (f:u∈l):Cyc l ((List.range l.length).map fun k=>it (nx l) k u):=by
 obtain⟨c,a⟩:=Cyc.front f;have b:=a.perm.nodup_iff.1 nd;have e:((List.range l.length).map fun k=>it (nx l) k u)=u::c:=by
  refine mJ fun i=>?_;rw[a.perm.length_eq];by_cases h:i<(u::c).length
  .rw [Yq, List.getElem?_range h, Pc b rfl i h]
   simp only[uu];congr 1;exact(J5 (P:=fun x=>x∈l) (fun x d=>ZP d) (fun x d=>a.nx nd d) f i).1
  grind
 grind
theorem aaZ {r:Nat->II} {F:Cs} (R:V7 n r) (O:FO r F) {next:Nat->Nat->Nat} (h:∀f∈F,∀v∈f,next v (pv f v)=nx f v) {v u:Nat} (b:u∈r v):
  Cyc (r v) ((List.range (r v).length).map fun k=>it (next v) k u):=by
 have QI:∀w∈r v,next v w=nx (r v) w:=fun w hw=>by
  obtain⟨f,hf,c,e⟩:=O.cover w v (R.sy _ _ hw)
  grind [ZP,c7,FO.nd,FO.pv]
 have e:((List.range (r v).length).map fun k=>it (next v) k u)=(List.range (r v).length).map fun k=>it (nx (r v)) k u:=by
  refine KG fun k _=>?_;exact((J5 (P:=fun x=>x∈r v) (fun x a=>ZP a) (fun x a=>(QI x a).symm) b k).1).symm
 rw[e];exact N1 (R.nd v) b
end
end Go.Fw
namespace Go.Fw
attribute [local instance] Classical.propDecidable
section
variable {n : Nat} {E E' : Nat → List Nat} {a b m : Nat}
def XU.congr (h:∀v w,w∈E' v↔w∈E v):XU n E'↔XU n E:=by
 constructor
 .rintro⟨R,c,fl,d⟩;exact⟨R,c,fl,fun v w=>(d v w).trans (h v w)⟩
 .rintro⟨R,c,fl,d⟩;exact⟨R,c,fl,fun v w=>(d v w).trans (h v w).symm⟩
theorem XU.less (d:XU n E) (hs:∀v w,w∈E' v->w∈E v) (sy:∀v w,w∈E' v->v∈E' w):XU n E':=by
 obtain⟨R,c,fl,e⟩:=d;refine⟨Om (fun v w=>w∈E' v) R,OG c sy,fl.keep c sy,fun v w=>?_⟩
 grind [EM]
end
end Go.Fw
namespace Go.Fw
attribute [local instance] Classical.propDecidable
section
variable {n : Nat} {r : Nat → List Nat} {F : List (List Nat)}
theorem iso_on (n:Nat) (r:Nat->II):((List.range n).filter fun v=>decide (r v=[])).length+(kV n r).length=n:=by
 have QI:∀X:II,(X.filter fun v=>decide (r v=[])).length+(X.filter fun v=>decide (r v≠[])).length=X.length:=fun X=>by
  induction X<;>grind
 have:=QI (List.range n);rw[iB]at this;exact this
theorem cmps_on (R:V7 n r) (bp:∀v w,r v≠[]->r w≠[]->Cr r v w) (ne:∃v,v<n/\r v≠[]):iJ n r=((List.range n).filter fun v=>decide (r v=[])).length+1:=by
 obtain⟨d,g,i⟩:=ne;unfold iJ;have iso:∀{v w},r v=[]->Cr r v w->v=w:=fun{v w} h c=>by
  induction c<;>grind
 have k1:∀y∈((List.range n).filter fun v=>decide (r v=[]))++[d],y∈List.range n:=fun y j=>by grind
 have k2:(((List.range n).filter fun v=>decide (r v=[]))++[d]).Pairwise fun a b=>¬Cr r a b:=by
  rw[iU];refine⟨?_,Ma,fun x e y j c=>?_⟩
  .refine Uz (R := fun x y => x ≠ y) (fun {x y} e _ f c => f ?_) (IE.1 (Hs.sublist fR))
   grind
  grind
 have k:∀x∈List.range n,∃y∈((List.range n).filter fun v=>decide (r v=[]))++[d],Cr r x y:=fun x e=>by
  by_cases h:r x=[]
  .exact⟨x,wI _ (eR.2 ⟨e,decide_eq_true h⟩),.refl _⟩
  grind
 rw[qo (Cr.eqv R _) Hs k1 k2 k];simp
theorem flat_on (R:V7 n r) (hf:Flat n r) (bp:∀v w,r v≠[]->r w≠[]->Cr r v w) (ne:∃v,v<n/\r v≠[]):2*((kV n r).length+cls (WD (Nv r)) (dl n r))=(dl n r).length+4:=by grind [iso_on,cmps_on,Flat,mj]
theorem Oz (h3:3<=(kV n r).length) (v w:Nat):∃x,x<n/\r x≠[]/\x≠v/\x≠w:=by
 have nd:(kV n r).Nodup:=Hs.sublist fR;have d:∀x∈kV n r,x<n/\r x≠[]:=fun x e=>⟨ZT.1 (eR.1 e).1,of_decide_eq_true (eR.1 e).2⟩;generalize kV n r=L at h3 nd d
 match L,h3 with
 |a::b::c::t,_=>
  have ha:=d a Ma;have hb:=d b Ma;have f:=d c Ma
  grind
theorem qh (R:V7 n r) (D:QG r) (h3:3<=(kV n r).length) {d:H8} (hd:d∈dl n r):3<=bt (Nv r) d/\(bt (Nv r) d=3->∃x y z,y∈r x/\z∈r y/\x∈r z):=by
 have p:=TG R;obtain⟨j,f,_⟩:=abM p hd;have g:=Sg R hd;have m0:=(IP R).1 hd;have m1:=(IP R).1 (p.uN hd 1);have m2:=(IP R).1 (p.uN hd 2);obtain⟨v,w⟩:=d;obtain⟨x,k,a,x1,h⟩:=Oz h3 v w;have i:v≠w:=fun e=>R.ir v pw;constructor
 .refine Nat.lt_of_le_of_ne g fun e => ?_
  rw[<-e]at f;have b:(nx (r w) v,nx (r (nx (r w) v)) w)=((v,w):H8):=f;injection b with b _;have c:v∈r w:=R.sy _ _ m0;exact D.deg ((Bk (R.nd w) c).1 b) a h x1 (ff i)
 grind [it,Nv]
theorem LR (R:V7 n r) (hf:Flat n r) (D:QG r) (h3:3<=(kV n r).length):(dl n r).length+12<=6*(kV n r).length/\((∀x y z,y∈r x->z∈r y->x∉r z)->(dl n r).length+8<=4*(kV n r).length):=by
 obtain⟨x,b,a,_⟩:=Oz h3 0 0;have e:=flat_on R hf D.bp ⟨x,b,a⟩;constructor
 .have := Gj R (k := 3) fun d hd => (qh R D h3 hd).1
  omega
 .intro c
  have:=Gj R (k:=4) fun d hd=>by grind [qh]
  omega
theorem XU.bound {E:Nat->II} (b:V7 n E) (D:QG E) (h3:3<=(kV n E).length) (c:XU n E):(dl n E).length+12<=6*(kV n E).length/\((∀x y z,y∈E x->z∈E y->x∉E z)->(dl n E).length+8<=4*(kV n E).length):=by
 obtain⟨R,a,fl,e⟩:=c;have f:kV n R=kV n E:=by
  refine fj fun v _=>?_;rw[decide_eq_decide];have:R v=[]↔E v=[]:=by
   rw[Lm,Lm]
   grind
  grind
 have g:(dl n R).length=(dl n E).length:=(yR (J8 a) (J8 b) fun d=>by grind [IP]).length_eq;have:=LR a fl (D.same e) pw
 grind
end
end Go.Fw
namespace Go.Fw
section
attribute [local instance] Classical.propDecidable
variable {l:II} {m n v w x:Nat}
theorem xT {E:Nat->II} (h:∀v,m<=v->E v=[]) (k:Nat):dl (m+k) E=dl m E/\kV (m+k) E=kV m E:=by
 have e:List.range (m+k)=List.range m++(List.range k).map (m+·):=List.range_add;constructor
 .grind [dl,List.flatMap_eq_nil_iff]
 grind [kV,filter_none]
def Hr (v:Nat):II:=if v<5 then(List.range 5).filter fun w=>w !=v else[]
def pT (v:Nat):II:=if v<3 then[3,4,5]else if v<6 then[0,1,2]else[]
theorem pZ:w∈Hr v↔v<5/\w<5/\w≠v:=by grind [Hr]
theorem Vb:w∈pT v↔(v<3/\3<=w/\w<6)\/(3<=v/\v<6/\w<3):=by grind [pT]
theorem Ce (h:x∈l):l≠[]:=fun e=>by grind
def WB (h:l≠[]):∃x,x∈l:=by
 obtain⟨x,t,e⟩:=iy h;exact⟨x,by rw[e];simp⟩
theorem k5_no (b:5<=n):¬XU n Hr:=fun d=>by
 have lt:∀{v},Hr v≠[]->v<5:=fun h=>by obtain⟨x,f⟩:=WB h;grind [pZ]
 have R:V7 n Hr:=by
  refine⟨fun v=>?_,fun v w h=>?_,fun v w h=>?_,fun v h=>?_⟩
  all_goals grind [Hr,List.filter_sublist]
 have D:QG Hr:=by
  refine⟨fun v w a hw=>?_,fun c v w g h2 a hw=>?_⟩
  .by_cases e : w = v
   .rw[e];exact .refl _
   grind [Cr.one,pZ]
  .by_cases e : w = v
   .rw[e];exact .refl _
   grind [Cr.one,EM,pZ]
 have off:∀v,5<=v->Hr v=[]:=fun v h=>by grind
 obtain⟨k,rfl⟩:=qL201 b;obtain⟨i,j⟩:=xT off k;have l1:(dl 5 Hr).length=20:=by decide
 have l2:(kV 5 Hr).length=5:=by
  have:kV 5 Hr=List.range 5:=OM.2 fun v a=>by
   have a:=ZT.1 a
   refine decide_eq_true (Ce (x:=if v=0 then 1 else 0) (pZ.2 ⟨a,?_,?_⟩))
   all_goals grind
  grind
 have:=(d.bound R D pw).1
 grind
theorem k33_no (f:6<=n):¬XU n pT:=fun g=>by
 have lt:∀{v},pT v≠[]->v<6:=fun h=>by obtain⟨x,l⟩:=WB h;grind [Vb]
 have R:V7 n pT:=by
  refine⟨fun v=>?_,fun v w h=>?_,fun v w h=>?_,fun v h=>?_⟩
  all_goals grind [pT]
 have D:QG pT:=by
  have two:∀c v w,v≠c->w≠c->v<6->w<6->Cr (Om (fun x y=>x≠c/\y≠c) pT) v w:=fun c v w d h2 e hw=>by
   have UQ:∀{x y},x≠c->y≠c->((x<3/\3<=y/\y<6)\/(3<=x/\x<6/\y<3))->Cr (Om (fun x y=>x≠c/\y≠c) pT) x y:=fun i j q=>Cr.one (EM.2 ⟨Vb.2 q,i,j⟩);by_cases a:v<3
   .by_cases b : w < 3
    .by_cases z : c = 3
     .exact(UQ (y:=4) d NH NH).trans (UQ NH h2 NH)
     .exact(UQ (y:=3) d NH NH).trans (UQ NH h2 NH)
    grind
   .by_cases b : w < 3
    .grind
    .by_cases z : c = 0
     .exact(UQ (y:=1) d NH NH).trans (UQ NH h2 NH)
     .exact(UQ (y:=0) d NH NH).trans (UQ NH h2 NH)
  refine⟨fun v w e hw=>?_,fun c v w d h2 e hw=>two c v w d h2 (lt e) (lt hw)⟩;have a:=lt e;have b:=lt hw;exact(two 6 v w NH NH a b).mono fun x y h=>(EM.1 h).1
 have off:∀v,6<=v->pT v=[]:=fun v h=>by grind
 obtain⟨k,rfl⟩:=qL201 f;obtain⟨m,o⟩:=xT off k;have l1:(dl 6 pT).length=18:=by decide
 have l2:(kV 6 pT).length=6:=by grind [kV,pT,List.filter_eq_self]
 have:=(g.bound R D pw).2 fun x y z d h2 h3=>by grind [Vb]
 grind
end
end Go.Fw
namespace Go.Fw
attribute [local instance] Classical.propDecidable
structure Ren (n:Nat) (p q:Nat->Nat):Prop where
 pl:∀v,v<n->p v<n
 ql:∀v,v<n->q v<n
 pq:∀v,v<n->p (q v)=v
 qp:∀v,v<n->q (p v)=v
def ab4 (n:Nat) (p q:Nat->Nat) (r:Nat->II) (w:Nat):II:=if w<n then(r (q w)).map p else[]
def pp (p:Nat->Nat) (d:H8):H8:=(p d.1,p d.2)
section
variable {n : Nat} {p q : Nat → Nat} {r : Nat → List Nat}
theorem Ren.inj (N:Ren n p q) {x y:Nat} (a:x<n) (b:y<n) (e:p x=p y):x=y:=by grind [Ren.qp]
theorem afE (N:Ren n p q) {v:Nat} (a:v<n):ab4 n p q r (p v)=(r v).map p:=by grind [ab4,Ren.pl,Ren.qp]
def rlt (R:V7 n r) {v w:Nat} (h:w∈r v):v<n/\w<n:=⟨R.lt _ _ h,R.lt _ _ (R.sy _ _ h)⟩
theorem acb (N:Ren n p q) (R:V7 n r) {v w:Nat}:w∈ab4 n p q r v↔v<n/\w<n/\q w∈r (q v):=by
 unfold ab4;by_cases c:v<n
 .rw [if_pos c, yM]
  constructor
  .rintro ⟨x, a, rfl⟩
   have:=(rlt R a).2
   grind [Ren.pl,Ren.qp]
  grind [Ren.pq]
 grind
theorem aeR (N:Ren n p q) (R:V7 n r):V7 n (ab4 n p q r):=by
 refine⟨fun v=>?_,fun v w h=>((acb N R).1 h).1,fun v w h=>?_,fun v h=>R.ir _ ((acb N R).1 h).2.2⟩
 .unfold ab4
  split
  .rw [IE, j3]
   exact Uz (fun{x y} b c a e=>a (N.inj (rlt R b).2 (rlt R c).2 e)) (IE.1 (R.nd _))
  .simp
 grind [acb,V7.sy]
def ren_phi (N:Ren n p q) (R:V7 n r) {d:H8} (hd:d∈dl n r):Nv (ab4 n p q r) (pp p d)=pp p (Nv r d):=by
 have a:=(IP R).1 hd;have hs:=R.sy _ _ a;show(p d.2,nx (ab4 n p q r (p d.2)) (p d.1))=(p d.2,p (nx (r d.2) d.1));rw[afE N (rlt R a).2,HL (fun x b y c e=>N.inj (rlt R b).2 (rlt R c).2 e) hs]
def aes (N:Ren n p q) (R:V7 n r) {d:H8} (hd:d∈dl n r):∀k,it (Nv (ab4 n p q r)) k (pp p d)=pp p (it (Nv r) k d)
 |0=>rfl
 |k+1=>by
  show Nv (ab4 n p q r) (it (Nv (ab4 n p q r)) k (pp p d))=_;rw[aes N R hd k,ren_phi N R ((TG R).uN hd k)];rfl
theorem afF (N:Ren n p q) (R:V7 n r) {d e:H8} (hd:d∈dl n r) (c:e∈dl n r) (h:pp p d=pp p e):d=e:=by
 have f:=rlt R ((IP R).1 hd);have h2:=rlt R ((IP R).1 c);obtain⟨a,b⟩:=d;obtain⟨x,y⟩:=e;injection h with k1 k2
 grind [Ren.inj]
theorem ren_cr (N:Ren n p q) (R:V7 n r) {x y:Nat} (b:x<n) (d:y<n):Cr (ab4 n p q r) (p x) (p y)↔Cr r x y:=by
 constructor
 .intro h
  have QI:∀z,Cr (ab4 n p q r) (p x) z->Cr r x (q z):=fun z c=>by
   induction c with
   |refl=>rw[N.qp x b];exact .refl _
   |step _ hs a=>exact a.step ((acb N R).1 hs).2.2
  grind [Ren.qp]
 .intro h
  clear d
  induction h with
  |refl=>exact .refl _
  |step _ hs a=>
   have k:=rlt R hs;exact a.step ((acb N R).2 ⟨N.pl _ k.1,N.pl _ k.2,by grind [Ren.qp]⟩)
theorem afG (N:Ren n p q) (R:V7 n r):Flat n (ab4 n p q r)↔Flat n r:=by
 have R':=aeR N R;have a:(List.range n).Perm ((List.range n).map p):=by
  refine yR Hs ?_ fun v=>?_
  .grind [List.Pairwise.imp_of_mem,Ren.inj,List.nodup_range]
  .rw [ZT, yM]
   constructor
   all_goals grind [Ren.ql,Ren.pq,Ren.pl]
 have b:(dl n (ab4 n p q r)).Perm ((dl n r).map (pp p)):=by
  refine yR (J8 R') ?_ fun d=>?_
  .rw [IE, j3]
   exact Uz (fun{x y} c f g e=>g (afF N R c f e)) (IE.1 (J8 R))
  .rw [IP R', acb N R, yM]
   constructor
   .rintro ⟨l, h2, h3⟩
    exact⟨(q d.1,q d.2),(IP R).2 h3,by show(p (q d.1),p (q d.2))=d;grind [Ren.pq]⟩
   .rintro ⟨e, i, rfl⟩
    have h:=(IP R).1 i;have k:=rlt R h;refine⟨N.pl _ k.1,N.pl _ k.2,?_⟩;show q (p e.2)∈r (q (p e.1))
    grind [Ren.qp]
 have m:(dl n (ab4 n p q r)).length=(dl n r).length:=by rw[b.length_eq,jz]
 have o:cls (WD (Nv (ab4 n p q r))) (dl n (ab4 n p q r))=cls (WD (Nv r)) (dl n r):=by
  rw[Yy b (TG R').eqv,Zx];refine IZ fun d hd e i=>?_;constructor
  .rintro ⟨k, j⟩
   rw[aes N R hd k]at j;exact⟨k,afF N R ((TG R).uN hd k) i j⟩
  .rintro ⟨k, rfl⟩
   exact⟨k,aes N R hd k⟩
 have e3:((List.range n).filter fun v=>decide (ab4 n p q r v=[])).length=((List.range n).filter fun v=>decide (r v=[])).length:=by
  rw[(a.filter _).length_eq,abl,jz];refine congrArg List.length (fj fun v s=>?_)
  grind [afE,List.map_eq_nil_iff]
 have e4:iJ n (ab4 n p q r)=iJ n r:=by
  unfold iJ;rw[Yy a (Cr.eqv R' _),Zx];exact IZ fun x c y f=>ren_cr N R (ZT.1 c) (ZT.1 f)
 grind [Flat,mj]
theorem XU.ren (N:Ren n p q) {E E':Nat->II} (h:∀v w,w∈E' v↔v<n/\w<n/\q w∈E (q v)) (b:XU n E):XU n E':=by
 obtain⟨R,a,fl,c⟩:=b;exact⟨ab4 n p q R,aeR N a,(afG N a).2 fl,fun v w=>by grind [acb]⟩
end
end Go.Fw
namespace Go.Fw
attribute [local instance] Classical.propDecidable
def jJ (R:Nat->II) (H:Nat->Nat->Prop) (v w x y:Nat):Prop:=
 (v=x/\w=y)\/(v=y/\w=x)\/∃a b,(a=v\/a=w)/\(b=x\/b=y)/\off R H a/\off R H b/\Cr (Mm R H) a b
section
variable {n : Nat} {R : Nat → List Nat} {H H' : Nat → Nat → Prop}
def IV (d:V7 n R) {v w a:Nat} (hw:w∈R v) (ha:a=v\/a=w) (c:off R H a):QI R H v w=(0,lo R H a,0):=by
 rcases ha with rfl|rfl
 .exact M6 c
 .rw[RX d hw];exact M6 c
def Uu (f:V7 n R) {v w x y:Nat} (hw:w∈R v) (i:y∈R x):QI R H v w=QI R H x y↔jJ R H v w x y:=by
 constructor
 .intro e
  have d:∀{v w:Nat},(∃a,(a=v\/a=w)/\off R H a)\/(¬off R H v/\¬off R H w):=fun{v w}=>by
   by_cases c1:off R H v
   .exact .inl ⟨v,.inl rfl,c1⟩
   by_cases c2:off R H w
   .exact .inl ⟨w,.inr rfl,c2⟩
   .exact .inr ⟨c1,c2⟩
  rcases d (v:=v) (w:=w)with⟨a,ha,h⟩|⟨c1,c2⟩
  .rw [IV f hw ha h] at e
   rcases d (v:=x) (w:=y)with⟨b,hb,g⟩|⟨j,k⟩
   .rw [IV f i hb g] at e
    have l:lo R H a=lo R H b:=by injection e with _ e;injection e
    exact .inr (.inr ⟨a,b,ha,hb,h,g,(fX f).1 l⟩)
   .rw [rj j k] at e
    have:=congrArg Prod.fst e;simp at this
  .rw [rj c1 c2] at e
   rcases d (v:=x) (w:=y)with⟨b,hb,g⟩|⟨j,k⟩
   .rw [IV f i hb g] at e
    have:=congrArg Prod.fst e;simp at this
   .rw [rj j k] at e
    injection e with _ e;injection e with l m;by_cases q:v=x
    .exact .inl ⟨q,NH⟩
    .exact .inr (.inl ⟨NH,NH⟩)
 .rintro (⟨rfl, rfl⟩ | ⟨rfl, rfl⟩ | ⟨a, b, ha, hb, h, g, c⟩)
  .rfl
  .exact RX f hw
  .rw[IV f hw ha h,IV f i hb g,(fX f).2 c]
def aap (c:∀x y,H x y->H' x y) {v:Nat} (h:off R H' v):off R H v:=fun w hw q=>h w hw (c _ _ q)
def uf (c:∀x y,H x y->H' x y) {v w:Nat} (h:w∈Mm R H' v):w∈Mm R H v:=by
 obtain⟨d,h2,h3⟩:=EM.1 h;exact EM.2 ⟨d,aap c h2,aap c h3⟩
theorem jJ.mono (d:∀x y,H x y->H' x y) {v w x y:Nat} (h:jJ R H' v w x y):jJ R H v w x y:=by
 rcases h with h|h|⟨a,b,ha,hb,e,f,c⟩
 .exact .inl h
 .exact .inr (.inl h)
 .exact .inr (.inr ⟨a,b,ha,hb,aap d e,aap d f,c.mono fun v w=>uf d⟩)
theorem jJ.symm (e:V7 n R) {v w x y:Nat} (h:jJ R H v w x y):jJ R H x y v w:=by
 rcases h with⟨d,h2⟩|⟨d,h2⟩|⟨a,b,ha,hb,f,g,c⟩
 .exact .inl ⟨d.symm,h2.symm⟩
 .exact .inr (.inl ⟨h2.symm,d.symm⟩)
 .exact .inr (.inr ⟨b,a,hb,ha,g,f,c.symm (QM e)⟩)
variable {a b : Nat} {inn : List Nat}
abbrev XZ (H:Nat->Nat->Prop) (a:Nat) (inn:II) (b:Nat):Nat->Nat->Prop:=fun x y=>H x y\/Ay a inn b x y
def OH {x y:Nat} (h:H x y):XZ H a inn b x y:=.inl h
theorem Ka.chain (W:Ka R H a inn b):∀(i x y:Nat),inn[0]?=some x->inn[i]?=some y->Cr (Mm R H) x y
 |0,x,y,c,h2=>by rw[c]at h2;injection h2 with h2;subst h2;exact .refl _
 |i+1,x,y,c,h2=>by
  have l:=(Ny.1 h2).1;have d:inn[i]?=some (inn[i]'(by omega)):=XJ NH
  have h:=W.chain i x _ c d;have g:∀(j z:Nat),inn[j]?=some z->(nr a inn b)[j+1]?=some z:=fun j z f=>by
   have k:=(Ny.1 f).1;show(a::(inn++[b]))[j+1]?=some z;rw[MY,si k];exact f
  have e:=W.UQ (i+1) _ _ (g i _ d) (g (i+1) _ h2);exact h.step (EM.2 ⟨e.1,W.off _ (Gc d),W.off _ (Gc h2)⟩)
def Ka.QC (W:Ka R H a inn b) (d:V7 n R) (hs:∀v w,H v w->H w v) {v:Nat} (f:v∈inn):QI R H a ((inn++[b]).headD 0)=(0,lo R H v,0):=by
 cases hi:inn with
 |nil=>rw[hi]at f;cases f
 |cons c t=>
  have h:c∈inn:=by rw[hi];simp
  have e:((c::t++[b]):II).headD 0=c:=rfl;rw[e];have j:c∈R a:=by have:=(W.fst d hs).1;rw[hi]at this;exact this
  rw[IV d j (.inr rfl) (W.off c h)];obtain⟨i,g⟩:=vZ.1 f;rw[(fX d).2 (W.chain i c v (by rw[hi];rfl) g)]
def Ka.PW (W:Ka R H a inn b) (c:V7 n R) (hs:∀v w,H v w->H w v) {x y:Nat} (h:Ay a inn b x y):QI R H x y=QI R H a ((inn++[b]).headD 0):=by
 have d:=W.wE c hs h;by_cases f:x∈inn
 .rw[W.QC c hs f];exact IV c d.1 (.inl rfl) (W.off x f)
 by_cases cy:y∈inn
 .rw[W.QC c hs cy];exact IV c d.1 (.inr rfl) (W.off y cy)
 have g:=dC h;have i:=dC (Ef h);have ne:x≠y:=fun e=>c.ir y (by rw[e]at d;exact d.1);have ab:=W.ab;rcases g with rfl|rfl|g
 .rw[W.Fp.1 h]
 .have e := d.1
  rcases i with rfl|rfl|i
  .rw[RX c e];exact congrArg (QI R H _) (W.Fp.1 (Ef h))
  .exact absurd rfl ne
  .exact absurd i cy
 .exact absurd g f
def yw (W:Ka R H a inn b) (j:V7 n R) {v:Nat}:off R (XZ H a inn b) v↔off R H v/\v∉inn:=by
 constructor
 .intro h
  refine⟨aap (fun _ _=>OH) h,fun k=>?_⟩;obtain⟨i,p,f,g⟩:=qm (a:=a) (b:=b) (.inr k);exact h p (j.sy _ _ (W.UQ i _ _ f g).1) (.inr (.inr ⟨i,f,g⟩))
 .rintro ⟨c, h2⟩ w hw (q | q)
  .exact c w hw q
  .rcases dC q with rfl | rfl | q
   .obtain⟨z,d,e⟩:=W.JX;exact c z d e
   .obtain⟨z,d,e⟩:=W.sN;exact c z d e
   .exact h2 q
def jJ.keep (W:Ka R H a inn b) (f:V7 n R) (hs:∀v w,H v w->H w v) {v w x y:Nat} (hw:w∈R v) (m:QI R H v w≠QI R H a ((inn++[b]).headD 0)) (h:jJ R H v w x y):jJ R (XZ H a inn b) v w x y:=by
 rcases h with h|h|⟨c,d,j,hd,k,o,q⟩
 .exact .inl h
 .exact .inr (.inl h)
 have e:∀z,Cr (Mm R H) c z->z∉inn:=fun z i p=>m (by rw[IV f hw j k,W.QC f hs p,(fX f).2 i]);have main:∀z,Cr (Mm R H) c z->off R (XZ H a inn b) z->Cr (Mm R (XZ H a inn b)) c z:=fun z i=>by
  induction i with
  |refl=>exact fun _=>.refl _
  |@step y z r h2 s=>
   intro t;obtain⟨m1,m2,_⟩:=EM.1 h2;have l:off R (XZ H a inn b) y:=(yw W f).2 ⟨m2,e _ r⟩;exact(s l).step (EM.2 ⟨m1,l,t⟩)
 have g:off R (XZ H a inn b) d:=(yw W f).2 ⟨o,e _ q⟩;exact .inr (.inr ⟨c,d,j,hd,(yw W f).2 ⟨k,e _ (.refl _)⟩,g,main d q g⟩)
end
end Go.Fw
namespace Go.Fw
attribute [local instance] Classical.propDecidable
section
variable {n : Nat} {R : Nat → List Nat} {H : Nat → Nat → Prop} {F G : List (List Nat)}
def JY (a:V7 n R) (hs:∀v w,H v w->H w v) (D:QG R) (h2:∃p q,p≠q/\¬off R H p/\¬off R H q):
  (∀u x,QP R H u x->∃z y,QP R H z y/\u≠z/\QI R H u x=QI R H z y)/\∀v w,w∈R v->¬H v w->∃u x,QP R H u x/\QI R H v w=QI R H u x:=by
 obtain⟨p,q,j,l,B⟩:=h2;have b:∀{v w},w∈R v->R v≠[]:=fun h e=>by rw[e]at h;cases h
 have s:∀{v},¬off R H v->R v≠[]:=fun h=>by obtain⟨w,k,_⟩:=Q7 h;exact b k
 have mk:∀{r:Nat->II} {v w:Nat},(∀v w,w∈r v->w∈R v)->Cr r v w->off R H v->¬off R H w->∃u x,QP R H u x/\QI R H u x=(0,lo R H v,0)/\x∈R u/\u∈r x:=fun{r v w} sub m C hw=>by
  rcases tq a sub m C with h|⟨y,z,f,h2,h3,g⟩
  .exact absurd h.2 hw
  .have A := a.sy _ _ (sub _ _ g)
   exact⟨z,y,⟨h3,A,fun k=>h2 z (sub _ _ g) (hs _ _ k)⟩,by rw[Jn h3 h2,(fX a).2 f],A,g⟩
 refine⟨fun u x d=>?_,fun v w hw E=>?_⟩
 .by_cases c : off R H x
  .have:∃t,t≠u/\¬off R H t:=by
    by_cases e:p=u
    .exact⟨q,fun k=>j (e.trans k.symm),B⟩
    .exact⟨p,e,l⟩
   obtain⟨t,I,i⟩:=this;have o:x≠u:=fun e=>d.on (e▸c);have m:=D.Z7 u x t o I (b (a.sy _ _ d.mem)) (s i);obtain⟨z,y,f,h2,_,g⟩:=mk (fun v w h=>(EM.1 h).1) m c i;exact⟨z,y,f,fun e=>(EM.1 g).2.2 e.symm,by rw[h2,Jn d.on c]⟩
  .exact⟨x,u,⟨c,a.sy _ _ d.mem,fun k=>d.nh (hs _ _ k)⟩,fun e=>a.ir u (e▸d.mem),RX a d.mem⟩
 .by_cases c : off R H v
  .obtain ⟨z, y, f, h2, _⟩ := mk (fun _ _ h => h) (D.bp v p (b hw) (s l)) c l
   exact⟨z,y,f,by rw[h2,M6 c]⟩
  .exact⟨v,w,⟨c,hw,E⟩,rfl⟩
theorem vy.perm (g:vy n R F) (h:F.Perm G):vy n R G:=
 ⟨g.Rl,g.O.perm h,g.bp,by have:=g.num;unfold Num at this ⊢;rw[<-h.length_eq];exact this,fun e=>g.ne (by rw[e]at h;exact h.eq_nil)⟩
theorem Ctx.perm (C:Ctx n R H F) (h:F.Perm G):Ctx n R H G:=⟨C.Rl,C.sym,C.fl,C.O.perm h,C.bp⟩
theorem PU.perm {E:Nat->II} (I:PU n E H F) (h:F.Perm G):PU n E H G:=
 ⟨I.sub,by obtain⟨r,g,a⟩:=I.XK;exact⟨r,g.perm h,a⟩,fun q=>by obtain⟨R,b,h2⟩:=I.full q;exact⟨R,b,h2.perm h⟩⟩
def PU.sym {E:Nat->II} (I:PU n E H F):∀v w,H v w->H w v:=fun v w h=>by
 obtain⟨r,g,a⟩:=I.XK;exact(a _ _).1 (g.Rl.sy _ _ ((a _ _).2 h))
def PU.on_face {E:Nat->II} (I:PU n E H F) {f:II} (hf:f∈F) {u:Nat} (b:u∈f):¬off E H u:=fun q=>by
 obtain⟨r,g,c⟩:=I.XK;have a:=(c _ _).1 (g.O.df g.Rl hf b);exact q _ (I.sub _ _ a) a
def PU.O0 {E:Nat->II} (I:PU n E H F) {f:II} (hf:f∈F):f.Nodup/\∀u∈f,u<n:=by
 obtain⟨r,g,b⟩:=I.XK;exact⟨g.O.nd f hf,fun u a=>g.Rl.lt _ _ (g.O.df g.Rl hf a)⟩
theorem PU.nodup {E:Nat->II} (I:PU n E H F):F.Nodup:=by
 obtain⟨r,g,a⟩:=I.XK;exact g.O.nodup
end
end Go.Fw
namespace Go.Fw
attribute [local instance] Classical.propDecidable
section
variable {n : Nat} {r E : Nat → List Nat}
def V7.nil_at (R:V7 n r) {v:Nat} (h:n<=v):r v=[]:=by
 rcases a:r v with _|⟨w,l⟩
 .rfl
 .have:=R.lt v w (by rw[a];simp);omega
def aaK (R:V7 n r):Flat (n+1) r↔Flat n r:=by
 have e:=R.nil_at (qL0 n);have hd:dl (n+1) r=dl n r:=by unfold dl;rw[b7,aeO];simp[e]
 have hf:mj (n+1) r=mj n r+1:=by
  unfold mj;rw[hd,b7,N8,Eh];simp[e];omega
 have a:iJ (n+1) r=iJ n r+1:=by
  have R':V7 (n+1) r:=⟨R.nd,fun v w h=>aeN (R.lt v w h),R.sy,R.ir⟩;unfold iJ;rw[b7,Yy (Gg (l₁:=List.range n) (l₂:=[n])) (Cr.eqv R' _)];rw[Xz,cls,if_neg];rintro⟨y,b,h⟩;have:∀y,Cr r n y->y=n:=fun y h=>by
   induction h with
   |refl=>rfl
   |step _ h c=>rw[c,e]at h;cases h
  have:=this y h;simp at b;omega
 unfold Flat;rw[hd,hf,a];omega
theorem XU.more (h:∀v w,w∈E v->v<n):XU (n+1) E↔XU n E:=by
 constructor
 .rintro ⟨R, a, fl, c⟩
  have b:V7 n R:=⟨a.nd,fun v w q=>h v w ((c v w).1 q),a.sy,a.ir⟩;exact⟨R,b,(aaK b).1 fl,c⟩
 .rintro ⟨R, a, fl, c⟩
  exact⟨R,⟨a.nd,fun v w q=>aeN (a.lt v w q),a.sy,a.ir⟩,(aaK a).2 fl,c⟩
def XU.mores (h:∀v w,w∈E v->v<n) (k:Nat):XU (n+k) E↔XU n E:=by
 induction k with
 |zero=>rfl
 |succ k a=>exact(XU.more fun v w q=>Ki (h v w q) (adY _ _)).trans a
end
end Go.Fw
