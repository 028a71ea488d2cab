/- A text. -/
import Derived.Test.YtkccdnmaaelbiaaGreatFwCyc
set_option linter.all false
set_option maxRecDepth 99999
set_option maxHeartbeats 9999999
namespace Go.Fw
section
attribute [local instance] Classical.propDecidable
variable {n : Nat} {r : Nat → List Nat}
def Flat (n:Nat) (r:Nat->II):Prop:=2*(n+mj n r)=(dl n r).length+4*iJ n r
theorem dl_even:∀(m:Nat) (r:Nat->II),V7 n r->(dl n r).length=m->m%2=0:=by
 intro m
 induction m using Nat.strongRecOn with
 |_ m b=>
  intro r R h;cases hh:dl n r with
  |nil=>grind
  |cons d l=>
   obtain⟨v,w⟩:=d;have hw:w∈r v:=(IP (d:=(v,w)) R).1 pw;have a:v≠w:=fun e=>R.ir v pw
   grind [yH,List.Perm.length_eq,List.length_cons,pG]
def Z4 (R:V7 n r):∃g,2*(n+mj n r)+4*g=(dl n r).length+4*iJ n r:=by
 have a:=dl_even _ r R rfl;obtain⟨g,hg⟩:=aE ((dl n r).length / 2) r R NH;exact⟨g,NH⟩
theorem Lq (R:V7 n r) {v w:Nat} (h:w∈r v) (hf:Flat n r):Flat n (del r v w)/\(WD (Nv r) (v,w) (w,v)↔¬Cr (del r v w) v w):=by
 have a:v≠w:=fun e=>R.ir v pw;have R':=pG R a;have b:=(yH R h).length_eq;simp only[Uz]at b;obtain⟨c,f⟩:=xf R h;obtain⟨c1,c2⟩:=ab6 R h;obtain⟨g,hg⟩:=Z4 R';have hb:=jh R h;unfold Flat at*;by_cases d:WD (Nv r) (v,w) (w,v)
 .have := c d
  by_cases i:Cr (del r v w) v w
  all_goals grind
 grind
theorem acP (R:V7 n r) {v w:Nat} (h:w∈r v) (hf:Flat n (del r v w)) (hh:WD (Nv r) (v,w) (w,v)↔¬Cr (del r v w) v w):Flat n r:=by
 have a:=(yH R h).length_eq
 grind [xf,ab6,Flat]
noncomputable def Om (P:Nat->Nat->Prop) (r:Nat->II):Nat->II:=fun v=>(r v).filter fun w=>decide (P v w)
theorem EM {P:Nat->Nat->Prop} {v w:Nat}:w∈Om P r v↔w∈r v/\P v w:=by simp[Om]
def OG (R:V7 n r) {P:Nat->Nat->Prop} (a:∀v w,P v w->P w v):V7 n (Om P r):=
 ⟨fun v=>(R.nd v).sublist jf,fun v w h=>R.lt v w (EM.1 h).1,fun v w h=>EM.2 ⟨R.sy _ _ (EM.1 h).1,a _ _ (EM.1 h).2⟩,fun v h=>R.ir v (EM.1 h).1⟩
theorem cS {P:Nat->Nat->Prop} (h:∀v w,w∈r v->P v w):Om P r=r:=by grind [Om.eq_1,List.filter_eq_self]
theorem zH (R:V7 n r) {P:Nat->Nat->Prop} {v w:Nat} (a:v≠w) (b:¬P v w) (h2:¬P w v):Om P (del r v w)=Om P r:=by
 funext x;unfold Om del;split
 .rename_i e; subst e
  rw[(R.nd x).erase_eq_filter,jV]
  grind
 .split
  .rename_i c e; subst e
   rw[(R.nd x).erase_eq_filter,jV]
   grind
  .rfl
theorem j7:∀(m:Nat) (r:Nat->II),V7 n r->(dl n r).length=m->Flat n r->∀{P:Nat->Nat->Prop},(∀v w,P v w->P w v)->Flat n (Om P r):=by
 intro m
 induction m using Nat.strongRecOn with
 |_ m i=>
  intro r R j hf P d;by_cases a:∀v w,w∈r v->P v w
  .grind [cS]
  obtain⟨v,w,hw,b⟩:∃v w,w∈r v/\¬P v w:=IE fun f=>a fun v w hw=>IE fun b=>f ⟨v,w,hw,b⟩;have c:v≠w:=fun e=>R.ir v pw;have g:=(yH R hw).length_eq;simp only[Uz]at g;rw[<-zH R c b fun h=>b (d _ _ h)]
  grind [pG,Lq]
def Flat.keep (R:V7 n r) (hf:Flat n r) {P:Nat->Nat->Prop} (a:∀v w,P v w->P w v):Flat n (Om P r):=j7 _ r R rfl hf a
end
end Go.Fw
namespace Go.Fw
attribute [local instance] Classical.propDecidable
section
variable {α : Type} {X : List α} {f : α → α}
noncomputable def bt (f:α->α) (x:α):Nat:=if h:∃k,0<k/\it f k x=x then Classical.choose (On h)else 0
theorem aax (p:Pm X f) {x:α} (a:x∈X):0<bt f x/\it f (bt f x) x=x/\∀j,0<j->j<bt f x->it f j x≠x:=by grind [Pm.period,bt]
noncomputable def AA (f:α->α) (x:α):List α:=(List.range (bt f x)).map fun k=>it f k x
theorem oN (f:α->α) (x:α):(AA f x).length=bt f x:=by simp[AA]
theorem QF (p:Pm X f) {x:α} (a:x∈X) (k:Nat):it f k x=it f (k%bt f x) x:=by grind [aax,Nat.mod_add_div,Nat.mul_comm,qu,Pm.MH]
theorem vA (p:Pm X f) {x:α} (a:x∈X) {y:α}:y∈AA f x↔WD f x y:=by
 unfold AA;rw[aae];constructor
 .rintro⟨k,_,rfl⟩;exact⟨k,rfl⟩
 .rintro ⟨k, rfl⟩
  grind [Nat.mod_lt,aax,QF]
theorem zk (p:Pm X f) {x:α} (a:x∈X) {i j:Nat} (c:j<bt f x) (b:i<j):it f i x≠it f j x:=fun e=>by
 have h:it f j x=it f i (it f (j-i) x):=by rw[<-qu];grind
 rw[h]at e;have:=p.FT a (p.uN a _) i e
 grind [aax]
theorem Ri (p:Pm X f) {x:α} (a:x∈X):(AA f x).Nodup:=by grind [AA,List.pairwise_iff_getElem,zk]
end
def TD (a b:H8):Prop:=a.1<b.1\/a.1=b.1/\a.2<b.2
instance (a b:H8):Decidable (TD a b):=by unfold TD;infer_instance
theorem JN (a:H8):¬TD a a:=by grind [TD]
theorem Nd {a b c:H8} (h:TD a b) (g:TD b c):TD a c:=by grind [TD]
theorem ltD_tri (a b:H8):TD a b\/a=b\/TD b a:=by grind [TD]
theorem zE {α:Type} {lt:α->α->Prop} {R:α->α->Prop} (c:∀a b,lt a b->¬lt b a):∀(k:Nat) (l:List α),l.length=k->l.Pairwise lt->cls R l.reverse=(l.filter fun x=>decide (∀y∈l,R x y->¬lt y x)).length
 |0,l,h,_=>by rw[IC.1 h];rfl
 |k+1,l,h,d=>by
  obtain⟨l,x,rfl⟩:∃l' x,l=l'++[x]:=⟨l.dropLast,l.getLast (fun e=>by grind),(qQ _).symm⟩;rw[gK]at d;obtain⟨g,_,h3⟩:=d;have i:=zE (R:=R) c k l (by simpa using h) g;rw[aeD,List.reverse_cons,List.reverse_nil,js,aeC,cls,i,Db,kc];congr 1
  .grind [List.filter_congr]
  .by_cases q : ∃ y ∈ l.reverse, R x y
   all_goals grind
section
variable {n : Nat} {r : Nat → List Nat}
noncomputable def ddl (n:Nat) (r:Nat->II):List H8:=(List.range n).flatMap fun v=>((List.range n).filter fun w=>decide (w∈r v)).map fun w=>(v,w)
theorem Ks (R:V7 n r) {d:H8}:d∈ddl n r↔d.2∈r d.1:=by grind [ddl,V7.lt,V7.sy]
def pI (n:Nat) (r:Nat->II):(ddl n r).Pairwise TD:=by
 unfold ddl;rw[Jf];constructor
 .intro v _
  rw[vg];exact((Bx (n:=n)).filter _).imp fun h=>.inr ⟨rfl,h⟩
 .refine (Bx (n := n)).imp fun {a b} h x c y d => ?_
  obtain⟨_,_,rfl⟩:=aae.1 c;obtain⟨_,_,rfl⟩:=aae.1 d;exact .inl h
theorem dy (n:Nat) (r:Nat->II):(ddl n r).Nodup:=(Sb).2 ((pI n r).imp fun h e=>by grind [JN])
theorem J2 (R:V7 n r):(dl n r).Perm (ddl n r):=yR (J8 R) (dy n r) fun d=>by grind [IP,Ks]
def Hd (r:Nat->II) (d:H8):Prop:=∀e,WD (Nv r) d e->¬TD e d
noncomputable def L3 (n:Nat) (r:Nat->II):List H8:=(ddl n r).filter fun d=>decide (Hd r d)
noncomputable def zu (r:Nat->II) (d:H8):II:=(AA (Nv r) d).map (·.1)
noncomputable def vf (n:Nat) (r:Nat->II):Cs:=(L3 n r).map (zu r)
theorem yp (R:V7 n r):(L3 n r).length=cls (WD (Nv r)) (dl n r):=by
 have p:=TG R;have c:=J2 R;rw[Yy (c.trans (Yl _).symm) p.eqv,zE (lt:=TD) (fun a b h g=>JN a (Nd h g)) _ _ rfl (pI n r),L3];congr 1;refine qH fun d hd=>?_;rw[decide_eq_decide];have e:d∈dl n r:=c.mem_iff.2 hd;exact⟨fun h y _ o=>h y o,fun h y o=>h y (c.mem_iff.1 (p.sP e o)) o⟩
theorem gQ (R:V7 n r) {d:H8}:d∈L3 n r↔d.2∈r d.1/\Hd r d:=by grind [L3.eq_1,Ks]
theorem RM (R:V7 n r) {d e:H8} (hd:d∈L3 n r) (a:e∈L3 n r) (h:WD (Nv r) d e):d=e:=by
 rw[gQ R]at hd a;have b:=hd.2 e h;have h2:=a.2 d ((TG R).xw ((IP R).2 hd.1) h)
 grind [ltD_tri]
theorem Sg (R:V7 n r) {d:H8} (hd:d∈dl n r):2<=bt (Nv r) d:=by
 have p:=TG R;obtain⟨b,a,_⟩:=aax p hd;refine IE fun c=>?_;have e:bt (Nv r) d=1:=NH;rw[e]at a;have h2:d.2=d.1:=congrArg Prod.fst a
 grind [IP,V7.ir]
end
end Go.Fw
namespace Go.Fw
attribute [local instance] Classical.propDecidable
theorem sx {α:Type} {lt:α->α->Prop} (d:∀a,¬lt a a) (tr:∀a b c,lt a b->lt b c->lt a c):∀(l m:List α),l.Pairwise lt->m.Pairwise lt->(∀x,x∈l↔x∈m)->l=m
 |[],[],_,_,_=>rfl
 |[],y::m,_,_,h=>absurd ((h y).2 N8) ff
 |x::l,[],_,_,h=>absurd ((h x).1 N8) ff
 |x::l,y::m,f,g,h=>by
  rw[y5]at f g;have e:x=y:=by
   rcases Z6.1 ((h x).1 N8)with e|e
   .exact e
   .rcases Z6.1 ((h y).2 N8) with i | i
    all_goals grind
  subst e;congr 1;refine sx d tr l m f.2 g.2 fun z=>?_
  grind
section
variable {n : Nat} {r : Nat → List Nat}
theorem ordr_eq {α:Type} {X:List α} {f:α->α} (p:Pm X f) {x:α} (a:x∈X) {k:Nat} (b:0<k) (c:it f k x=x) (h2:∀j,j<k->0<j->it f j x≠x):bt f x=k:=by grind [aax]
def Cert (n:Nat) (r:Nat->II) (hs:List (H8×Nat)):Prop:=
 (∀p∈hs,p.1.2∈r p.1.1/\0<p.2/\it (Nv r) p.2 p.1=p.1/\∀j,j<p.2->(0<j->it (Nv r) j p.1≠p.1)/\¬TD (it (Nv r) j p.1) p.1)/\(hs.map (·.1)).Pairwise TD/\∀d∈dl n r,∃p∈hs,d∈(List.range p.2).map fun j=>it (Nv r) j p.1
theorem Fs (R:V7 n r) {hs:List (H8×Nat)} (C:Cert n r hs):vf n r=hs.map fun p=>(List.range p.2).map fun j=>(it (Nv r) j p.1).1:=by
 obtain⟨i,h2,h3⟩:=C;have p:=TG R;have t:∀q∈hs,bt (Nv r) q.1=q.2:=fun q f=>by grind [ordr_eq,IP]
 have g:∀q∈hs,Hd r q.1:=fun q f=>by
  obtain⟨a,b,c,d⟩:=i q f;rintro e ⟨k,rfl⟩
  grind [QF,IP,Nat.mod_lt]
 have e:L3 n r=hs.map (·.1):=by
  refine sx JN (fun _ _ _=>Nd) _ _ ((pI n r).filter _) h2 fun x=>?_;constructor
  .intro l
   obtain⟨h,m⟩:=(gQ R).1 l;obtain⟨q,f,o⟩:=h3 x ((IP R).2 h);obtain⟨j,_,s⟩:=aae.1 o;have:q.1∈L3 n r:=(gQ R).2 ⟨(i q f).1,g q f⟩;have:=RM R this l ⟨j,s⟩
   grind
  grind [gQ]
 grind [vf.eq_1,List.map_congr_left,zu,AA]
end
end Go.Fw
namespace Go.Fw
attribute [local instance] Classical.propDecidable
theorem Zx {α β:Type} {R:β->β->Prop} (f:α->β):∀X:List α,cls R (X.map f)=cls (fun x y=>R (f x) (f y)) X
 |[]=>rfl
 |x::l=>by
  rw[j3,cls,cls,Zx f l];have:(∃y∈l.map f,R (f x) y)↔∃y∈l,R (f x) (f y):=pw;simp only[this]
def inv (d:H8):H8:=(d.2,d.1)
theorem inv_inv (d:H8):inv (inv d)=d:=rfl
def qI (r:Nat->II) (v:Nat):II:=(r v).reverse
section
variable {n : Nat} {r : Nat → List Nat}
theorem ju {v w:Nat}:w∈qI r v↔w∈r v:=by simp[qI]
theorem Xn (R:V7 n r):V7 n (qI r):=
 ⟨fun v=>Gv (R.nd v),fun v w h=>R.lt v w (ju.1 h),fun v w h=>ju.2 (R.sy v w (ju.1 h)),fun v h=>R.ir v (ju.1 h)⟩
theorem O4 (R:V7 n r) {d:H8}:inv d∈dl n r↔d∈dl n r:=by rw[IP R,IP R];exact⟨R.sy _ _,R.sy _ _⟩
theorem O5 (R:V7 n r) {d:H8}:d∈dl n (qI r)↔d∈dl n r:=by grind [IP,Xn,ju]
def Bf (R:V7 n r) {d:H8} (hd:d∈dl n r):Nv (qI r) (inv (Nv r d))=inv d:=by
 have h:=R.sy _ _ ((IP R).1 hd);show(d.2,nx (r d.2).reverse (nx (r d.2) d.1))=(d.2,d.1);rw[qb (R.nd _) h]
def DD (R:V7 n r) {d:H8} (hd:d∈dl n r):∀k,it (Nv (qI r)) k (inv (it (Nv r) k d))=inv d
 |0=>rfl
 |k+1=>by
  rw[aaA];have:it (Nv r) (k+1) d=Nv r (it (Nv r) k d):=rfl;rw[this,Bf R ((TG R).uN hd k)];exact DD R hd k
def G2 (R:V7 n r) {d e:H8} (hd:d∈dl n r) (h:WD (Nv r) d e):WD (Nv (qI r)) (inv d) (inv e):=by
 obtain⟨k,rfl⟩:=h;have pm:=TG (Xn R);exact pm.xw ((O5 R).2 ((O4 R).2 ((TG R).uN hd k))) ⟨k,DD R hd k⟩
theorem mir_mir (r:Nat->II):qI (qI r)=r:=by grind [qI]
theorem SY (R:V7 n r) {d e:H8} (hd:d∈dl n r):WD (Nv (qI r)) (inv d) (inv e)↔WD (Nv r) d e:=by
 refine⟨fun h=>?_,G2 R hd⟩;have:=G2 (Xn R) ((O5 R).2 ((O4 R).2 hd)) h;rw[mir_mir]at this;exact this
theorem jX (R:V7 n r):cls (WD (Nv (qI r))) (dl n (qI r))=cls (WD (Nv r)) (dl n r):=by
 have a:(dl n (qI r)).Perm ((dl n r).map inv):=yR (J8 (Xn R)) ((Sb).2 (vg.2 ((Sb.1 (J8 R)).imp fun h e=>h (by grind [inv_inv])))) fun d=>by
  rw[O5 R,aae];constructor
  .intro h;exact⟨inv d,(O4 R).2 h,rfl⟩
  grind [O4]
 rw[Yy a (TG (Xn R)).eqv,Zx]
 grind [IZ,SY]
theorem We (R:V7 n r):Flat n (qI r)↔Flat n r:=by
 have a:(dl n (qI r)).length=(dl n r).length:=(yR (J8 (Xn R)) (J8 R) fun d=>O5 R).length_eq
 grind [qI,mj.eq_1,jX,iJ,IZ,Cr.mono,Flat.eq_1]
end
end Go.Fw
namespace Go.Fw
attribute [local instance] Classical.propDecidable
theorem Lt {l:II} (h:l≠[]):l.headD 0∈l:=by
 cases l<;>grind
theorem Cz {p q rest a:II} {v b:Nat} (h:v∉p):nx (p++v::(q++b::rest)) v=nx (p++v::(q++b::a)) v:=by grind [ZL]
theorem Nu {p rest:II} {v z:Nat} (h:v∉p):nx (p++v::z::rest) v=z:=by grind [ZL]
theorem vB {p:II} {x v:Nat} (h:v∉x::p):nx (x::(p++[v])) v=x:=by grind [ZL]
def pv (l:II) (y:Nat):Nat:=nx l.reverse y
theorem BJ {l:II} {y:Nat} (h:y∈l):pv l y∈l:=by
 have:=ZP (Qn.2 h);exact Qn.1 this
theorem G5 {l:II} (nd:l.Nodup) {y:Nat} (h:y∈l):nx l (pv l y)=y:=nx_rev' nd h
theorem c7 {l:II} (nd:l.Nodup) {y:Nat} (h:y∈l):pv l (nx l y)=y:=qb nd h
structure FO (r:Nat->II) (F:Cs):Prop where
 nd:∀f∈F,f.Nodup
 ne:∀f∈F,f≠[]
 bz:∀f∈F,∀v∈f,nx f v∈r v
 step:∀f∈F,∀v∈f,nx (r (nx f v)) v=nx f (nx f v)
 cover:∀v w,w∈r v->∃f∈F,v∈f/\nx f v=w
 uniq:∀f∈F,∀g∈F,∀v,v∈f->v∈g->nx f v=nx g v->f=g
 nodup:F.Nodup
section
variable {n : Nat} {r : Nat → List Nat} {F : List (List Nat)}
theorem FO.perm (O:FO r F) {G:Cs} (h:F.Perm G):FO r G:=
 ⟨fun f hf=>O.nd f (h.mem_iff.2 hf),fun f hf=>O.ne f (h.mem_iff.2 hf),fun f hf=>O.bz f (h.mem_iff.2 hf),fun f hf=>O.step f (h.mem_iff.2 hf),
  fun v w hw=>by obtain⟨f,hf,q⟩:=O.cover v w hw;grind,fun f hf g hg=>O.uniq f (h.mem_iff.2 hf) g (h.mem_iff.2 hg),h.nodup_iff.1 O.nodup⟩
theorem FO.it (O:FO r F) {f:II} (hf:f∈F) {v:Nat} (a:v∈f):∀k,it (nx f) k v∈f/\it (Nv r) k (v,nx f v)=(it (nx f) k v,nx f (it (nx f) k v))
 |0=>⟨a,rfl⟩
 |k+1=>by
  obtain⟨b,h2⟩:=FO.it O hf a k
  grind [ZP,it,Nv.eq_1,FO.step]
theorem FO.orb (O:FO r F) {f:II} (hf:f∈F) {v:Nat} (a:v∈f) {d:H8}:WD (Nv r) (v,nx f v) d↔∃u∈f,d=(u,nx f u):=by
 constructor
 .rintro ⟨k, rfl⟩
  obtain⟨c,h2⟩:=O.it hf a k
  grind
 .rintro ⟨u, b, rfl⟩
  obtain⟨k,e⟩:=JT (O.nd f hf) a b;refine⟨k,?_⟩
  grind [FO.it]
theorem XT {α:Type} {R:α->α->Prop} {L:List α} (c:L.Pairwise fun a b=>¬R a b):∀rest:List α,(∀x∈rest,∃y∈L,R x y)->cls R (rest++L)=L.length
 |[],_=>by
  induction L<;>grind [cls.eq_1,cls.eq_2]
 |x::rest,h=>by
  rw[ab4,cls,XT c rest fun y d=>h y (ZT _ d),if_pos]
  all_goals grind [List.mem_cons_self]
theorem qo {α:Type} {R:α->α->Prop} {X L:List α} (E:RC X R) (nd:X.Nodup) (c:∀y∈L,y∈X) (d:L.Pairwise fun a b=>¬R a b) (e:∀x∈X,∃y∈L,R x y):cls R X=L.length:=by
 have nL:L.Nodup:=by grind [List.Pairwise.imp_of_mem,RC.refl]
 have pm:X.Perm (X.filter (fun x=>decide (x∉L))++L):=pw;rw[Yy pm E]
 grind [XT]
theorem FO.cls (R:V7 n r) (O:FO r F):cls (WD (Nv r)) (dl n r)=F.length:=by
 have p:=TG R;have e:=qo p.eqv (J8 R) (L:=F.map fun f=>(f.headD 0,nx f (f.headD 0))) (fun d hd=>?_) ?_ (fun d hd=>?_)
 .grind
 .grind [IP,FO.bz,Lt,FO.ne]
 .rw [vg]
  refine wI (R:=fun a b=>a≠b) (fun{f g} hf hg c h=>c ?_) (Sb.1 O.nodup)
  grind [FO.orb,Lt,FO.ne,FO.uniq]
 .obtain ⟨f, hf, i, e⟩ := O.cover d.1 d.2 ((IP R).1 hd)
  refine⟨_,aae.2 ⟨f,hf,rfl⟩,?_⟩
  grind [Lt,FO.orb]
theorem FO.pv (O:FO r F) {f:II} (hf:f∈F) {v:Nat} (a:v∈f):pv f v∈f/\nx f (Go.Fw.pv f v)=v/\nx (r v) (Go.Fw.pv f v)=nx f v:=by grind [BJ,G5,FO.nd,FO.step]
theorem FO.df (R:V7 n r) (O:FO r F) {f:II} (hf:f∈F) {v:Nat} (a:v∈f):Go.Fw.pv f v∈r v:=by grind [FO.pv,FO.bz,V7.sy]
end
end Go.Fw
namespace Go.Fw
attribute [local instance] Classical.propDecidable
section
variable {α : Type}
noncomputable def two (P:α->Prop) (f g:α->α) (x:α):α:=if P x then f x else g x
theorem Ae {R:α->α->Prop} {Y:List α}:∀X:List α,(∀x∈X,∀y∈Y,¬R x y)->cls R (X++Y)=cls R X+cls R Y
 |[],_=>by simp[cls]
 |x::X,h=>by
  rw[ab4,cls,cls,Ae X fun z a=>h z (ZT _ a)];have:(∃y∈X++Y,R x y)↔∃y∈X,R x y:=pw;simp only[this];omega
structure Oi (D A B:List α) (P:α->Prop) (f g:α->α):Prop where
 perm:D.Perm (A++B)
 pa:∀x∈A,P x
 pb:∀x∈B,¬P x
 fa:Pm A f
 gb:Pm B g
variable {D A B : List α} {P : α → Prop} {f g : α → α}
def Oi.inA (p:Oi D A B P f g) {x:α} (a:x∈A):two P f g x=f x:=if_pos (p.pa x a)
def Oi.inB (p:Oi D A B P f g) {x:α} (a:x∈B):two P f g x=g x:=if_neg (p.pb x a)
theorem Oi.mem (p:Oi D A B P f g) {x:α}:x∈D↔x∈A\/x∈B:=by rw[p.perm.mem_iff,WA]
theorem Oi.itA (p:Oi D A B P f g) {x:α} (a:x∈A):∀k,it (two P f g) k x=it f k x
 |0=>rfl
 |k+1=>by
  show two P f g (it (two P f g) k x)=f (it f k x);rw[p.itA a k,p.inA (p.fa.uN a k)]
theorem Oi.itB (p:Oi D A B P f g) {x:α} (a:x∈B):∀k,it (two P f g) k x=it g k x
 |0=>rfl
 |k+1=>by
  show two P f g (it (two P f g) k x)=g (it g k x);rw[p.itB a k,p.inB (p.gb.uN a k)]
theorem Oi.orbA (p:Oi D A B P f g) {x:α} (a:x∈A) {y:α}:WD (two P f g) x y↔WD f x y:=
 ⟨fun⟨k,h⟩=>⟨k,by grind [Oi.itA]⟩,fun⟨k,h⟩=>⟨k,by grind [Oi.itA]⟩⟩
theorem Oi.orbB (p:Oi D A B P f g) {x:α} (a:x∈B) {y:α}:WD (two P f g) x y↔WD g x y:=
 ⟨fun⟨k,h⟩=>⟨k,by grind [Oi.itB]⟩,fun⟨k,h⟩=>⟨k,by grind [Oi.itB]⟩⟩
theorem Oi.noAB (p:Oi D A B P f g) {x y:α} (a:x∈A) (b:y∈B):¬WD (two P f g) x y:=fun h=>by
 have:=p.fa.sP a ((p.orbA a).1 h)
 grind [Oi.pb,Oi.pa]
def Oi.pm (p:Oi D A B P f g):Pm D (two P f g):=by
 refine⟨?_,fun x c=>?_,fun x c y d e=>?_⟩
 .rw [p.perm.nodup_iff, yM]
  exact⟨p.fa.nd,p.gb.nd,fun a ha b hb e=>p.pb b hb (e▸p.pa a ha)⟩
 .rcases p.mem.1 c with h | h
  .rw[p.inA h];exact p.mem.2 (.inl (p.fa.mem x h))
  .rw[p.inB h];exact p.mem.2 (.inr (p.gb.mem x h))
 .rcases p.mem.1 c with h | h <;> rcases p.mem.1 d with k | k
  .rw[p.inA h,p.inA k]at e;exact p.fa.inj x h y k e
  .rw [p.inA h, p.inB k] at e
   exact absurd (p.pa _ (p.fa.mem x h)) (e▸p.pb _ (p.gb.mem y k))
  .rw [p.inB h, p.inA k] at e
   exact absurd (p.pa _ (p.fa.mem y k)) (e▸p.pb _ (p.gb.mem x h))
  .rw[p.inB h,p.inB k]at e;exact p.gb.inj x h y k e
theorem Oi.cls (p:Oi D A B P f g):cls (WD (two P f g)) D=cls (WD f) A+cls (WD g) B:=by
 rw[Yy p.perm p.pm.eqv,Ae A fun x a y b=>p.noAB a b]
 grind [IZ,Oi.orbA,Oi.orbB]
def Oi.join1 (p:Oi D A B P f g) {a b:α} (ha:a∈A) (hb:b∈B):Go.Fw.cls (WD (swp (two P f g) a b)) D+1=Go.Fw.cls (WD f) A+Go.Fw.cls (WD g) B:=by
 have:=(WC p.pm (p.mem.2 (.inl ha)) (p.mem.2 (.inr hb)) fun e=>p.pb b hb (e▸p.pa a ha)).2 (p.noAB ha hb);rw[this,p.cls]
theorem Oi.orb2 (p:Oi D A B P f g) {a b a' c:α} (ha:a∈A) (hb:b∈B) (mi:a'∈A) (sZ:c∈B):WD (swp (two P f g) a b) a' c↔WD f a' a/\WD g b c:=by
 rw[cG p.pm (p.mem.2 (.inl ha)) (p.mem.2 (.inr hb)) (p.noAB ha hb) a' (p.mem.2 (.inl mi)) c (p.mem.2 (.inr sZ)),<-p.orbA mi (y:=a),<-p.orbB hb (y:=c)]
 grind [Oi.noAB]
theorem Oi.join2 (p:Oi D A B P f g) {a b a' c:α} (ha:a∈A) (hb:b∈B) (mi:a'∈A) (sZ:c∈B):
  ((WD f a' a/\WD g b c)->Go.Fw.cls (WD (swp (swp (two P f g) a b) a' c)) D=Go.Fw.cls (WD f) A+Go.Fw.cls (WD g) B)/\
   (¬(WD f a' a/\WD g b c)->Go.Fw.cls (WD (swp (swp (two P f g) a b) a' c)) D+2=Go.Fw.cls (WD f) A+Go.Fw.cls (WD g) B):=by
 have d:=p.join1 ha hb;have q:=p.pm.swp (p.mem.2 (.inl ha)) (p.mem.2 (.inr hb));obtain⟨h2,h3⟩:=WC q (p.mem.2 (.inl mi)) (p.mem.2 (.inr sZ)) fun e=>p.pb c sZ (e▸p.pa a' mi)
 grind [Oi.orb2]
end
end Go.Fw
namespace Go.Fw
attribute [local instance] Classical.propDecidable
def nr (a:Nat) (inn:II) (b:Nat):II:=a::(inn++[b])
structure Lay (n:Nat) (r r':Nat->II) (a b:Nat) (inn:II):Prop where
 R:V7 n r
 R':V7 n r'
 ab:a≠b
 ra:r a≠[]
 rb:r b≠[]
 nd:inn.Nodup
 off:∀x∈inn,r x=[]
 Wn:∀x,x≠a->x≠b->x∉inn->r' x=r x
 ea:(r' a).erase ((inn++[b]).headD 0)=r a
 sa:(inn++[b]).headD 0∈r' a
 eb:(r' b).erase ((inn.reverse++[a]).headD 0)=r b
 sb:(inn.reverse++[a]).headD 0∈r' b
 mid:∀(i p x q:Nat),(nr a inn b)[i]?=some p->(nr a inn b)[i+1]?=some x->(nr a inn b)[i+2]?=some q->nx (r' x) p=q/\nx (r' x) q=p/\∀y,y∈r' x↔y=p\/y=q
theorem Ec (a b:Nat) (inn:II):(nr a inn b).reverse=nr b inn.reverse a:=by simp[nr]
theorem Eo (a b:Nat) (inn:II):(nr a inn b).length=inn.length+2:=by simp[nr]
theorem Rv {l:II} (h:l≠[]):l[0]?=some (l.headD 0):=by
 cases l<;>grind
theorem yT (a b:Nat) (inn:II):(nr a inn b)[0]?=some a/\(nr a inn b)[1]?=some ((inn++[b]).headD 0):=by
 refine⟨rfl,?_⟩;show(inn++[b])[0]?=_
 grind [Rv]
theorem Fg (a b:Nat) (inn:II):(nr a inn b)[inn.length+1]?=some b/\(nr a inn b)[inn.length]?=some ((inn.reverse++[a]).headD 0):=by
 obtain⟨c,h2⟩:=yT b a inn.reverse;have d:=Eo a b inn
 grind [Ec]
theorem Lay.swap {n:Nat} {r r':Nat->II} {a b:Nat} {inn:II} (L:Lay n r r' a b inn):Lay n r r' b a inn.reverse:=by
 refine⟨L.R,L.R',Hs L.ab,L.rb,L.ra,Gv L.nd,fun x d=>L.off x (Qn.1 d),fun x c h2 h3=>L.Wn x h2 c (fun h=>h3 (Qn.2 h)),L.eb,L.sb,?_,?_,fun i p x q c h2 h3=>?_⟩
 .grind [Lay.ea]
 .grind [Lay.sa]
 .rw [<- Ec] at c h2 h3
  have e:=(qL0.1 h3).1;rw[ti]at e;rw[Ry NH]at c h2 h3;obtain⟨f,g,e3⟩:=L.mid ((nr a inn b).length-1-(i+2)) q x p h3 pw pw
  grind
section
variable {n : Nat} {r r' : Nat → List Nat} {F : List (List Nat)} {a b : Nat} {inn : List Nat}
theorem Lay.ain (L:Lay n r r' a b inn):a∉inn:=fun h=>L.ra (L.off a h)
theorem Lay.bin (L:Lay n r r' a b inn):b∉inn:=fun h=>L.rb (L.off b h)
theorem Lay.sna (L:Lay n r r' a b inn):(inn++[b]).headD 0∉r a:=by
 rw[<-L.ea];exact fun h=>((L.R'.nd a).not_mem_erase) h
theorem Lay.way (L:Lay n r r' a b inn):∀(i x y:Nat),(nr a inn b)[i]?=some x->(nr a inn b)[i+1]?=some y->WD (Nv r') (a,(inn++[b]).headD 0) (x,y)
 |0,x,y,c,h2=>by grind [yT,WD.refl]
 |i+1,x,y,c,h2=>by
  have e:=(qL0.1 c).1;have d:(nr a inn b)[i]?=some ((nr a inn b)[i]'(by omega)):=XJ NH
  have f:=L.way i _ x d c;obtain⟨g,_,_⟩:=L.mid i _ x y d c h2
  grind [Nv.eq_1,WD.trans,WD.one]
theorem Lay.thru (L:Lay n r r' a b inn):WD (Nv r') (a,(inn++[b]).headD 0) ((inn.reverse++[a]).headD 0,b):=by
 obtain⟨c,h2⟩:=Fg a b inn
 grind [Lay.way]
theorem Lay.zI (L:Lay n r r' a b inn) (O:FO r F):∃f∈F,∃x∈f,nx f x=a/\x∈r a/\nx (r' a) x=(inn++[b]).headD 0/\nx f a=nx (r' a) ((inn++[b]).headD 0)/\∀z∈r a,z≠x->nx (r' a) z=nx (r a) z:=by
 have nd:=L.R'.nd a;have hs:=L.sa;have g:=L.ea;have h:=L.sna;generalize (inn++[b]).headD 0=s at*;have o:=BJ hs;have i:=G5 nd hs;have j:pv (r' a) s≠s:=fun e=>by grind [Bk,Lay.ra]
 have c:pv (r' a) s∈r a:=pw;have d:∀z,z∈r a->z∈r' a/\z≠s:=fun z p=>by grind
 have k:nx (r a) (pv (r' a) s)=nx (r' a) s:=by grind [Hn]
 obtain⟨f,hf,l,m⟩:=O.cover _ _ (L.R.sy _ _ c)
 grind [FO.step,Hn,C9]
theorem Lay.sub (L:Lay n r r' a b inn) {v w:Nat} (h:w∈r v):w∈r' v:=by
 by_cases c1:v=a
 .subst c1;rw[<-L.ea]at h;grind
 by_cases c2:v=b
 .subst c2;rw[<-L.eb]at h;grind
 by_cases c:v∈inn
 all_goals grind [Lay.off,Lay.Wn]
theorem Lay.ndP (L:Lay n r r' a b inn):(nr a inn b).Nodup:=by grind [nr.eq_1,Lay.ain,Lay.ab,Lay.nd,Lay.bin]
theorem X6 {l:II} (nd:l.Nodup) {i j x:Nat} (hi:l[i]?=some x) (c:l[j]?=some x):i=j:=by grind [List.pairwise_iff_getElem]
def Lay.as (L:Lay n r r' a b inn):a≠(inn++[b]).headD 0:=fun e=>by
 have:=X6 L.ndP (yT a b inn).1 (by rw[(yT a b inn).2,<-e]);omega
theorem Lay.UQ (L:Lay n r r' a b inn) {i x y:Nat} (c:(nr a inn b)[i]?=some x) (h2:(nr a inn b)[i+1]?=some y):y∈r' x:=by
 cases i with
 |zero=>
  grind [yT,Lay.sa]
 |succ i=>
  have d:=(qL0.1 c).1;exact((L.mid i _ x y (XJ NH) c h2).2.2 y).2 (.inr rfl)
theorem Lay.conn (L:Lay n r r' a b inn) (f:Cr r a b):Cr (del r' a ((inn++[b]).headD 0)) a ((inn++[b]).headD 0):=by
 have hs:=L.as;have g:Cr (del r' a ((inn++[b]).headD 0)) a b:=f.mono fun v w h=>by
  rw[JF L.R' hs];refine⟨L.sub h,fun e=>?_,fun e=>?_⟩
  .grind [Lay.sna]
  .rw[e.1,e.2]at h;exact L.sna (L.R.sy _ _ h)
 have h2:∀(i x:Nat),(nr a inn b)[i+1]?=some x->Cr (del r' a ((inn++[b]).headD 0)) ((inn++[b]).headD 0) x:=fun i=>by
  induction i with
  |zero=>
   intro x c;have c:=c.symm.trans (yT a b inn).2;injection c with c;subst c;exact .refl _
  |succ i j=>
   intro x c;have k:=(qL0.1 c).1;have d:(nr a inn b)[i+1]?=some ((nr a inn b)[i+1]'(by omega)):=XJ NH
   refine(j _ d).step ((JF L.R' hs).2 ⟨L.UQ d c,fun e=>?_,fun e=>?_⟩)
   all_goals grind [X6,Lay.ndP,yT]
 exact g.trans ((h2 _ _ (Fg a b inn).1).symm (pG L.R' hs))
theorem Lay.EI (L:Lay n r r' a b inn) (O:FO r F) (hf:Flat n r') (t:Cr r a b):
  ∃f∈F,a∈f/\b∈f/\nx (r' a) (pv f a)=(inn++[b]).headD 0/\nx (r' b) (pv f b)=(inn.reverse++[a]).headD 0/\nx f a=nx (r' a) ((inn++[b]).headD 0)/\nx f b=nx (r' b) ((inn.reverse++[a]).headD 0):=by
 obtain⟨fa,v,xa,w,ea,x,D,E,y⟩:=L.zI O;obtain⟨c,d,xb,m,eb,z,nb,G,A⟩:=L.swap.zI O;have q:a∈fa:=by grind [ZP]
 have g:b∈c:=by grind [ZP]
 have pa:pv fa a=xa:=by grind [c7,FO.nd]
 have pb:pv c b=xb:=by grind [c7,FO.nd]
 by_cases H:fa=c
 .grind
 .exfalso
  have B:¬WD (Nv r') (a,(inn++[b]).headD 0) ((inn++[b]).headD 0,a):=fun h=>(Lq L.R' L.sa hf).2.1 h (L.conn t);have i:∀u∈c,u≠xb->Nv r' (u,nx c u)=(nx c u,nx c (nx c u)):=fun u s o=>by
   have hd:=O.bz c d u s;have hs:=O.step c d u s;rw[Nv];simp only;congr 1;by_cases c1:nx c u=a
   .rw [c1] at hs hd ⊢
    have p:u≠xa:=fun e=>by grind [FO.uniq]
    rw[y u (L.R.sy _ _ hd) p,hs]
   by_cases c2:nx c u=b
   .rw [c2] at hs hd ⊢
    rw[A u (L.R.sy _ _ hd) o,hs]
   .rw [L.Wn _ c1 c2 fun h => ?_, hs]
    have:=L.off _ h;have h3:=L.R.sy _ _ hd
    grind
  obtain⟨k,I,l⟩:=On (JT (O.nd c d) g m);have along:∀j,j<=k->it (Nv r') j (b,nx c b)=(it (nx c) j b,nx c (it (nx c) j b)):=fun j=>by
   induction j with
   |zero=>intro _;rfl
   |succ j C=>
    intro J;show Nv r' (it (Nv r') j (b,nx c b))=_;rw[C NH,i _ (O.it d g j).1 (l j NH)];rfl
  have K:WD (Nv r') (b,nx c b) (xb,b):=⟨k,pw⟩;have M:=L.thru
  grind [Lay.thru,Lay.swap,List.reverse_reverse,Nv.eq_1,WD.trans,WD.one]
end
end Go.Fw
