/- A text. -/
import Derived.Test.YtnakkbhjoiheoaaGreatFwZA
set_option linter.all false
set_option maxRecDepth 99999
set_option maxHeartbeats 9999999
open Option renaming some→Z
open List renaming range→rG
open List
namespace Go.Fw
section
attribute [local instance] Classical.propDecidable
theorem afe{α:Type}{lt:α->α->Prop}(d:∀a,¬lt a a)(tr:∀a b c,lt a b->lt b c->lt a c):∀(l m:List α),l.Pairwise lt->m.Pairwise lt->(∀x,x∈l↔x∈m)->l=m
 |[],[],_,_,_=>rfl
 |[],y::m,_,_,h=>by grind[mem_cons_self]
 |x::l,[],_,_,h=>by grind[mem_cons_self]
 |x::l,y::m,f,g,h=>by
  rw[afC]at f g;have e:x=y:=by
   rcases HV.1 ((h x).1 qH)with e|e
   .exact e
   .rcases HV.1 ((h y).2 qH)with i|i
    all_goals grind
  congr 1;refine afe d tr l m f.2 g.2 fun z=>?_;grind
section
variable{n:Nat}{r:Nat->II}
theorem ordr_eq{α:Type}{X:List α}{f:α->α}(p:Pm X f){x:α}(a:x∈X){k:Nat}(b:0<k)(c:it f k x=x)(h2:∀j,j<k->0<j->it f j x≠x):bt f x=k:=by grind[aaM]
def Cert(n:Nat)(r:Nat->II)(hs:List (H8×Nat)):Prop:=(∀p∈hs,p.1.2∈r p.1.1/\0<p.2/\it (Nv r) p.2 p.1=p.1/\∀j,j<p.2->(0<j->it (Nv r) j p.1≠p.1)/\¬TD (it (Nv r) j p.1) p.1)/\(hs.map (·.1)).Pairwise TD/\∀d∈dl n r,∃p∈hs,d∈(rG p.2).map fun j=>it (Nv r) j p.1
theorem Fs(R:V7 n r){hs:List (H8×Nat)}(C:Cert n r hs):vf n r=hs.map fun p=>(rG p.2).map fun j=>(it (Nv r) j p.1).1:=by
 have⟨i,h2,h3⟩:=C;have p:=aaG R;have l:∀q∈hs,bt (Nv r) q.1=q.2:=fun q b=>by grind[ordr_eq,IP]
 have d:∀q∈hs,Hd r q.1:=fun q b=>by
  rintro e ⟨k,rfl⟩;grind[QF,IP,Nat.mod_lt]
 have e:ahN n r=hs.map (·.1):=by
  refine afe JN (by grind[Nd]) _ _ ((pI n r).filter _) h2 fun x=>?_;constructor
  .intro c;have⟨a,f⟩:=(gQ R).1 c;have⟨q,b,g⟩:=h3 x ((IP R).2 a);have⟨j,_,h⟩:=si.1 g;have:q.1∈ahN n r:=by grind[gQ]
   have:=RM R this c ⟨j,h⟩;grind
  grind[gQ]
 grind[vf.eq_1,map_congr_left,zu,AA]
end
theorem Zx{α β:Type}{R:β->β->Prop}(f:α->β):∀X:List α,cls R (X.map f)=cls (fun x y=>R (f x) (f y)) X
 |[]=>rfl
 |x::l=>by rw[AQ,cls,cls,Zx f l];have:(∃y∈l.map f,R (f x) y)↔∃y∈l,R (f x) (f y):=hGr;simp only[this]
def inv(d:H8):H8:=(d.2,d.1)
theorem inv_inv(d:H8):inv (inv d)=d:=rfl
def qI(r:Nat->II)(v:Nat):II:=(r v).reverse
section
variable{n:Nat}{r:Nat->II}
theorem ju{v w:Nat}:w∈qI r v↔w∈r v:=by simp[qI]
theorem Xn(R:V7 n r):V7 n (qI r):=⟨fun v=>Gv (R.nd v),fun v w h=>R.lt v w (ju.1 h),(by grind[ju,V7.sy]),(by grind[V7.ir,ju])⟩
theorem O4(R:V7 n r){d:H8}:inv d∈dl n r↔d∈dl n r:=by rw[IP R,IP R];exact⟨R.sy _ _,R.sy _ _⟩
theorem O5(R:V7 n r){d:H8}:d∈dl n (qI r)↔d∈dl n r:=by grind[IP,Xn,ju]
def mir_step(R:V7 n r){d:H8}(hd:d∈dl n r):Nv (qI r) (inv (Nv r d))=inv d:=by have h:=R.sy _ _ ((IP R).1 hd);show(d.2,nx (r d.2).reverse (nx (r d.2) d.1))=(d.2,d.1);rw[qb (R.nd _) h]
def mir_it(R:V7 n r){d:H8}(hd:d∈dl n r):∀k,it (Nv (qI r)) k (inv (it (Nv r) k d))=inv d
 |0=>rfl
 |k+1=>by rw[aaS];have:it (Nv r) (k+1) d=Nv r (it (Nv r) k d):=rfl;rw[this,mir_step R ((aaG R).uN hd k)];exact mir_it R hd k
theorem aeD(R:V7 n r){d e:H8}(hd:d∈dl n r)(h:WD (Nv r) d e):WD (Nv (qI r)) (inv d) (inv e):=by obtain⟨k,rfl⟩:=h;have pm:=aaG (Xn R);exact pm.adK (by grind[O5,O4,aaG,Pm.uN]) ⟨k,mir_it R hd k⟩
theorem mir_mir(r:Nat->II):qI (qI r)=r:=by grind[qI]
theorem SY(R:V7 n r){d e:H8}(hd:d∈dl n r):WD (Nv (qI r)) (inv d) (inv e)↔WD (Nv r) d e:=by refine⟨fun h=>?_,aeD R hd⟩;have:=aeD (Xn R) (by grind[O5,O4]) h;rw[mir_mir]at this;exact this
theorem jX(R:V7 n r):cls (WD (Nv (qI r))) (dl n (qI r))=cls (WD (Nv r)) (dl n r):=by
 have a:(dl n (qI r)).Perm ((dl n r).map inv):=yR (J8 (Xn R)) (by grind[J8,inv_inv]) fun d=>by
  rw[O5 R,si];constructor
  .intro h;exact⟨inv d,(O4 R).2 h,rfl⟩
  grind[O4]
 rw[Yy a (aaG (Xn R)).eqv,Zx];grind[IZ,SY]
theorem mir_flat(R:V7 n r):Flat n (qI r)↔Flat n r:=by
 have a:(dl n (qI r)).length=(dl n r).length:=by grind[J8,Xn,O5,List.Perm.length_eq]
 grind[qI,mj.eq_1,jX,iJ,IZ,Cr.mono,Flat.eq_1]
end
theorem Lt{l:II}(h:l≠[]):l.headD 0∈l:=by
 cases l<;>grind
theorem nx_mid{p q rest a:II}{v b:Nat}(h:v∉p):nx (p++v::(q++b::rest)) v=nx (p++v::(q++b::a)) v:=by grind[ZL]
theorem Nu{p rest:II}{v z:Nat}(h:v∉p):nx (p++v::z::rest) v=z:=by grind[ZL]
theorem vB{p:II}{x v:Nat}(h:v∉x::p):nx (x::(p++[v])) v=x:=by grind[ZL]
def pv(l:II)(y:Nat):Nat:=nx l.reverse y
theorem BJ{l:II}{y:Nat}(h:y∈l):pv l y∈l:=by have:=ZP (alw.2 h);exact alw.1 this
theorem aa3{l:II}(nd:l.Nodup){y:Nat}(h:y∈l):nx l (pv l y)=y:=nx_rev' nd h
theorem c7{l:II}(nd:l.Nodup){y:Nat}(h:y∈l):pv l (nx l y)=y:=qb nd h
structure FO (r:Nat->II) (F:Cs):Prop where
 nd:∀f∈F,f.Nodup
 ne:∀f∈F,f≠[]
 bz:∀f∈F,∀v∈f,nx f v∈r v
 step:∀f∈F,∀v∈f,nx (r (nx f v)) v=nx f (nx f v)
 cover:∀v w,w∈r v->∃f∈F,v∈f/\nx f v=w
 uniq:∀f∈F,∀g∈F,∀v,v∈f->v∈g->nx f v=nx g v->f=g
 nodup:F.Nodup
section
variable{n:Nat}{r:Nat->II}{F:Cs}
theorem FO.perm(O:FO r F){G:Cs}(h:F.Perm G):FO r G:=
 ⟨by grind[FO.nd],(by grind[FO.ne]),(by grind[FO.bz]),(by grind[FO.step]),
  fun v w hw=>by have⟨f,hf,q⟩:=O.cover v w hw;grind,(by grind[FO.uniq]),h.nodup_iff.1 O.nodup⟩
theorem FO.it(O:FO r F){f:II}(hf:f∈F){v:Nat}(a:v∈f):∀k,it (nx f) k v∈f/\it (Nv r) k (v,nx f v)=(it (nx f) k v,nx f (it (nx f) k v))
 |0=>⟨a,rfl⟩
 |k+1=>by have⟨b,h2⟩:=FO.it O hf a k;grind[ZP,it,Nv.eq_1,FO.step]
theorem FO.orb(O:FO r F){f:II}(hf:f∈F){v:Nat}(a:v∈f){d:H8}:WD (Nv r) (v,nx f v) d↔∃u∈f,d=(u,nx f u):=by
 constructor
 .rintro⟨k,rfl⟩;have⟨c,h2⟩:=O.it hf a k;grind
 .rintro⟨u,b,rfl⟩;have⟨k,e⟩:=JT (O.nd f hf) a b;refine⟨k,?_⟩;grind[FO.it]
theorem XT{α:Type}{R:α->α->Prop}{L:List α}(c:L.Pairwise fun a b=>¬R a b):∀rest:List α,(∀x∈rest,∃y∈L,R x y)->cls R (rest++L)=L.length
 |[],_=>by
  induction L<;>grind[cls.eq_1,cls.eq_2]
 |x::rest,h=>by
  rw[aj8,cls,XT c rest (by grind[List.mem_cons_of_mem]),Sb]
  all_goals grind[List.mem_cons_self]
theorem ach{α:Type}{R:α->α->Prop}{X L:List α}(E:Eqv X R)(nd:X.Nodup)(c:∀y∈L,y∈X)(d:L.Pairwise fun a b=>¬R a b)(e:∀x∈X,∃y∈L,R x y):cls R X=L.length:=by
 have nL:L.Nodup:=by grind[List.Pairwise.imp_of_mem,Eqv.refl]
 have pm:X.Perm (X.filter (fun x=>decide (x∉L))++L):=hGr;rw[Yy pm E];grind[XT]
theorem FO.cls(R:V7 n r)(O:FO r F):cls (WD (Nv r)) (dl n r)=F.length:=by
 have p:=aaG R;have e:=ach p.eqv (J8 R) (L:=F.map fun f=>(f.headD 0,nx f (f.headD 0))) (fun d hd=>?_) ?_ (fun d hd=>?_)
 .grind
 .grind[IP,FO.bz,Lt,FO.ne]
 .rw[V3];refine DF (R:=fun a b=>a≠b) (fun{f g} hf hg c h=>c ?_) (AE.1 O.nodup);grind[FO.orb,Lt,FO.ne,FO.uniq]
 .obtain⟨f,hf,i,e⟩:=O.cover d.1 d.2 ((IP R).1 hd);refine⟨_,si.2 ⟨f,hf,rfl⟩,?_⟩;grind[Lt,FO.orb]
theorem FO.pv(O:FO r F){f:II}(hf:f∈F){v:Nat}(a:v∈f):pv f v∈f/\nx f (Go.Fw.pv f v)=v/\nx (r v) (Go.Fw.pv f v)=nx f v:=by grind[BJ,aa3,FO.nd,FO.step]
theorem FO.df(R:V7 n r)(O:FO r F){f:II}(hf:f∈F){v:Nat}(a:v∈f):Go.Fw.pv f v∈r v:=by grind[FO.pv,FO.bz,V7.sy]
end
def nr(a:Nat)(inn:II)(b:Nat):II:=a::(inn++[b])
structure Lay (n:Nat) (r r':Nat->II) (a b:Nat) (inn:II):Prop where
 R:V7 n r
 R':V7 n r'
 ab:a≠b
 ra:r a≠[]
 rb:r b≠[]
 nd:inn.Nodup
 off:∀x∈inn,r x=[]
 Wn:∀x,x≠a->x≠b->x∉inn->r' x=r x
 ea:(r' a).erase ((inn++[b]).headD 0)=r a
 sa:(inn++[b]).headD 0∈r' a
 eb:(r' b).erase ((inn.reverse++[a]).headD 0)=r b
 sb:(inn.reverse++[a]).headD 0∈r' b
 mid:∀(i p x q:Nat),(nr a inn b)[i]?=Z p->(nr a inn b)[i+1]?=Z x->(nr a inn b)[i+2]?=Z q->nx (r' x) p=q/\nx (r' x) q=p/\∀y,y∈r' x↔y=p\/y=q
theorem Ec(a b:Nat)(inn:II):(nr a inn b).reverse=nr b inn.reverse a:=by simp[nr]
theorem Eo(a b:Nat)(inn:II):(nr a inn b).length=inn.length+2:=by simp[nr]
theorem headD_get{l:II}(h:l≠[]):l[0]?=Z (l.headD 0):=by
 cases l<;>grind
theorem yT(a b:Nat)(inn:II):(nr a inn b)[0]?=Z a/\(nr a inn b)[1]?=Z ((inn++[b]).headD 0):=by refine⟨rfl,?_⟩;show(inn++[b])[0]?=_;grind[headD_get]
theorem Fg(a b:Nat)(inn:II):(nr a inn b)[inn.length+1]?=Z b/\(nr a inn b)[inn.length]?=Z ((inn.reverse++[a]).headD 0):=by have⟨c,h2⟩:=yT b a inn.reverse;have d:=Eo a b inn;grind[Ec]
theorem Lay.swap{n:Nat}{r r':Nat->II}{a b:Nat}{inn:II}(L:Lay n r r' a b inn):Lay n r r' b a inn.reverse:=by
 refine⟨L.R,L.R',wI L.ab,L.rb,L.ra,Gv L.nd,(by grind[Lay.off]),(by grind[Lay.Wn]),L.eb,L.sb,?_,?_,fun i p x q c h2 h3=>?_⟩
 .grind[Lay.ea]
 .grind[Lay.sa]
 .rw[<-Ec]at c h2 h3;have d:=(Ny.1 h3).1;rw[alK]at d;rw[ai7 NH]at c h2 h3;have⟨e,f,e3⟩:=L.mid ((nr a inn b).length-1-(i+2)) q x p h3 hGr hGr;grind
section
variable{n:Nat}{r r':Nat->II}{F:Cs}{a b:Nat}{inn:II}
theorem Lay.ain(L:Lay n r r' a b inn):a∉inn:=fun h=>L.ra (L.off a h)
theorem Lay.bin(L:Lay n r r' a b inn):b∉inn:=fun h=>L.rb (L.off b h)
theorem Lay.sna(L:Lay n r r' a b inn):(inn++[b]).headD 0∉r a:=by rw[<-L.ea];exact fun h=>((L.R'.nd a).not_mem_erase) h
theorem Lay.way(L:Lay n r r' a b inn):∀(i x y:Nat),(nr a inn b)[i]?=Z x->(nr a inn b)[i+1]?=Z y->WD (Nv r') (a,(inn++[b]).headD 0) (x,y)
 |0,x,y,c,h2=>by grind[yT,WD.refl]
 |i+1,x,y,c,h2=>by
  have e:=(Ny.1 c).1;have d:(nr a inn b)[i]?=Z ((nr a inn b)[i]'(by omega)):=Gc NH
  have f:=L.way i _ x d c;have⟨g,_,_⟩:=L.mid i _ x y d c h2;grind[Nv.eq_1,WD.trans,WD.one]
theorem Lay.thru(L:Lay n r r' a b inn):WD (Nv r') (a,(inn++[b]).headD 0) ((inn.reverse++[a]).headD 0,b):=by have⟨c,h2⟩:=Fg a b inn;grind[Lay.way]
theorem Lay.zI(L:Lay n r r' a b inn)(O:FO r F):∃f∈F,∃x∈f,nx f x=a/\x∈r a/\nx (r' a) x=(inn++[b]).headD 0/\nx f a=nx (r' a) ((inn++[b]).headD 0)/\∀z∈r a,z≠x->nx (r' a) z=nx (r a) z:=by
 have nd:=L.R'.nd a;have hs:=L.sa;have d:=L.ea;generalize (inn++[b]).headD 0=s at*;have j:=BJ hs;have e:=aa3 nd hs;have g:pv (r' a) s≠s:=by grind[Bk,Lay.ra]
 have c:pv (r' a) s∈r a:=hGr;have⟨f,hf,h,i⟩:=O.cover _ _ (L.R.sy _ _ c);grind[FO.step,Hn,C9]
theorem Lay.sub(L:Lay n r r' a b inn){v w:Nat}(h:w∈r v):w∈r' v:=by
 by_cases c1:v=a
 .subst c1;rw[<-L.ea]at h;grind
 by_cases c2:v=b
 .subst c2;rw[<-L.eb]at h;grind
 by_cases c:v∈inn
 all_goals grind[Lay.off,Lay.Wn]
theorem Lay.ndP(L:Lay n r r' a b inn):(nr a inn b).Nodup:=by grind[nr.eq_1,Lay.ain,Lay.ab,Lay.nd,Lay.bin]
theorem X6{l:II}(nd:l.Nodup){i j x:Nat}(hi:l[i]?=Z x)(c:l[j]?=Z x):i=j:=by grind[pairwise_iff_getElem]
def Lay.as(L:Lay n r r' a b inn):a≠(inn++[b]).headD 0:=fun e=>by have:=X6 L.ndP (yT a b inn).1 (by rw[(yT a b inn).2,<-e]);omega
theorem Lay.UQ(L:Lay n r r' a b inn){i x y:Nat}(c:(nr a inn b)[i]?=Z x)(h2:(nr a inn b)[i+1]?=Z y):y∈r' x:=by
 cases i with
 |zero=>grind[yT,Lay.sa]
 |succ i=>have d:=(Ny.1 c).1;exact((L.mid i _ x y (Gc NH) c h2).2.2 y).2 (.inr rfl)
theorem Lay.conn(L:Lay n r r' a b inn)(f:Cr r a b):Cr (del r' a ((inn++[b]).headD 0)) a ((inn++[b]).headD 0):=by
 have hs:=L.as;have g:Cr (del r' a ((inn++[b]).headD 0)) a b:=f.mono fun v w h=>by
  rw[JF L.R' hs];refine⟨L.sub h,fun e=>?_,fun e=>?_⟩
  .grind[Lay.sna]
  .rw[e.1,e.2]at h;exact L.sna (L.R.sy _ _ h)
 have h2:∀(i x:Nat),(nr a inn b)[i+1]?=Z x->Cr (del r' a ((inn++[b]).headD 0)) ((inn++[b]).headD 0) x:=fun i=>by
  induction i with
  |zero=>intro x c;have c:=c.symm.trans (yT a b inn).2;injection c with c;subst c;exact .refl _
  |succ i j=>
   intro x c;have k:=(Ny.1 c).1;have d:(nr a inn b)[i+1]?=Z ((nr a inn b)[i+1]'(by omega)):=Gc NH
   refine(j _ d).step ((JF L.R' hs).2 ⟨L.UQ d c,fun e=>?_,fun e=>?_⟩)
   all_goals grind[X6,Lay.ndP,yT]
 exact g.trans ((h2 _ _ (Fg a b inn).1).symm (afL L.R' hs))
theorem Lay.EI(L:Lay n r r' a b inn)(O:FO r F)(hf:Flat n r')(s:Cr r a b):
  ∃f∈F,a∈f/\b∈f/\nx (r' a) (pv f a)=(inn++[b]).headD 0/\nx (r' b) (pv f b)=(inn.reverse++[a]).headD 0/\nx f a=nx (r' a) ((inn++[b]).headD 0)/\nx f b=nx (r' b) ((inn.reverse++[a]).headD 0):=by
 have⟨fa,t,xa,v,ea,w,C,D,x⟩:=L.zI O;have⟨c,d,xb,i,eb,y,nb,E,z⟩:=L.swap.zI O;have o:a∈fa:=by grind[ZP]
 have e:b∈c:=by grind[ZP]
 have pa:pv fa a=xa:=by grind[c7,FO.nd]
 have pb:pv c b=xb:=by grind[c7,FO.nd]
 by_cases G:fa=c
 .grind
 .have A:¬WD (Nv r') (a,(inn++[b]).headD 0) ((inn++[b]).headD 0,a):=fun h=>(Lq L.R' L.sa hf).2.1 h (L.conn s);have g:∀u∈c,u≠xb->Nv r' (u,nx c u)=(nx c u,nx c (nx c u)):=fun u p l=>by
   have hd:=O.bz c d u p;have hs:=O.step c d u p;rw[Nv];by_cases c1:nx c u=a
   .rw[c1]at hs hd ⊢;have m:u≠xa:=by grind[FO.uniq]
    rw[x u (L.R.sy _ _ hd) m,hs]
   by_cases c2:nx c u=b
   .rw[c2]at hs hd ⊢;rw[z u (L.R.sy _ _ hd) l,hs]
   .rw[L.Wn _ c1 c2 fun h=>?_,hs];have:=L.off _ h;have h3:=L.R.sy _ _ hd;grind
  have⟨k,H,q⟩:=On (JT (O.nd c d) e i);have along:∀j,j<=k->it (Nv r') j (b,nx c b)=(it (nx c) j b,nx c (it (nx c) j b)):=fun j=>by
   induction j with
   |zero=>intro _;rfl
   |succ j B=>intro I;show Nv r' (it (Nv r') j (b,nx c b))=_;rw[B NH,g _ (O.it d e j).1 hGr];rfl
  have J:WD (Nv r') (b,nx c b) (xb,b):=⟨k,hGr⟩;have K:=L.thru;grind[Lay.thru,Lay.swap,List.reverse_reverse,Nv.eq_1,WD.trans,WD.one]
end
def half(a:Nat)(A:II)(b:Nat)(inn:II):II:=a::(A++b::inn.reverse)
theorem ZN{l:II}{i x y:Nat}(c:l[i]?=Z x)(h2:l[i+1]?=Z y):∃u v,l=u++x::y::v:=by refine⟨l.take i,l.drop (i+2),?_⟩;grind[drop_eq_getElem_cons,take_append_drop]
structure Xf (f:II) (a b:Nat) (inn A:II) (one:II):Prop where
 nd:one.Nodup
 mem:∀v,v∈one↔v=a\/v∈A\/v=b\/v∈inn
 fwd:∀v,v=a\/v∈A->nx one v=nx f v/\(nx f v∈A\/nx f v=b)
 back:∀(i p x:Nat),(nr a inn b)[i]?=Z p->(nr a inn b)[i+1]?=Z x->nx one x=p
def Cyc(f g:II):Prop:=∃u v,f=u++v/\g=v++u
theorem Cyc.refl(f:II):Cyc f f:=⟨[],f,rfl,Ma⟩
theorem Cyc.shift{f x y:II}(h:Cyc f (x++y)):Cyc f (y++x):=by
 obtain⟨u,v,rfl,e⟩:=h;rcases append_eq_append_iff.1 e with⟨c,d,h2⟩|⟨c,d,h2⟩
 .subst d h2;exact⟨u++x,c,Ma,Ma⟩
 .subst d h2;exact⟨c,y++v,Ma,Ma⟩
theorem Cyc.perm{f g:II}(h:Cyc f g):f.Perm g:=by obtain⟨u,v,rfl,rfl⟩:=h;grind
theorem Cyc.nx{f g:II}(h:Cyc f g)(nd:f.Nodup){y:Nat}(c:y∈f):nx f y=nx g y:=by obtain⟨u,v,rfl,rfl⟩:=h;grind[aR]
def Cyc.front{f:II}{a:Nat}(h:a∈f):∃c,Cyc f (a::c):=by obtain⟨u,v,rfl,_⟩:=sC h;exact⟨v++u,u,a::v,rfl,rfl⟩
theorem tB{f:II}{a b:Nat}{inn A B:II}(t:f.Nodup)(hf:Cyc f ((a::A)++(b::B)))(m:(nr a inn b).Nodup)(hd:∀x∈inn,x∉f):Xf f a b inn A (half a A b inn):=by
 have n0:(a::(A++b::B)).Nodup:=hf.perm.nodup_iff.1 t;have d:∀v∈f,nx f v=nx (a::(A++b::B)) v:=by grind[Cyc.nx]
 have y:∀v,v∈f↔v=a\/v∈A\/v=b\/v∈B:=fun v=>by rw[hf.perm.mem_iff];simp
 rw[eR,ZT,vZ,HV]at n0;have⟨a1,nA,nB,C⟩:=n0;rw[eR]at nB;rw[nr,eR,vZ,iy,ZT]at m;have⟨I,J,_,K⟩:=m;have j:(half a A b inn).Nodup:=by grind[half,Gv]
 refine⟨j,fun v=>?_,fun v L=>?_,fun i g x D h2=>?_⟩
 .grind[half]
 .have k:v∈f:=hGr;rw[d v k];have l:v∈a::A:=hGr;have⟨u,w,e,o⟩:=sC l;have E:half a A b inn=u++v::(w++b::inn.reverse):=by grind[half]
  have G:a::(A++b::B)=u++v::(w++b::B):=hGr;rw[E,G];refine⟨nx_mid o,?_⟩;rw[ZL o];cases w with
  |nil=>grind
  |cons z w=>
   left;have:z∈a::A:=by rw[e];simp
   rcases HV.1 this with h|h
   .cases u<;>grind
   .exact h
 .have H:=(Ny.1 h2).1;rw[Eo]at H;have p:(nr b inn.reverse a)[inn.length-i]?=Z x:=by rw[<-Ec,ai7 (by grind[Eo]),Eo,<-h2];grind
  have q:(nr b inn.reverse a)[inn.length-i+1]?=Z g:=by rw[<-Ec,ai7 (by grind[Eo]),Eo,<-D];grind
  by_cases c:i=0
  .have M:g=a:=by grind[yT]
   have s:∃u,b::inn.reverse=u++[x]:=by
    have:(b::inn.reverse)[inn.length]?=Z x:=by grind[nr]
    refine⟨(b::inn.reverse).take inn.length,?_⟩;grind[take_append_drop,drop_eq_getElem_cons]
   have⟨u,N⟩:=s;have e:half g A b inn=g::((A++u)++[x]):=by grind[half]
   grind[vB]
  .have s:∃u w,b::inn.reverse=u++x::g::w:=by
    have e:nr b inn.reverse a=(b::inn.reverse)++[a]:=rfl;rw[e,EP (by simp;omega)]at p q;exact ZN p q
   grind[half,Nu]
section
variable{n:Nat}{r r':Nat->II}{F:Cs}{a b:Nat}{inn:II}
theorem qm{a b:Nat}{inn:II}{v:Nat}(h:v=b\/v∈inn):∃i p:Nat,(nr a inn b)[i]?=Z p/\(nr a inn b)[i+1]?=Z v:=by
 have c:v∈inn++[b]:=hGr;have⟨i,hi⟩:=Og.1 c;have:i<(nr a inn b).length:=by grind[Eo]
 exact⟨i,_,Gc this,hi⟩
structure HalfR (r r':Nat->II) (f:II) (a:Nat) (A:II) (one:II):Prop where
 bz:∀v∈one,nx one v∈r' v
 step:∀v∈one,nx (r' (nx one v)) v=nx one (nx one v)
 qi:∀v∈one,nx one v∈r v->v=a\/v∈A
theorem Lay.halfR(L:Lay n r r' a b inn)(O:FO r F){f:II}(g:f∈F){A B one:II}(cy:Cyc f ((a::A)++(b::B)))(H:Xf f a b inn A one)(nb:nx (r' b) (pv f b)=(inn.reverse++[a]).headD 0)(y:nx f a=nx (r' a) ((inn++[b]).headD 0)):HalfR r r' f a A one:=by
 have z:=O.nd f g;have C:∀v,v∈f↔(v=a\/v∈A)\/(v=b\/v∈B):=fun v=>by rw[cy.perm.mem_iff];grind
 have n0:((a::A)++(b::B)).Nodup:=cy.perm.nodup_iff.1 z;rw[ZT]at n0;have o:∀v,v=a\/v∈A->v∈f:=hGr;have TE:∀v,v=a\/v∈A->¬(v=b\/v∈B):=hGr;have D:a∉A:=(eR.1 n0.1).1;have t:∀x∈inn,x∉f:=fun x E h=>by have:=O.bz f g x h;grind[Lay.off]
 have c:∀v∈one,(v=a\/v∈A)\/∃i p:Nat,(nr a inn b)[i]?=Z p/\(nr a inn b)[i+1]?=Z v:=fun v j=>by
  rcases(H.mem v).1 j with h|h|h
  .grind
  .grind
  .exact .inr (qm h)
 refine⟨fun v j=>?_,fun v j=>?_,fun v j u=>?_⟩
 .rcases c v j with h|⟨i,p,d,h2⟩
  .rw[(H.fwd v h).1];exact L.sub (by grind[FO.bz])
  .rw[H.back i p v d h2];exact L.R'.sy _ _ (L.UQ d h2)
 .rcases c v j with h|⟨i,p,d,h2⟩
  .obtain⟨k,e⟩:=H.fwd v h;rw[k];have hs:=O.step f g v (o v h);rcases e with e|e
   .have q:nx f v≠b:=hGr;have s:nx f v≠a:=hGr;rw[L.Wn _ s q hGr,hs,(H.fwd _ (.inr e)).1]
   .have:pv f b=v:=by grind[c7]
    have⟨l,m⟩:=Fg a b inn;grind[Xf.back]
  .rw[H.back i p v d h2];cases i with
   |zero=>have⟨l,m⟩:=yT a b inn;have k:=d.symm.trans l;have e:=h2.symm.trans m;injection k with k;injection e with e;subst k e;rw[<-y,(H.fwd _ (.inl rfl)).1]
   |succ i=>
    have G:=(Ny.1 d).1;have w:(nr a inn b)[i]?=Z ((nr a inn b)[i]'(by omega)):=Gc NH
    rw[(L.mid i _ p v w d h2).2.1,H.back i _ p w d]
 .rcases(H.mem v).1 j with h|h|h|h
  .exact .inl h
  .exact .inr h
  .exfalso;subst h;have⟨l,m⟩:=Fg a v inn;rw[H.back _ _ _ m l]at u;exact L.swap.sna u
  grind[Lay.off]
theorem Lay.gY(L:Lay n r r' a b inn)(O:FO r F){f:II}(d:f∈F){A B:II}(cy:Cyc f ((a::A)++(b::B)))(W:nx (r' a) (pv f a)=(inn++[b]).headD 0)(nb:nx (r' b) (pv f b)=(inn.reverse++[a]).headD 0)(X:nx f a=nx (r' a) ((inn++[b]).headD 0))(db:nx f b=nx (r' b) ((inn.reverse++[a]).headD 0)):
  FO r' (half a A b inn::half b B a inn.reverse::F.erase f):=by
 have C:=O.nd f d;have q:∀x∈inn,x∉f:=fun x hx h=>by have:=O.bz f d x h;grind[Lay.off]
 have H1:Xf f a b inn A (half a A b inn):=tB C cy L.ndP q;have H2:Xf f b a inn.reverse B (half b B a inn.reverse):=tB C cy.shift L.swap.ndP hGr;have D:∀v,v∈f↔(v=a\/v∈A)\/(v=b\/v∈B):=fun v=>by rw[cy.perm.mem_iff];grind
 have n0:((a::A)++(b::B)).Nodup:=cy.perm.nodup_iff.1 C;rw[ZT]at n0;have E:a∈f:=hGr;have G:b∈f:=hGr;have aa:∀v,v=a\/v∈A->v∈f:=hGr;have ae:∀v,v=b\/v∈B->v∈f:=hGr;have TE:∀v,v=a\/v∈A->¬(v=b\/v∈B):=hGr;have ai:a∉A:=(eR.1 n0.1).1;have aj:b∉B:=by grind[nodup_cons]
 have H:=L.halfR O d cy H1 nb X;have I:=L.swap.halfR O d cy.shift H2 hGr db;have m1:∀{v},v∈half a A b inn->nx (half a A b inn) v∈r v->nx (half a A b inn) v=nx f v/\(v=a\/v∈A):=fun k s=>⟨(H1.fwd _ (H.qi _ k s)).1,H.qi _ k s⟩;have m2:∀{v},v∈half b B a inn.reverse->nx (half b B a inn.reverse) v∈r v->nx (half b B a inn.reverse) v=nx f v/\(v=b\/v∈B):=fun k s=>⟨(H2.fwd _ (I.qi _ k s)).1,I.qi _ k s⟩;have⟨p1,p2⟩:=yT a b inn;have⟨z1,z2⟩:=Fg a b inn;have⟨y1,V⟩:=Fg b a inn.reverse;rw[qL130]at V;have J:nx (half a A b inn) b=(inn.reverse++[a]).headD 0:=H1.back _ _ _ z2 z1;have K:nx (half b B a inn.reverse) a=(inn++[b]).headD 0:=H2.back _ _ _ V y1;have b1:b∈half a A b inn:=by grind[Xf.mem]
 have a2:a∈half b B a inn.reverse:=(H2.mem a).2 hGr;have a1:a∈half a A b inn:=by grind[Xf.mem]
 have M:∀v,v∈half a A b inn->v∈half b B a inn.reverse->nx (half a A b inn) v≠nx (half b B a inn.reverse) v:=fun v y h2 e=>by
  rcases(H1.mem v).1 y with h|h|h|h
  .subst h;rw[K,(H1.fwd v (.inl rfl)).1]at e;grind[FO.bz]
  .rcases(H2.mem v).1 h2 with g|g|g|g
   all_goals grind
  .subst h;rw[J,(H2.fwd v (.inl rfl)).1]at e;grind[FO.bz]
  .obtain⟨i,p,N,z⟩:=qm (a:=a) (b:=b) (.inr h);have⟨j,p',t,P⟩:=qm (a:=b) (b:=a) (inn:=inn.reverse) (.inr (alw.2 h));rw[H1.back i p v N z,H2.back j p' v t P]at e;have Q:=(Ny.1 P).1;rw[<-Ec,alK]at Q;rw[<-Ec,ai7 NH]at t P;grind[X6,Lay.ndP]
 have S:∀g∈F.erase f,g∈F/\g≠f:=by grind[FO.nodup,List.Nodup.not_mem_erase]
 have aq:half a A b inn∉F.erase f:=by grind[FO.bz]
 have ar:half b B a inn.reverse∉F.erase f:=by grind[FO.bz]
 have u1:∀g∈F.erase f,∀v,v∈half a A b inn->v∈g->nx (half a A b inn) v=nx g v->False:=fun g hg v y h2 e=>by grind[FO.bz,FO.uniq]
 have u2:∀g∈F.erase f,∀v,v∈half b B a inn.reverse->v∈g->nx (half b B a inn.reverse) v=nx g v->False:=fun g hg v y h2 e=>by grind[FO.bz,FO.uniq]
 have av:half a A b inn≠half b B a inn.reverse:=hGr;have ay:∀g∈F.erase f,∀v∈g,nx (r' (nx g v)) v=nx g (nx g v):=fun g hg v k=>by
  have⟨u,az⟩:=S g hg;have hd:=O.bz g u v k;have hs:=O.step g u v k;by_cases c1:nx g v=a
  .rw[c1]at hs hd ⊢;have T:v≠pv f a:=by grind[FO.uniq,BJ,aa3]
   rw[<-hs];have l:v∈r a:=L.R.sy _ _ hd;have o:v≠(inn++[b]).headD 0:=by grind[Lay.sna]
   have:=Hn (L.R'.nd a) L.sa (L.sub l) o;rw[L.ea]at this;rw[this,WA fun e=>T (C9 (L.R'.nd a) (L.sub l) (L.sub (O.df L.R d E)) (e.trans W.symm))]
  by_cases c2:nx g v=b
  .rw[c2]at hs hd ⊢;have U:v≠pv f b:=by grind[FO.uniq,BJ,aa3]
   rw[<-hs];have l:v∈r b:=L.R.sy _ _ hd;have o:v≠(inn.reverse++[a]).headD 0:=by grind[Lay.sna]
   have:=Hn (L.R'.nd b) L.sb (L.sub l) o;rw[L.eb]at this;rw[this,WA fun e=>U (C9 (L.R'.nd b) (L.sub l) (L.sub (O.df L.R d G)) (e.trans nb.symm))]
  .rw[L.Wn _ c1 c2 fun h=>?_,hs];have h3:=L.R.sy _ _ hd;grind[Lay.off]
 refine⟨fun g hg=>?_,fun g hg=>?_,fun g hg=>?_,fun g hg=>?_,fun v w hw=>?_,fun g hg g' m v y h2 e=>?_,?_⟩
 .rcases HV.1 hg with rfl|hg
  .exact H1.nd
  rcases HV.1 hg with rfl|hg
  all_goals grind[Xf.nd,FO.nd]
 .rcases HV.1 hg with rfl|hg
  .simp[half]
  rcases HV.1 hg with rfl|hg
  all_goals grind[FO.ne]
 .rcases HV.1 hg with rfl|hg
  .exact H.bz
  rcases HV.1 hg with rfl|hg
  .exact I.bz
  .exact fun v k=>L.sub (by grind[FO.bz])
 .rcases HV.1 hg with rfl|hg
  all_goals grind[HalfR.step]
 .by_cases c:w∈r v
  .obtain⟨g,hg,k,e⟩:=O.cover v w c;by_cases cg:g=f
   .subst cg;rcases(D v).1 k with h|h
    .exact⟨_,qH,(H1.mem v).2 hGr,by rw[(H1.fwd v h).1,e]⟩
    .exact⟨_,(by grind[mem_cons_self]),(H2.mem v).2 hGr,by rw[(H2.fwd v h).1,e]⟩
   grind
  .by_cases c1:v=a
   .grind[Lay.ea,mem_cons_self]
   by_cases c2:v=b
   .grind[Lay.eb]
   by_cases c3:v∈inn
   .obtain⟨i,p,N,z⟩:=qm (a:=a) (b:=b) (.inr c3);have hi:i+2<(nr a inn b).length:=by grind[Eo]
    have t:(nr a inn b)[i+2]?=Z ((nr a inn b)[i+2]'hi):=Gc hi
    rcases((L.mid i p v _ N z t).2.2 w).1 hw with h|h
    .exact⟨_,qH,(H1.mem v).2 hGr,by grind[Xf.back]⟩
    .refine⟨_,(by grind[mem_cons_self]),(H2.mem v).2 hGr,?_⟩;have aC:=Eo a b inn;have g1:(nr b inn.reverse a)[inn.length+2-1-(i+2)]?=Z ((nr a inn b)[i+2]'hi):=by rw[<-Ec,ai7 NH,<-t];congr 1;omega
     have g2:(nr b inn.reverse a)[inn.length+2-1-(i+2)+1]?=Z v:=by rw[<-Ec,ai7 NH,<-z];congr 1;omega
     grind[Xf.back]
   grind[Lay.Wn]
 .rcases HV.1 hg with rfl|hg
  .grind
  rcases HV.1 hg with rfl|hg
  .grind
  .rcases HV.1 m with rfl|m
   .grind
   rcases HV.1 m with rfl|m
   all_goals grind[FO.uniq]
 .rw[eR,HV,eR];grind[FO.nodup]
end
def Cyc.filter{f g:II}(h:Cyc f g)(p:Nat->Bool):Cyc (f.filter p) (g.filter p):=by obtain⟨u,v,rfl,rfl⟩:=h;exact⟨u.filter p,v.filter p,j3 ..,j3 ..⟩
theorem oW{A B:II}{x y:Nat}(nd:((A++[x])++(B++[y])).Nodup):
  (∀p∈A,nx ((A++[x])++(B++[y])) p=nx (A++[x]) p)/\nx ((A++[x])++(B++[y])) x=nx (B++[y]) y:=by
 have n1:=(ZT.1 nd).1;have e:=(ZT.1 nd).2.1;constructor
 .intro p a;obtain⟨s,q,rfl,f⟩:=sC a;grind[nx_mid]
 .have b:x∉A:=by grind[nodup_append]
  have c:y∉B:=by grind[nodup_append]
  have d:(A++[x])++(B++[y])=A++x::(B++[y]):=by simp
  rw[d,ZL b,ZL c];cases B with
  |nil=>rfl
  |cons z B=>rfl
structure Hh (n:Nat) (R:Nat->II) (EX:Nat->Nat->Prop) (u w:Nat) (A:II) (x:Nat) (B:II) (y:Nat) (A':II) (x':Nat) (B':II) (y':Nat):Prop where
 Rl:V7 n R
 sym:∀a b,EX a b->EX b a
 uw:u≠w
 Wn:∀v,v≠u->v≠w->(∀a∈R v,EX v a)\/(∀a∈R v,¬EX v a)
 cu:Cyc (R u) ((A++[x])++(B++[y]))
 au:∀a∈A++[x],EX u a
 bu:∀b∈B++[y],¬EX u b
 cw:Cyc (R w) ((A'++[x'])++(B'++[y']))
 aw:∀a∈A'++[x'],EX w a
 bw:∀b∈B'++[y'],¬EX w b
section
variable{n:Nat}{R:Nat->II}{EX:Nat->Nat->Prop}{u w:Nat}{A B A' B':II}{x y x' y':Nat}
theorem IJ{r:Nat->II}{P:Nat->Nat->Prop}{v:Nat}(h:∀w∈r v,P v w):Om P r v=r v:=by grind[Om,filter_eq_self]
theorem abH{l:II}{C D:II}{p:Nat->Prop}(h:Cyc l (C++D))(c:∀a∈C,p a)(d:∀b∈D,¬p b):Cyc (l.filter fun a=>decide (p a)) C:=by
 have:=h.filter fun a=>decide (p a);have e:C.filter (fun a=>decide (p a))=C:=FD.2 fun a ha=>by grind
 grind[filter_eq_nil_iff]
theorem Hh.dY(T:Hh n R EX u w A x B y A' x' B' y'):Hh n R EX w u A' x' B' y' A x B y:=⟨T.Rl,T.sym,wI T.uw,fun v a h2=>T.Wn v h2 a,T.cw,T.aw,T.bw,T.cu,T.au,T.bu⟩
theorem Hh.rx(T:Hh n R EX u w A x B y A' x' B' y'):V7 n (Om EX R):=OG T.Rl T.sym
theorem Hh.ry(T:Hh n R EX u w A x B y A' x' B' y'):V7 n (Om (fun a b=>¬EX a b) R):=OG T.Rl fun a b h q=>h (T.sym _ _ q)
theorem Hh.parts(T:Hh n R EX u w A x B y A' x' B' y'):Oi (dl n R) (dl n (Om EX R)) (dl n (Om (fun a b=>¬EX a b) R)) (fun d=>EX d.1 d.2) (Nv (Om EX R)) (Nv (Om (fun a b=>¬EX a b) R)):=by
 refine⟨yR (J8 T.Rl) ?_ fun d=>?_,(by grind[EM,IP,Hh.rx]),(by grind[EM,IP,Hh.ry]),aaG T.rx,aaG T.ry⟩
 all_goals grind[J8,Hh.rx,Hh.ry,EM,IP,Hh.Rl]
theorem zU{α:Type}{f g:α->α}{a b x:α}(c:f a=g a)(h2:f b=g b)(h3:f x=g x):swp f a b x=swp g a b x:=by grind[swp]
theorem Hh.at(T:Hh n R EX u w A x B y A' x' B' y'):(∀p∈A,nx (R u) p=nx (Om EX R u) p)/\(∀p∈B,nx (R u) p=nx (Om (fun a b=>¬EX a b) R u) p)/\
  nx (R u) x=nx (Om (fun a b=>¬EX a b) R u) y/\nx (R u) y=nx (Om EX R u) x:=by
 have nd:=T.Rl.nd u;have n0:=T.cu.perm.nodup_iff.1 nd;have n1:((B++[y])++(A++[x])).Nodup:=by grind[List.Perm.nodup_iff]
 have e:Cyc (Om EX R u) (A++[x]):=abH T.cu T.au T.bu;have d:Cyc (Om (fun a b=>¬EX a b) R u) (B++[y]):=abH T.cu.shift T.bu (by grind[Hh.au]);have nX:=T.rx.nd u;have f:=T.ry.nd u;have⟨k,g⟩:=oW n0;have⟨h,i⟩:=oW n1;have m1:∀p∈A++[x],p∈R u/\p∈Om EX R u:=fun p c=>⟨T.cu.perm.mem_iff.2 (bC _ c),e.perm.mem_iff.2 c⟩;have m2:∀p∈B++[y],p∈R u/\p∈Om (fun a b=>¬EX a b) R u:=fun p c=>⟨T.cu.perm.mem_iff.2 (aho _ c),d.perm.mem_iff.2 c⟩;refine⟨fun p c=>?_,fun p c=>?_,?_,?_⟩
 .grind[Hh.cu,Cyc.nx]
 .obtain⟨j,h2⟩:=m2 p (by simp[c]);rw[T.cu.shift.nx nd j,h p c,d.nx f h2]
 .rw[T.cu.nx nd (m1 x Ma).1,g,d.nx f (m2 y Ma).2]
 .rw[T.cu.shift.nx nd (m2 y Ma).1,i,e.nx nX (m1 x Ma).2]
theorem Hh.phi(T:Hh n R EX u w A x B y A' x' B' y'){d:H8}(hd:d∈dl n R):
  Nv R d=swp (swp (Go.Fw.two (fun d=>EX d.1 d.2) (Nv (Om EX R)) (Nv (Om (fun a b=>¬EX a b) R))) (x,u) (y,u)) (x',w) (y',w) d:=by
 have uw:=T.uw;have f:∀{u w:Nat}{A B A' B':II}{x y x' y':Nat}(T:Hh n R EX u w A x B y A' x' B' y'){p:Nat},p∈R u->
   Nv R (p,u)=swp (Go.Fw.two (fun d=>EX d.1 d.2) (Nv (Om EX R)) (Nv (Om (fun a b=>¬EX a b) R))) (x,u) (y,u) (p,u):=fun{u w A B A' B' x y x' y'} T {p} e=>by
  have⟨j,h2,h3,k⟩:=T.at;have n0:=T.cu.perm.nodup_iff.1 (T.Rl.nd u);have c:=T.cu.perm.mem_iff.1 e;have g:EX x u:=T.sym _ _ (T.au x Ma);have i:¬EX y u:=fun h=>T.bu y Ma (T.sym _ _ h);rcases vZ.1 c with c|c
  .have hex:EX p u:=T.sym _ _ (T.au p c);rcases vZ.1 c with hA|hA
   .grind[Q3,Prod.mk.inj,two.eq_1,Nv.eq_1]
   grind[C5,two.eq_1,Nv.eq_1]
  .have hex:¬EX p u:=fun h=>T.bu p c (T.sym _ _ h);rcases vZ.1 c with hB|hB
   .grind[Q3,Prod.mk.inj,two.eq_1,Nv.eq_1]
   grind[dX,two.eq_1,Nv.eq_1]
 have⟨p,v⟩:=d;have e:p∈R v:=T.Rl.sy _ _ ((IP T.Rl).1 hd);by_cases c1:v=u
 .grind[Prod.mk.inj,Q3]
 by_cases c2:v=w
 .grind[Hh.dY,Q3,Prod.mk.inj,zU]
 .have m:∀q z:Nat,((p,v):H8)≠(q,u)/\((p,v):H8)≠(z,w):=by grind[Prod.mk.inj]
  rw[Q3 (m 0 x').2 (m 0 y').2,Q3 (m x 0).1 (m y 0).1];rcases T.Wn v c1 c2 with h|h
  .rw[Go.Fw.two,Sb (T.sym _ _ (h p e)),Nv,Nv];grind[IJ]
  .rw[Go.Fw.two,WA fun q=>h p e (T.sym _ _ q),Nv,Nv];grind[IJ]
end
theorem Cyc.symm{f g:II}(h:Cyc f g):Cyc g f:=by obtain⟨u,v,rfl,rfl⟩:=h;exact⟨v,u,rfl,rfl⟩
theorem Cyc.trans{f g k:II}(h:Cyc f g)(h':Cyc g k):Cyc f k:=by obtain⟨u,v,rfl,rfl⟩:=h';exact h.shift
def Cyc.reverse{f g:II}(h:Cyc f g):Cyc f.reverse g.reverse:=by obtain⟨u,v,rfl,rfl⟩:=h;exact⟨v.reverse,u.reverse,qL211,qL211⟩
theorem Cyc.nil{f:II}(h:Cyc f []):f=[]:=by have:=h.perm.length_eq;grind
def pP(s t:Nat->II):Prop:=∀v,Cyc (s v) (t v)
section
variable{n:Nat}{s t:Nat->II}
theorem pP.mem(h:pP s t){v w:Nat}:w∈s v↔w∈t v:=(h v).perm.mem_iff
theorem pP.symm(h:pP s t):pP t s:=fun v=>(h v).symm
theorem pP.Rl(h:pP s t)(S:V7 n s):V7 n t:=⟨fun v=>(h v).perm.nodup_iff.1 (S.nd v),fun v w q=>S.lt v w (h.mem.2 q),fun v w q=>h.mem.1 (S.sy v w (h.mem.2 q)),fun v q=>S.ir v (h.mem.2 q)⟩
theorem pP.phi(h:pP s t)(S:V7 n s){d:H8}(hd:d∈dl n s):Nv s d=Nv t d:=by have:=S.sy _ _ ((IP S).1 hd);rw[Nv,Nv,(h d.2).nx (S.nd _) this]
theorem pP.dl(h:pP s t)(S:V7 n s):(dl n s).Perm (dl n t):=yR (J8 S) (J8 (h.Rl S)) fun d=>by rw[IP S,IP (h.Rl S),h.mem]
theorem pP.orb(h:pP s t)(S:V7 n s){d e:H8}(hd:d∈Go.Fw.dl n s)(a:e∈Go.Fw.dl n s):WD (Nv s) d e↔WD (Nv t) d e:=(by grind[ER,aaG,pP.phi])
theorem pP.cls(h:pP s t)(S:V7 n s):cls (WD (Nv s)) (Go.Fw.dl n s)=cls (WD (Nv t)) (Go.Fw.dl n t):=by rw[IZ fun d hd e a=>h.orb S hd a];grind[Yy,pP.dl,aaG,pP.Rl,Pm.eqv]
theorem pP.flat(h:pP s t)(S:V7 n s):Flat n s↔Flat n t:=by
 have a:mj n s=mj n t:=by
  rw[mj,mj,h.cls S];congr 2;refine vY fun v _=>?_;rw[agN];constructor
  .have:=h v;grind[Cyc.nil,Cyc.symm]
  .have:=h v;grind[Cyc.nil]
 have b:iJ n s=iJ n t:=IZ fun x _ y _=>⟨fun c=>c.mono fun v w q=>h.mem.1 q,fun c=>c.mono fun v w q=>h.mem.2 q⟩;rw[Flat,Flat,a,b,(h.dl S).length_eq]
end
section
variable{n:Nat}{R:Nat->II}{EX:Nat->Nat->Prop}{u w:Nat}{A B A' B':II}{x y x' y':Nat}
theorem Hh.Ff(T:Hh n R EX u w A x B y A' x' B' y'):((x,u):H8)∈dl n (Om EX R):=by rw[IP T.rx];refine T.rx.sy _ _ (EM.2 ⟨T.cu.perm.mem_iff.2 Ma,T.au x Ma⟩)
def Hh.QH(T:Hh n R EX u w A x B y A' x' B' y'):((y,u):H8)∈dl n (Om (fun a b=>¬EX a b) R):=by rw[IP T.ry];refine T.ry.sy _ _ (EM.2 ⟨T.cu.perm.mem_iff.2 Ma,T.bu y Ma⟩)
theorem Hh.cls(T:Hh n R EX u w A x B y A' x' B' y'):
  ((WD (Nv (Om EX R)) (x',w) (x,u)/\WD (Nv (Om (fun a b=>¬EX a b) R)) (y,u) (y',w))->cls (WD (Nv R)) (dl n R)=cls (WD (Nv (Om EX R))) (dl n (Om EX R))+cls (WD (Nv (Om (fun a b=>¬EX a b) R))) (dl n (Om (fun a b=>¬EX a b) R)))/\
  (¬(WD (Nv (Om EX R)) (x',w) (x,u)/\WD (Nv (Om (fun a b=>¬EX a b) R)) (y,u) (y',w))->cls (WD (Nv R)) (dl n R)+2=cls (WD (Nv (Om EX R))) (dl n (Om EX R))+cls (WD (Nv (Om (fun a b=>¬EX a b) R))) (dl n (Om (fun a b=>¬EX a b) R))):=by
 have h:=T.parts.join2 T.Ff T.QH T.dY.Ff T.dY.QH;grind[IZ,ER,aaG,Hh.Rl,Hh.phi]
noncomputable def Qu(R:Nat->II)(EX:Nat->Nat->Prop)(u w:Nat)(L K b c:II):Nat->II:=fun v=>if v=u then L.reverse++K else if v=w then b.reverse++c else if∃a∈R v,EX v a then(R v).reverse else R v
theorem BK(A:II)(x:Nat):∃h t,A++[x]=h::t/\(A++[x]).reverse=t.reverse++[h]/\nx (A++[x]) x=if x∈A then nx (A++[x]) x else h:=by
 cases A with
 |nil=>exact⟨x,[],rfl,rfl,by simp[nx,nxF]⟩
 |cons h t=>refine⟨h,t++[x],rfl,Ma,?_⟩;grind[vB]
theorem Jr(T:Hh n R EX u w A x B y A' x' B' y'){v a:Nat}:a∈Qu R EX u w (A++[x]) (B++[y]) (A'++[x']) (B'++[y']) v↔a∈R v:=by
 unfold Qu;by_cases c1:v=u
 .subst c1;rw[Sb rfl,T.cu.perm.mem_iff];grind
 .rw[WA c1];by_cases c2:v=w
  .subst c2;rw[Sb rfl,T.cw.perm.mem_iff];grind
  .rw[WA c2];split
   all_goals grind
def Hh.flip_rot(T:Hh n R EX u w A x B y A' x' B' y'):V7 n (Qu R EX u w (A++[x]) (B++[y]) (A'++[x']) (B'++[y'])):=by
 refine⟨fun v=>?_,fun v a h=>T.Rl.lt v a ((Jr T).1 h),fun v a h=>(Jr T).2 (T.Rl.sy v a ((Jr T).1 h)),fun v h=>T.Rl.ir v ((Jr T).1 h)⟩;unfold Qu;by_cases c1:v=u
 .subst c1;rw[Sb rfl];exact((ajZ _).append_right _).nodup_iff.2 (T.cu.perm.nodup_iff.1 (T.Rl.nd v))
 .rw[WA c1];by_cases c2:v=w
  .subst c2;rw[Sb rfl];exact((ajZ _).append_right _).nodup_iff.2 (T.cw.perm.nodup_iff.1 (T.Rl.nd v))
  .rw[WA c2];split
   .exact Gv (T.Rl.nd v)
   .exact T.Rl.nd v
theorem Hh.flip(T:Hh n R EX u w A x B y A' x' B' y'):∃h t h' b,A++[x]=h::t/\A'++[x']=h'::b/\Hh n (Qu R EX u w (A++[x]) (B++[y]) (A'++[x']) (B'++[y'])) EX u w t.reverse h B y b.reverse h' B' y':=by
 have⟨h,t,d,g,_⟩:=BK A x;have⟨h',b,c,e,_⟩:=BK A' x';refine⟨h,t,h',b,d,c,T.flip_rot,T.sym,T.uw,fun v f h2=>?_,?_,fun a ha=>T.au a ?_,T.bu,?_,fun a ha=>T.aw a ?_,T.bw⟩
 .rcases T.Wn v f h2 with q|q
  all_goals grind[Jr]
 all_goals grind[Qu,Cyc.refl,Hh.uw]
theorem Hh.flipX(T:Hh n R EX u w A x B y A' x' B' y'):pP (Om EX (Qu R EX u w (A++[x]) (B++[y]) (A'++[x']) (B'++[y']))) (qI (Om EX R)):=fun v=>by
 have QI:∀{l K L:II}{v:Nat},Cyc l (L++K)->(∀a∈L,EX v a)->(∀a∈K,¬EX v a)->Cyc ((L.reverse++K).filter fun a=>decide (EX v a)) (l.filter fun a=>decide (EX v a)).reverse:=fun{l K L v} b c d=>by
  have e:=(abH (p:=fun a=>EX v a) b c d).reverse;have f:(L.reverse++K).filter (fun a=>decide (EX v a))=L.reverse:=by rw[j3,FD.2 hGr,qL90.2 hGr,ag1]
  grind[Cyc.symm]
 unfold qI Om Qu;by_cases c1:v=u
 .subst c1;rw[Sb rfl];exact QI T.cu T.au T.bu
 .rw[WA c1];by_cases c2:v=w
  .subst c2;rw[Sb rfl];exact QI T.cw T.aw T.bw
  .rw[WA c2];split
   all_goals grind[Cyc.refl,filter_eq_nil_iff]
theorem Hh.flipN(T:Hh n R EX u w A x B y A' x' B' y'){c:Nat->Nat->Prop}(g:∀a b,c a b↔¬EX a b):pP (Om c (Qu R EX u w (A++[x]) (B++[y]) (A'++[x']) (B'++[y']))) (Om c R):=fun v=>by
 have QI:∀{l K L:II}{v:Nat},Cyc l (L++K)->(∀a∈L,EX v a)->(∀a∈K,¬EX v a)->Cyc ((L.reverse++K).filter fun a=>decide (c v a)) (l.filter fun a=>decide (c v a)):=fun{l K L v} f h i=>by
  have d:∀a∈L,¬c v a:=hGr;have e:∀a∈K,c v a:=hGr;have j:=abH (p:=fun a=>c v a) f.shift e d;have e3:L.reverse.filter (fun a=>decide (c v a))=[]:=by grind[filter_eq_nil_iff]
  grind[filter_eq_self,Cyc.symm]
 unfold Om Qu;by_cases c1:v=u
 .subst c1;rw[Sb rfl];exact QI T.cu T.au T.bu
 .rw[WA c1];by_cases c2:v=w
  .subst c2;rw[Sb rfl];exact QI T.cw T.aw T.bw
  .rw[WA c2];split
   .rcases T.Wn v c1 c2 with q|q
    all_goals grind[filter_eq_nil_iff,Cyc.refl]
   grind[Cyc.refl]
theorem Hh.flipY(T:Hh n R EX u w A x B y A' x' B' y'):pP (Om (fun a b=>¬EX a b) (Qu R EX u w (A++[x]) (B++[y]) (A'++[x']) (B'++[y']))) (Om (fun a b=>¬EX a b) R):=by grind[Hh.flipN]
theorem Hh.flip_flat(T:Hh n R EX u w A x B y A' x' B' y'):Flat n (Qu R EX u w (A++[x]) (B++[y]) (A'++[x']) (B'++[y']))↔Flat n R:=by
 have⟨h,t,h',E,m,g,c⟩:=T.flip;have j:=T.flipX;have k:=T.flipY;have c1:=T.cls;have c2:=c.cls;have f:=T.rx;rw[j.cls c.rx,k.cls c.ry,jX f]at c2;have head:∀{A B A' B':II}{x y x' y' u w h:Nat}{t:II},Hh n R EX u w A x B y A' x' B' y'->A++[x]=h::t->inv (Nv (Om EX R) (x,u))=(h,u):=fun{A B A' B' x y x' y' u w h t} T e=>by
  have nd:=T.rx.nd u;have l:Cyc (Om EX R u) (A++[x]):=abH T.cu T.au T.bu;have F:x∈Om EX R u:=l.perm.mem_iff.2 Ma;have G:x∉A:=fun q=>by have:=l.perm.nodup_iff.1 nd;grind
  have:nx (A++[x]) x=h:=by
   cases A<;>grind[nx,nxF,vB]
  show(nx (Om EX R u) x,u)=(h,u);grind[Cyc.nx]
 have o:=head T m;have i:=head T.dY g;have r:=(aaG f).mem _ T.dY.Ff;have k1:WD (Nv (Om EX (Qu R EX u w (A++[x]) (B++[y]) (A'++[x']) (B'++[y'])))) (h',w) (h,u)↔WD (Nv (Om EX R)) (x',w) (x,u):=by
  rw[j.orb c.rx c.dY.Ff c.Ff,<-o,<-i,SY f r];have p:=aaG f
  all_goals grind[WD.one,WD.trans,Pm.adK,Hh.Ff,Hh.dY]
 have k2:WD (Nv (Om (fun a b=>¬EX a b) (Qu R EX u w (A++[x]) (B++[y]) (A'++[x']) (B'++[y'])))) (y,u) (y',w)↔WD (Nv (Om (fun a b=>¬EX a b) R)) (y,u) (y',w):=k.orb c.ry c.QH c.dY.QH;have d:Go.Fw.cls (WD (Nv (Qu R EX u w (A++[x]) (B++[y]) (A'++[x']) (B'++[y'])))) (dl n (Qu R EX u w (A++[x]) (B++[y]) (A'++[x']) (B'++[y'])))=Go.Fw.cls (WD (Nv R)) (dl n R):=hGr;have z:(dl n (Qu R EX u w (A++[x]) (B++[y]) (A'++[x']) (B'++[y']))).length=(dl n R).length:=by grind[yR,J8,Hh.Rl,IP,Jr,List.Perm.length_eq]
 have C:iJ n (Qu R EX u w (A++[x]) (B++[y]) (A'++[x']) (B'++[y']))=iJ n R:=IZ (by grind[Cr.mono,Jr]);have D:mj n (Qu R EX u w (A++[x]) (B++[y]) (A'++[x']) (B'++[y']))=mj n R:=by rw[mj,mj,d];congr 2;refine vY fun v _=>?_;rw[agN,jz,jz];exact⟨fun q a ha=>q a ((Jr T).2 ha),(by grind[Jr])⟩
 grind[Flat.eq_1]
end
theorem HL{h:Nat->Nat}{l:II}(inj:∀x∈l,∀y∈l,h x=h y->x=y){y:Nat}(d:y∈l):nx (l.map h) (h y)=h (nx l y):=by
 obtain⟨p,q,rfl,e⟩:=sC d;have c:h y∉p.map h:=hGr;rw[abZ,AQ,ZL c,ZL e];cases q with
 |cons z q=>rfl
 |nil=>cases p<;>rfl
theorem aeE{α:Type}{R R':α->α->Prop}:∀{X:List α},(∀x∈X,∀y∈X,R x y->R' x y)->cls R' X<=cls R X
 |[],_=>qL0 _
 |x::l,h=>by
  have e:=aeE (X:=l) fun a ha b hb=>h a (VU _ ha) b (VU _ hb);rw[cls,cls];by_cases c:∃y∈l,R x y
  .obtain⟨y,d,r⟩:=c;rw[Sb (by grind[mem_cons_of_mem]),Sb ⟨y,d,r⟩];omega
  .split<;>omega
section
variable{n:Nat}{r:Nat->II}{F:Cs}
theorem cut_ex(R:V7 n r)(O:FO r F){f g:II}(hf:f∈F)(hg:g∈F)(k:f≠g){a:Nat}(c:a∈f)(d:a∈g):
  ∃A B,Cyc (r a) ((A++[pv g a])++(B++[pv f a]))/\(A++[pv g a]).headD 0=nx f a/\(B++[pv f a]).headD 0=nx g a:=by
 have nd:=R.nd a;have⟨q,s,t⟩:=O.pv hf c;have⟨w,x,y⟩:=O.pv hg d;have i:=O.df R hf c;have l:=O.df R hg d;have m:pv g a≠pv f a:=by grind[FO.uniq]
 have⟨u,v,e,C⟩:=sC i;have c1:Cyc (r a) (v++(u++[pv f a])):=by grind[Cyc.refl,Cyc.shift]
 have j:pv g a∈v++u:=hGr;have⟨A,B,e3,o⟩:=sC j;have c2:Cyc (r a) ((A++[pv g a])++(B++[pv f a])):=hGr;have p:=c2.perm.nodup_iff.1 nd;have⟨D,E⟩:=oW p;have n3:((B++[pv f a])++(A++[pv g a])).Nodup:=by grind[List.Perm.nodup_iff]
 have⟨G,H⟩:=oW n3;have hd:∀{L:II}{z:Nat},(L++[z]).Nodup->nx (L++[z]) z=(L++[z]).headD 0:=fun{L z} h=>by grind[ZL]
 grind[Cyc.shift,Cyc.nx]
end
noncomputable def pF(n a b:Nat)(B B':II)(p q:Nat):Nat:=if p=a then(if q∈B then n else a)else if p=b then(if q∈B' then n+1 else b)else p
noncomputable def CL(n a b:Nat)(r:Nat->II)(A B A' B':II)(v:Nat):II:=if v=a then A else if v=b then A' else if v=n then B else if v=n+1 then B' else r v
noncomputable def Nq(n a b:Nat)(v:Nat):Nat:=if v=n then a else if v=n+1 then b else v
noncomputable def uO(n a b:Nat)(r:Nat->II)(A B A' B':II)(v:Nat):II:=(CL n a b r A B A' B' v).map fun q=>pF n a b B B' q (Nq n a b v)
structure Tu (n:Nat) (r:Nat->II) (a b:Nat) (A B A' B':II):Prop where
 R:V7 n r
 ab:a≠b
 an:a<n
 bn:b<n
 ca:Cyc (r a) (A++B)
 cb:Cyc (r b) (A'++B')
section
variable{n:Nat}{r:Nat->II}{a b:Nat}{A B A' B':II}
theorem Tu.disA(S:Tu n r a b A B A' B'){q:Nat}(c:q∈A)(h2:q∈B):False:=by have:=S.ca.perm.nodup_iff.1 (S.R.nd a);grind
theorem Tu.disB(S:Tu n r a b A B A' B'){q:Nat}(c:q∈A')(h2:q∈B'):False:=by have:=S.cb.perm.nodup_iff.1 (S.R.nd b);grind
theorem Tu.GZ(S:Tu n r a b A B A' B'){p q:Nat}(c:p<n):Nq n a b (pF n a b B B' p q)=p:=by grind[Nq,pF]
theorem Tu.TU(S:Tu n r a b A B A' B'){p q:Nat}(h:p∈r q):p∈CL n a b r A B A' B' (pF n a b B B' q p):=by
 have d:=S.an;have h2:=S.bn;have e:=S.R.lt _ _ h;unfold CL pF;by_cases c1:q=a
 .subst c1;have c:=S.ca.perm.mem_iff.1 h;grind
 .by_cases c2:q=b
  .subst c2;have c:=S.cb.perm.mem_iff.1 h;grind
  grind
theorem Tu.jL(S:Tu n r a b A B A' B'){v q:Nat}(h:q∈CL n a b r A B A' B' v):q∈r (Nq n a b v)/\v=pF n a b B B' (Nq n a b v) q/\Nq n a b v<n:=by
 have c:=S.an;have h2:=S.bn;have h3:=S.ab;unfold CL at h;by_cases c1:v=a
 .subst c1;rw[Sb rfl]at h;have e:Nq n v b v=v:=by grind[Nq]
  rw[e];refine⟨S.ca.perm.mem_iff.2 (bC _ h),?_,c⟩;grind[pF,Tu.disA]
 rw[WA c1]at h;by_cases c2:v=b
 .subst c2;rw[Sb rfl]at h;have e:Nq n a v v=v:=by grind[Nq]
  rw[e];refine⟨S.cb.perm.mem_iff.2 (bC _ h),?_,h2⟩;grind[pF,Tu.disB]
 rw[WA c2]at h;by_cases d:v=n
 .subst d;rw[Sb rfl]at h;have e:Nq v a b v=a:=by grind[Nq]
  rw[e];refine⟨S.ca.perm.mem_iff.2 (aho _ h),?_,c⟩;grind[pF]
 rw[WA d]at h;by_cases f:v=n+1
 .subst f;rw[Sb rfl]at h;have e:Nq n a b (n+1)=b:=by grind[Nq]
  rw[e];refine⟨S.cb.perm.mem_iff.2 (aho _ h),?_,h2⟩;grind[pF]
 .rw[WA f]at h;have e:Nq n a b v=v:=by grind[Nq]
  rw[e];refine⟨h,?_,S.R.lt _ _ h⟩;grind[pF]
theorem Tu.tau_lt(S:Tu n r a b A B A' B'){p q:Nat}(c:p<n):pF n a b B B' p q<n+2:=by grind[pF]
theorem Tu.Az(S:Tu n r a b A B A' B'){p c q:Nat}(f:p<n)(d:c<n)(e:pF n a b B B' p q=pF n a b B B' c q):p=c:=by grind[Tu.GZ]
theorem Tu.mem(S:Tu n r a b A B A' B'){v w:Nat}:w∈uO n a b r A B A' B' v↔∃p q,q∈r p/\v=pF n a b B B' p q/\w=pF n a b B B' q p:=by
 unfold uO;constructor
 .grind[Tu.jL]
 .rintro⟨p,q,h,rfl,rfl⟩;have c:=S.R.lt _ _ h;grind[Tu.TU,Tu.GZ]
theorem Tu.Rl(S:Tu n r a b A B A' B'):V7 (n+2) (uO n a b r A B A' B'):=by
 have nA:=S.ca.perm.nodup_iff.1 (S.R.nd a);have nB:=S.cb.perm.nodup_iff.1 (S.R.nd b);rw[ZT]at nA nB;refine⟨fun v=>?_,fun v w h=>?_,fun v w h=>?_,fun v h=>?_⟩
 .have ng:(CL n a b r A B A' B' v).Nodup:=by
   unfold CL;split
   .exact nA.1
   split
   .exact nB.1
   split
   .exact nA.2.1
   split
   .exact nB.2.1
   .exact S.R.nd v
  unfold uO;rw[AE,V3];refine DF (fun{p q} f g d e=>d ?_) (AE.1 ng);exact S.Az (S.R.lt _ _ (S.R.sy _ _ (S.jL f).1)) (S.R.lt _ _ (S.R.sy _ _ (S.jL g).1)) e
 .obtain⟨p,q,c,rfl,_⟩:=S.mem.1 h;exact S.tau_lt (S.R.lt _ _ c)
 .obtain⟨p,q,c,h2,h3⟩:=S.mem.1 h;exact S.mem.2 ⟨q,p,S.R.sy _ _ c,h3,h2⟩
 .obtain⟨p,q,c,h2,h3⟩:=S.mem.1 h;have e:p=q:=by rw[<-S.GZ (S.R.lt _ _ c) (q:=q),<-h2,h3,S.GZ (S.R.lt _ _ (S.R.sy _ _ c))]
  rw[e]at c;exact S.R.ir _ c
noncomputable def rho(n a b:Nat)(B B':II)(d:H8):H8:=(pF n a b B B' d.1 d.2,pF n a b B B' d.2 d.1)
theorem Tu.Ln(S:Tu n r a b A B A' B'){d e:H8}(hd:d∈dl n r)(f:e∈dl n r)(h:rho n a b B B' d=rho n a b B B' e):d=e:=by
 have d1:=(IP S.R).1 hd;have c:=(IP S.R).1 f;injection h with g h2;refine akv ?_ ?_
 .rw[<-S.GZ (S.R.lt _ _ d1) (q:=d.2),g,S.GZ (S.R.lt _ _ c)]
 .rw[<-S.GZ (S.R.lt _ _ (S.R.sy _ _ d1)) (q:=d.1),h2,S.GZ (S.R.lt _ _ (S.R.sy _ _ c))]
theorem Tu.rho_dl(S:Tu n r a b A B A' B'):(dl (n+2) (uO n a b r A B A' B')).Perm ((dl n r).map (rho n a b B B')):=by
 refine yR (J8 S.Rl) ?_ fun d=>?_
 .grind[List.Pairwise.imp_of_mem,Tu.Ln,J8,Tu.R]
 .rw[IP S.Rl,si];constructor
  .intro h;have⟨p,q,c,h2,h3⟩:=S.mem.1 h;exact⟨(p,q),(IP S.R).2 c,akv h2.symm h3.symm⟩
  .rintro⟨e,f,rfl⟩;exact S.mem.2 ⟨e.1,e.2,(IP S.R).1 f,rfl,rfl⟩
noncomputable def psi(n a b:Nat)(r:Nat->II)(A B A' B':II)(d:H8):H8:=(d.2,nx (CL n a b r A B A' B' (pF n a b B B' d.2 d.1)) d.1)
theorem Tu.phi(S:Tu n r a b A B A' B'){d:H8}(hd:d∈dl n r):Nv (uO n a b r A B A' B') (rho n a b B B' d)=rho n a b B B' (psi n a b r A B A' B' d)/\psi n a b r A B A' B' d∈dl n r:=by have⟨p,q⟩:=d;have g:q∈r p:=(IP S.R).1 hd;have h2:=S.R.sy _ _ g;have c:=S.R.lt _ _ h2;have hg:=S.TU h2;have i:=ZP hg;have⟨f,j,o⟩:=S.jL i;rw[S.GZ c]at f j;refine⟨?_,(IP S.R).2 f⟩;show(pF n a b B B' q p,nx (uO n a b r A B A' B' (pF n a b B B' q p)) (pF n a b B B' p q))=(pF n a b B B' q (nx (CL n a b r A B A' B' (pF n a b B B' q p)) p),pF n a b B B' (nx (CL n a b r A B A' B' (pF n a b B B' q p)) p) q);unfold uO;rw[S.GZ c];congr 1;exact HL (h:=fun x=>pF n a b B B' x q) (fun x k y l e=>by have ex:=(S.jL k).1;have m:=(S.jL l).1;exact S.Az (S.R.lt _ _ (S.R.sy _ _ ex)) (S.R.lt _ _ (S.R.sy _ _ m)) e) hg
theorem Tu.it(S:Tu n r a b A B A' B'){d:H8}(hd:d∈dl n r):∀k,it (Nv (uO n a b r A B A' B')) k (rho n a b B B' d)=rho n a b B B' (it (psi n a b r A B A' B') k d)/\Go.Fw.it (psi n a b r A B A' B') k d∈dl n r
 |0=>⟨rfl,hd⟩
 |k+1=>by have⟨c,h2⟩:=S.it hd k;grind[Tu.phi,it]
theorem Tu.cls(S:Tu n r a b A B A' B'):cls (WD (Nv (uO n a b r A B A' B'))) (dl (n+2) (uO n a b r A B A' B'))=cls (WD (psi n a b r A B A' B')) (dl n r):=by
 rw[Yy S.rho_dl (aaG S.Rl).eqv,Zx];refine IZ fun d hd e c=>⟨fun⟨k,h⟩=>⟨k,?_⟩,fun⟨k,h⟩=>⟨k,?_⟩⟩
 all_goals grind[Tu.it,Tu.Ln]
end
section
variable{n:Nat}{r:Nat->II}{a b:Nat}{A B A' B':II}{x y x' y':Nat}
theorem Tu.swapped(S:Tu n r a b (A++[x]) (B++[y]) (A'++[x']) (B'++[y'])){d:H8}(hd:d∈dl n r):
  psi n a b r (A++[x]) (B++[y]) (A'++[x']) (B'++[y']) d=swp (swp (Nv r) (x,a) (y,a)) (x',b) (y',b) d:=by
 have w:=S.an;have h2:=S.bn;have h3:=S.ab;have⟨p,v⟩:=d;have h:p∈r v:=S.R.sy _ _ ((IP S.R).1 hd);have at_:∀{c:Nat}{A B:II}{x y:Nat},Cyc (r c) ((A++[x])++(B++[y]))->p∈r c->(p∉B++[y]->nx (A++[x]) p=(swp (Nv r) (x,c) (y,c) (p,c)).2)/\(p∈B++[y]->nx (B++[y]) p=(swp (Nv r) (x,c) (y,c) (p,c)).2)/\(swp (Nv r) (x,c) (y,c) (p,c)).1=c:=fun{c A B x y} f i=>by
  have nd:=S.R.nd c;have g:=f.perm.nodup_iff.1 nd;have n3:((B++[y])++(A++[x])).Nodup:=by grind[List.Perm.nodup_iff]
  have⟨z,C⟩:=oW g;have⟨D,E⟩:=oW n3;have k:=f.perm.mem_iff.1 i;have l:x∈r c:=f.perm.mem_iff.2 Ma;have m:y∈r c:=f.perm.mem_iff.2 Ma;have o:=(ZT.1 g).2.2;have nA:=(ZT.1 g).1;have nB:=(ZT.1 g).2.1;have fst:(swp (Nv r) (x,c) (y,c) (p,c)).1=c:=by
   unfold swp;split
   .rfl
   .split<;>rfl
  refine⟨fun s=>?_,fun hB=>?_,fst⟩
  .have hA:=(vZ.1 k).resolve_right s;rcases vZ.1 hA with hA|hA
   .have t:p≠x:=by grind[nodup_append]
    have u:p≠y:=hGr;rw[Q3 (by grind[Prod.mk.inj]) (by grind[Prod.mk.inj]),Nv];grind[Cyc.nx]
   .rw[iy]at hA;subst hA;rw[C5,Nv];grind[Cyc.shift,Cyc.nx]
  .rcases vZ.1 hB with hB|hB
   .have u:p≠y:=by grind[nodup_append]
    have t:p≠x:=fun e=>o x Ma p (by simp[hB]) e.symm;rw[Q3 (by grind[Prod.mk.inj]) (by grind[Prod.mk.inj]),Nv];grind[Cyc.shift,Cyc.nx]
   .rw[iy]at hB;subst hB;rw[dX,Nv];grind[Cyc.nx]
 show(v,nx (CL n a b r (A++[x]) (B++[y]) (A'++[x']) (B'++[y']) (pF n a b (B++[y]) (B'++[y']) v p)) p)=_;by_cases c1:v=a
 .subst c1;rw[Q3 (by grind[Prod.mk.inj]) (by grind[Prod.mk.inj])];have⟨k1,k2,j⟩:=at_ S.ca h;refine akv j.symm ?_;unfold pF CL;rw[Sb rfl];by_cases c:p∈B++[y]
  .rw[Sb c,WA NH,WA NH,Sb rfl];exact k2 c
  grind
 by_cases c2:v=b
 .subst c2;have QI:∀q:Nat,swp (Nv r) (x,a) (y,a) (q,v)=Nv r (q,v):=by grind[Q3,Prod.mk.inj]
  rw[zU (QI _) (QI _) (QI _)];have⟨k1,k2,j⟩:=at_ S.cb h;refine akv j.symm ?_;unfold pF CL;rw[WA c1,Sb rfl];by_cases c:p∈B'++[y']
  .rw[Sb c,WA NH,WA NH,WA NH,Sb rfl];exact k2 c
  grind
 .rw[Q3 (by grind[Prod.mk.inj]) (by grind[Prod.mk.inj]),Q3 (by grind[Prod.mk.inj]) (by grind[Prod.mk.inj]),Nv];have F:=S.R.lt _ _ h;grind[pF,CL]
theorem Tu.iso(S:Tu n r a b (A++[x]) (B++[y]) (A'++[x']) (B'++[y'])):
  ((rG (n+2)).filter fun v=>decide (uO n a b r (A++[x]) (B++[y]) (A'++[x']) (B'++[y']) v=[])).length=((rG n).filter fun v=>decide (r v=[])).length:=by
 have g:=S.an;have h2:=S.bn;have c:∀v,uO n a b r (A++[x]) (B++[y]) (A'++[x']) (B'++[y']) v=[]↔CL n a b r (A++[x]) (B++[y]) (A'++[x']) (B'++[y']) v=[]:=by grind[uO,map_eq_nil_iff]
 have i:¬CL n a b r (A++[x]) (B++[y]) (A'++[x']) (B'++[y']) n=[]:=by unfold CL;rw[WA NH,WA NH,Sb rfl];simp
 have j:¬CL n a b r (A++[x]) (B++[y]) (A'++[x']) (B'++[y']) (n+1)=[]:=by unfold CL;rw[WA NH,WA NH,WA NH,Sb rfl];simp
 have d:r a≠[]:=fun e=>by have:=S.ca;rw[e]at this;have:=this.symm.nil;simp at this
 have f:r b≠[]:=fun e=>by have:=S.cb;rw[e]at this;have:=this.symm.nil;simp at this
 rw[rY,rY,ah6,j3];have e:([n]++[n+1]).filter (fun v=>decide (uO n a b r (A++[x]) (B++[y]) (A'++[x']) (B'++[y']) v=[]))=[]:=hGr;rw[e,ag1];congr 1;refine vY fun v k=>?_;rw[agN,c];unfold CL;by_cases c1:v=a
 .subst c1;exact⟨fun h=>by simp at h,hGr⟩
 rw[WA c1];by_cases c2:v=b
 .subst c2;exact⟨fun h=>by simp at h,hGr⟩
 grind
theorem Tu.parts(S:Tu n r a b (A++[x]) (B++[y]) (A'++[x']) (B'++[y']))(hf:Flat n r)(j:¬WD (Nv r) (x,a) (y,a))(o:WD (Nv r) (x',b) (y,a))(h2:WD (Nv r) (x,a) (y',b)):
  iJ n r+1<=iJ (n+2) (uO n a b r (A++[x]) (B++[y]) (A'++[x']) (B'++[y'])):=by
 have p:=aaG S.R;have mem:∀{q c:Nat},q∈r c->((q,c):H8)∈dl n r:=by grind[IP,Tu.R,V7.sy]
 have k:=mem (S.ca.perm.mem_iff.2 (by simp:x∈(A++[x])++(B++[y])));have l:=mem (S.ca.perm.mem_iff.2 (by simp:y∈(A++[x])++(B++[y])));have f:=mem (S.cb.perm.mem_iff.2 (by simp:x'∈(A'++[x'])++(B'++[y'])));have h:=mem (S.cb.perm.mem_iff.2 (by simp:y'∈(A'++[x'])++(B'++[y'])));have s:=(WC p k l fun e=>j (by grind[WD.refl])).2 j;have q:=p.swp k l;have m:WD (swp (Nv r) (x,a) (y,a)) (x',b) (y',b):=by grind[cG]
 have i:((x',b):H8)≠(y',b):=fun e=>by have:=S.cb.perm.nodup_iff.1 (S.R.nd b);rw[ZT]at this;exact this.2.2 x' Ma y' Ma (qL93 e).1
 have t:=(WC q f h i).1 m;have e3:Go.Fw.cls (WD (psi n a b r (A++[x]) (B++[y]) (A'++[x']) (B'++[y']))) (dl n r)=Go.Fw.cls (WD (swp (swp (Nv r) (x,a) (y,a)) (x',b) (y',b))) (dl n r):=by have u:=q.swp f h;refine IZ fun d hd e v=>?_;grind[ER,Tu.swapped]
 have e4:=S.cls;have⟨g,hg⟩:=genus S.Rl;grind[List.Perm.length_eq,Tu.rho_dl,length_map,mj.eq_1,Tu.iso,Flat.eq_1]
end
section
variable{n:Nat}{r:Nat->II}{F:Cs}{a b:Nat}{A B A' B':II}
theorem DJ{v q:Nat}(c:v≠a)(h2:v≠b):pF n a b B B' v q=v:=by grind[pF]
theorem Tu.UQ(S:Tu n r a b A B A' B'){p q:Nat}(h:q∈r p):pF n a b B B' q p∈uO n a b r A B A' B' (pF n a b B B' p q):=by grind[Tu.mem]
theorem HQ(S:Tu n r a b A B A' B')(O:FO r F){f:II}(hf:f∈F){c d:Nat}(i:c∈f)(hd:d∈f)(h:c≠d)(l:∀v,v≠c->v≠d->v≠a/\v≠b):
  Cr (uO n a b r A B A' B') (pF n a b B B' c (nx f c)) (pF n a b B B' d (pv f d)):=by
 have⟨k,q,o⟩:=On (JT (O.nd f hf) i hd);have s:k≠0:=fun e=>by subst e;exact h q
 have g:=fun j=>(O.it hf i j).1;have t:∀j,j+1<k->it (nx f) (j+1) c≠c:=fun j u e=>by
  have:it (nx f) (k-(j+1)) c=d:=by have p:it (nx f) (k-(j+1)+(j+1)) c=it (nx f) (k-(j+1)) (it (nx f) (j+1) c):=qu _ _ _ _;grind
  grind
 have P:∀j,j<k->Cr (uO n a b r A B A' B') (pF n a b B B' c (nx f c)) (pF n a b B B' (it (nx f) j c) (it (nx f) (j+1) c)):=fun j=>by
  induction j with
  |zero=>intro _;exact .refl _
  |succ j w=>intro u;have p:=(w NH).step (S.UQ (O.bz f hf _ (g j)));grind[DJ]
 obtain⟨m,rfl⟩:∃m,k=m+1:=⟨k-1,NH⟩;have p:=(P m NH).step (S.UQ (O.bz f hf _ (g m)));grind[it,c7,FO.nd]
theorem spl_apart(S:Tu n r a b A B A' B')(f:Cr (uO n a b r A B A' B') a b)(g:Cr (uO n a b r A B A' B') (n+1) n)(l:iJ n r+1<=iJ (n+2) (uO n a b r A B A' B')):¬Cr (uO n a b r A B A' B') a n:=fun h=>by
 have R':=S.Rl;have d:∀p q,Cr (uO n a b r A B A' B') p (pF n a b B B' p q):=fun p q=>by
  unfold pF;split
  .rename_i e;subst e;split
   .exact h
   .exact .refl _
  .split
   .grind[Cr.symm,Cr.trans]
   .exact .refl _
 have lift:∀p q,Cr r p q->Cr (uO n a b r A B A' B') p q:=fun p q c=>by
  induction c with
  |refl=>exact .refl _
  |step _ hw i=>exact i.trans ((d _ _).trans ((Cr.one (S.UQ hw)).trans ((d _ _).symm R')))
 have hle:iJ (n+2) (uO n a b r A B A' B')<=iJ n r:=by
  have j:iJ (n+2) (uO n a b r A B A' B')=cls (Cr (uO n a b r A B A' B')) (n::(n+1)::rG n):=by grind[iJ,Yy,Cr.eqv]
  have k:∃z∈(n+1)::rG n,Cr (uO n a b r A B A' B') n z:=by grind[Cr.symm]
  have h2:∃z∈rG n,Cr (uO n a b r A B A' B') (n+1) z:=by grind[Tu.an,Cr.trans,Cr.symm]
  rw[j,cls,Sb k,cls,Sb h2];exact aeE hGr
 omega
structure WM (r:Nat->II) (f g:II) (a b:Nat) (A B A' B':II) (X:Nat->Prop):Prop where
 ca:Cyc (r a) ((A++[pv g a])++(B++[pv f a]))
 ha:(A++[pv g a]).headD 0=nx f a
 mi:(B++[pv f a]).headD 0=nx g a
 cb:Cyc (r b) ((A'++[pv f b])++(B'++[pv g b]))
 hb:(A'++[pv f b]).headD 0=nx g b
 sZ:(B'++[pv g b]).headD 0=nx f b
 xa:∀v∈A++[pv g a],v≠b->X v
 ya:∀v∈B++[pv f a],v≠b->¬X v
 xb:∀v∈A'++[pv f b],v≠a->X v
 yb:∀v∈B'++[pv g b],v≠a->¬X v
 Jp:∀v w,w∈r v->v≠a->v≠b->w≠a->w≠b->(X v↔X w)
 UQ:b∈A++[pv g a]↔a∈A'++[pv f b]
theorem BX{l:II}{x:Nat}:(l++[x]).headD 0∈l++[x]:=Lt Ma
theorem sides(R:V7 n r)(O:FO r F)(C:Flat n r){f g:II}(hf:f∈F)(hg:g∈F)(K:f≠g)(l:a≠b)(i:a∈f)(D:a∈g)(j:b∈f)(E:b∈g)(ca:Cyc (r a) ((A++[pv g a])++(B++[pv f a])))(ha:(A++[pv g a]).headD 0=nx f a)(mi:(B++[pv f a]).headD 0=nx g a)(cb:Cyc (r b) ((A'++[pv f b])++(B'++[pv g b])))(hb:(A'++[pv f b]).headD 0=nx g b)(sZ:(B'++[pv g b]).headD 0=nx f b):
  ∃X:Nat->Prop,WM r f g a b A B A' B' X:=by
 have S:Tu n r a b (A++[pv g a]) (B++[pv f a]) (A'++[pv f b]) (B'++[pv g b]):=⟨R,l,R.lt _ _ (O.df R hf i),R.lt _ _ (O.df R hf j),ca,cb⟩;have⟨Q,T,U⟩:=O.pv hf i;have⟨V,W,g3⟩:=O.pv hg D;have⟨f4,f5,f6⟩:=O.pv hf j;have⟨g4,g5,g6⟩:=O.pv hg E;have og:∀d,WD (Nv r) (pv g a,a) d↔∃u∈g,d=(u,nx g u):=by grind[FO.orb]
 have L:∀d,WD (Nv r) (pv f b,b) d↔∃u∈f,d=(u,nx f u):=by grind[FO.orb]
 have M:¬WD (Nv r) (pv g a,a) (pv f a,a):=by grind[FO.uniq]
 have m:WD (Nv r) (pv f b,b) (pv f a,a):=by grind[pv]
 have h2:WD (Nv r) (pv g a,a) (pv g b,b):=by grind[pv]
 have N:=S.parts C M m h2;have nA:=ca.perm.nodup_iff.1 (R.nd a);have nB:=cb.perm.nodup_iff.1 (R.nd b);have dA:∀{q:Nat},q∈A++[pv g a]->q∉B++[pv f a]:=fun m h2=>S.disA m h2;have dB:∀{q:Nat},q∈A'++[pv f b]->q∉B'++[pv g b]:=fun m h2=>S.disB m h2;have k:Cr (uO n a b r (A++[pv g a]) (B++[pv f a]) (A'++[pv f b]) (B'++[pv g b])) a b:=by
  have:=HQ S O hf i j l hGr;have G:pF n a b (B++[pv f a]) (B'++[pv g b]) a (nx f a)=a:=by grind[pF,BX]
  have J:pF n a b (B++[pv f a]) (B'++[pv g b]) b (pv f b)=b:=by unfold pF;grind
  grind
 have o:Cr (uO n a b r (A++[pv g a]) (B++[pv f a]) (A'++[pv f b]) (B'++[pv g b])) (n+1) n:=by
  have:=HQ S O hf j i (wI l) hGr;have G:pF n a b (B++[pv f a]) (B'++[pv g b]) b (nx f b)=n+1:=by grind[pF,BX]
  grind[pF]
 have p:=spl_apart S k o N;have R':=S.Rl;have ea:∀v,v≠a->v≠b->∀q,pF n a b (B++[pv f a]) (B'++[pv g b]) v q=v:=by grind[DJ]
 have inA:∀v∈A++[pv g a],v≠b->v∈uO n a b r (A++[pv g a]) (B++[pv f a]) (A'++[pv f b]) (B'++[pv g b]) a:=fun v c s=>by have e:=ca.perm.mem_iff.2 (bC _ c);have:=S.UQ e;rw[ea v (by grind[V7.ir]) s]at this;grind[pF]
 have inB:∀v∈B++[pv f a],v≠b->v∈uO n a b r (A++[pv g a]) (B++[pv f a]) (A'++[pv f b]) (B'++[pv g b]) n:=fun v c s=>by have e:=ca.perm.mem_iff.2 (aho _ c);have:=S.UQ e;rw[ea v (by grind[V7.ir]) s]at this;grind[pF]
 have y:∀v∈A'++[pv f b],v≠a->v∈uO n a b r (A++[pv g a]) (B++[pv f a]) (A'++[pv f b]) (B'++[pv g b]) b:=fun v c t=>by have e:=cb.perm.mem_iff.2 (bC _ c);have:=S.UQ e;rw[ea v t (by grind[V7.ir])]at this;grind[pF]
 have z:∀v∈B'++[pv g b],v≠a->v∈uO n a b r (A++[pv g a]) (B++[pv f a]) (A'++[pv f b]) (B'++[pv g b]) (n+1):=fun v c t=>by have e:=cb.perm.mem_iff.2 (aho _ c);have:=S.UQ e;rw[ea v t (by grind[V7.ir])]at this;grind[pF]
 refine⟨fun v=>Cr (uO n a b r (A++[pv g a]) (B++[pv f a]) (A'++[pv f b]) (B'++[pv g b])) a v,ca,ha,mi,cb,hb,sZ,fun v c h=>Cr.one (inA v c h),fun v c h q=>p (q.trans ((Cr.one (inB v c h)).symm R')),fun v c h=>k.step (y v c h),fun v c h q=>p ((q.trans ((Cr.one (z v c h)).symm R')).trans o),fun v w hw m h2 h3 P=>?_,?_⟩
 .have:=S.UQ hw;rw[ea v m h2,ea w h3 P]at this;exact⟨fun q=>q.step this,fun q=>q.step (R'.sy _ _ this)⟩
 .constructor
  .intro H;have e:=ca.perm.mem_iff.2 (bC _ H);have x:=cb.perm.mem_iff.1 (R.sy _ _ e);refine(vZ.1 x).resolve_right fun hB=>?_;have:=S.UQ e;have G:pF n a b (B++[pv f a]) (B'++[pv g b]) a b=a:=by grind[pF]
   have J:pF n a b (B++[pv f a]) (B'++[pv g b]) b a=n+1:=by grind[pF]
   rw[G,J]at this;exact p ((Cr.one this).trans o)
  .intro I;have e:=cb.perm.mem_iff.2 (bC _ I);have x:=ca.perm.mem_iff.1 (R.sy _ _ e);refine(vZ.1 x).resolve_right fun hB=>?_;have:=S.UQ e;grind[pF,Cr.trans,Cr.one]
end
end
end Go.Fw
