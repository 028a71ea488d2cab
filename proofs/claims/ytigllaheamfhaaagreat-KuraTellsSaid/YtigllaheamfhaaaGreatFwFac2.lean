/- A text. -/
import Derived.Test.YtigllaheamfhaaaGreatFwZA
set_option linter.all false
set_option maxRecDepth 99999
set_option maxHeartbeats 9999999
open Option renaming some→Z
open List renaming range→rG
open List
namespace Go.Fw
section
attribute [local instance] Classical.propDecidable
theorem afe{α:Type}{lt:α->α->Prop}(d:∀a,¬lt a a)(tr:∀a b c,lt a b->lt b c->lt a c):∀(l m:List α),l.Pairwise lt->m.Pairwise lt->(∀x,x∈l↔x∈m)->l=m
 |[],[],_,_,_=>rfl
 |[],y::m,_,_,h=>by grind[mem_cons_self]
 |x::l,[],_,_,h=>by grind[mem_cons_self]
 |x::l,y::m,f,g,h=>by
  rw[ajX]at f g;have e:x=y:=by
   rcases Og.1 ((h x).1 Hs)with e|e
   .exact e
   .rcases Og.1 ((h y).2 Hs)with i|i
    all_goals grind
  congr 1;refine afe d tr l m f.2 g.2 fun z=>?_;grind
section
variable{n:Nat}{r:Nat->II}
theorem ordr_eq{α:Type}{X:List α}{f:α->α}(p:Pm X f){x:α}(a:x∈X){k:Nat}(b:0<k)(c:it f k x=x)(h2:∀j,j<k->0<j->it f j x≠x):bt f x=k:=by grind[aaM]
def Cert(n:Nat)(r:Nat->II)(hs:List (H8×Nat)):Prop:=(∀p∈hs,p.1.2∈r p.1.1/\0<p.2/\it (Nv r) p.2 p.1=p.1/\∀j,j<p.2->(0<j->it (Nv r) j p.1≠p.1)/\¬TD (it (Nv r) j p.1) p.1)/\(hs.map (·.1)).Pairwise TD/\∀d∈dl n r,∃p∈hs,d∈(rG p.2).map fun j=>it (Nv r) j p.1
theorem Fs(R:V7 n r){hs:List (H8×Nat)}(C:Cert n r hs):vf n r=hs.map fun p=>(rG p.2).map fun j=>(it (Nv r) j p.1).1:=by
 have⟨i,h2,h3⟩:=C;have p:=aaG R;have l:∀q∈hs,bt (Nv r) q.1=q.2:=fun q b=>by grind[ordr_eq,IP]
 have d:∀q∈hs,Hd r q.1:=fun q b=>by
  rintro e ⟨k,rfl⟩;grind[it_mod,IP,Nat.mod_lt]
 have e:ahN n r=hs.map (·.1):=by
  refine afe JN (by grind[Nd]) _ _ ((pI n r).filter _) h2 fun x=>?_;constructor
  .intro c;have⟨a,f⟩:=(afQ R).1 c;have⟨q,b,g⟩:=h3 x ((IP R).2 a);have⟨j,_,h⟩:=aev.1 g;have:q.1∈ahN n r:=by grind[afQ]
   have:=aoI R this c ⟨j,h⟩;grind
  grind[afQ]
 grind[vf.eq_1,map_congr_left,zu,AA]
end
theorem Zx{α β:Type}{R:β->β->Prop}(f:α->β):∀X:List α,cls R (X.map f)=cls (fun x y=>R (f x) (f y)) X
 |[]=>rfl
 |x::l=>by rw[QD,cls,cls,Zx f l];have:(∃y∈l.map f,R (f x) y)↔∃y∈l,R (f x) (f y):=hGr;simp only[this]
def inv(d:H8):H8:=(d.2,d.1)
theorem inv_inv(d:H8):inv (inv d)=d:=rfl
def qI(r:Nat->II)(v:Nat):II:=(r v).reverse
section
variable{n:Nat}{r:Nat->II}
theorem ju{v w:Nat}:w∈qI r v↔w∈r v:=by simp[qI]
theorem Xn(R:V7 n r):V7 n (qI r):=⟨fun v=>Gv (R.nd v),fun v w h=>R.lt v w (ju.1 h),(by grind[ju,V7.sy]),(by grind[V7.ir,ju])⟩
theorem O4(R:V7 n r){d:H8}:inv d∈dl n r↔d∈dl n r:=by rw[IP R,IP R];exact⟨R.sy _ _,R.sy _ _⟩
theorem anz(R:V7 n r){d:H8}:d∈dl n (qI r)↔d∈dl n r:=by grind[IP,Xn,ju]
def mir_step(R:V7 n r){d:H8}(hd:d∈dl n r):Nv (qI r) (inv (Nv r d))=inv d:=by have h:=R.sy _ _ ((IP R).1 hd);show(d.2,nx (r d.2).reverse (nx (r d.2) d.1))=(d.2,d.1);rw[amS (R.nd _) h]
def mir_it(R:V7 n r){d:H8}(hd:d∈dl n r):∀k,it (Nv (qI r)) k (inv (it (Nv r) k d))=inv d
 |0=>rfl
 |k+1=>by rw[aaS];have:it (Nv r) (k+1) d=Nv r (it (Nv r) k d):=rfl;rw[this,mir_step R ((aaG R).uN hd k)];exact mir_it R hd k
theorem aeD(R:V7 n r){d e:H8}(hd:d∈dl n r)(h:WD (Nv r) d e):WD (Nv (qI r)) (inv d) (inv e):=by obtain⟨k,rfl⟩:=h;have pm:=aaG (Xn R);exact pm.adK (by grind[anz,O4,aaG,Pm.uN]) ⟨k,mir_it R hd k⟩
theorem mir_mir(r:Nat->II):qI (qI r)=r:=by grind[qI]
theorem SY(R:V7 n r){d e:H8}(hd:d∈dl n r):WD (Nv (qI r)) (inv d) (inv e)↔WD (Nv r) d e:=by refine⟨fun h=>?_,aeD R hd⟩;have:=aeD (Xn R) (by grind[anz,O4]) h;rw[mir_mir]at this;exact this
theorem jX(R:V7 n r):cls (WD (Nv (qI r))) (dl n (qI r))=cls (WD (Nv r)) (dl n r):=by
 have a:(dl n (qI r)).Perm ((dl n r).map inv):=yR (J8 (Xn R)) (by grind[J8,inv_inv]) fun d=>by
  rw[anz R,aev];constructor
  .intro h;exact⟨inv d,(O4 R).2 h,rfl⟩
  grind[O4]
 rw[Yy a (aaG (Xn R)).eqv,Zx];grind[IZ,SY]
theorem mir_flat(R:V7 n r):Flat n (qI r)↔Flat n r:=by
 have a:(dl n (qI r)).length=(dl n r).length:=by grind[J8,Xn,anz,List.Perm.length_eq]
 grind[qI,mj.eq_1,jX,iJ,IZ,Cr.mono,Flat.eq_1]
end
theorem Lt{l:II}(h:l≠[]):l.headD 0∈l:=by
 cases l<;>grind
theorem nx_mid{p q rest a:II}{v b:Nat}(h:v∉p):nx (p++v::(q++b::rest)) v=nx (p++v::(q++b::a)) v:=by grind[ZL]
theorem Nu{p rest:II}{v z:Nat}(h:v∉p):nx (p++v::z::rest) v=z:=by grind[ZL]
theorem vB{p:II}{x v:Nat}(h:v∉x::p):nx (x::(p++[v])) v=x:=by grind[ZL]
def pv(l:II)(y:Nat):Nat:=nx l.reverse y
theorem BJ{l:II}{y:Nat}(h:y∈l):pv l y∈l:=by have:=ZP (Yq.2 h);exact Yq.1 this
theorem aa3{l:II}(nd:l.Nodup){y:Nat}(h:y∈l):nx l (pv l y)=y:=nx_rev' nd h
theorem c7{l:II}(nd:l.Nodup){y:Nat}(h:y∈l):pv l (nx l y)=y:=amS nd h
structure FO (r:Nat->II) (F:Cs):Prop where
 nd:∀f∈F,f.Nodup
 ne:∀f∈F,f≠[]
 aei:∀f∈F,∀v∈f,nx f v∈r v
 step:∀f∈F,∀v∈f,nx (r (nx f v)) v=nx f (nx f v)
 cover:∀v w,w∈r v->∃f∈F,v∈f/\nx f v=w
 uniq:∀f∈F,∀g∈F,∀v,v∈f->v∈g->nx f v=nx g v->f=g
 nodup:F.Nodup
section
variable{n:Nat}{r:Nat->II}{F:Cs}
theorem FO.perm(O:FO r F){G:Cs}(h:F.Perm G):FO r G:=
 ⟨by grind[FO.nd],(by grind[FO.ne]),(by grind[FO.aei]),(by grind[FO.step]),
  fun v w hw=>by have⟨f,hf,q⟩:=O.cover v w hw;grind,(by grind[FO.uniq]),h.nodup_iff.1 O.nodup⟩
theorem FO.it(O:FO r F){f:II}(hf:f∈F){v:Nat}(a:v∈f):∀k,it (nx f) k v∈f/\it (Nv r) k (v,nx f v)=(it (nx f) k v,nx f (it (nx f) k v))
 |0=>⟨a,rfl⟩
 |k+1=>by have⟨b,h2⟩:=FO.it O hf a k;grind[ZP,it,Nv.eq_1,FO.step]
theorem FO.orb(O:FO r F){f:II}(hf:f∈F){v:Nat}(a:v∈f){d:H8}:WD (Nv r) (v,nx f v) d↔∃u∈f,d=(u,nx f u):=by
 constructor
 .rintro⟨k,rfl⟩;have⟨c,h2⟩:=O.it hf a k;grind
 .rintro⟨u,b,rfl⟩;have⟨k,e⟩:=JT (O.nd f hf) a b;refine⟨k,?_⟩;grind[FO.it]
theorem XT{α:Type}{R:α->α->Prop}{L:List α}(c:L.Pairwise fun a b=>¬R a b):∀rest:List α,(∀x∈rest,∃y∈L,R x y)->cls R (rest++L)=L.length
 |[],_=>by
  induction L<;>grind[cls.eq_1,cls.eq_2]
 |x::rest,h=>by
  rw[WS,cls,XT c rest (by grind[List.mem_cons_of_mem]),abe]
  all_goals grind[List.mem_cons_self]
theorem ach{α:Type}{R:α->α->Prop}{X L:List α}(E:Eqv X R)(nd:X.Nodup)(c:∀y∈L,y∈X)(d:L.Pairwise fun a b=>¬R a b)(e:∀x∈X,∃y∈L,R x y):cls R X=L.length:=by
 have nL:L.Nodup:=by grind[List.Pairwise.imp_of_mem,Eqv.refl]
 have pm:X.Perm (X.filter (fun x=>decide (x∉L))++L):=hGr;rw[Yy pm E];grind[XT]
theorem FO.cls(R:V7 n r)(O:FO r F):cls (WD (Nv r)) (dl n r)=F.length:=by
 have p:=aaG R;have e:=ach p.eqv (J8 R) (L:=F.map fun f=>(f.headD 0,nx f (f.headD 0))) (fun d hd=>?_) ?_ (fun d hd=>?_)
 .grind
 .grind[IP,FO.aei,Lt,FO.ne]
 .rw[Vn];refine ff (R:=fun a b=>a≠b) (fun{f g} hf hg c h=>c ?_) (iy.1 O.nodup);grind[FO.orb,Lt,FO.ne,FO.uniq]
 .obtain⟨f,hf,i,e⟩:=O.cover d.1 d.2 ((IP R).1 hd);refine⟨_,aev.2 ⟨f,hf,rfl⟩,?_⟩;grind[Lt,FO.orb]
theorem FO.pv(O:FO r F){f:II}(hf:f∈F){v:Nat}(a:v∈f):pv f v∈f/\nx f (Go.Fw.pv f v)=v/\nx (r v) (Go.Fw.pv f v)=nx f v:=by grind[BJ,aa3,FO.nd,FO.step]
theorem FO.akH(R:V7 n r)(O:FO r F){f:II}(hf:f∈F){v:Nat}(a:v∈f):Go.Fw.pv f v∈r v:=by grind[FO.pv,FO.aei,V7.sy]
end
def aaF(a:Nat)(inn:II)(b:Nat):II:=a::(inn++[b])
structure Lay (n:Nat) (r r':Nat->II) (a b:Nat) (inn:II):Prop where
 R:V7 n r
 R':V7 n r'
 ab:a≠b
 ra:r a≠[]
 rb:r b≠[]
 nd:inn.Nodup
 off:∀x∈inn,r x=[]
 Wn:∀x,x≠a->x≠b->x∉inn->r' x=r x
 ea:(r' a).erase ((inn++[b]).headD 0)=r a
 sa:(inn++[b]).headD 0∈r' a
 eb:(r' b).erase ((inn.reverse++[a]).headD 0)=r b
 sb:(inn.reverse++[a]).headD 0∈r' b
 mid:∀(i p x q:Nat),(aaF a inn b)[i]?=Z p->(aaF a inn b)[i+1]?=Z x->(aaF a inn b)[i+2]?=Z q->nx (r' x) p=q/\nx (r' x) q=p/\∀y,y∈r' x↔y=p\/y=q
theorem Ec(a b:Nat)(inn:II):(aaF a inn b).reverse=aaF b inn.reverse a:=by simp[aaF]
theorem Eo(a b:Nat)(inn:II):(aaF a inn b).length=inn.length+2:=by simp[aaF]
theorem apr{l:II}(h:l≠[]):l[0]?=Z (l.headD 0):=by
 cases l<;>grind
theorem yT(a b:Nat)(inn:II):(aaF a inn b)[0]?=Z a/\(aaF a inn b)[1]?=Z ((inn++[b]).headD 0):=by refine⟨rfl,?_⟩;show(inn++[b])[0]?=_;grind[apr]
theorem Fg(a b:Nat)(inn:II):(aaF a inn b)[inn.length+1]?=Z b/\(aaF a inn b)[inn.length]?=Z ((inn.reverse++[a]).headD 0):=by have⟨c,h2⟩:=yT b a inn.reverse;have d:=Eo a b inn;grind[Ec]
theorem Lay.swap{n:Nat}{r r':Nat->II}{a b:Nat}{inn:II}(L:Lay n r r' a b inn):Lay n r r' b a inn.reverse:=by
 refine⟨L.R,L.R',EH L.ab,L.rb,L.ra,Gv L.nd,(by grind[Lay.off]),(by grind[Lay.Wn]),L.eb,L.sb,?_,?_,fun i p x q c h2 h3=>?_⟩
 .grind[Lay.ea]
 .grind[Lay.sa]
 .rw[<-Ec]at c h2 h3;have d:=(Ny.1 h3).1;rw[Dl]at d;rw[WZ NH]at c h2 h3;have⟨e,f,e3⟩:=L.mid ((aaF a inn b).length-1-(i+2)) q x p h3 hGr hGr;grind
section
variable{n:Nat}{r r':Nat->II}{F:Cs}{a b:Nat}{inn:II}
theorem Lay.ain(L:Lay n r r' a b inn):a∉inn:=fun h=>L.ra (L.off a h)
theorem Lay.bin(L:Lay n r r' a b inn):b∉inn:=fun h=>L.rb (L.off b h)
theorem Lay.sna(L:Lay n r r' a b inn):(inn++[b]).headD 0∉r a:=by rw[<-L.ea];exact fun h=>((L.R'.nd a).not_mem_erase) h
theorem Lay.way(L:Lay n r r' a b inn):∀(i x y:Nat),(aaF a inn b)[i]?=Z x->(aaF a inn b)[i+1]?=Z y->WD (Nv r') (a,(inn++[b]).headD 0) (x,y)
 |0,x,y,c,h2=>by grind[yT,WD.refl]
 |i+1,x,y,c,h2=>by
  have e:=(Ny.1 c).1;have d:(aaF a inn b)[i]?=Z ((aaF a inn b)[i]'(by omega)):=qL7 NH
  have f:=L.way i _ x d c;have⟨g,_,_⟩:=L.mid i _ x y d c h2;grind[Nv.eq_1,WD.trans,WD.one]
theorem Lay.thru(L:Lay n r r' a b inn):WD (Nv r') (a,(inn++[b]).headD 0) ((inn.reverse++[a]).headD 0,b):=by have⟨c,h2⟩:=Fg a b inn;grind[Lay.way]
theorem Lay.zI(L:Lay n r r' a b inn)(O:FO r F):∃f∈F,∃x∈f,nx f x=a/\x∈r a/\nx (r' a) x=(inn++[b]).headD 0/\nx f a=nx (r' a) ((inn++[b]).headD 0)/\∀z∈r a,z≠x->nx (r' a) z=nx (r a) z:=by
 have nd:=L.R'.nd a;have hs:=L.sa;have d:=L.ea;generalize (inn++[b]).headD 0=s at*;have j:=BJ hs;have e:=aa3 nd hs;have g:pv (r' a) s≠s:=by grind[Bk,Lay.ra]
 have c:pv (r' a) s∈r a:=hGr;have⟨f,hf,h,i⟩:=O.cover _ _ (L.R.sy _ _ c);grind[FO.step,Hn,C9]
theorem Lay.sub(L:Lay n r r' a b inn){v w:Nat}(h:w∈r v):w∈r' v:=by
 by_cases c1:v=a
 .subst c1;rw[<-L.ea]at h;grind
 by_cases c2:v=b
 .subst c2;rw[<-L.eb]at h;grind
 by_cases c:v∈inn
 all_goals grind[Lay.off,Lay.Wn]
theorem Lay.ndP(L:Lay n r r' a b inn):(aaF a inn b).Nodup:=by grind[aaF.eq_1,Lay.ain,Lay.ab,Lay.nd,Lay.bin]
theorem afM{l:II}(nd:l.Nodup){i j x:Nat}(hi:l[i]?=Z x)(c:l[j]?=Z x):i=j:=by grind[pairwise_iff_getElem]
def Lay.as(L:Lay n r r' a b inn):a≠(inn++[b]).headD 0:=fun e=>by have:=afM L.ndP (yT a b inn).1 (by rw[(yT a b inn).2,<-e]);omega
theorem Lay.UQ(L:Lay n r r' a b inn){i x y:Nat}(c:(aaF a inn b)[i]?=Z x)(h2:(aaF a inn b)[i+1]?=Z y):y∈r' x:=by
 cases i with
 |zero=>grind[yT,Lay.sa]
 |succ i=>have d:=(Ny.1 c).1;exact((L.mid i _ x y (qL7 NH) c h2).2.2 y).2 (.inr rfl)
theorem Lay.conn(L:Lay n r r' a b inn)(f:Cr r a b):Cr (del r' a ((inn++[b]).headD 0)) a ((inn++[b]).headD 0):=by
 have hs:=L.as;have g:Cr (del r' a ((inn++[b]).headD 0)) a b:=f.mono fun v w h=>by
  rw[JF L.R' hs];refine⟨L.sub h,fun e=>?_,fun e=>?_⟩
  .grind[Lay.sna]
  .rw[e.1,e.2]at h;exact L.sna (L.R.sy _ _ h)
 have h2:∀(i x:Nat),(aaF a inn b)[i+1]?=Z x->Cr (del r' a ((inn++[b]).headD 0)) ((inn++[b]).headD 0) x:=fun i=>by
  induction i with
  |zero=>intro x c;have c:=c.symm.trans (yT a b inn).2;injection c with c;subst c;exact .refl _
  |succ i j=>
   intro x c;have k:=(Ny.1 c).1;have d:(aaF a inn b)[i+1]?=Z ((aaF a inn b)[i+1]'(by omega)):=qL7 NH
   refine(j _ d).step ((JF L.R' hs).2 ⟨L.UQ d c,fun e=>?_,fun e=>?_⟩)
   all_goals grind[afM,Lay.ndP,yT]
 exact g.trans ((h2 _ _ (Fg a b inn).1).symm (afL L.R' hs))
theorem Lay.EI(L:Lay n r r' a b inn)(O:FO r F)(hf:Flat n r')(s:Cr r a b):
  ∃f∈F,a∈f/\b∈f/\nx (r' a) (pv f a)=(inn++[b]).headD 0/\nx (r' b) (pv f b)=(inn.reverse++[a]).headD 0/\nx f a=nx (r' a) ((inn++[b]).headD 0)/\nx f b=nx (r' b) ((inn.reverse++[a]).headD 0):=by
 have⟨fa,t,xa,v,ea,w,C,D,x⟩:=L.zI O;have⟨c,d,xb,i,eb,y,nb,E,z⟩:=L.swap.zI O;have o:a∈fa:=by grind[ZP]
 have e:b∈c:=by grind[ZP]
 have pa:pv fa a=xa:=by grind[c7,FO.nd]
 have pb:pv c b=xb:=by grind[c7,FO.nd]
 by_cases G:fa=c
 .grind
 .have A:¬WD (Nv r') (a,(inn++[b]).headD 0) ((inn++[b]).headD 0,a):=fun h=>(Lq L.R' L.sa hf).2.1 h (L.conn s);have g:∀u∈c,u≠xb->Nv r' (u,nx c u)=(nx c u,nx c (nx c u)):=fun u p l=>by
   have hd:=O.aei c d u p;have hs:=O.step c d u p;rw[Nv];by_cases c1:nx c u=a
   .rw[c1]at hs hd ⊢;have m:u≠xa:=by grind[FO.uniq]
    rw[x u (L.R.sy _ _ hd) m,hs]
   by_cases c2:nx c u=b
   .rw[c2]at hs hd ⊢;rw[z u (L.R.sy _ _ hd) l,hs]
   .rw[L.Wn _ c1 c2 fun h=>?_,hs];have:=L.off _ h;have h3:=L.R.sy _ _ hd;grind
  have⟨k,H,q⟩:=On (JT (O.nd c d) e i);have along:∀j,j<=k->it (Nv r') j (b,nx c b)=(it (nx c) j b,nx c (it (nx c) j b)):=fun j=>by
   induction j with
   |zero=>intro _;rfl
   |succ j B=>intro I;show Nv r' (it (Nv r') j (b,nx c b))=_;rw[B NH,g _ (O.it d e j).1 hGr];rfl
  have J:WD (Nv r') (b,nx c b) (xb,b):=⟨k,hGr⟩;have K:=L.thru;grind[Lay.thru,Lay.swap,List.reverse_reverse,Nv.eq_1,WD.trans,WD.one]
end
def half(a:Nat)(A:II)(b:Nat)(inn:II):II:=a::(A++b::inn.reverse)
theorem ZN{l:II}{i x y:Nat}(c:l[i]?=Z x)(h2:l[i+1]?=Z y):∃u v,l=u++x::y::v:=by refine⟨l.take i,l.drop (i+2),?_⟩;grind[drop_eq_getElem_cons,take_append_drop]
structure Xf (f:II) (a b:Nat) (inn A:II) (one:II):Prop where
 nd:one.Nodup
 mem:∀v,v∈one↔v=a\/v∈A\/v=b\/v∈inn
 fwd:∀v,v=a\/v∈A->nx one v=nx f v/\(nx f v∈A\/nx f v=b)
 back:∀(i p x:Nat),(aaF a inn b)[i]?=Z p->(aaF a inn b)[i+1]?=Z x->nx one x=p
def Cyc(f g:II):Prop:=∃u v,f=u++v/\g=v++u
theorem Cyc.refl(f:II):Cyc f f:=⟨[],f,rfl,Ma⟩
theorem Cyc.shift{f x y:II}(h:Cyc f (x++y)):Cyc f (y++x):=by
 obtain⟨u,v,rfl,e⟩:=h;rcases append_eq_append_iff.1 e with⟨c,d,h2⟩|⟨c,d,h2⟩
 .subst d h2;exact⟨u++x,c,Ma,Ma⟩
 .subst d h2;exact⟨c,y++v,Ma,Ma⟩
theorem Cyc.perm{f g:II}(h:Cyc f g):f.Perm g:=by obtain⟨u,v,rfl,rfl⟩:=h;grind
theorem Cyc.nx{f g:II}(h:Cyc f g)(nd:f.Nodup){y:Nat}(c:y∈f):nx f y=nx g y:=by obtain⟨u,v,rfl,rfl⟩:=h;grind[aR]
def Cyc.front{f:II}{a:Nat}(h:a∈f):∃c,Cyc f (a::c):=by obtain⟨u,v,rfl,_⟩:=sC h;exact⟨v++u,u,a::v,rfl,rfl⟩
theorem tB{f:II}{a b:Nat}{inn A B:II}(t:f.Nodup)(hf:Cyc f ((a::A)++(b::B)))(m:(aaF a inn b).Nodup)(hd:∀x∈inn,x∉f):Xf f a b inn A (half a A b inn):=by
 have n0:(a::(A++b::B)).Nodup:=hf.perm.nodup_iff.1 t;have d:∀v∈f,nx f v=nx (a::(A++b::B)) v:=by grind[Cyc.nx]
 have y:∀v,v∈f↔v=a\/v∈A\/v=b\/v∈B:=fun v=>by rw[hf.perm.mem_iff];simp
 rw[VU,j9,aax,Og]at n0;have⟨a1,nA,nB,C⟩:=n0;rw[VU]at nB;rw[aaF,VU,aax,xD,j9]at m;have⟨I,J,_,K⟩:=m;have j:(half a A b inn).Nodup:=by grind[half,Gv]
 refine⟨j,fun v=>?_,fun v L=>?_,fun i g x D h2=>?_⟩
 .grind[half]
 .have k:v∈f:=hGr;rw[d v k];have l:v∈a::A:=hGr;have⟨u,w,e,o⟩:=sC l;have E:half a A b inn=u++v::(w++b::inn.reverse):=by grind[half]
  have G:a::(A++b::B)=u++v::(w++b::B):=hGr;rw[E,G];refine⟨nx_mid o,?_⟩;rw[ZL o];cases w with
  |nil=>grind
  |cons z w=>
   left;have:z∈a::A:=by rw[e];simp
   rcases Og.1 this with h|h
   .cases u<;>grind
   .exact h
 .have H:=(Ny.1 h2).1;rw[Eo]at H;have p:(aaF b inn.reverse a)[inn.length-i]?=Z x:=by rw[<-Ec,WZ (by grind[Eo]),Eo,<-h2];grind
  have q:(aaF b inn.reverse a)[inn.length-i+1]?=Z g:=by rw[<-Ec,WZ (by grind[Eo]),Eo,<-D];grind
  by_cases c:i=0
  .have M:g=a:=by grind[yT]
   have s:∃u,b::inn.reverse=u++[x]:=by
    have:(b::inn.reverse)[inn.length]?=Z x:=by grind[aaF]
    refine⟨(b::inn.reverse).take inn.length,?_⟩;grind[take_append_drop,drop_eq_getElem_cons]
   have⟨u,N⟩:=s;have e:half g A b inn=g::((A++u)++[x]):=by grind[half]
   grind[vB]
  .have s:∃u w,b::inn.reverse=u++x::g::w:=by
    have e:aaF b inn.reverse a=(b::inn.reverse)++[a]:=rfl;rw[e,si (by simp;omega)]at p q;exact ZN p q
   grind[half,Nu]
section
variable{n:Nat}{r r':Nat->II}{F:Cs}{a b:Nat}{inn:II}
theorem qm{a b:Nat}{inn:II}{v:Nat}(h:v=b\/v∈inn):∃i p:Nat,(aaF a inn b)[i]?=Z p/\(aaF a inn b)[i+1]?=Z v:=by
 have c:v∈inn++[b]:=hGr;have⟨i,hi⟩:=vZ.1 c;have:i<(aaF a inn b).length:=by grind[Eo]
 exact⟨i,_,qL7 this,hi⟩
structure HalfR (r r':Nat->II) (f:II) (a:Nat) (A:II) (one:II):Prop where
 aei:∀v∈one,nx one v∈r' v
 step:∀v∈one,nx (r' (nx one v)) v=nx one (nx one v)
 qi:∀v∈one,nx one v∈r v->v=a\/v∈A
theorem Lay.halfR(L:Lay n r r' a b inn)(O:FO r F){f:II}(g:f∈F){A B one:II}(cy:Cyc f ((a::A)++(b::B)))(H:Xf f a b inn A one)(nb:nx (r' b) (pv f b)=(inn.reverse++[a]).headD 0)(y:nx f a=nx (r' a) ((inn++[b]).headD 0)):HalfR r r' f a A one:=by
 have z:=O.nd f g;have C:∀v,v∈f↔(v=a\/v∈A)\/(v=b\/v∈B):=fun v=>by rw[cy.perm.mem_iff];grind
 have n0:((a::A)++(b::B)).Nodup:=cy.perm.nodup_iff.1 z;rw[j9]at n0;have o:∀v,v=a\/v∈A->v∈f:=hGr;have TE:∀v,v=a\/v∈A->¬(v=b\/v∈B):=hGr;have D:a∉A:=(VU.1 n0.1).1;have t:∀x∈inn,x∉f:=fun x E h=>by have:=O.aei f g x h;grind[Lay.off]
 have c:∀v∈one,(v=a\/v∈A)\/∃i p:Nat,(aaF a inn b)[i]?=Z p/\(aaF a inn b)[i+1]?=Z v:=fun v j=>by
  rcases(H.mem v).1 j with h|h|h
  .grind
  .grind
  .exact .inr (qm h)
 refine⟨fun v j=>?_,fun v j=>?_,fun v j u=>?_⟩
 .rcases c v j with h|⟨i,p,d,h2⟩
  .rw[(H.fwd v h).1];exact L.sub (by grind[FO.aei])
  .rw[H.back i p v d h2];exact L.R'.sy _ _ (L.UQ d h2)
 .rcases c v j with h|⟨i,p,d,h2⟩
  .obtain⟨k,e⟩:=H.fwd v h;rw[k];have hs:=O.step f g v (o v h);rcases e with e|e
   .have q:nx f v≠b:=hGr;have s:nx f v≠a:=hGr;rw[L.Wn _ s q hGr,hs,(H.fwd _ (.inr e)).1]
   .have:pv f b=v:=by grind[c7]
    have⟨l,m⟩:=Fg a b inn;grind[Xf.back]
  .rw[H.back i p v d h2];cases i with
   |zero=>have⟨l,m⟩:=yT a b inn;have k:=d.symm.trans l;have e:=h2.symm.trans m;injection k with k;injection e with e;subst k e;rw[<-y,(H.fwd _ (.inl rfl)).1]
   |succ i=>
    have G:=(Ny.1 d).1;have w:(aaF a inn b)[i]?=Z ((aaF a inn b)[i]'(by omega)):=qL7 NH
    rw[(L.mid i _ p v w d h2).2.1,H.back i _ p w d]
 .rcases(H.mem v).1 j with h|h|h|h
  .exact .inl h
  .exact .inr h
  .exfalso;subst h;have⟨l,m⟩:=Fg a v inn;rw[H.back _ _ _ m l]at u;exact L.swap.sna u
  grind[Lay.off]
theorem Lay.gY(L:Lay n r r' a b inn)(O:FO r F){f:II}(d:f∈F){A B:II}(cy:Cyc f ((a::A)++(b::B)))(W:nx (r' a) (pv f a)=(inn++[b]).headD 0)(nb:nx (r' b) (pv f b)=(inn.reverse++[a]).headD 0)(X:nx f a=nx (r' a) ((inn++[b]).headD 0))(db:nx f b=nx (r' b) ((inn.reverse++[a]).headD 0)):
  FO r' (half a A b inn::half b B a inn.reverse::F.erase f):=by
 have C:=O.nd f d;have q:∀x∈inn,x∉f:=fun x hx h=>by have:=O.aei f d x h;grind[Lay.off]
 have H1:Xf f a b inn A (half a A b inn):=tB C cy L.ndP q;have H2:Xf f b a inn.reverse B (half b B a inn.reverse):=tB C cy.shift L.swap.ndP hGr;have D:∀v,v∈f↔(v=a\/v∈A)\/(v=b\/v∈B):=fun v=>by rw[cy.perm.mem_iff];grind
 have n0:((a::A)++(b::B)).Nodup:=cy.perm.nodup_iff.1 C;rw[j9]at n0;have E:a∈f:=hGr;have G:b∈f:=hGr;have aa:∀v,v=a\/v∈A->v∈f:=hGr;have ae:∀v,v=b\/v∈B->v∈f:=hGr;have TE:∀v,v=a\/v∈A->¬(v=b\/v∈B):=hGr;have ag:a∉A:=(VU.1 n0.1).1;have ai:b∉B:=by grind[nodup_cons]
 have H:=L.halfR O d cy H1 nb X;have I:=L.swap.halfR O d cy.shift H2 hGr db;have m1:∀{v},v∈half a A b inn->nx (half a A b inn) v∈r v->nx (half a A b inn) v=nx f v/\(v=a\/v∈A):=fun k s=>⟨(H1.fwd _ (H.qi _ k s)).1,H.qi _ k s⟩;have m2:∀{v},v∈half b B a inn.reverse->nx (half b B a inn.reverse) v∈r v->nx (half b B a inn.reverse) v=nx f v/\(v=b\/v∈B):=fun k s=>⟨(H2.fwd _ (I.qi _ k s)).1,I.qi _ k s⟩;have⟨p1,p2⟩:=yT a b inn;have⟨z1,z2⟩:=Fg a b inn;have⟨y1,V⟩:=Fg b a inn.reverse;rw[qL122]at V;have J:nx (half a A b inn) b=(inn.reverse++[a]).headD 0:=H1.back _ _ _ z2 z1;have K:nx (half b B a inn.reverse) a=(inn++[b]).headD 0:=H2.back _ _ _ V y1;have b1:b∈half a A b inn:=by grind[Xf.mem]
 have a2:a∈half b B a inn.reverse:=(H2.mem a).2 hGr;have a1:a∈half a A b inn:=by grind[Xf.mem]
 have M:∀v,v∈half a A b inn->v∈half b B a inn.reverse->nx (half a A b inn) v≠nx (half b B a inn.reverse) v:=fun v y h2 e=>by
  rcases(H1.mem v).1 y with h|h|h|h
  .subst h;rw[K,(H1.fwd v (.inl rfl)).1]at e;grind[FO.aei]
  .rcases(H2.mem v).1 h2 with g|g|g|g
   all_goals grind
  .subst h;rw[J,(H2.fwd v (.inl rfl)).1]at e;grind[FO.aei]
  .obtain⟨i,p,N,z⟩:=qm (a:=a) (b:=b) (.inr h);have⟨j,p',t,P⟩:=qm (a:=b) (b:=a) (inn:=inn.reverse) (.inr (Yq.2 h));rw[H1.back i p v N z,H2.back j p' v t P]at e;have Q:=(Ny.1 P).1;rw[<-Ec,Dl]at Q;rw[<-Ec,WZ NH]at t P;grind[afM,Lay.ndP]
 have S:∀g∈F.erase f,g∈F/\g≠f:=by grind[FO.nodup,List.Nodup.not_mem_erase]
 have aj:half a A b inn∉F.erase f:=by grind[FO.aei]
 have al:half b B a inn.reverse∉F.erase f:=by grind[FO.aei]
 have u1:∀g∈F.erase f,∀v,v∈half a A b inn->v∈g->nx (half a A b inn) v=nx g v->False:=fun g hg v y h2 e=>by grind[FO.aei,FO.uniq]
 have u2:∀g∈F.erase f,∀v,v∈half b B a inn.reverse->v∈g->nx (half b B a inn.reverse) v=nx g v->False:=fun g hg v y h2 e=>by grind[FO.aei,FO.uniq]
 have aq:half a A b inn≠half b B a inn.reverse:=hGr;have ar:∀g∈F.erase f,∀v∈g,nx (r' (nx g v)) v=nx g (nx g v):=fun g hg v k=>by
  have⟨u,av⟩:=S g hg;have hd:=O.aei g u v k;have hs:=O.step g u v k;by_cases c1:nx g v=a
  .rw[c1]at hs hd ⊢;have T:v≠pv f a:=by grind[FO.uniq,BJ,aa3]
   rw[<-hs];have l:v∈r a:=L.R.sy _ _ hd;have o:v≠(inn++[b]).headD 0:=by grind[Lay.sna]
   have:=Hn (L.R'.nd a) L.sa (L.sub l) o;rw[L.ea]at this;rw[this,abE fun e=>T (C9 (L.R'.nd a) (L.sub l) (L.sub (O.akH L.R d E)) (e.trans W.symm))]
  by_cases c2:nx g v=b
  .rw[c2]at hs hd ⊢;have U:v≠pv f b:=by grind[FO.uniq,BJ,aa3]
   rw[<-hs];have l:v∈r b:=L.R.sy _ _ hd;have o:v≠(inn.reverse++[a]).headD 0:=by grind[Lay.sna]
   have:=Hn (L.R'.nd b) L.sb (L.sub l) o;rw[L.eb]at this;rw[this,abE fun e=>U (C9 (L.R'.nd b) (L.sub l) (L.sub (O.akH L.R d G)) (e.trans nb.symm))]
  .rw[L.Wn _ c1 c2 fun h=>?_,hs];have h3:=L.R.sy _ _ hd;grind[Lay.off]
 refine⟨fun g hg=>?_,fun g hg=>?_,fun g hg=>?_,fun g hg=>?_,fun v w hw=>?_,fun g hg g' m v y h2 e=>?_,?_⟩
 .rcases Og.1 hg with rfl|hg
  .exact H1.nd
  rcases Og.1 hg with rfl|hg
  all_goals grind[Xf.nd,FO.nd]
 .rcases Og.1 hg with rfl|hg
  .simp[half]
  rcases Og.1 hg with rfl|hg
  all_goals grind[FO.ne]
 .rcases Og.1 hg with rfl|hg
  .exact H.aei
  rcases Og.1 hg with rfl|hg
  .exact I.aei
  .exact fun v k=>L.sub (by grind[FO.aei])
 .rcases Og.1 hg with rfl|hg
  all_goals grind[HalfR.step]
 .by_cases c:w∈r v
  .obtain⟨g,hg,k,e⟩:=O.cover v w c;by_cases cg:g=f
   .subst cg;rcases(D v).1 k with h|h
    .exact⟨_,Hs,(H1.mem v).2 hGr,by rw[(H1.fwd v h).1,e]⟩
    .exact⟨_,(by grind[mem_cons_self]),(H2.mem v).2 hGr,by rw[(H2.fwd v h).1,e]⟩
   grind
  .by_cases c1:v=a
   .grind[Lay.ea,mem_cons_self]
   by_cases c2:v=b
   .grind[Lay.eb]
   by_cases c3:v∈inn
   .obtain⟨i,p,N,z⟩:=qm (a:=a) (b:=b) (.inr c3);have hi:i+2<(aaF a inn b).length:=by grind[Eo]
    have t:(aaF a inn b)[i+2]?=Z ((aaF a inn b)[i+2]'hi):=qL7 hi
    rcases((L.mid i p v _ N z t).2.2 w).1 hw with h|h
    .exact⟨_,Hs,(H1.mem v).2 hGr,by grind[Xf.back]⟩
    .refine⟨_,(by grind[mem_cons_self]),(H2.mem v).2 hGr,?_⟩;have ay:=Eo a b inn;have g1:(aaF b inn.reverse a)[inn.length+2-1-(i+2)]?=Z ((aaF a inn b)[i+2]'hi):=by rw[<-Ec,WZ NH,<-t];congr 1;omega
     have g2:(aaF b inn.reverse a)[inn.length+2-1-(i+2)+1]?=Z v:=by rw[<-Ec,WZ NH,<-z];congr 1;omega
     grind[Xf.back]
   grind[Lay.Wn]
 .rcases Og.1 hg with rfl|hg
  .grind
  rcases Og.1 hg with rfl|hg
  .grind
  .rcases Og.1 m with rfl|m
   .grind
   rcases Og.1 m with rfl|m
   all_goals grind[FO.uniq]
 .rw[VU,Og,VU];grind[FO.nodup]
end
def Cyc.filter{f g:II}(h:Cyc f g)(p:Nat->Bool):Cyc (f.filter p) (g.filter p):=by obtain⟨u,v,rfl,rfl⟩:=h;exact⟨u.filter p,v.filter p,Db ..,Db ..⟩
theorem oW{A B:II}{x y:Nat}(nd:((A++[x])++(B++[y])).Nodup):
  (∀p∈A,nx ((A++[x])++(B++[y])) p=nx (A++[x]) p)/\nx ((A++[x])++(B++[y])) x=nx (B++[y]) y:=by
 have n1:=(j9.1 nd).1;have e:=(j9.1 nd).2.1;constructor
 .intro p a;obtain⟨s,q,rfl,f⟩:=sC a;grind[nx_mid]
 .have b:x∉A:=by grind[nodup_append]
  have c:y∉B:=by grind[nodup_append]
  have d:(A++[x])++(B++[y])=A++x::(B++[y]):=by simp
  rw[d,ZL b,ZL c];cases B with
  |nil=>rfl
  |cons z B=>rfl
structure Hh (n:Nat) (R:Nat->II) (EX:Nat->Nat->Prop) (u w:Nat) (A:II) (x:Nat) (B:II) (y:Nat) (A':II) (x':Nat) (B':II) (y':Nat):Prop where
 Rl:V7 n R
 sym:∀a b,EX a b->EX b a
 uw:u≠w
 Wn:∀v,v≠u->v≠w->(∀a∈R v,EX v a)\/(∀a∈R v,¬EX v a)
 cu:Cyc (R u) ((A++[x])++(B++[y]))
 au:∀a∈A++[x],EX u a
 bu:∀b∈B++[y],¬EX u b
 cw:Cyc (R w) ((A'++[x'])++(B'++[y']))
 aw:∀a∈A'++[x'],EX w a
 bw:∀b∈B'++[y'],¬EX w b
section
variable{n:Nat}{R:Nat->II}{EX:Nat->Nat->Prop}{u w:Nat}{A B A' B':II}{x y x' y':Nat}
theorem IJ{r:Nat->II}{P:Nat->Nat->Prop}{v:Nat}(h:∀w∈r v,P v w):Om P r v=r v:=by grind[Om,filter_eq_self]
theorem abH{l:II}{C D:II}{p:Nat->Prop}(h:Cyc l (C++D))(c:∀a∈C,p a)(d:∀b∈D,¬p b):Cyc (l.filter fun a=>decide (p a)) C:=by
 have:=h.filter fun a=>decide (p a);have e:C.filter (fun a=>decide (p a))=C:=OM.2 fun a ha=>by grind
 grind[filter_eq_nil_iff]
theorem Hh.dY(T:Hh n R EX u w A x B y A' x' B' y'):Hh n R EX w u A' x' B' y' A x B y:=⟨T.Rl,T.sym,EH T.uw,fun v a h2=>T.Wn v h2 a,T.cw,T.aw,T.bw,T.cu,T.au,T.bu⟩
theorem Hh.rx(T:Hh n R EX u w A x B y A' x' B' y'):V7 n (Om EX R):=OG T.Rl T.sym
theorem Hh.ry(T:Hh n R EX u w A x B y A' x' B' y'):V7 n (Om (fun a b=>¬EX a b) R):=OG T.Rl fun a b h q=>h (T.sym _ _ q)
theorem Hh.parts(T:Hh n R EX u w A x B y A' x' B' y'):Oi (dl n R) (dl n (Om EX R)) (dl n (Om (fun a b=>¬EX a b) R)) (fun d=>EX d.1 d.2) (Nv (Om EX R)) (Nv (Om (fun a b=>¬EX a b) R)):=by
 refine⟨yR (J8 T.Rl) ?_ fun d=>?_,(by grind[EM,IP,Hh.rx]),(by grind[EM,IP,Hh.ry]),aaG T.rx,aaG T.ry⟩
 all_goals grind[J8,Hh.rx,Hh.ry,EM,IP,Hh.Rl]
theorem zU{α:Type}{f g:α->α}{a b x:α}(c:f a=g a)(h2:f b=g b)(h3:f x=g x):swp f a b x=swp g a b x:=by grind[swp]
theorem Hh.at(T:Hh n R EX u w A x B y A' x' B' y'):(∀p∈A,nx (R u) p=nx (Om EX R u) p)/\(∀p∈B,nx (R u) p=nx (Om (fun a b=>¬EX a b) R u) p)/\
  nx (R u) x=nx (Om (fun a b=>¬EX a b) R u) y/\nx (R u) y=nx (Om EX R u) x:=by
 have nd:=T.Rl.nd u;have n0:=T.cu.perm.nodup_iff.1 nd;have n1:((B++[y])++(A++[x])).Nodup:=by grind[List.Perm.nodup_iff]
 have e:Cyc (Om EX R u) (A++[x]):=abH T.cu T.au T.bu;have d:Cyc (Om (fun a b=>¬EX a b) R u) (B++[y]):=abH T.cu.shift T.bu (by grind[Hh.au]);have nX:=T.rx.nd u;have f:=T.ry.nd u;have⟨k,g⟩:=oW n0;have⟨h,i⟩:=oW n1;have m1:∀p∈A++[x],p∈R u/\p∈Om EX R u:=fun p c=>⟨T.cu.perm.mem_iff.2 (bC _ c),e.perm.mem_iff.2 c⟩;have m2:∀p∈B++[y],p∈R u/\p∈Om (fun a b=>¬EX a b) R u:=fun p c=>⟨T.cu.perm.mem_iff.2 (ang _ c),d.perm.mem_iff.2 c⟩;refine⟨fun p c=>?_,fun p c=>?_,?_,?_⟩
 .grind[Hh.cu,Cyc.nx]
 .obtain⟨j,h2⟩:=m2 p (by simp[c]);rw[T.cu.shift.nx nd j,h p c,d.nx f h2]
 .rw[T.cu.nx nd (m1 x Ma).1,g,d.nx f (m2 y Ma).2]
 .rw[T.cu.shift.nx nd (m2 y Ma).1,i,e.nx nX (m1 x Ma).2]
theorem Hh.phi(T:Hh n R EX u w A x B y A' x' B' y'){d:H8}(hd:d∈dl n R):
  Nv R d=swp (swp (Go.Fw.two (fun d=>EX d.1 d.2) (Nv (Om EX R)) (Nv (Om (fun a b=>¬EX a b) R))) (x,u) (y,u)) (x',w) (y',w) d:=by
 have uw:=T.uw;have f:∀{u w:Nat}{A B A' B':II}{x y x' y':Nat}(T:Hh n R EX u w A x B y A' x' B' y'){p:Nat},p∈R u->
   Nv R (p,u)=swp (Go.Fw.two (fun d=>EX d.1 d.2) (Nv (Om EX R)) (Nv (Om (fun a b=>¬EX a b) R))) (x,u) (y,u) (p,u):=fun{u w A B A' B' x y x' y'} T {p} e=>by
  have⟨j,h2,h3,k⟩:=T.at;have n0:=T.cu.perm.nodup_iff.1 (T.Rl.nd u);have c:=T.cu.perm.mem_iff.1 e;have g:EX x u:=T.sym _ _ (T.au x Ma);have i:¬EX y u:=fun h=>T.bu y Ma (T.sym _ _ h);rcases aax.1 c with c|c
  .have hex:EX p u:=T.sym _ _ (T.au p c);rcases aax.1 c with hA|hA
   .grind[Q3,Prod.mk.inj,two.eq_1,Nv.eq_1]
   grind[C5,two.eq_1,Nv.eq_1]
  .have hex:¬EX p u:=fun h=>T.bu p c (T.sym _ _ h);rcases aax.1 c with hB|hB
   .grind[Q3,Prod.mk.inj,two.eq_1,Nv.eq_1]
   grind[dX,two.eq_1,Nv.eq_1]
 have⟨p,v⟩:=d;have e:p∈R v:=T.Rl.sy _ _ ((IP T.Rl).1 hd);by_cases c1:v=u
 .grind[Prod.mk.inj,Q3]
 by_cases c2:v=w
 .grind[Hh.dY,Q3,Prod.mk.inj,zU]
 .have m:∀q z:Nat,((p,v):H8)≠(q,u)/\((p,v):H8)≠(z,w):=by grind[Prod.mk.inj]
  rw[Q3 (m 0 x').2 (m 0 y').2,Q3 (m x 0).1 (m y 0).1];rcases T.Wn v c1 c2 with h|h
  .rw[Go.Fw.two,abe (T.sym _ _ (h p e)),Nv,Nv];grind[IJ]
  .rw[Go.Fw.two,abE fun q=>h p e (T.sym _ _ q),Nv,Nv];grind[IJ]
end
theorem Cyc.symm{f g:II}(h:Cyc f g):Cyc g f:=by obtain⟨u,v,rfl,rfl⟩:=h;exact⟨v,u,rfl,rfl⟩
theorem Cyc.trans{f g k:II}(h:Cyc f g)(h':Cyc g k):Cyc f k:=by obtain⟨u,v,rfl,rfl⟩:=h';exact h.shift
def Cyc.reverse{f g:II}(h:Cyc f g):Cyc f.reverse g.reverse:=by obtain⟨u,v,rfl,rfl⟩:=h;exact⟨v.reverse,u.reverse,qL193,qL193⟩
theorem Cyc.nil{f:II}(h:Cyc f []):f=[]:=by have:=h.perm.length_eq;grind
def pP(s t:Nat->II):Prop:=∀v,Cyc (s v) (t v)
section
variable{n:Nat}{s t:Nat->II}
theorem pP.mem(h:pP s t){v w:Nat}:w∈s v↔w∈t v:=(h v).perm.mem_iff
theorem pP.symm(h:pP s t):pP t s:=fun v=>(h v).symm
theorem pP.Rl(h:pP s t)(S:V7 n s):V7 n t:=⟨fun v=>(h v).perm.nodup_iff.1 (S.nd v),fun v w q=>S.lt v w (h.mem.2 q),fun v w q=>h.mem.1 (S.sy v w (h.mem.2 q)),fun v q=>S.ir v (h.mem.2 q)⟩
theorem pP.phi(h:pP s t)(S:V7 n s){d:H8}(hd:d∈dl n s):Nv s d=Nv t d:=by have:=S.sy _ _ ((IP S).1 hd);rw[Nv,Nv,(h d.2).nx (S.nd _) this]
theorem pP.dl(h:pP s t)(S:V7 n s):(dl n s).Perm (dl n t):=yR (J8 S) (J8 (h.Rl S)) fun d=>by rw[IP S,IP (h.Rl S),h.mem]
theorem pP.orb(h:pP s t)(S:V7 n s){d e:H8}(hd:d∈Go.Fw.dl n s)(a:e∈Go.Fw.dl n s):WD (Nv s) d e↔WD (Nv t) d e:=(by grind[ER,aaG,pP.phi])
theorem pP.cls(h:pP s t)(S:V7 n s):cls (WD (Nv s)) (Go.Fw.dl n s)=cls (WD (Nv t)) (Go.Fw.dl n t):=by rw[IZ fun d hd e a=>h.orb S hd a];grind[Yy,pP.dl,aaG,pP.Rl,Pm.eqv]
theorem pP.flat(h:pP s t)(S:V7 n s):Flat n s↔Flat n t:=by
 have a:mj n s=mj n t:=by
  rw[mj,mj,h.cls S];congr 2;refine Uz fun v _=>?_;rw[ai7];constructor
  .have:=h v;grind[Cyc.nil,Cyc.symm]
  .have:=h v;grind[Cyc.nil]
 have b:iJ n s=iJ n t:=IZ fun x _ y _=>⟨fun c=>c.mono fun v w q=>h.mem.1 q,fun c=>c.mono fun v w q=>h.mem.2 q⟩;rw[Flat,Flat,a,b,(h.dl S).length_eq]
end
section
variable{n:Nat}{R:Nat->II}{EX:Nat->Nat->Prop}{u w:Nat}{A B A' B':II}{x y x' y':Nat}
theorem Hh.Ff(T:Hh n R EX u w A x B y A' x' B' y'):((x,u):H8)∈dl n (Om EX R):=by rw[IP T.rx];refine T.rx.sy _ _ (EM.2 ⟨T.cu.perm.mem_iff.2 Ma,T.au x Ma⟩)
def Hh.QH(T:Hh n R EX u w A x B y A' x' B' y'):((y,u):H8)∈dl n (Om (fun a b=>¬EX a b) R):=by rw[IP T.ry];refine T.ry.sy _ _ (EM.2 ⟨T.cu.perm.mem_iff.2 Ma,T.bu y Ma⟩)
theorem Hh.cls(T:Hh n R EX u w A x B y A' x' B' y'):
  ((WD (Nv (Om EX R)) (x',w) (x,u)/\WD (Nv (Om (fun a b=>¬EX a b) R)) (y,u) (y',w))->cls (WD (Nv R)) (dl n R)=cls (WD (Nv (Om EX R))) (dl n (Om EX R))+cls (WD (Nv (Om (fun a b=>¬EX a b) R))) (dl n (Om (fun a b=>¬EX a b) R)))/\
  (¬(WD (Nv (Om EX R)) (x',w) (x,u)/\WD (Nv (Om (fun a b=>¬EX a b) R)) (y,u) (y',w))->cls (WD (Nv R)) (dl n R)+2=cls (WD (Nv (Om EX R))) (dl n (Om EX R))+cls (WD (Nv (Om (fun a b=>¬EX a b) R))) (dl n (Om (fun a b=>¬EX a b) R))):=by
 have h:=T.parts.join2 T.Ff T.QH T.dY.Ff T.dY.QH;grind[IZ,ER,aaG,Hh.Rl,Hh.phi]
noncomputable def Qu(R:Nat->II)(EX:Nat->Nat->Prop)(u w:Nat)(L K b c:II):Nat->II:=fun v=>if v=u then L.reverse++K else if v=w then b.reverse++c else if∃a∈R v,EX v a then(R v).reverse else R v
theorem BK(A:II)(x:Nat):∃h t,A++[x]=h::t/\(A++[x]).reverse=t.reverse++[h]/\nx (A++[x]) x=if x∈A then nx (A++[x]) x else h:=by
 cases A with
 |nil=>exact⟨x,[],rfl,rfl,by simp[nx,nxF]⟩
 |cons h t=>refine⟨h,t++[x],rfl,Ma,?_⟩;grind[vB]
theorem Jr(T:Hh n R EX u w A x B y A' x' B' y'){v a:Nat}:a∈Qu R EX u w (A++[x]) (B++[y]) (A'++[x']) (B'++[y']) v↔a∈R v:=by
 unfold Qu;by_cases c1:v=u
 .subst c1;rw[abe rfl,T.cu.perm.mem_iff];grind
 .rw[abE c1];by_cases c2:v=w
  .subst c2;rw[abe rfl,T.cw.perm.mem_iff];grind
  .rw[abE c2];split
   all_goals grind
def Hh.flip_rot(T:Hh n R EX u w A x B y A' x' B' y'):V7 n (Qu R EX u w (A++[x]) (B++[y]) (A'++[x']) (B'++[y'])):=by
 refine⟨fun v=>?_,fun v a h=>T.Rl.lt v a ((Jr T).1 h),fun v a h=>(Jr T).2 (T.Rl.sy v a ((Jr T).1 h)),fun v h=>T.Rl.ir v ((Jr T).1 h)⟩;unfold Qu;by_cases c1:v=u
 .subst c1;rw[abe rfl];exact((ags _).append_right _).nodup_iff.2 (T.cu.perm.nodup_iff.1 (T.Rl.nd v))
 .rw[abE c1];by_cases c2:v=w
  .subst c2;rw[abe rfl];exact((ags _).append_right _).nodup_iff.2 (T.cw.perm.nodup_iff.1 (T.Rl.nd v))
  .rw[abE c2];split
   .exact Gv (T.Rl.nd v)
   .exact T.Rl.nd v
theorem Hh.flip(T:Hh n R EX u w A x B y A' x' B' y'):∃h t h' b,A++[x]=h::t/\A'++[x']=h'::b/\Hh n (Qu R EX u w (A++[x]) (B++[y]) (A'++[x']) (B'++[y'])) EX u w t.reverse h B y b.reverse h' B' y':=by
 have⟨h,t,d,g,_⟩:=BK A x;have⟨h',b,c,e,_⟩:=BK A' x';refine⟨h,t,h',b,d,c,T.flip_rot,T.sym,T.uw,fun v f h2=>?_,?_,fun a ha=>T.au a ?_,T.bu,?_,fun a ha=>T.aw a ?_,T.bw⟩
 .rcases T.Wn v f h2 with q|q
  all_goals grind[Jr]
 all_goals grind[Qu,Cyc.refl,Hh.uw]
theorem Hh.flipX(T:Hh n R EX u w A x B y A' x' B' y'):pP (Om EX (Qu R EX u w (A++[x]) (B++[y]) (A'++[x']) (B'++[y']))) (qI (Om EX R)):=fun v=>by
 have QI:∀{l K L:II}{v:Nat},Cyc l (L++K)->(∀a∈L,EX v a)->(∀a∈K,¬EX v a)->Cyc ((L.reverse++K).filter fun a=>decide (EX v a)) (l.filter fun a=>decide (EX v a)).reverse:=fun{l K L v} b c d=>by
  have e:=(abH (p:=fun a=>EX v a) b c d).reverse;have f:(L.reverse++K).filter (fun a=>decide (EX v a))=L.reverse:=by rw[Db,OM.2 hGr,qL72.2 hGr,adN]
  grind[Cyc.symm]
 unfold qI Om Qu;by_cases c1:v=u
 .subst c1;rw[abe rfl];exact QI T.cu T.au T.bu
 .rw[abE c1];by_cases c2:v=w
  .subst c2;rw[abe rfl];exact QI T.cw T.aw T.bw
  .rw[abE c2];split
   all_goals grind[Cyc.refl,filter_eq_nil_iff]
theorem Hh.flipN(T:Hh n R EX u w A x B y A' x' B' y'){c:Nat->Nat->Prop}(g:∀a b,c a b↔¬EX a b):pP (Om c (Qu R EX u w (A++[x]) (B++[y]) (A'++[x']) (B'++[y']))) (Om c R):=fun v=>by
 have QI:∀{l K L:II}{v:Nat},Cyc l (L++K)->(∀a∈L,EX v a)->(∀a∈K,¬EX v a)->Cyc ((L.reverse++K).filter fun a=>decide (c v a)) (l.filter fun a=>decide (c v a)):=fun{l K L v} f h i=>by
  have d:∀a∈L,¬c v a:=hGr;have e:∀a∈K,c v a:=hGr;have j:=abH (p:=fun a=>c v a) f.shift e d;have e3:L.reverse.filter (fun a=>decide (c v a))=[]:=by grind[filter_eq_nil_iff]
  grind[filter_eq_self,Cyc.symm]
 unfold Om Qu;by_cases c1:v=u
 .subst c1;rw[abe rfl];exact QI T.cu T.au T.bu
 .rw[abE c1];by_cases c2:v=w
  .subst c2;rw[abe rfl];exact QI T.cw T.aw T.bw
  .rw[abE c2];split
   .rcases T.Wn v c1 c2 with q|q
    all_goals grind[filter_eq_nil_iff,Cyc.refl]
   grind[Cyc.refl]
theorem Hh.flipY(T:Hh n R EX u w A x B y A' x' B' y'):pP (Om (fun a b=>¬EX a b) (Qu R EX u w (A++[x]) (B++[y]) (A'++[x']) (B'++[y']))) (Om (fun a b=>¬EX a b) R):=by grind[Hh.flipN]
theorem Hh.aps(T:Hh n R EX u w A x B y A' x' B' y'):Flat n (Qu R EX u w (A++[x]) (B++[y]) (A'++[x']) (B'++[y']))↔Flat n R:=by
 have⟨h,t,h',E,m,g,c⟩:=T.flip;have j:=T.flipX;have k:=T.flipY;have c1:=T.cls;have c2:=c.cls;have f:=T.rx;rw[j.cls c.rx,k.cls c.ry,jX f]at c2;have head:∀{A B A' B':II}{x y x' y' u w h:Nat}{t:II},Hh n R EX u w A x B y A' x' B' y'->A++[x]=h::t->inv (Nv (Om EX R) (x,u))=(h,u):=fun{A B A' B' x y x' y' u w h t} T e=>by
  have nd:=T.rx.nd u;have l:Cyc (Om EX R u) (A++[x]):=abH T.cu T.au T.bu;have F:x∈Om EX R u:=l.perm.mem_iff.2 Ma;have G:x∉A:=fun q=>by have:=l.perm.nodup_iff.1 nd;grind
  have:nx (A++[x]) x=h:=by
   cases A<;>grind[nx,nxF,vB]
  show(nx (Om EX R u) x,u)=(h,u);grind[Cyc.nx]
 have o:=head T m;have i:=head T.dY g;have r:=(aaG f).mem _ T.dY.Ff;have k1:WD (Nv (Om EX (Qu R EX u w (A++[x]) (B++[y]) (A'++[x']) (B'++[y'])))) (h',w) (h,u)↔WD (Nv (Om EX R)) (x',w) (x,u):=by
  rw[j.orb c.rx c.dY.Ff c.Ff,<-o,<-i,SY f r];have p:=aaG f
  all_goals grind[WD.one,WD.trans,Pm.adK,Hh.Ff,Hh.dY]
 have k2:WD (Nv (Om (fun a b=>¬EX a b) (Qu R EX u w (A++[x]) (B++[y]) (A'++[x']) (B'++[y'])))) (y,u) (y',w)↔WD (Nv (Om (fun a b=>¬EX a b) R)) (y,u) (y',w):=k.orb c.ry c.QH c.dY.QH;have d:Go.Fw.cls (WD (Nv (Qu R EX u w (A++[x]) (B++[y]) (A'++[x']) (B'++[y'])))) (dl n (Qu R EX u w (A++[x]) (B++[y]) (A'++[x']) (B'++[y'])))=Go.Fw.cls (WD (Nv R)) (dl n R):=hGr;have z:(dl n (Qu R EX u w (A++[x]) (B++[y]) (A'++[x']) (B'++[y']))).length=(dl n R).length:=by grind[yR,J8,Hh.Rl,IP,Jr,List.Perm.length_eq]
 have C:iJ n (Qu R EX u w (A++[x]) (B++[y]) (A'++[x']) (B'++[y']))=iJ n R:=IZ (by grind[Cr.mono,Jr]);have D:mj n (Qu R EX u w (A++[x]) (B++[y]) (A'++[x']) (B'++[y']))=mj n R:=by rw[mj,mj,d];congr 2;refine Uz fun v _=>?_;rw[ai7,qH,qH];exact⟨fun q a ha=>q a ((Jr T).2 ha),(by grind[Jr])⟩
 grind[Flat.eq_1]
end
theorem HL{h:Nat->Nat}{l:II}(inj:∀x∈l,∀y∈l,h x=h y->x=y){y:Nat}(d:y∈l):nx (l.map h) (h y)=h (nx l y):=by
 obtain⟨p,q,rfl,e⟩:=sC d;have c:h y∉p.map h:=hGr;rw[akG,QD,ZL c,ZL e];cases q with
 |cons z q=>rfl
 |nil=>cases p<;>rfl
theorem aeE{α:Type}{R R':α->α->Prop}:∀{X:List α},(∀x∈X,∀y∈X,R x y->R' x y)->cls R' X<=cls R X
 |[],_=>qL0 _
 |x::l,h=>by
  have e:=aeE (X:=l) fun a ha b hb=>h a (Gw _ ha) b (Gw _ hb);rw[cls,cls];by_cases c:∃y∈l,R x y
  .obtain⟨y,d,r⟩:=c;rw[abe (by grind[mem_cons_of_mem]),abe ⟨y,d,r⟩];omega
  .split<;>omega
section
variable{n:Nat}{r:Nat->II}{F:Cs}
theorem cut_ex(R:V7 n r)(O:FO r F){f g:II}(hf:f∈F)(hg:g∈F)(k:f≠g){a:Nat}(c:a∈f)(d:a∈g):
  ∃A B,Cyc (r a) ((A++[pv g a])++(B++[pv f a]))/\(A++[pv g a]).headD 0=nx f a/\(B++[pv f a]).headD 0=nx g a:=by
 have nd:=R.nd a;have⟨q,s,t⟩:=O.pv hf c;have⟨w,x,y⟩:=O.pv hg d;have i:=O.akH R hf c;have l:=O.akH R hg d;have m:pv g a≠pv f a:=by grind[FO.uniq]
 have⟨u,v,e,C⟩:=sC i;have c1:Cyc (r a) (v++(u++[pv f a])):=by grind[Cyc.refl,Cyc.shift]
 have j:pv g a∈v++u:=hGr;have⟨A,B,e3,o⟩:=sC j;have c2:Cyc (r a) ((A++[pv g a])++(B++[pv f a])):=hGr;have p:=c2.perm.nodup_iff.1 nd;have⟨D,E⟩:=oW p;have n3:((B++[pv f a])++(A++[pv g a])).Nodup:=by grind[List.Perm.nodup_iff]
 have⟨G,H⟩:=oW n3;have hd:∀{L:II}{z:Nat},(L++[z]).Nodup->nx (L++[z]) z=(L++[z]).headD 0:=fun{L z} h=>by grind[ZL]
 grind[Cyc.shift,Cyc.nx]
end
noncomputable def tau(n a b:Nat)(B B':II)(p q:Nat):Nat:=if p=a then(if q∈B then n else a)else if p=b then(if q∈B' then n+1 else b)else p
noncomputable def CL(n a b:Nat)(r:Nat->II)(A B A' B':II)(v:Nat):II:=if v=a then A else if v=b then A' else if v=n then B else if v=n+1 then B' else r v
noncomputable def Nq(n a b:Nat)(v:Nat):Nat:=if v=n then a else if v=n+1 then b else v
noncomputable def uO(n a b:Nat)(r:Nat->II)(A B A' B':II)(v:Nat):II:=(CL n a b r A B A' B' v).map fun q=>tau n a b B B' q (Nq n a b v)
structure Tu (n:Nat) (r:Nat->II) (a b:Nat) (A B A' B':II):Prop where
 R:V7 n r
 ab:a≠b
 an:a<n
 bn:b<n
 ca:Cyc (r a) (A++B)
 cb:Cyc (r b) (A'++B')
section
variable{n:Nat}{r:Nat->II}{a b:Nat}{A B A' B':II}
theorem Tu.disA(S:Tu n r a b A B A' B'){q:Nat}(c:q∈A)(h2:q∈B):False:=by have:=S.ca.perm.nodup_iff.1 (S.R.nd a);grind
theorem Tu.disB(S:Tu n r a b A B A' B'){q:Nat}(c:q∈A')(h2:q∈B'):False:=by have:=S.cb.perm.nodup_iff.1 (S.R.nd b);grind
theorem Tu.GZ(S:Tu n r a b A B A' B'){p q:Nat}(c:p<n):Nq n a b (tau n a b B B' p q)=p:=by grind[Nq,tau]
theorem Tu.TU(S:Tu n r a b A B A' B'){p q:Nat}(h:p∈r q):p∈CL n a b r A B A' B' (tau n a b B B' q p):=by
 have d:=S.an;have h2:=S.bn;have e:=S.R.lt _ _ h;unfold CL tau;by_cases c1:q=a
 .subst c1;have c:=S.ca.perm.mem_iff.1 h;grind
 .by_cases c2:q=b
  .subst c2;have c:=S.cb.perm.mem_iff.1 h;grind
  grind
theorem Tu.jL(S:Tu n r a b A B A' B'){v q:Nat}(h:q∈CL n a b r A B A' B' v):q∈r (Nq n a b v)/\v=tau n a b B B' (Nq n a b v) q/\Nq n a b v<n:=by
 have c:=S.an;have h2:=S.bn;have h3:=S.ab;unfold CL at h;by_cases c1:v=a
 .subst c1;rw[abe rfl]at h;have e:Nq n v b v=v:=by grind[Nq]
  rw[e];refine⟨S.ca.perm.mem_iff.2 (bC _ h),?_,c⟩;grind[tau,Tu.disA]
 rw[abE c1]at h;by_cases c2:v=b
 .subst c2;rw[abe rfl]at h;have e:Nq n a v v=v:=by grind[Nq]
  rw[e];refine⟨S.cb.perm.mem_iff.2 (bC _ h),?_,h2⟩;grind[tau,Tu.disB]
 rw[abE c2]at h;by_cases d:v=n
 .subst d;rw[abe rfl]at h;have e:Nq v a b v=a:=by grind[Nq]
  rw[e];refine⟨S.ca.perm.mem_iff.2 (ang _ h),?_,c⟩;grind[tau]
 rw[abE d]at h;by_cases f:v=n+1
 .subst f;rw[abe rfl]at h;have e:Nq n a b (n+1)=b:=by grind[Nq]
  rw[e];refine⟨S.cb.perm.mem_iff.2 (ang _ h),?_,h2⟩;grind[tau]
 .rw[abE f]at h;have e:Nq n a b v=v:=by grind[Nq]
  rw[e];refine⟨h,?_,S.R.lt _ _ h⟩;grind[tau]
theorem Tu.tau_lt(S:Tu n r a b A B A' B'){p q:Nat}(c:p<n):tau n a b B B' p q<n+2:=by grind[tau]
theorem Tu.Az(S:Tu n r a b A B A' B'){p c q:Nat}(f:p<n)(d:c<n)(e:tau n a b B B' p q=tau n a b B B' c q):p=c:=by grind[Tu.GZ]
theorem Tu.mem(S:Tu n r a b A B A' B'){v w:Nat}:w∈uO n a b r A B A' B' v↔∃p q,q∈r p/\v=tau n a b B B' p q/\w=tau n a b B B' q p:=by
 unfold uO;constructor
 .grind[Tu.jL]
 .rintro⟨p,q,h,rfl,rfl⟩;have c:=S.R.lt _ _ h;grind[Tu.TU,Tu.GZ]
theorem Tu.Rl(S:Tu n r a b A B A' B'):V7 (n+2) (uO n a b r A B A' B'):=by
 have nA:=S.ca.perm.nodup_iff.1 (S.R.nd a);have nB:=S.cb.perm.nodup_iff.1 (S.R.nd b);rw[j9]at nA nB;refine⟨fun v=>?_,fun v w h=>?_,fun v w h=>?_,fun v h=>?_⟩
 .have f:(CL n a b r A B A' B' v).Nodup:=by
   unfold CL;split
   .exact nA.1
   split
   .exact nB.1
   split
   .exact nA.2.1
   split
   .exact nB.2.1
   .exact S.R.nd v
  unfold uO;rw[iy,Vn];refine ff (fun{p q} g i d e=>d ?_) (iy.1 f);exact S.Az (S.R.lt _ _ (S.R.sy _ _ (S.jL g).1)) (S.R.lt _ _ (S.R.sy _ _ (S.jL i).1)) e
 .obtain⟨p,q,c,rfl,_⟩:=S.mem.1 h;exact S.tau_lt (S.R.lt _ _ c)
 .obtain⟨p,q,c,h2,h3⟩:=S.mem.1 h;exact S.mem.2 ⟨q,p,S.R.sy _ _ c,h3,h2⟩
 .obtain⟨p,q,c,h2,h3⟩:=S.mem.1 h;have e:p=q:=by rw[<-S.GZ (S.R.lt _ _ c) (q:=q),<-h2,h3,S.GZ (S.R.lt _ _ (S.R.sy _ _ c))]
  rw[e]at c;exact S.R.ir _ c
noncomputable def rho(n a b:Nat)(B B':II)(d:H8):H8:=(tau n a b B B' d.1 d.2,tau n a b B B' d.2 d.1)
theorem Tu.Ln(S:Tu n r a b A B A' B'){d e:H8}(hd:d∈dl n r)(f:e∈dl n r)(h:rho n a b B B' d=rho n a b B B' e):d=e:=by
 have d1:=(IP S.R).1 hd;have c:=(IP S.R).1 f;injection h with g h2;refine amQ ?_ ?_
 .rw[<-S.GZ (S.R.lt _ _ d1) (q:=d.2),g,S.GZ (S.R.lt _ _ c)]
 .rw[<-S.GZ (S.R.lt _ _ (S.R.sy _ _ d1)) (q:=d.1),h2,S.GZ (S.R.lt _ _ (S.R.sy _ _ c))]
theorem Tu.rho_dl(S:Tu n r a b A B A' B'):(dl (n+2) (uO n a b r A B A' B')).Perm ((dl n r).map (rho n a b B B')):=by
 refine yR (J8 S.Rl) ?_ fun d=>?_
 .grind[List.Pairwise.imp_of_mem,Tu.Ln,J8,Tu.R]
 .rw[IP S.Rl,aev];constructor
  .intro h;have⟨p,q,c,h2,h3⟩:=S.mem.1 h;exact⟨(p,q),(IP S.R).2 c,amQ h2.symm h3.symm⟩
  .rintro⟨e,f,rfl⟩;exact S.mem.2 ⟨e.1,e.2,(IP S.R).1 f,rfl,rfl⟩
noncomputable def psi(n a b:Nat)(r:Nat->II)(A B A' B':II)(d:H8):H8:=(d.2,nx (CL n a b r A B A' B' (tau n a b B B' d.2 d.1)) d.1)
theorem Tu.phi(S:Tu n r a b A B A' B'){d:H8}(hd:d∈dl n r):Nv (uO n a b r A B A' B') (rho n a b B B' d)=rho n a b B B' (psi n a b r A B A' B' d)/\psi n a b r A B A' B' d∈dl n r:=by have⟨p,q⟩:=d;have g:q∈r p:=(IP S.R).1 hd;have h2:=S.R.sy _ _ g;have c:=S.R.lt _ _ h2;have hg:=S.TU h2;have i:=ZP hg;have⟨f,j,o⟩:=S.jL i;rw[S.GZ c]at f j;refine⟨?_,(IP S.R).2 f⟩;show(tau n a b B B' q p,nx (uO n a b r A B A' B' (tau n a b B B' q p)) (tau n a b B B' p q))=(tau n a b B B' q (nx (CL n a b r A B A' B' (tau n a b B B' q p)) p),tau n a b B B' (nx (CL n a b r A B A' B' (tau n a b B B' q p)) p) q);unfold uO;rw[S.GZ c];congr 1;exact HL (h:=fun x=>tau n a b B B' x q) (fun x k y l e=>by have ex:=(S.jL k).1;have m:=(S.jL l).1;exact S.Az (S.R.lt _ _ (S.R.sy _ _ ex)) (S.R.lt _ _ (S.R.sy _ _ m)) e) hg
theorem Tu.it(S:Tu n r a b A B A' B'){d:H8}(hd:d∈dl n r):∀k,it (Nv (uO n a b r A B A' B')) k (rho n a b B B' d)=rho n a b B B' (it (psi n a b r A B A' B') k d)/\Go.Fw.it (psi n a b r A B A' B') k d∈dl n r
 |0=>⟨rfl,hd⟩
 |k+1=>by have⟨c,h2⟩:=S.it hd k;grind[Tu.phi,it]
theorem Tu.cls(S:Tu n r a b A B A' B'):cls (WD (Nv (uO n a b r A B A' B'))) (dl (n+2) (uO n a b r A B A' B'))=cls (WD (psi n a b r A B A' B')) (dl n r):=by
 rw[Yy S.rho_dl (aaG S.Rl).eqv,Zx];refine IZ fun d hd e c=>⟨fun⟨k,h⟩=>⟨k,?_⟩,fun⟨k,h⟩=>⟨k,?_⟩⟩
 all_goals grind[Tu.it,Tu.Ln]
end
section
variable{n:Nat}{r:Nat->II}{a b:Nat}{A B A' B':II}{x y x' y':Nat}
theorem Tu.swapped(S:Tu n r a b (A++[x]) (B++[y]) (A'++[x']) (B'++[y'])){d:H8}(hd:d∈dl n r):
  psi n a b r (A++[x]) (B++[y]) (A'++[x']) (B'++[y']) d=swp (swp (Nv r) (x,a) (y,a)) (x',b) (y',b) d:=by
 have w:=S.an;have h2:=S.bn;have h3:=S.ab;have⟨p,v⟩:=d;have h:p∈r v:=S.R.sy _ _ ((IP S.R).1 hd);have at_:∀{c:Nat}{A B:II}{x y:Nat},Cyc (r c) ((A++[x])++(B++[y]))->p∈r c->(p∉B++[y]->nx (A++[x]) p=(swp (Nv r) (x,c) (y,c) (p,c)).2)/\(p∈B++[y]->nx (B++[y]) p=(swp (Nv r) (x,c) (y,c) (p,c)).2)/\(swp (Nv r) (x,c) (y,c) (p,c)).1=c:=fun{c A B x y} f i=>by
  have nd:=S.R.nd c;have g:=f.perm.nodup_iff.1 nd;have n3:((B++[y])++(A++[x])).Nodup:=by grind[List.Perm.nodup_iff]
  have⟨z,C⟩:=oW g;have⟨D,E⟩:=oW n3;have k:=f.perm.mem_iff.1 i;have l:x∈r c:=f.perm.mem_iff.2 Ma;have m:y∈r c:=f.perm.mem_iff.2 Ma;have o:=(j9.1 g).2.2;have nA:=(j9.1 g).1;have nB:=(j9.1 g).2.1;have fst:(swp (Nv r) (x,c) (y,c) (p,c)).1=c:=by
   unfold swp;split
   .rfl
   .split<;>rfl
  refine⟨fun s=>?_,fun hB=>?_,fst⟩
  .have hA:=(aax.1 k).resolve_right s;rcases aax.1 hA with hA|hA
   .have t:p≠x:=by grind[nodup_append]
    have u:p≠y:=hGr;rw[Q3 (by grind[Prod.mk.inj]) (by grind[Prod.mk.inj]),Nv];grind[Cyc.nx]
   .rw[xD]at hA;subst hA;rw[C5,Nv];grind[Cyc.shift,Cyc.nx]
  .rcases aax.1 hB with hB|hB
   .have u:p≠y:=by grind[nodup_append]
    have t:p≠x:=fun e=>o x Ma p (by simp[hB]) e.symm;rw[Q3 (by grind[Prod.mk.inj]) (by grind[Prod.mk.inj]),Nv];grind[Cyc.shift,Cyc.nx]
   .rw[xD]at hB;subst hB;rw[dX,Nv];grind[Cyc.nx]
 show(v,nx (CL n a b r (A++[x]) (B++[y]) (A'++[x']) (B'++[y']) (tau n a b (B++[y]) (B'++[y']) v p)) p)=_;by_cases c1:v=a
 .subst c1;rw[Q3 (by grind[Prod.mk.inj]) (by grind[Prod.mk.inj])];have⟨k1,k2,j⟩:=at_ S.ca h;refine amQ j.symm ?_;unfold tau CL;rw[abe rfl];by_cases c:p∈B++[y]
  .rw[abe c,abE NH,abE NH,abe rfl];exact k2 c
  grind
 by_cases c2:v=b
 .subst c2;have QI:∀q:Nat,swp (Nv r) (x,a) (y,a) (q,v)=Nv r (q,v):=by grind[Q3,Prod.mk.inj]
  rw[zU (QI _) (QI _) (QI _)];have⟨k1,k2,j⟩:=at_ S.cb h;refine amQ j.symm ?_;unfold tau CL;rw[abE c1,abe rfl];by_cases c:p∈B'++[y']
  .rw[abe c,abE NH,abE NH,abE NH,abe rfl];exact k2 c
  grind
 .rw[Q3 (by grind[Prod.mk.inj]) (by grind[Prod.mk.inj]),Q3 (by grind[Prod.mk.inj]) (by grind[Prod.mk.inj]),Nv];have F:=S.R.lt _ _ h;grind[tau,CL]
theorem Tu.iso(S:Tu n r a b (A++[x]) (B++[y]) (A'++[x']) (B'++[y'])):
  ((rG (n+2)).filter fun v=>decide (uO n a b r (A++[x]) (B++[y]) (A'++[x']) (B'++[y']) v=[])).length=((rG n).filter fun v=>decide (r v=[])).length:=by
 have g:=S.an;have h2:=S.bn;have c:∀v,uO n a b r (A++[x]) (B++[y]) (A'++[x']) (B'++[y']) v=[]↔CL n a b r (A++[x]) (B++[y]) (A'++[x']) (B'++[y']) v=[]:=by grind[uO,map_eq_nil_iff]
 have i:¬CL n a b r (A++[x]) (B++[y]) (A'++[x']) (B'++[y']) n=[]:=by unfold CL;rw[abE NH,abE NH,abe rfl];simp
 have j:¬CL n a b r (A++[x]) (B++[y]) (A'++[x']) (B'++[y']) (n+1)=[]:=by unfold CL;rw[abE NH,abE NH,abE NH,abe rfl];simp
 have d:r a≠[]:=fun e=>by have:=S.ca;rw[e]at this;have:=this.symm.nil;simp at this
 have f:r b≠[]:=fun e=>by have:=S.cb;rw[e]at this;have:=this.symm.nil;simp at this
 rw[Bx,Bx,Cg,Db];have e:([n]++[n+1]).filter (fun v=>decide (uO n a b r (A++[x]) (B++[y]) (A'++[x']) (B'++[y']) v=[]))=[]:=hGr;rw[e,adN];congr 1;refine Uz fun v k=>?_;rw[ai7,c];unfold CL;by_cases c1:v=a
 .subst c1;exact⟨fun h=>by simp at h,hGr⟩
 rw[abE c1];by_cases c2:v=b
 .subst c2;exact⟨fun h=>by simp at h,hGr⟩
 grind
theorem Tu.parts(S:Tu n r a b (A++[x]) (B++[y]) (A'++[x']) (B'++[y']))(hf:Flat n r)(j:¬WD (Nv r) (x,a) (y,a))(o:WD (Nv r) (x',b) (y,a))(h2:WD (Nv r) (x,a) (y',b)):
  iJ n r+1<=iJ (n+2) (uO n a b r (A++[x]) (B++[y]) (A'++[x']) (B'++[y'])):=by
 have p:=aaG S.R;have mem:∀{q c:Nat},q∈r c->((q,c):H8)∈dl n r:=by grind[IP,Tu.R,V7.sy]
 have k:=mem (S.ca.perm.mem_iff.2 (by simp:x∈(A++[x])++(B++[y])));have l:=mem (S.ca.perm.mem_iff.2 (by simp:y∈(A++[x])++(B++[y])));have f:=mem (S.cb.perm.mem_iff.2 (by simp:x'∈(A'++[x'])++(B'++[y'])));have h:=mem (S.cb.perm.mem_iff.2 (by simp:y'∈(A'++[x'])++(B'++[y'])));have s:=(WC p k l fun e=>j (by grind[WD.refl])).2 j;have q:=p.swp k l;have m:WD (swp (Nv r) (x,a) (y,a)) (x',b) (y',b):=by grind[cG]
 have i:((x',b):H8)≠(y',b):=fun e=>by have:=S.cb.perm.nodup_iff.1 (S.R.nd b);rw[j9]at this;exact this.2.2 x' Ma y' Ma (qL90 e).1
 have t:=(WC q f h i).1 m;have e3:Go.Fw.cls (WD (psi n a b r (A++[x]) (B++[y]) (A'++[x']) (B'++[y']))) (dl n r)=Go.Fw.cls (WD (swp (swp (Nv r) (x,a) (y,a)) (x',b) (y',b))) (dl n r):=by have u:=q.swp f h;refine IZ fun d hd e v=>?_;grind[ER,Tu.swapped]
 have e4:=S.cls;have⟨g,hg⟩:=genus S.Rl;grind[List.Perm.length_eq,Tu.rho_dl,length_map,mj.eq_1,Tu.iso,Flat.eq_1]
end
section
variable{n:Nat}{r:Nat->II}{F:Cs}{a b:Nat}{A B A' B':II}
theorem DJ{v q:Nat}(c:v≠a)(h2:v≠b):tau n a b B B' v q=v:=by grind[tau]
theorem Tu.UQ(S:Tu n r a b A B A' B'){p q:Nat}(h:q∈r p):tau n a b B B' q p∈uO n a b r A B A' B' (tau n a b B B' p q):=by grind[Tu.mem]
theorem HQ(S:Tu n r a b A B A' B')(O:FO r F){f:II}(hf:f∈F){c d:Nat}(i:c∈f)(hd:d∈f)(h:c≠d)(l:∀v,v≠c->v≠d->v≠a/\v≠b):
  Cr (uO n a b r A B A' B') (tau n a b B B' c (nx f c)) (tau n a b B B' d (pv f d)):=by
 have⟨k,q,o⟩:=On (JT (O.nd f hf) i hd);have s:k≠0:=fun e=>by subst e;exact h q
 have g:=fun j=>(O.it hf i j).1;have t:∀j,j+1<k->it (nx f) (j+1) c≠c:=fun j u e=>by
  have:it (nx f) (k-(j+1)) c=d:=by have p:it (nx f) (k-(j+1)+(j+1)) c=it (nx f) (k-(j+1)) (it (nx f) (j+1) c):=qu _ _ _ _;grind
  grind
 have P:∀j,j<k->Cr (uO n a b r A B A' B') (tau n a b B B' c (nx f c)) (tau n a b B B' (it (nx f) j c) (it (nx f) (j+1) c)):=fun j=>by
  induction j with
  |zero=>intro _;exact .refl _
  |succ j w=>intro u;have p:=(w NH).step (S.UQ (O.aei f hf _ (g j)));grind[DJ]
 obtain⟨m,rfl⟩:∃m,k=m+1:=⟨k-1,NH⟩;have p:=(P m NH).step (S.UQ (O.aei f hf _ (g m)));grind[it,c7,FO.nd]
theorem apt(S:Tu n r a b A B A' B')(f:Cr (uO n a b r A B A' B') a b)(g:Cr (uO n a b r A B A' B') (n+1) n)(l:iJ n r+1<=iJ (n+2) (uO n a b r A B A' B')):¬Cr (uO n a b r A B A' B') a n:=fun h=>by
 have R':=S.Rl;have d:∀p q,Cr (uO n a b r A B A' B') p (tau n a b B B' p q):=fun p q=>by
  unfold tau;split
  .rename_i e;subst e;split
   .exact h
   .exact .refl _
  .split
   .grind[Cr.symm,Cr.trans]
   .exact .refl _
 have lift:∀p q,Cr r p q->Cr (uO n a b r A B A' B') p q:=fun p q c=>by
  induction c with
  |refl=>exact .refl _
  |step _ hw i=>exact i.trans ((d _ _).trans ((Cr.one (S.UQ hw)).trans ((d _ _).symm R')))
 have hle:iJ (n+2) (uO n a b r A B A' B')<=iJ n r:=by
  have j:iJ (n+2) (uO n a b r A B A' B')=cls (Cr (uO n a b r A B A' B')) (n::(n+1)::rG n):=by grind[iJ,Yy,Cr.eqv]
  have k:∃z∈(n+1)::rG n,Cr (uO n a b r A B A' B') n z:=by grind[Cr.symm]
  have h2:∃z∈rG n,Cr (uO n a b r A B A' B') (n+1) z:=by grind[Tu.an,Cr.trans,Cr.symm]
  rw[j,cls,abe k,cls,abe h2];exact aeE hGr
 omega
structure WM (r:Nat->II) (f g:II) (a b:Nat) (A B A' B':II) (X:Nat->Prop):Prop where
 ca:Cyc (r a) ((A++[pv g a])++(B++[pv f a]))
 ha:(A++[pv g a]).headD 0=nx f a
 mi:(B++[pv f a]).headD 0=nx g a
 cb:Cyc (r b) ((A'++[pv f b])++(B'++[pv g b]))
 hb:(A'++[pv f b]).headD 0=nx g b
 sZ:(B'++[pv g b]).headD 0=nx f b
 xa:∀v∈A++[pv g a],v≠b->X v
 ya:∀v∈B++[pv f a],v≠b->¬X v
 xb:∀v∈A'++[pv f b],v≠a->X v
 yb:∀v∈B'++[pv g b],v≠a->¬X v
 Jp:∀v w,w∈r v->v≠a->v≠b->w≠a->w≠b->(X v↔X w)
 UQ:b∈A++[pv g a]↔a∈A'++[pv f b]
theorem BX{l:II}{x:Nat}:(l++[x]).headD 0∈l++[x]:=Lt Ma
theorem sides(R:V7 n r)(O:FO r F)(C:Flat n r){f g:II}(hf:f∈F)(hg:g∈F)(K:f≠g)(l:a≠b)(i:a∈f)(D:a∈g)(j:b∈f)(E:b∈g)(ca:Cyc (r a) ((A++[pv g a])++(B++[pv f a])))(ha:(A++[pv g a]).headD 0=nx f a)(mi:(B++[pv f a]).headD 0=nx g a)(cb:Cyc (r b) ((A'++[pv f b])++(B'++[pv g b])))(hb:(A'++[pv f b]).headD 0=nx g b)(sZ:(B'++[pv g b]).headD 0=nx f b):
  ∃X:Nat->Prop,WM r f g a b A B A' B' X:=by
 have S:Tu n r a b (A++[pv g a]) (B++[pv f a]) (A'++[pv f b]) (B'++[pv g b]):=⟨R,l,R.lt _ _ (O.akH R hf i),R.lt _ _ (O.akH R hf j),ca,cb⟩;have⟨Q,T,U⟩:=O.pv hf i;have⟨V,W,g3⟩:=O.pv hg D;have⟨f4,f5,f6⟩:=O.pv hf j;have⟨g4,g5,g6⟩:=O.pv hg E;have og:∀d,WD (Nv r) (pv g a,a) d↔∃u∈g,d=(u,nx g u):=by grind[FO.orb]
 have L:∀d,WD (Nv r) (pv f b,b) d↔∃u∈f,d=(u,nx f u):=by grind[FO.orb]
 have M:¬WD (Nv r) (pv g a,a) (pv f a,a):=by grind[FO.uniq]
 have m:WD (Nv r) (pv f b,b) (pv f a,a):=by grind[pv]
 have h2:WD (Nv r) (pv g a,a) (pv g b,b):=by grind[pv]
 have N:=S.parts C M m h2;have nA:=ca.perm.nodup_iff.1 (R.nd a);have nB:=cb.perm.nodup_iff.1 (R.nd b);have dA:∀{q:Nat},q∈A++[pv g a]->q∉B++[pv f a]:=fun m h2=>S.disA m h2;have dB:∀{q:Nat},q∈A'++[pv f b]->q∉B'++[pv g b]:=fun m h2=>S.disB m h2;have k:Cr (uO n a b r (A++[pv g a]) (B++[pv f a]) (A'++[pv f b]) (B'++[pv g b])) a b:=by
  have:=HQ S O hf i j l hGr;have G:tau n a b (B++[pv f a]) (B'++[pv g b]) a (nx f a)=a:=by grind[tau,BX]
  have J:tau n a b (B++[pv f a]) (B'++[pv g b]) b (pv f b)=b:=by unfold tau;grind
  grind
 have o:Cr (uO n a b r (A++[pv g a]) (B++[pv f a]) (A'++[pv f b]) (B'++[pv g b])) (n+1) n:=by
  have:=HQ S O hf j i (EH l) hGr;have G:tau n a b (B++[pv f a]) (B'++[pv g b]) b (nx f b)=n+1:=by grind[tau,BX]
  grind[tau]
 have p:=apt S k o N;have R':=S.Rl;have ea:∀v,v≠a->v≠b->∀q,tau n a b (B++[pv f a]) (B'++[pv g b]) v q=v:=by grind[DJ]
 have inA:∀v∈A++[pv g a],v≠b->v∈uO n a b r (A++[pv g a]) (B++[pv f a]) (A'++[pv f b]) (B'++[pv g b]) a:=fun v c s=>by have e:=ca.perm.mem_iff.2 (bC _ c);have:=S.UQ e;rw[ea v (by grind[V7.ir]) s]at this;grind[tau]
 have inB:∀v∈B++[pv f a],v≠b->v∈uO n a b r (A++[pv g a]) (B++[pv f a]) (A'++[pv f b]) (B'++[pv g b]) n:=fun v c s=>by have e:=ca.perm.mem_iff.2 (ang _ c);have:=S.UQ e;rw[ea v (by grind[V7.ir]) s]at this;grind[tau]
 have y:∀v∈A'++[pv f b],v≠a->v∈uO n a b r (A++[pv g a]) (B++[pv f a]) (A'++[pv f b]) (B'++[pv g b]) b:=fun v c t=>by have e:=cb.perm.mem_iff.2 (bC _ c);have:=S.UQ e;rw[ea v t (by grind[V7.ir])]at this;grind[tau]
 have z:∀v∈B'++[pv g b],v≠a->v∈uO n a b r (A++[pv g a]) (B++[pv f a]) (A'++[pv f b]) (B'++[pv g b]) (n+1):=fun v c t=>by have e:=cb.perm.mem_iff.2 (ang _ c);have:=S.UQ e;rw[ea v t (by grind[V7.ir])]at this;grind[tau]
 refine⟨fun v=>Cr (uO n a b r (A++[pv g a]) (B++[pv f a]) (A'++[pv f b]) (B'++[pv g b])) a v,ca,ha,mi,cb,hb,sZ,fun v c h=>Cr.one (inA v c h),fun v c h q=>p (q.trans ((Cr.one (inB v c h)).symm R')),fun v c h=>k.step (y v c h),fun v c h q=>p ((q.trans ((Cr.one (z v c h)).symm R')).trans o),fun v w hw m h2 h3 P=>?_,?_⟩
 .have:=S.UQ hw;rw[ea v m h2,ea w h3 P]at this;exact⟨fun q=>q.step this,fun q=>q.step (R'.sy _ _ this)⟩
 .constructor
  .intro H;have e:=ca.perm.mem_iff.2 (bC _ H);have x:=cb.perm.mem_iff.1 (R.sy _ _ e);refine(aax.1 x).resolve_right fun hB=>?_;have:=S.UQ e;have G:tau n a b (B++[pv f a]) (B'++[pv g b]) a b=a:=by grind[tau]
   have J:tau n a b (B++[pv f a]) (B'++[pv g b]) b a=n+1:=by grind[tau]
   rw[G,J]at this;exact p ((Cr.one this).trans o)
  .intro I;have e:=cb.perm.mem_iff.2 (bC _ I);have x:=ca.perm.mem_iff.1 (R.sy _ _ e);refine(aax.1 x).resolve_right fun hB=>?_;have:=S.UQ e;grind[tau,Cr.trans,Cr.one]
end
theorem apu{l:II}(nd:l.Nodup){p:Nat->Prop}[DecidablePred p]{u:Nat}(j:u∈l)(q:p u)(k:nx (l.filter fun v=>decide (p v)) u≠u):
  ∃c1 c2,Cyc l (u::(c1++nx (l.filter fun v=>decide (p v)) u::c2))/\∀v∈c1,¬p v:=by
 have⟨c,b⟩:=Cyc.front j;have a:=b.filter fun v=>decide (p v);have d:(u::c).filter (fun v=>decide (p v))=u::c.filter fun v=>decide (p v):=hGr;rw[d]at a;have m:u∈l.filter fun v=>decide (p v):=hGr;have e:=a.nx (nd.sublist EP) m;rw[ET]at e;have hex:∃c1 w c2,c=c1++w::c2/\(∀v∈c1,¬p v)/\p w:=by
  have i:c.filter (fun v=>decide (p v))≠[]:=fun h=>by grind
  clear b a d e
  induction c with
  |nil=>grind
  |cons z c s=>
   by_cases o:p z
   .exact⟨[],z,c,rfl,Ma,o⟩
   grind
 grind
structure aaL (n:Nat) (r:Nat->II) (F:Cs) (f g:II):Prop where
 R:V7 n r
 O:FO r F
 fl:Flat n r
 hf:f∈F
 hg:g∈F
 ne:f≠g
 bp:∀v w,r v≠[]->r w≠[]->Cr r v w
def Ul(f g:II):II:=f.filter fun v=>decide (v∈g)
theorem zq{f g:II}{v:Nat}:v∈Ul f g↔v∈f/\v∈g:=by simp[Ul]
section
variable{n:Nat}{r:Nat->II}{F:Cs}{f g:II}
theorem aaL.ndU(T:aaL n r F f g):(Ul f g).Nodup:=(T.O.nd f T.hf).sublist EP
structure Wa (r:Nat->II) (f g:II) (A B:Nat->II):Prop where
 c:∀u∈Ul f g,Cyc (r u) ((A u++[pv g u])++(B u++[pv f u]))
 hA:∀u∈Ul f g,(A u++[pv g u]).headD 0=nx f u
 hB:∀u∈Ul f g,(B u++[pv f u]).headD 0=nx g u
theorem aaL.cutU(T:aaL n r F f g):∃A B,Wa r f g A B:=by
 have QI:∀u:Nat,∃p:II×II,u∈Ul f g->Cyc (r u) ((p.1++[pv g u])++(p.2++[pv f u]))/\(p.1++[pv g u]).headD 0=nx f u/\(p.2++[pv f u]).headD 0=nx g u:=fun u=>by
  by_cases h:u∈Ul f g
  .obtain⟨A,B,a,h2,h3⟩:=cut_ex T.R T.O T.hf T.hg T.ne (zq.1 h).1 (zq.1 h).2;exact⟨(A,B),hGr⟩
  simp_all
 have⟨P,b⟩:=To QI;exact⟨fun u=>(P u).1,fun u=>(P u).2,hGr,hGr,hGr⟩
variable{A B:Nat->II}
theorem aaL.sideU(T:aaL n r F f g)(C:Wa r f g A B)(h2:∀u∈Ul f g,nx (Ul f g) u≠u):∃X:Nat->Nat->Prop,∀u∈Ul f g,WM r f g u (nx (Ul f g) u) (A u) (B u) (B (nx (Ul f g) u)) (A (nx (Ul f g) u)) (X u):=by
 have QI:∀u:Nat,∃X:Nat->Prop,u∈Ul f g->WM r f g u (nx (Ul f g) u) (A u) (B u) (B (nx (Ul f g) u)) (A (nx (Ul f g) u)) X:=fun u=>by
  by_cases h:u∈Ul f g
  .have hw:=ZP h;have⟨X,a⟩:=sides T.R T.O T.fl T.hf T.hg T.ne hGr (zq.1 h).1 (zq.1 h).2 (zq.1 hw).1 (zq.1 hw).2 (C.c u h) (C.hA u h) (C.hB u h) (C.c _ hw).shift (C.hB _ hw) (C.hA _ hw);grind
  simp_all
 have⟨X,a⟩:=To QI;exact⟨X,a⟩
theorem aaL.otherU(T:aaL n r F f g){X:Nat->Prop}{u:Nat}(x:u∈Ul f g)(l:nx (Ul f g) u≠u)(S:WM r f g u (nx (Ul f g) u) (A u) (B u) (B (nx (Ul f g) u)) (A (nx (Ul f g) u)) X){v:Nat}(D:v∈Ul f g)(L:v≠u)(h2:v≠nx (Ul f g) u):¬X v:=by
 have⟨c1,c2,k,M⟩:=apu (T.O.nd f T.hf) (p:=fun v=>v∈g) (zq.1 x).1 (zq.1 x).2 l;have k:Cyc f (u::(c1++nx (Ul f g) u::c2)):=k;generalize nx (Ul f g) u=w at*;have E:=k.perm.nodup_iff.1 (T.O.nd f T.hf);rw[VU,j9,VU,aax,Og]at E;have G:v∈c2:=by have:=k.perm.mem_iff.1 (zq.1 D).1;grind[zq]
 have a:∀z∈c2,z≠u/\z≠w:=hGr;have d:Cyc f ((w::c2)++(u::c1)):=by grind[Cyc.shift]
 have H:∀z,z=w\/z∈c2->z∈f:=fun z b=>d.perm.mem_iff.2 hGr;have all:∀(i z:Nat),c2[i]?=Z z->¬X z:=fun i=>by
  induction i with
  |zero=>
   intro z b;have c:=BS b;have⟨m,C⟩:=a z c;have j:nx f w=z:=by
    rw[d.nx (T.O.nd f T.hf) hGr];cases c2 with
    |nil=>cases c
    |cons y c2=>injection b with b;subst b;exact Nu (p:=[]) Ma
   refine S.yb z ?_ m;grind[WM.sZ,BX]
  |succ i I=>
   intro z b;have c:=BS b;have⟨m,C⟩:=a z c;have N:=(Ny.1 b).1;have h:c2[i]?=Z (c2[i]'(by omega)):=qL7 NH
   have J:=I _ h;have o:=BS h;generalize c2[i]'(by omega)=y at*
   have⟨y1,K⟩:=a y o;have j:nx f y=z:=by rw[d.nx (T.O.nd f T.hf) hGr];have⟨s,t,e⟩:=ZN h b;grind[Nu]
   have hd:=T.O.aei f T.hf y hGr;rw[j]at hd;exact fun q=>J ((S.Jp y z hd y1 K m C).2 q)
 grind[List.mem_iff_getElem?]
theorem aaL.lab(T:aaL n r F f g)(C:Wa r f g A B)(h2:∀u∈Ul f g,nx (Ul f g) u≠u){X:Nat->Nat->Prop}(S:∀u∈Ul f g,WM r f g u (nx (Ul f g) u) (A u) (B u) (B (nx (Ul f g) u)) (A (nx (Ul f g) u)) (X u)){j:Nat}(s:j∈Ul f g){v:Nat}(l:Cr r j v):v∉Ul f g->∃u∈Ul f g,X u v/\∀w∈Ul f g,X w v->w=u:=by
 have ndU:=T.ndU;have Wn:=fun{u}(h:u∈Ul f g){v}=>T.otherU (v:=v) h (h2 u h) (S u h)
 induction l with
 |refl=>grind
 |@step b v _ e t=>
  intro m;have a:∀w∈Ul f g,v≠w/\v≠nx (Ul f g) w:=fun w hw=>⟨hGr,(by grind[ZP])⟩;by_cases hb:b∈Ul f g
  .have o:=(C.c b hb).perm.mem_iff.1 e;rcases aax.1 o with hA|hB
   .refine⟨b,hb,(by grind[WM.xa]),fun w hw i=>?_⟩;by_cases c1:b=w
    .exact c1.symm
    exfalso;by_cases c2:nx (Ul f g) w=b
    .grind[WM.yb]
    .exact Wn hw hb c1 (EH c2) (((S w hw).Jp b v e c1 (EH c2) (a w hw).1 (a w hw).2).2 i)
   .have p:=BJ hb;have q:=aa3 ndU hb;refine⟨pv (Ul f g) b,p,?_,fun w hw i=>?_⟩
    .grind[WM.xb]
    by_cases c1:b=w
    .grind[WM.ya]
    by_cases c2:nx (Ul f g) w=b
    .grind[C9]
    .exact absurd (((S w hw).Jp b v e c1 (EH c2) (a w hw).1 (a w hw).2).2 i) hGr
  .have d:∀w∈Ul f g,b≠w/\b≠nx (Ul f g) w:=fun w hw=>⟨hGr,(by grind[ZP])⟩;have k:∀w∈Ul f g,X w b↔X w v:=fun w hw=>(S w hw).Jp b v e (d w hw).1 (d w hw).2 (a w hw).1 (a w hw).2;grind
end
structure Lab (r:Nat->II) (f g:II) (A B:Nat->II) (le:Nat->Nat->Nat):Prop where
 sym:∀v w,w∈r v->le v w=le w v
 inU:∀v w,w∈r v->le v w∈Ul f g
 same:∀v,v∉Ul f g->∀w w',w∈r v->w'∈r v->le v w=le v w'
 out:∀u∈Ul f g,∀w∈A u++[pv g u],le u w=u
 inn:∀u∈Ul f g,∀w∈B u++[pv f u],le u w=pv (Ul f g) u
section
variable{n:Nat}{r:Nat->II}{F:Cs}{f g:II}{A B:Nat->II}
theorem Wa.TE(T:aaL n r F f g)(C:Wa r f g A B){u w:Nat}(a:u∈Ul f g)(b:w∈A u++[pv g u])(h2:w∈B u++[pv f u]):False:=by have:=(C.c u a).perm.nodup_iff.1 (T.R.nd u);grind
theorem aaL.labE(T:aaL n r F f g)(C:Wa r f g A B)(h2:∀u∈Ul f g,nx (Ul f g) u≠u){q:Nat}(E:q∈Ul f g):∃le,Lab r f g A B le:=by
 have⟨X,S⟩:=T.sideU C h2;have ndU:=T.ndU;have Wn:=fun{u}(d:u∈Ul f g){v}=>T.otherU (v:=v) d (h2 u d) (S u d);have t:r q≠[]:=fun e=>by have:=(C.c q E).perm.length_eq;grind
 have QI:∀v:Nat,∃u,v∉Ul f g->r v≠[]->u∈Ul f g/\X u v/\∀w∈Ul f g,X w v->w=u:=fun v=>by
  by_cases h:v∉Ul f g/\r v≠[]
  .obtain⟨u,h3,K,L⟩:=T.lab C h2 S E (T.bp q v t h.2) h.1;grind
  grind
 have⟨lab,m⟩:=To QI;have a:∀{v w},w∈r v->r v≠[]:=hGr;have o:∀u∈Ul f g,∀w∈A u++[pv g u],w∉Ul f g->lab w=u:=fun u d w hw b=>by have l:w∈r u:=(C.c u d).perm.mem_iff.2 (bC _ hw);have⟨_,_,k⟩:=m w b (a (T.R.sy _ _ l));grind[WM.xa,ZP]
 have s:∀u∈Ul f g,∀w∈B u++[pv f u],w∉Ul f g->lab w=pv (Ul f g) u:=fun u d w hw b=>by have l:w∈r u:=(C.c u d).perm.mem_iff.2 (ang _ hw);have⟨_,_,k⟩:=m w b (a (T.R.sy _ _ l));have x:=BJ d;grind[WM.xb,aa3]
 have p:∀v w,w∈r v->v∉Ul f g->w∉Ul f g->lab v=lab w:=fun v w hw i b=>by have⟨k1,k2,_⟩:=m v i (a hw);have⟨_,_,H⟩:=m w b (a (T.R.sy _ _ hw));have j:∀z∉Ul f g,z≠lab v/\z≠nx (Ul f g) (lab v):=fun z M=>⟨hGr,(by grind[ZP])⟩;exact H _ k1 (((S _ k1).Jp v w hw (j v i).1 (j v i).2 (j w b).1 (j w b).2).1 k2)
 have y:∀v∈Ul f g,∀w∈Ul f g,w∈A v++[pv g v]->v∈B w++[pv f w]/\pv (Ul f g) w=v:=fun v i w hw hA=>by
  have l:w∈r v:=(C.c v i).perm.mem_iff.2 (bC _ hA);have D:w≠v:=fun e=>T.R.ir v (e▸l);have e:w=nx (Ul f g) v:=by grind[WM.xa]
  grind[WM.UQ,c7]
 have G:∀v∈Ul f g,∀w∈Ul f g,w∈B v++[pv f v]->v∈A w++[pv g w]/\pv (Ul f g) v=w:=fun v i w hw hB=>by
  have l:w∈r v:=(C.c v i).perm.mem_iff.2 (ang _ hB);have D:w≠v:=fun e=>T.R.ir v (e▸l);have x:=BJ i;have I:=(S _ x).xb;have J:=(S _ x).UQ;rw[aa3 ndU i]at I J;have e:w=pv (Ul f g) v:=by grind[aa3]
  grind
 refine⟨fun v w=>if v∉Ul f g then lab v else if w∉Ul f g then lab w else if w∈A v++[pv g v]then v else pv (Ul f g) v,fun v w hw=>?_,fun v w hw=>?_,fun v i w w' _ _=>?_,fun u d w hw=>?_,fun u d w hw=>?_⟩
 .by_cases c1:v∈Ul f g
  .by_cases c2:w∈Ul f g
   .by_cases hA:w∈A v++[pv g v]
    .grind[Wa.TE]
    .have hB:=(aax.1 ((C.c v c1).perm.mem_iff.1 hw)).resolve_left hA;grind
   grind
  .all_goals grind
 .by_cases c1:v∈Ul f g
  .rw[abE hGr];by_cases c2:w∈Ul f g
   .all_goals grind[BJ]
   .rw[abe c2];exact(m w c2 (a (T.R.sy _ _ hw))).1
  grind
 .grind
 .all_goals grind
 .all_goals grind[Wa.TE]
theorem Lab.EI(T:aaL n r F f g)(C:Wa r f g A B){le:Nat->Nat->Nat}(L:Lab r f g A B le){h:II}(hh:h∈F)(hf:h≠f)(hg:h≠g){z:Nat}(a:z∈h):le z (nx h z)=le (nx h z) (nx h (nx h z)):=by
 have hd:=T.O.aei h hh z a;have hs:=T.O.step h hh z a;have hw:=ZP a;have i:=T.O.aei h hh _ hw;rw[L.sym _ _ hd];have b:=T.R.sy _ _ hd;generalize j:nx h z=w at*;by_cases c:w∈Ul f g
 .obtain⟨c1,c2⟩:=zq.1 c;have⟨k,p,_⟩:=T.O.pv T.hf c1;have⟨l,q,_⟩:=T.O.pv T.hg c2;have s:z≠pv f w:=fun e=>hf (T.O.uniq h hh f T.hf z a (e▸k) hGr);have t:z≠pv g w:=fun e=>hg (T.O.uniq h hh g T.hg z a (e▸l) hGr);have d:=C.c w c;have nd:=T.R.nd w;have u:=d.perm.nodup_iff.1 nd;have n3:((B w++[pv f w])++(A w++[pv g w])).Nodup:=by grind[List.Perm.nodup_iff]
  rcases aax.1 (d.perm.mem_iff.1 b)with hA|hB
  .have m:nx (r w) z=nx (A w++[pv g w]) z:=by grind[Cyc.nx,oW]
   grind[ZP,Lab.out]
  .have m:nx (r w) z=nx (B w++[pv f w]) z:=by grind[Cyc.shift,Cyc.nx,oW]
   have o:nx h w∈B w++[pv f w]:=by grind[ZP]
   rw[L.inn w c z hB,L.inn w c _ o]
 grind[Lab.same]
def Lab.Jv(T:aaL n r F f g)(C:Wa r f g A B){le:Nat->Nat->Nat}(L:Lab r f g A B le){h:II}(hh:h∈F)(hf:h≠f)(hg:h≠g){z y:Nat}(a:z∈h)(c:y∈h):le z (nx h z)=le y (nx h y):=by
 obtain⟨k,rfl⟩:=JT (T.O.nd h hh) a c
 induction k with
 |zero=>rfl
 |succ k d=>have b:=(T.O.it hh a k).1;rw[d b];exact L.EI T C hh hf hg b
end
structure XY (n:Nat) (R:Nat->II) (U:II) (SE:Nat->Nat->Prop) (tl:Nat->Nat->Nat) (XL Q YL P:Nat->II):Prop where
 Rl:V7 n R
 nd:U.Nodup
 two:∀u∈U,nx U u≠u
 ssym:∀v w,SE v w->SE w v
 tsym:∀v w,w∈R v->tl v w=tl w v
 all:∀v,v∉U->(∀w∈R v,SE v w)\/((∀w∈R v,¬SE v w)/\∀w∈R v,∀w'∈R v,tl v w=tl v w')
 cyc:∀u∈U,Cyc (R u) (XL u++(Q u++(YL u++P u)))
 xl:∀u∈U,∀w∈XL u,¬SE u w/\tl u w=u
 yl:∀u∈U,∀w∈YL u,¬SE u w/\tl u w=pv U u
 q:∀u∈U,∀w∈Q u,SE u w
 p:∀u∈U,∀w∈P u,SE u w
 xne:∀u∈U,XL u≠[]
 yne:∀u∈U,YL u≠[]
noncomputable def tP(c:Prop)(l:II):II:=if c then l.reverse else l
theorem mem_revI{c:Prop}{l:II}{x:Nat}:x∈tP c l↔x∈l:=by grind[tP]
theorem ri(c:Prop)(l:II):(tP c l).Perm l:=by grind[tP]
theorem Me{c:Prop}{l:II}(h:l≠[]):tP c l≠[]:=fun e=>by have:=(ri c l).length_eq;grind
noncomputable def RJ(R:Nat->II)(U:II)(SE:Nat->Nat->Prop)(tl:Nat->Nat->Nat)(XL Q YL P:Nat->II)(J:Nat->Prop)(v:Nat):II:=
 if v∈U then tP (J v) (XL v)++(Q v++(tP (J (pv U v)) (YL v)++P v))
 else tP ((∃w∈R v,¬SE v w)/\J (tl v ((R v).headD 0))) (R v)
section
variable{n:Nat}{R:Nat->II}{U:II}{SE:Nat->Nat->Prop}{tl:Nat->Nat->Nat}{XL Q YL P:Nat->II}{J:Nat->Prop}
theorem XY.perm(B:XY n R U SE tl XL Q YL P)(J:Nat->Prop)(v:Nat):(RJ R U SE tl XL Q YL P J v).Perm (R v):=by
 unfold RJ;split
 .rename_i h;refine List.Perm.trans ?_ (B.cyc v h).perm.symm;grind[ri]
 grind[ri]
theorem XY.rotJ(B:XY n R U SE tl XL Q YL P)(J:Nat->Prop):V7 n (RJ R U SE tl XL Q YL P J):=by
 have a:∀{v w},w∈RJ R U SE tl XL Q YL P J v↔w∈R v:=by grind[XY.perm]
 exact⟨fun v=>(B.perm J v).nodup_iff.2 (B.Rl.nd v),fun v w h=>B.Rl.lt v w (a.1 h),fun v w h=>a.2 (B.Rl.sy v w (a.1 h)),fun v h=>B.Rl.ir v (a.1 h)⟩
def CN{l:II}(h:l≠[]):∃A x,l=A++[x]:=⟨l.dropLast,l.getLast h,(aoB h).symm⟩
theorem XY.step(B:XY n R U SE tl XL Q YL P){u:Nat}(d:u∈U)(G:¬J u):Flat n (RJ R U SE tl XL Q YL P (fun v=>J v\/v=u))↔Flat n (RJ R U SE tl XL Q YL P J):=by
 have hw:=ZP d;have f:=B.two u d;have k:pv U (nx U u)=u:=c7 B.nd d;have m:pv U u≠u:=by grind[aa3,XY.nd]
 have o:∀v∈U,v≠nx U u->pv U v≠u:=by grind[aa3,XY.nd]
 generalize nx U u=w at*;have H:∀{v z},z∈RJ R U SE tl XL Q YL P J v↔z∈R v:=by grind[XY.perm]
 have hR:∀v∈U,∀z,z∈R v↔z∈XL v\/z∈Q v\/z∈YL v\/z∈P v:=fun v r z=>by rw[(B.cyc v r).perm.mem_iff];grind
 have⟨A,x,I⟩:=CN (B.xne u d);have⟨C,y,K⟩:=CN (l:=Q u++(tP (J (pv U u)) (YL u)++P u)) (by grind[Me,XY.yne,append_eq_nil_iff]);have⟨s,x',t⟩:=CN (B.yne w hw);have⟨C',D,E⟩:=CN (l:=P w++(tP (J w) (XL w)++Q w)) (by grind[Me,XY.xne,append_eq_nil_iff]);have L:RJ R U SE tl XL Q YL P J u=XL u++(Q u++(tP (J (pv U u)) (YL u)++P u)):=by grind[RJ,tP]
 have F:Cyc (RJ R U SE tl XL Q YL P J w) (YL w++(P w++(tP (J w) (XL w)++Q w))):=by grind[RJ,tP,Cyc.refl,Cyc.shift]
 have T:Hh n (RJ R U SE tl XL Q YL P J) (fun a b=>b∈R a/\¬SE a b/\tl a b=u) u w A x C y s x' C' D:=by
  refine⟨B.rotJ J,fun a b h=>⟨B.Rl.sy _ _ h.1,fun q=>h.2.1 (B.ssym _ _ q),by rw[<-B.tsym a b h.1];exact h.2.2⟩,EH f,fun v M h2=>?_,?_,fun a ha=>?_,fun b hb=>?_,?_,fun a ha=>?_,fun b hb=>?_⟩
  .by_cases c:v∈U
   all_goals grind[XY.xl,XY.q,XY.yl,XY.p,XY.all]
  all_goals grind[Cyc.refl,XY.xl,XY.q,XY.yl,mem_revI,XY.p]
 rw[<-T.aps];refine pP.flat (fun v=>?_) (B.rotJ _);unfold Qu;by_cases c1:v=u
 .grind[RJ,tP,Cyc.refl]
 by_cases c2:v=w
 .grind[RJ,tP,Cyc.refl,Cyc.shift]
 by_cases g:v∈U
 .grind[RJ,XY.xl,XY.q,XY.yl,XY.p,Cyc.refl]
 .by_cases i:∃a∈RJ R U SE tl XL Q YL P J v,a∈R v/\¬SE v a/\tl v a=u
  .rw[abe i];have⟨z,_,N,hs,O⟩:=i;have j:tl v ((R v).headD 0)=u:=by grind[XY.all,Lt]
   have S:RJ R U SE tl XL Q YL P J v=R v:=by grind[RJ,tP]
   have V:RJ R U SE tl XL Q YL P (fun z=>J z\/z=u) v=(R v).reverse:=by unfold RJ tP;rw[abE g,abe hGr]
   grind[Cyc.refl]
  .have e:RJ R U SE tl XL Q YL P (fun z=>J z\/z=u) v=RJ R U SE tl XL Q YL P J v:=by
    unfold RJ;rw[abE g,abE g];congr 1;grind[Lt,XY.all]
   grind[Cyc.refl]
theorem RJ_congr{J K:Nat->Prop}(h:∀v,J v↔K v):RJ R U SE tl XL Q YL P J=RJ R U SE tl XL Q YL P K:=by have:J=K:=hGr;rw[this]
theorem XY.flatJ(B:XY n R U SE tl XL Q YL P)(hf:Flat n R):∀L:II,L.Nodup->(∀u∈L,u∈U)->Flat n (RJ R U SE tl XL Q YL P fun v=>v∈L)
 |[],_,_=>by refine(pP.flat (fun v=>?_) (B.rotJ _)).2 hf;grind[RJ,tP,XY.cyc,Cyc.symm,Cyc.refl]
 |u::L,nd,a=>by rw[VU]at nd;have b:=B.flatJ hf L nd.2 (by grind[mem_cons_of_mem]);rw[RJ_congr (K:=fun v=>v∈L\/v=u) fun v=>by grind];grind[XY.step,mem_cons_self]
noncomputable def Vp(R:Nat->II)(U:II)(SE:Nat->Nat->Prop)(XL Q YL P:Nat->II)(v:Nat):II:=if v∈U then XL v++((P v).reverse++(YL v++(Q v).reverse))else if∃w∈R v,¬SE v w then R v else(R v).reverse
theorem XY.Vp(B:XY n R U SE tl XL Q YL P)(hf:Flat n R)(b:∀v,v∉U->∀w∈R v,¬SE v w->tl v w∈U):pP (qI (RJ R U SE tl XL Q YL P fun v=>v∈U)) (Vp R U SE XL Q YL P)/\Flat n (Go.Fw.Vp R U SE XL Q YL P)/\V7 n (Go.Fw.Vp R U SE XL Q YL P):=by
 have a:=B.rotJ fun v=>v∈U;have S:pP (qI (RJ R U SE tl XL Q YL P fun v=>v∈U)) (Go.Fw.Vp R U SE XL Q YL P):=fun v=>by
  unfold qI Go.Fw.Vp RJ;by_cases c:v∈U
  .grind[tP,BJ,Cyc.refl,Cyc.shift]
  .rw[abE c,abE c];by_cases d:∃w∈R v,¬SE v w
   all_goals grind[XY.all,tP,reverse_reverse,Cyc.refl]
 refine⟨S,?_,S.Rl (Xn a)⟩;rw[<-S.flat (Xn a),mir_flat a];grind[XY.flatJ,XY.nd]
end
def afi:II->Nat->Nat->II
 |[],_,_=>[]
 |z::l,x,y=>if z=x then z::y::l else z::afi l x y
theorem Ch{p q:II}{x y:Nat}(h:x∉p):afi (p++x::q) x y=p++x::y::q:=by
 induction p<;>grind[afi.eq_2]
theorem sM{l:II}{x y:Nat}(nd:l.Nodup)(g:x∈l)(h:y∉l):
  (afi l x y).Nodup/\(∀z,z∈afi l x y↔z=y\/z∈l)/\(afi l x y).erase y=l/\nx (afi l x y) x=y/\nx (afi l x y) y=nx l x/\(afi l x y).length=l.length+1:=by
 obtain⟨p,q,rfl,d⟩:=sC g;rw[Ch d];have c:(p++x::y::q).Perm (y::(p++x::q)):=hGr;refine⟨by grind[nodup_cons],fun z=>by rw[c.mem_iff,Og],?_,Nu d,?_,hGr⟩
 .grind
 .have e:p++x::y::q=(p++[x])++y::q:=by simp
  grind[ZL]
noncomputable def EO(r:Nat->II)(f:II)(a b:Nat)(inn:II):Nat->II:=fun x=>
 if x=a then afi (r a) (pv f a) ((inn++[b]).headD 0)
 else if x=b then afi (r b) (pv f b) ((inn.reverse++[a]).headD 0)
 else if x∈inn then[pv (aaF a inn b) x,nx (aaF a inn b) x]
 else r x
theorem pv_adj{p rest:II}{v z:Nat}(nd:(p++v::z::rest).Nodup):pv (p++v::z::rest) z=v:=by grind[c7,Nu]
theorem aZ{L:II}(nd:L.Nodup){i x y:Nat}(c:L[i]?=Z x)(h2:L[i+1]?=Z y):nx L x=y/\pv L y=x:=by grind[ZN,Nu,pv_adj]
theorem ajt{p q:Nat}(h:p≠q):nx [p,q] p=q/\nx [p,q] q=p:=by refine⟨Nu (p:=[]) Ma,?_⟩;exact vB (p:=[]) (x:=p) (v:=q) hGr
section
variable{n:Nat}{r:Nat->II}{F:Cs}{f:II}{a b:Nat}{inn:II}
structure UN (n:Nat) (r:Nat->II) (f:II) (a b:Nat) (inn:II):Prop where
 ab:a≠b
 af:a∈f
 bf:b∈f
 nd:inn.Nodup
 off:∀x∈inn,r x=[]
 lt:∀x∈inn,x<n
 chord:inn=[]->b∉r a
theorem UN.ra(C:UN n r f a b inn)(O:FO r F)(hf:f∈F):r a≠[]/\r b≠[]:=⟨(fun h=>by have:=O.aei f hf a C.af;grind),(fun h=>by have:=O.aei f hf b C.bf;grind)⟩
theorem UN.ndP(C:UN n r f a b inn)(O:FO r F)(hf:f∈F):(aaF a inn b).Nodup:=by grind[UN.ra,aaF.eq_1,UN.off,UN.ab,UN.nd]
def UN.s_new(C:UN n r f a b inn)(R:V7 n r):(inn++[b]).headD 0∉r a:=by
 cases inn with
 |nil=>exact C.chord rfl
 |cons x l=>intro h;have:=R.sy _ _ h;rw[C.off _ Ma]at this;cases this
theorem UN.t_new(C:UN n r f a b inn)(R:V7 n r):(inn.reverse++[a]).headD 0∉r b:=by
 cases c:inn.reverse with
 |nil=>
  have:inn=[]:=by simpa using c
  exact fun h=>C.chord this (R.sy _ _ h)
 |cons x l=>intro h;have:=R.sy _ _ h;rw[C.off _ hGr]at this;cases this
theorem UN.lay(C:UN n r f a b inn)(R:V7 n r)(O:FO r F)(hf:f∈F):Lay n r (EO r f a b inn) a b inn/\
  nx (EO r f a b inn a) (pv f a)=(inn++[b]).headD 0/\nx (EO r f a b inn b) (pv f b)=(inn.reverse++[a]).headD 0/\nx f a=nx (EO r f a b inn a) ((inn++[b]).headD 0)/\nx f b=nx (EO r f a b inn b) ((inn.reverse++[a]).headD 0):=by
 have nP:=C.ndP O hf;have⟨ra,rb⟩:=C.ra O hf;have hs:=C.s_new R;have D:=C.t_new R;have pa:=O.akH R hf C.af;have pb:=O.akH R hf C.bf;have ea:EO r f a b inn a=afi (r a) (pv f a) ((inn++[b]).headD 0):=abe rfl;have eb:EO r f a b inn b=afi (r b) (pv f b) ((inn.reverse++[a]).headD 0):=by grind[EO,UN.ab]
 have ain:a∉inn:=by grind[UN.off]
 have bin:b∉inn:=by grind[UN.off]
 have E:∀x∈inn,EO r f a b inn x=[pv (aaF a inn b) x,nx (aaF a inn b) x]:=by grind[EO]
 have z:∀x,x≠a->x≠b->x∉inn->EO r f a b inn x=r x:=by grind[EO]
 have⟨J,K,L,M,N,_⟩:=sM (R.nd a) pa hs;have⟨P,G,Q,S,T,_⟩:=sM (R.nd b) pb D;have l:∀x∈inn,∃i p q:Nat,(aaF a inn b)[i]?=Z p/\(aaF a inn b)[i+1]?=Z x/\(aaF a inn b)[i+2]?=Z q:=fun x s=>by
  have⟨i,p,d,h2⟩:=qm (a:=a) (b:=b) (.inr s);have hi:i+2<(aaF a inn b).length:=by grind[Eo,Fg]
  grind
 have m:∀(i p x q:Nat),(aaF a inn b)[i]?=Z p->(aaF a inn b)[i+1]?=Z x->(aaF a inn b)[i+2]?=Z q->x∈inn/\p≠q/\EO r f a b inn x=[p,q]:=fun i p x q d h2 h3=>by
  have s:x∈inn:=by have e:aaF a inn b=a::(inn++[b]):=rfl;grind[mem_of_getElem?]
  refine⟨s,fun e=>?_,?_⟩
  .grind[afM]
  .rw[E x s,(aZ nP d h2).2,(aZ nP h2 h3).1]
 have g:∀(i p x q:Nat),(aaF a inn b)[i]?=Z p->(aaF a inn b)[i+1]?=Z x->(aaF a inn b)[i+2]?=Z q->nx (EO r f a b inn x) p=q/\nx (EO r f a b inn x) q=p/\∀y,y∈EO r f a b inn x↔y=p\/y=q:=fun i p x q d h2 h3=>by have⟨_,k,e⟩:=m i p x q d h2 h3;rw[e];exact⟨(ajt k).1,(ajt k).2,fun y=>by simp⟩
 have u:∀(i x y:Nat),(aaF a inn b)[i]?=Z x->(aaF a inn b)[i+1]?=Z y->y∈EO r f a b inn x/\x∈EO r f a b inn y:=fun i x y d h2=>by
  have H:=(Ny.1 h2).1;constructor
  .cases i with
   |zero=>grind[yT]
   |succ i=>
    have I:(aaF a inn b)[i]?=Z ((aaF a inn b)[i]'(by omega)):=qL7 NH
    exact((g i _ x y I d h2).2.2 y).2 (.inr rfl)
  .by_cases c:i+2<(aaF a inn b).length
   .exact((g i x y _ d h2 (qL7 c)).2.2 x).2 (.inl rfl)
   grind[Eo,Fg]
 have j:∀v w,w∈EO r f a b inn v->w∈r v\/∃i:Nat,((aaF a inn b)[i]?=Z v/\(aaF a inn b)[i+1]?=Z w)\/((aaF a inn b)[i]?=Z w/\(aaF a inn b)[i+1]?=Z v):=fun v w h=>by
  by_cases c1:v=a
  .grind[yT]
  by_cases c2:v=b
  .subst c2;rw[eb,G]at h;rcases h with h|h
   .obtain⟨U,V⟩:=Fg a v inn;grind
   grind
  by_cases o:v∈inn
  .obtain⟨i,p,q,d,h2,h3⟩:=l v o;rcases((g i p v q d h2 h3).2.2 w).1 h with e|e
   .exact .inr ⟨i,hGr⟩
   .exact .inr ⟨i+1,hGr⟩
  grind
 have A:∀v w,w∈r v->w∈EO r f a b inn v:=fun v w h=>by
  by_cases c1:v=a
  .grind
  by_cases c2:v=b
  .grind
  by_cases o:v∈inn
  .grind[UN.off]
  grind
 have B:∀(i x:Nat),(aaF a inn b)[i]?=Z x->x<n:=fun i x h=>by
  have t:=BS h;rw[aaF,Og,aax,xD]at t;rcases t with rfl|t|rfl
  .exact R.lt _ _ pa
  .exact C.lt x t
  .exact R.lt _ _ pb
 have R':V7 n (EO r f a b inn):=by
  refine⟨fun v=>?_,fun v w h=>?_,fun v w h=>?_,fun v h=>?_⟩
  .by_cases c1:v=a
   .grind
   by_cases c2:v=b
   .grind
   by_cases o:v∈inn
   .obtain⟨i,p,q,d,h2,h3⟩:=l v o;have⟨_,k,e⟩:=m i p v q d h2 h3;rw[e];simp[k]
   .rw[z v c1 c2 o];exact R.nd v
  .rcases j v w h with h|⟨i,⟨d,_⟩|⟨_,h2⟩⟩
   .exact R.lt _ _ h
   .grind
   grind
  .rcases j v w h with h|⟨i,⟨d,h2⟩|⟨d,h2⟩⟩
   .grind[V7.sy]
   .grind
   grind
  .rcases j v v h with h|⟨i,⟨d,h2⟩|⟨d,h2⟩⟩
   .exact R.ir v h
   .grind[afM]
   grind[afM]
 refine⟨⟨R,R',C.ab,ra,rb,C.nd,C.off,z,hGr,hGr,hGr,hGr,g⟩,hGr,hGr,?_,?_⟩
 .grind[FO.pv,UN.af]
 grind[FO.pv,UN.bf]
end
def Vj(l:II)(x y:Nat):Prop:=∃i:Nat,l[i]?=Z x/\l[i+1]?=Z y
def Ay(a:Nat)(inn:II)(b:Nat)(x y:Nat):Prop:=Vj (aaF a inn b) x y\/Vj (aaF a inn b) y x
theorem R8{l:II}{x y:Nat}:Vj l.reverse x y↔Vj l y x:=by grind[Vj,reverse_reverse]
theorem Ef{a b:Nat}{inn:II}{x y:Nat}(h:Ay a inn b x y):Ay a inn b y x:=h.symm
theorem Ha{a b:Nat}{inn:II}{x y:Nat}:Ay b inn.reverse a x y↔Ay a inn b x y:=by grind[Ay,Ec,R8]
theorem Za{l:II}(nd:l.Nodup){p q:Nat->Prop}{s:Nat}(c:¬p s)(h:∀y∈l,q y↔p y\/y=s):(l.filter fun y=>decide (q y)).erase s=l.filter fun y=>decide (p y):=by rw[(nd.sublist EP).erase_eq_filter,anm];grind[filter_congr]
structure Ka (R:Nat->II) (H:Nat->Nat->Prop) (a:Nat) (inn:II) (b:Nat):Prop where
 nd:(aaF a inn b).Nodup
 UQ:∀(i x y:Nat),(aaF a inn b)[i]?=Z x->(aaF a inn b)[i+1]?=Z y->y∈R x/\¬H x y
 off:∀x∈inn,∀w∈R x,¬H x w
 ona:∃w∈R a,H a w
 onb:∃w∈R b,H b w
section
variable{n:Nat}{R:Nat->II}{H:Nat->Nat->Prop}{a b:Nat}{inn:II}
theorem Ka.rev(W:Ka R H a inn b)(e:V7 n R)(hs:∀v w,H v w->H w v):Ka R H b inn.reverse a:=by refine⟨by grind[Ec,Ka.nd],fun i x y f h2=>?_,(by grind[Ka.off]),W.onb,W.ona⟩;have:Vj (aaF a inn b).reverse x y:=⟨i,by grind[Ec],by grind[Ec]⟩;have⟨j,c,d⟩:=R8.1 this;have⟨k1,k2⟩:=W.UQ j y x c d;grind[V7.sy]
theorem Ka.ab(W:Ka R H a inn b):a≠b:=fun e=>by have:=W.nd;grind[aaF.eq_1]
theorem Ka.wE(W:Ka R H a inn b)(d:V7 n R)(hs:∀v w,H v w->H w v){x y:Nat}(h:Ay a inn b x y):y∈R x/\¬H x y:=by
 rcases h with⟨i,c,h2⟩|⟨i,c,h2⟩
 .grind[Ka.UQ]
 .obtain⟨k1,k2⟩:=W.UQ i y x c h2;grind[V7.sy]
theorem dC{x y:Nat}(h:Ay a inn b x y):x=a\/x=b\/x∈inn:=by
 have:x∈aaF a inn b:=by
  rcases h with⟨i,c,_⟩|⟨i,_,h2⟩
  all_goals grind
 grind[aaF.eq_1]
theorem Ka.Fp(W:Ka R H a inn b){y:Nat}:Ay a inn b a y↔y=(inn++[b]).headD 0:=by
 have⟨c,d⟩:=yT a b inn;constructor
 .rintro(⟨i,e,h2⟩|⟨i,e,h2⟩)
  all_goals grind[afM,Ka.nd]
 .rintro rfl;exact .inl ⟨0,c,d⟩
theorem Ka.wE_b(W:Ka R H a inn b)(c:V7 n R)(hs:∀v w,H v w->H w v){y:Nat}:Ay a inn b b y↔y=(inn.reverse++[a]).headD 0:=by rw[<-Ha];exact(W.rev c hs).Fp
theorem ZZ{l:II}{p q:Nat}(nd:l.Nodup)(c:p≠q)(h:∀y,y∈l↔y=p\/y=q):nx l p=q/\nx l q=p:=by
 have pm:l.Perm [p,q]:=by grind[yR]
 have d:=pm.length_eq
 match l,d with
 |[x,y],_=>grind[ajt]
noncomputable def Jt(R:Nat->II)(H:Nat->Nat->Prop)(a:Nat)(inn:II)(b:Nat):Nat->II:=Om (fun x y=>H x y\/Ay a inn b x y) R
theorem Ka.lay(W:Ka R H a inn b)(d:V7 n R)(hs:∀v w,H v w->H w v):Lay n (Om H R) (Jt R H a inn b) a b inn:=by
 have f:∀v w,(H v w\/Ay a inn b v w)->H w v\/Ay a inn b w v:=by grind[Ef]
 have c:∀{v:Nat},(∃w∈R v,H v w)->Om H R v≠[]:=fun{v} ⟨w,g,h2⟩ e=>by
  have:w∈Om H R v:=by grind[EM]
  grind
 have ends:∀{a b:Nat}{inn:II}(_:Ka R H a inn b),(Jt R H a inn b a).erase ((inn++[b]).headD 0)=Om H R a/\(inn++[b]).headD 0∈Jt R H a inn b a:=fun{a b inn} W=>by have⟨k1,k2⟩:=W.wE d hs (W.Fp.2 rfl);refine⟨Za (d.nd a) k2 (by grind[Ka.Fp]),?_⟩;exact EM.2 (by grind[Ka.Fp])
 have r:Jt R H b inn.reverse a=Jt R H a inn b:=by grind[Jt,Ha]
 have⟨a1,a2⟩:=ends W;have⟨k,l⟩:=ends (W.rev d hs);rw[r]at k l;refine⟨OG d hs,OG d f,W.ab,c W.ona,c W.onb,?_,fun x m=>?_,fun x g h2 h3=>?_,a1,a2,k,l,fun i p x q g h2 h3=>?_⟩
 .have:=W.nd;grind[aaF.eq_1]
 .exact qL72.2 (by grind[Ka.off])
 .refine Uz fun y _=>?_;grind[dC]
 .have m:x∈inn:=by grind[aaF]
  have h:p≠q:=by grind[afM,Ka.nd]
  have o:∀y,y∈Jt R H a inn b x↔y=p\/y=q:=fun y=>by
   unfold Jt;rw[EM];constructor
   .rintro⟨k1,k2⟩;rcases k2.resolve_left (W.off x m y k1)with⟨j,s,t⟩|⟨j,s,t⟩
    all_goals grind[afM,Ka.nd]
   .rintro(rfl|rfl)
    .have:Ay a inn b x y:=.inr ⟨i,g,h2⟩;grind[Ka.wE]
    .have:Ay a inn b x y:=.inl ⟨i+1,h2,h3⟩;grind[Ka.wE]
  have⟨k1,k2⟩:=ZZ ((OG d f).nd x) h o;exact⟨k1,k2,o⟩
theorem Ka.Ui(W:Ka R H a inn b):Jt R H a inn b a=(R a).filter fun y=>decide (H a y\/y=(inn++[b]).headD 0):=by refine Uz fun y _=>?_;grind[Ka.Fp]
end
structure Ctx (n:Nat) (R:Nat->II) (H:Nat->Nat->Prop) (F:Cs):Prop where
 Rl:V7 n R
 sym:∀v w,H v w->H w v
 fl:Flat n R
 O:FO (Om H R) F
 bp:∀v w,Om H R v≠[]->Om H R w≠[]->Cr (Om H R) v w
noncomputable def cl(R:Nat->II)(H:Nat->Nat->Prop)(u x:Nat):II:=(R u).filter fun w=>decide (H u w\/w=x)
noncomputable def cl2(R:Nat->II)(H:Nat->Nat->Prop)(u x y:Nat):II:=(R u).filter fun w=>decide ((H u w\/w=x)\/w=y)
structure WQ (R:Nat->II) (H:Nat->Nat->Prop) (g:II) (u x:Nat):Prop where
 ug:u∈g
 at_:nx (cl R H u x) (pv g u)=x
section
variable{n:Nat}{R:Nat->II}{H:Nat->Nat->Prop}{F:Cs}{a b:Nat}{inn:II}
theorem Ka.fst(W:Ka R H a inn b)(c:V7 n R)(hs:∀v w,H v w->H w v):(inn++[b]).headD 0∈R a/\¬H a ((inn++[b]).headD 0):=W.wE c hs (W.Fp.2 rfl)
theorem Ka.lst(W:Ka R H a inn b)(c:V7 n R)(hs:∀v w,H v w->H w v):(inn.reverse++[a]).headD 0∈R b/\¬H b ((inn.reverse++[a]).headD 0):=(W.rev c hs).fst c hs
theorem Ctx.drawn(C:Ctx n R H F)(W:Ka R H a inn b):∃f∈F,WQ R H f a ((inn++[b]).headD 0)/\WQ R H f b ((inn.reverse++[a]).headD 0)/\
  nx f a=nx (Jt R H a inn b a) ((inn++[b]).headD 0)/\nx f b=nx (Jt R H a inn b b) ((inn.reverse++[a]).headD 0):=by
 have L:=W.lay C.Rl C.sym;have c:Flat n (Jt R H a inn b):=C.fl.keep C.Rl fun v w h=>h.imp (C.sym v w) Ef;have⟨f,hf,d,h2,h3,i,e,g⟩:=L.EI C.O c (C.bp _ _ L.ra L.rb);have j:Jt R H a inn b b=cl R H b ((inn.reverse++[a]).headD 0):=by refine Uz fun y _=>?_;rw[ai7];exact or_congr Iff.rfl (W.wE_b C.Rl C.sym)
 exact⟨f,hf,⟨d,by grind[cl.eq_1,Ka.Ui]⟩,⟨h2,hGr⟩,e,g⟩
theorem Ctx.HT(C:Ctx n R H F){g:II}(hg:g∈F){u x:Nat}(c:u∈g):pv g u∈cl R H u x/\H u (pv g u):=by have:=C.O.akH (OG C.Rl C.sym) hg c;grind[EM,cl]
theorem Ctx.YQ(C:Ctx n R H F){g d:II}(hg:g∈F)(c:d∈F){u x:Nat}(h:WQ R H g u x)(h':WQ R H d u x):g=d:=by have⟨f,j,_⟩:=C.O.pv hg h.ug;have⟨i,k,_⟩:=C.O.pv c h'.ug;have e:=C9 ((C.Rl.nd u).sublist EP) (C.HT hg h.ug).1 (C.HT c h'.ug).1 (h.at_.trans h'.at_.symm);exact C.O.uniq g hg d c (pv g u) f (e▸i) hGr
theorem Ctx.nocross(C:Ctx n R H F){g:II}(hg:g∈F){u j k x y:Nat}{c d A B:II}(I:Ka R H u c j)(E:Ka R H u d k)(Q:(c++[j]).headD 0=x)(U:(d++[k]).headD 0=y)(TE:∀v∈c,v∉d)(V:x≠y)(W:WQ R H g u x)(o1:nx (cl2 R H u x y) x=y)(cy:Cyc g ((u::A)++(j::B))):k∈A\/k=j:=by
 have o:=C.Rl;have hs:=C.sym;have S:=I.lay o hs;have⟨f,hf,c1,c2,d1,d2⟩:=C.drawn I;rw[Q]at c1;have:=C.YQ hf hg c1 W;subst this;have er:Jt R H u c j j=cl R H j ((c.reverse++[u]).headD 0):=by refine Uz fun y _=>?_;grind[Ka.wE_b]
 have G:=S.gY C.O hf cy (by rw[I.Ui,Q];exact c1.at_) (by grind[WQ.at_]) d1 d2;have r:∀v w,(H v w\/Ay u c j v w)->H w v\/Ay u c j w v:=by grind[Ef]
 have J:∀{v:Nat},(∃w∈R v,H v w)->v∉c/\v∉d:=by grind[Ka.off]
 have K:∀p q,Ay u c j p q->¬Ay u d k p q:=fun p q m h2=>by
  have n2:∀{p:Nat},p=u\/p=k\/p∈d->p∉c:=by grind[Ka.ona,Ka.onb]
  have m1:=(dC m);have m2:=(dC (Ef m));grind[dC,Ef,Ka.Fp,V7.ir,Ka.wE]
 have s:Ka R (fun v w=>H v w\/Ay u c j v w) u d k:=by
  refine⟨E.nd,fun i p q m h2=>⟨by grind[Ka.UQ],fun h=>h.elim (E.UQ i p q m h2).2 fun h=>K p q h (.inl ⟨i,m,h2⟩)⟩,fun v X w hw h=>h.elim (E.off v X w hw) fun h=>?_,?_,?_⟩
  all_goals grind[dC,Ka.ona,Ka.onb]
 have L2:=s.lay o r;have t:Flat n (Jt R (fun v w=>H v w\/Ay u c j v w) u d k):=C.fl.keep o (by grind[Ef]);have z:Cr (Om (fun v w=>H v w\/Ay u c j v w) R) u k:=by
  have h0:Cr (Om H R) u k:=by
   have⟨w,m,h2⟩:=E.onb;refine C.bp _ _ S.ra fun e=>?_;have:w∈Om H R k:=by grind[EM]
   grind
  grind[Cr.mono,EM]
 have⟨L,D,T,e2,e3,_⟩:=L2.EI G t z;have M:Jt R (fun v w=>H v w\/Ay u c j v w) u d k u=cl2 R H u x y:=by rw[s.Ui];refine Uz fun w _=>?_;grind[Ka.Fp]
 rw[M,U]at e3;have aa:(cl2 R H u x y).Nodup:=(o.nd u).sublist EP;have ae:x∈cl2 R H u x y:=by grind[cl2,Ka.fst]
 have ag:pv L u∈cl2 R H u x y:=by have:=G.akH (OG o r) D T;grind[EM,cl2,Ka.Fp]
 have N:pv L u=x:=by grind[C9]
 have⟨p1,p2,_⟩:=G.pv D T;rw[N]at p1 p2;have ai:=G.nd _ (Hs (a:=half u A j c));have P:x∈half u A j c/\nx (half u A j c) x=u:=by
  rcases ah1 c.reverse with e|⟨l,q,e⟩
  .grind[half,vB]
  grind[half,vB]
 have ef:L=half u A j c:=by grind[FO.uniq,mem_cons_self]
 grind[half,Ka.ab,Ka.onb]
end
theorem cr_path{r:Nat->II}{a b:Nat}(h:Cr r a b):∃l:II,l.Nodup/\(∃t,l=a::t)/\(∃s,l=s++[b])/\(∀(i x y:Nat),l[i]?=Z x->l[i+1]?=Z y->y∈r x)/\∀v∈l,Cr r a v:=by
 induction h with
 |refl=>exact⟨[a],Ma,⟨[],rfl⟩,⟨[],rfl⟩,hGr,fun v d=>by rw[xD.1 d];exact .refl _⟩
 |@step b c hb f g=>
  have⟨l,nd,⟨t,u⟩,⟨s,es⟩,ch,cr⟩:=g;by_cases m:c∈l
  .obtain⟨p,q,e,w⟩:=sC m;have e':l=(p++[c])++q:=by rw[e];simp
   refine⟨p++[c],?_,?_,⟨p,rfl⟩,fun i x y j h2=>?_,hGr⟩
   .grind
   .cases p<;>grind
   .refine ch i x y ?_ ?_
    all_goals grind
  .refine⟨l++[c],?_,hGr,⟨l,rfl⟩,fun i x y j h2=>?_,fun v d=>?_⟩
   .grind
   .by_cases k:i+1<l.length
    .grind
    .have o:=(Ny.1 h2).1;rw[Eh,vY]at o;have hi:i+1=l.length:=NH;rw[hi,AE (qL0 _)]at h2;grind
   .rcases aax.1 d with h|h
    .exact cr v h
    .rw[xD.1 h];exact hb.step f
def off(R:Nat->II)(H:Nat->Nat->Prop)(v:Nat):Prop:=∀w∈R v,¬H v w
theorem Q7{R:Nat->II}{H:Nat->Nat->Prop}{v:Nat}(h:¬off R H v):∃w∈R v,H v w:=ZT fun q=>h fun w a h2=>q ⟨w,a,h2⟩
noncomputable def Mm(R:Nat->II)(H:Nat->Nat->Prop):Nat->II:=Om (fun v w=>off R H v/\off R H w) R
noncomputable def lo(R:Nat->II)(H:Nat->Nat->Prop)(v:Nat):Nat:=Classical.epsilon fun w=>Cr (Mm R H) v w
noncomputable def QI(R:Nat->II)(H:Nat->Nat->Prop)(v w:Nat):Nat×Nat×Nat:=if off R H v then(0,lo R H v,0)else if off R H w then(0,lo R H w,0)else(1,min v w,max v w)
section
variable{n:Nat}{R:Nat->II}{H:Nat->Nat->Prop}
theorem QM(a:V7 n R):V7 n (Mm R H):=OG a hGr
def yc(v:Nat):Cr (Mm R H) v (lo R H v):=Classical.epsilon_spec (p:=fun w=>Cr (Mm R H) v w) ⟨v,.refl _⟩
theorem fX(a:V7 n R){v w:Nat}:lo R H v=lo R H w↔Cr (Mm R H) v w:=by
 constructor
 .intro e;have b:=yc (R:=R) (H:=H) v;have h2:=yc (R:=R) (H:=H) w;rw[e]at b;exact b.trans (h2.symm (QM a))
 .intro h;unfold lo;congr 1;funext z;exact propext ⟨fun q=>(h.symm (QM a)).trans q,fun q=>h.trans q⟩
theorem M6{v w:Nat}(h:off R H v):QI R H v w=(0,lo R H v,0):=abe h
theorem Jn{v w:Nat}(h:¬off R H v)(h2:off R H w):QI R H v w=(0,lo R H w,0):=by grind[QI]
theorem rj{v w:Nat}(h:¬off R H v)(h2:¬off R H w):QI R H v w=(1,min v w,max v w):=by grind[QI]
theorem RX(a:V7 n R){v w:Nat}(hw:w∈R v):QI R H v w=QI R H w v:=by
 by_cases c1:off R H v
 .by_cases c2:off R H w
  .rw[M6 c1,M6 c2,(fX a).2];exact(Cr.refl _).step (EM.2 ⟨hw,c1,c2⟩)
  grind[M6,Jn]
 grind[off,M6,Jn,rj]
theorem ZW(B:V7 n R)(hs:∀v w,H v w->H w v){u x z y:Nat}(d:¬off R H u)(f:¬off R H z)(h:u≠z)(C:x∈R u)(j:¬H u x)(D:y∈R z)(ny:¬H z y)(b:QI R H u x=QI R H z y):
  ∃inn,Ka R H u inn z/\(inn++[z]).headD 0=x/\(inn.reverse++[u]).headD 0=y/\∀v∈inn,off R H v/\QI R H u x=(0,lo R H v,0):=by
 by_cases c1:off R H x
 .rw[Jn d c1]at b;have c2:off R H y:=by grind[rj]
  rw[Jn f c2]at b;have m:Cr (Mm R H) x y:=by grind[fX]
  have⟨l,nd,⟨t,o⟩,⟨s,es⟩,ch,cr⟩:=cr_path m;have a:∀v∈l,off R H v:=fun v g=>by
   cases cr v g with
   |refl=>exact c1
   |step _ hw=>exact(EM.1 hw).2.2
  refine⟨l,⟨?_,fun i p q c h2=>?_,fun v g=>a v g,Q7 d,Q7 f⟩,by rw[o];rfl,by rw[es];simp,(by grind[Jn,fX])⟩
  .grind[aaF.eq_1]
  .have r:=(Ny.1 h2).1;rw[Eo]at r;cases i with
   |zero=>grind[yT]
   |succ i=>
    have e:aaF u l z=u::(l++[z]):=rfl;rw[e,amJ]at c h2;rw[si NH]at c;have A:=a p (BS c);by_cases k:i+1<l.length
    .rw[si k]at h2;have:=EM.1 (ch i p q c h2);exact⟨this.1,A q this.1⟩
    .grind[length_append,V7.sy]
 .rw[rj d c1]at b;have c2:¬off R H y:=by grind[Jn]
  rw[rj f c2]at b;injection b with _ b;injection b with c h2;have:z=x/\y=u:=NH;obtain⟨rfl,rfl⟩:=this;refine⟨[],⟨by grind[aaF],fun i p q c h2=>?_,hGr,Q7 d,Q7 f⟩,rfl,rfl,hGr⟩;grind[Eo,yT]
end
end
end Go.Fw
