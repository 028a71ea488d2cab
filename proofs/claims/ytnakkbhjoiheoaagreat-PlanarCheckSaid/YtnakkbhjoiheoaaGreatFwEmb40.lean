/- A text. -/
import Derived.Test.YtnakkbhjoiheoaaGreatFwEmb21
set_option linter.all false
set_option maxRecDepth 99999
set_option maxHeartbeats 9999999
open Option renaming some→Z
open List renaming range→rG
namespace Go.Fw
section
attribute [local instance] Classical.propDecidable
def jJ(R:Nat->II)(H:Nat->Nat->Prop)(v w x y:Nat):Prop:=(v=x/\w=y)\/(v=y/\w=x)\/∃a b,(a=v\/a=w)/\(b=x\/b=y)/\off R H a/\off R H b/\Cr (Mm R H) a b
section
variable{n:Nat}{R:Nat->II}{H H':Nat->Nat->Prop}
def IV(d:V7 n R){v w a:Nat}(hw:w∈R v)(ha:a=v\/a=w)(c:off R H a):QI R H v w=(0,lo R H a,0):=by
 rcases ha with rfl|rfl
 .exact M6 c
 .rw[RX d hw];exact M6 c
theorem Uu(f:V7 n R){v w x y:Nat}(hw:w∈R v)(i:y∈R x):QI R H v w=QI R H x y↔jJ R H v w x y:=by
 constructor
 .intro e;have d:∀{v w:Nat},(∃a,(a=v\/a=w)/\off R H a)\/(¬off R H v/\¬off R H w):=fun{v w}=>by
   by_cases c1:off R H v
   .exact hGr
   by_cases c2:off R H w
   .exact hGr
   .exact .inr ⟨c1,c2⟩
  rcases d (v:=v) (w:=w)with⟨a,ha,h⟩|⟨c1,c2⟩
  .rw[IV f hw ha h]at e;rcases d (v:=x) (w:=y)with⟨b,hb,g⟩|⟨j,k⟩
   .rw[IV f i hb g]at e;have l:lo R H a=lo R H b:=by injection e with _ e;injection e
    exact .inr (.inr ⟨a,b,ha,hb,h,g,(fX f).1 l⟩)
   .rw[rj j k]at e;have:=congrArg Prod.fst e;simp at this
  .rw[rj c1 c2]at e;rcases d (v:=x) (w:=y)with⟨b,hb,g⟩|⟨j,k⟩
   .rw[IV f i hb g]at e;have:=congrArg Prod.fst e;simp at this
   .rw[rj j k]at e;injection e with _ e;injection e with l m;by_cases q:v=x
    .exact .inl ⟨q,NH⟩
    .exact .inr hGr
 .rintro(⟨rfl,rfl⟩|⟨rfl,rfl⟩|⟨a,b,ha,hb,h,g,c⟩)
  .rfl
  .exact RX f hw
  .rw[IV f hw ha h,IV f i hb g,(fX f).2 c]
theorem abI(c:∀x y,H x y->H' x y){v:Nat}(h:off R H' v):off R H v:=fun w hw q=>h w hw (c _ _ q)
theorem uf(c:∀x y,H x y->H' x y){v w:Nat}(h:w∈Mm R H' v):w∈Mm R H v:=by obtain⟨d,h2,h3⟩:=EM.1 h;exact EM.2 (by grind[abI])
theorem jJ.mono(d:∀x y,H x y->H' x y){v w x y:Nat}(h:jJ R H' v w x y):jJ R H v w x y:=by
 rcases h with h|h|⟨a,b,ha,hb,e,f,c⟩
 .exact .inl h
 .exact .inr (.inl h)
 .exact .inr (.inr ⟨a,b,ha,hb,abI d e,abI d f,c.mono fun v w=>uf d⟩)
theorem jJ.symm(d:V7 n R){v w x y:Nat}(h:jJ R H v w x y):jJ R H x y v w:=by
 rcases h with⟨e,h2⟩|⟨e,h2⟩|⟨a,b,ha,hb,f,g,c⟩
 .exact .inl hGr
 .exact .inr hGr
 .exact .inr (.inr ⟨b,a,hb,ha,g,f,c.symm (QM d)⟩)
variable{a b:Nat}{inn:II}
abbrev XZ(H:Nat->Nat->Prop)(a:Nat)(inn:II)(b:Nat):Nat->Nat->Prop:=fun x y=>H x y\/Ay a inn b x y
def wayH_sub{x y:Nat}(h:H x y):XZ H a inn b x y:=.inl h
theorem Ka.chain(W:Ka R H a inn b):∀(i x y:Nat),inn[0]?=Z x->inn[i]?=Z y->Cr (Mm R H) x y
 |0,x,y,c,h2=>by rw[c]at h2;injection h2 with h2;subst h2;exact .refl _
 |i+1,x,y,c,h2=>by
  have l:=(Ny.1 h2).1;have d:inn[i]?=Z (inn[i]'(by omega)):=XJ NH
  have h:=W.chain i x _ c d;have g:∀(j z:Nat),inn[j]?=Z z->(nr a inn b)[j+1]?=Z z:=fun j z f=>by have k:=(Ny.1 f).1;show(a::(inn++[b]))[j+1]?=Z z;rw[CG,iy k];exact f
  have e:=W.UQ (i+1) _ _ (g i _ d) (g (i+1) _ h2);exact h.step (EM.2 ⟨e.1,W.off _ (BS d),W.off _ (BS h2)⟩)
def Ka.QC(W:Ka R H a inn b)(d:V7 n R)(hs:∀v w,H v w->H w v){v:Nat}(f:v∈inn):QI R H a ((inn++[b]).headD 0)=(0,lo R H v,0):=by
 cases hi:inn with
 |nil=>rw[hi]at f;cases f
 |cons c t=>
  have h:c∈inn:=by rw[hi];simp
  have e:((c::t++[b]):II).headD 0=c:=rfl;rw[e];have j:c∈R a:=by have:=(W.fst d hs).1;rw[hi]at this;exact this
  rw[IV d j (.inr rfl) (W.off c h)];obtain⟨i,g⟩:=vZ.1 f;rw[(fX d).2 (W.chain i c v (by rw[hi];rfl) g)]
theorem Ka.PW(W:Ka R H a inn b)(c:V7 n R)(hs:∀v w,H v w->H w v){x y:Nat}(h:Ay a inn b x y):QI R H x y=QI R H a ((inn++[b]).headD 0):=by
 have d:=W.wE c hs h;by_cases f:x∈inn
 .rw[W.QC c hs f];exact IV c d.1 (.inl rfl) (W.off x f)
 by_cases cy:y∈inn
 .rw[W.QC c hs cy];exact IV c d.1 (.inr rfl) (W.off y cy)
 have g:=dC h;have i:=dC (Ef h);have ne:x≠y:=by grind[V7.ir]
 rcases g with rfl|rfl|g
 .rw[W.Fp.1 h]
 .have e:=d.1;rcases i with rfl|rfl|i
  .rw[RX c e];exact(by grind[Ka.Fp,Ef])
  .exact absurd rfl ne
  .exact absurd i cy
 .exact absurd g f
theorem ahV(W:Ka R H a inn b)(k:V7 n R){v:Nat}:off R (XZ H a inn b) v↔off R H v/\v∉inn:=by
 constructor
 .intro h;refine⟨by grind[abI],fun f=>?_⟩;obtain⟨i,p,g,j⟩:=qm (a:=a) (b:=b) (.inr f);exact h p (by grind[V7.sy,Ka.UQ]) (.inr (.inr ⟨i,g,j⟩))
 .rintro⟨c,h2⟩ w hw (q|q)
  .exact c w hw q
  .rcases dC q with rfl|rfl|q
   .obtain⟨z,d,e⟩:=W.ona;exact c z d e
   .obtain⟨z,d,e⟩:=W.onb;exact c z d e
   .exact h2 q
theorem jJ.keep(W:Ka R H a inn b)(f:V7 n R)(hs:∀v w,H v w->H w v){v w x y:Nat}(hw:w∈R v)(m:QI R H v w≠QI R H a ((inn++[b]).headD 0))(h:jJ R H v w x y):jJ R (XZ H a inn b) v w x y:=by
 rcases h with h|h|⟨c,d,j,hd,k,s,q⟩
 .exact .inl h
 .exact .inr (.inl h)
 have g:∀z,Cr (Mm R H) c z->z∉inn:=fun z i o=>m (by rw[IV f hw j k,W.QC f hs o,(fX f).2 i]);have main:∀z,Cr (Mm R H) c z->off R (XZ H a inn b) z->Cr (Mm R (XZ H a inn b)) c z:=fun z i=>by
  induction i with
  |refl=>exact fun _=>.refl _
  |@step y z t h2 p=>
   intro r;obtain⟨m1,m2,_⟩:=EM.1 h2;have l:off R (XZ H a inn b) y:=by grind[ahV]
   exact(p l).step (EM.2 ⟨m1,l,r⟩)
 have e:off R (XZ H a inn b) d:=by grind[ahV]
 exact .inr (.inr ⟨c,d,j,hd,(ahV W f).2 ⟨k,g _ (.refl _)⟩,e,main d q e⟩)
end
section
variable{n:Nat}{R:Nat->II}{H:Nat->Nat->Prop}{F G:Cs}
theorem feet_two(a:V7 n R)(hs:∀v w,H v w->H w v)(D:QG R)(h2:∃p q,p≠q/\¬off R H p/\¬off R H q):
  (∀u x,QP R H u x->∃z y,QP R H z y/\u≠z/\QI R H u x=QI R H z y)/\∀v w,w∈R v->¬H v w->∃u x,QP R H u x/\QI R H v w=QI R H u x:=by
 obtain⟨p,q,s,m,I⟩:=h2;have g:∀{v w},w∈R v->R v≠[]:=hGr;have A:∀{v},¬off R H v->R v≠[]:=by grind[Q7]
 have mk:∀{r:Nat->II}{v w:Nat},(∀v w,w∈r v->w∈R v)->Cr r v w->off R H v->¬off R H w->∃u x,QP R H u x/\QI R H u x=(0,lo R H v,0)/\x∈R u/\u∈r x:=fun{r v w} sub i B hw=>by
  rcases tq a sub i B with h|⟨y,z,j,h2,h3,d⟩
  .exact absurd h.2 hw
  .have o:=a.sy _ _ (sub _ _ d);exact⟨z,y,⟨h3,o,fun k=>h2 z (sub _ _ d) (hs _ _ k)⟩,by rw[Jn h3 h2,(fX a).2 j],o,d⟩
 refine⟨fun u x f=>?_,fun v w hw C=>?_⟩
 .by_cases c:off R H x
  .have:∃t,t≠u/\¬off R H t:=by
    by_cases e:p=u
    .exact hGr
    .exact⟨p,e,m⟩
   obtain⟨t,E,b⟩:=this;have l:x≠u:=by grind[QP.on]
   have i:=D.Z7 u x t l E (g (a.sy _ _ f.mem)) (A b);obtain⟨z,y,j,h2,_,d⟩:=mk (by grind[EM]) i c b;exact(by grind[EM,Jn,QP.on])
  .exact⟨x,u,⟨c,a.sy _ _ f.mem,(by grind[QP.nh])⟩,fun e=>a.ir u (e▸f.mem),RX a f.mem⟩
 .by_cases c:off R H v
  .obtain⟨z,y,j,h2,_⟩:=mk (fun _ _ h=>h) (by grind[QG.bp]) c m;exact(by grind[M6])
  .exact⟨v,w,⟨c,hw,C⟩,rfl⟩
theorem abK.perm(g:abK n R F)(h:F.Perm G):abK n R G:=⟨g.Rl,g.O.perm h,g.bp,by have:=g.num;unfold Num at this ⊢;rw[<-h.length_eq];exact this,(by grind[abK.ne,List.Perm.eq_nil])⟩
theorem Ctx.perm(C:Ctx n R H F)(h:F.Perm G):Ctx n R H G:=⟨C.Rl,C.sym,C.fl,C.O.perm h,C.bp⟩
theorem PU.perm{E:Nat->II}(I:PU n E H F)(h:F.Perm G):PU n E H G:=⟨I.sub,by obtain⟨r,g,a⟩:=I.XK;exact⟨r,g.perm h,a⟩,fun q=>by obtain⟨R,b,h2⟩:=I.full q;exact⟨R,b,h2.perm h⟩⟩
def PU.sym{E:Nat->II}(I:PU n E H F):∀v w,H v w->H w v:=fun v w h=>by obtain⟨r,g,a⟩:=I.XK;exact(a _ _).1 (g.Rl.sy _ _ ((a _ _).2 h))
def PU.on_face{E:Nat->II}(I:PU n E H F){f:II}(hf:f∈F){u:Nat}(b:u∈f):¬off E H u:=fun q=>by obtain⟨r,g,c⟩:=I.XK;have a:=(c _ _).1 (g.O.df g.Rl hf b);exact q _ (I.sub _ _ a) a
def PU.O0{E:Nat->II}(I:PU n E H F){f:II}(hf:f∈F):f.Nodup/\∀u∈f,u<n:=by obtain⟨r,g,b⟩:=I.XK;exact⟨g.O.nd f hf,fun u a=>g.Rl.lt _ _ (g.O.df g.Rl hf a)⟩
theorem PU.nodup{E:Nat->II}(I:PU n E H F):F.Nodup:=by obtain⟨r,g,a⟩:=I.XK;exact g.O.nodup
end
section
variable{n:Nat}{r E:Nat->II}
def V7.nil_at(R:V7 n r){v:Nat}(h:n<=v):r v=[]:=by
 rcases a:r v with _|⟨w,l⟩
 .rfl
 .have:=R.lt v w (by rw[a];simp);omega
theorem adV(R:V7 n r):Flat (n+1) r↔Flat n r:=by
 have e:=R.nil_at (qL0 n);have hd:dl (n+1) r=dl n r:=by unfold dl;rw[rY,qL194];simp[e]
 have hf:mj (n+1) r=mj n r+1:=by unfold mj;rw[hd,rY,Db,aaf];simp[e];omega
 have a:iJ (n+1) r=iJ n r+1:=by
  have R':V7 (n+1) r:=⟨R.nd,fun v w h=>ajP (R.lt v w h),R.sy,R.ir⟩;unfold iJ;rw[rY,Yy (qL231 (l₁:=rG n) (l₂:=[n])) (Cr.eqv R' _)];rw[qL184,cls,yM];rintro⟨y,b,h⟩;have:∀y,Cr r n y->y=n:=fun y h=>by
   induction h with
   |refl=>rfl
   |step _ h c=>rw[c,e]at h;cases h
  have:=this y h;simp at b;omega
 unfold Flat;rw[hd,hf,a];omega
theorem XU.more(h:∀v w,w∈E v->v<n):XU (n+1) E↔XU n E:=by
 constructor
 .rintro⟨R,a,fl,c⟩;have b:V7 n R:=⟨a.nd,hGr,a.sy,a.ir⟩;exact⟨R,b,(adV b).1 fl,c⟩
 .rintro⟨R,a,fl,c⟩;exact⟨R,⟨a.nd,(by grind[V7.lt]),a.sy,a.ir⟩,(adV a).2 fl,c⟩
theorem XU.mores(h:∀v w,w∈E v->v<n)(k:Nat):XU (n+k) E↔XU n E:=by
 induction k with
 |zero=>rfl
 |succ k a=>exact(by grind[XU.more])
end
def aar(r s:Nat->II)(v:Nat):II:=r v++s v
structure abC (n:Nat) (r s:Nat->II) (S:Nat->Prop):Prop where
 rr:V7 n r
 rs:V7 n s
 on:∀v w,w∈s v->S v
 ap:∀x y,S x->S y->x≠y->¬Cr r x y
section
variable{n:Nat}{r s:Nat->II}{S:Nat->Prop}
theorem abC.TE(H:abC n r s S){v w:Nat}(h:w∈s v):w∉r v:=fun k=>H.ap v w (H.on _ _ h) (H.on _ _ (H.rs.sy _ _ h)) (fun e=>H.rs.ir v hGr) (Cr.one k)
def aaT{v w:Nat}:w∈aar r s v↔w∈r v\/w∈s v:=aax
theorem abC.Rl(H:abC n r s S):V7 n (aar r s):=by
 refine⟨fun v=>?_,fun v w h=>?_,fun v w h=>?_,fun v h=>?_⟩
 .unfold aar;rw[jf];exact⟨H.rr.nd v,H.rs.nd v,fun a ha b hb e=>H.TE hb (e▸ha)⟩
 .exact(aaT.1 h).elim (H.rr.lt v w) (H.rs.lt v w)
 .exact aaT.2 ((aaT.1 h).imp (H.rr.sy v w) (H.rs.sy v w))
 .exact(aaT.1 h).elim (H.rr.ir v) (H.rs.ir v)
theorem abC.same(H:abC n r s S){x y:Nat}(a:S x)(b:S y)(c:Cr r x y):x=y:=Hs fun e=>H.ap x y a b e c
theorem abC.cr(H:abC n r s S){v w:Nat}(d:S v)(hw:S w)(c:Cr (aar r s) v w):Cr s v w:=by
 have:∀z,Cr (aar r s) v z->∃t,S t/\Cr s v t/\Cr r t z:=fun z c=>by
  induction c with
  |refl=>exact⟨v,d,.refl _,.refl _⟩
  |@step b c _ e f=>
   obtain⟨t,a,h2,h3⟩:=f;rcases aaT.1 e with e|e
   .exact⟨t,a,h2,.step h3 e⟩
   .obtain rfl:=H.same a (H.on _ _ e) h3;exact⟨c,H.on _ _ (H.rs.sy _ _ e),.step h2 e,.refl _⟩
 grind[abC.same]
theorem afW{l:II}(h:l≠[])(d:Nat):l.headD d∈l:=by
 cases l<;>grind
theorem abC.EI(H:abC n r s S){d e:H8}(hd:d.2∈s d.1)(A:e.2∈s e.1)(o:WD (Nv (aar r s)) d e):WD (Nv s) d e:=by
 have key:∀k,((it (Nv (aar r s)) k d).2∈s (it (Nv (aar r s)) k d).1/\WD (Nv s) d (it (Nv (aar r s)) k d))\/((it (Nv (aar r s)) k d).2∈r (it (Nv (aar r s)) k d).1/\∃v,s v≠[]/\Cr r v (it (Nv (aar r s)) k d).1/\WD (Nv s) d (v,(s v).headD 0)):=by
  intro k
  induction k with
  |zero=>exact .inl ⟨hd,WD.refl _ _⟩
  |succ k z=>
   show((Nv (aar r s) (it (Nv (aar r s)) k d)).2∈_/\_)\/_;rw[show it (Nv (aar r s)) (k+1) d=Nv (aar r s) (it (Nv (aar r s)) k d)from rfl];generalize it (Nv (aar r s)) k d=x at*;obtain⟨u,v⟩:=x;simp only at z;rcases z with⟨j,h2⟩|⟨j,t,h2,h3,B⟩
   .have f:=H.rs.sy _ _ j;obtain⟨a,b,hs,m⟩:=sC f;have C:u∉r v:=H.TE f;have g:nx (aar r s v) u=(b++(r v++a++[u])).headD 0:=by grind[aar,ZL]
    have p:nx (s v) u=(b++(a++[u])).headD 0:=by grind[ZL]
    have i:nx (s v) u∈s v:=ZP f;have F:WD (Nv s) d (v,nx (s v) u):=h2.trans (WD.one (Nv s) (u,v));by_cases c:b=[]/\r v≠[]
    .obtain⟨rfl,G⟩:=c;have e3:nx (aar r s v) u=(r v).headD 0:=by
      rw[g];cases D:r v<;>grind
     have e4:nx (s v) u=(s v).headD 0:=hGr;refine .inr ⟨?_,v,?_,.refl _,hGr⟩
     .show nx (aar r s v) u∈r v;grind[afW]
     grind
    .have e3:nx (aar r s v) u=nx (s v) u:=by
      rw[g,p];cases b<;>grind
     grind[Nv]
   .have f:=H.rr.sy _ _ j;obtain⟨a,b,hs,m⟩:=sC f;have g:nx (aar r s v) u=(b++s v++(a++[u])).headD 0:=by grind[aar,ZL]
    have p:nx (r v) u=(b++(a++[u])).headD 0:=by grind[ZL]
    have i:nx (r v) u∈r v:=ZP f;have y:Cr r t v:=.step h3 j;by_cases c:b=[]/\s v≠[]
    .obtain⟨rfl,E⟩:=c;have e3:nx (aar r s v) u=(s v).headD 0:=by
      rw[g];cases D:s v<;>grind
     have st:∀{v},s v≠[]->S v:=fun{v} q=>by obtain⟨w,l,e⟩:=eR q;exact H.on v w (by rw[e];simp)
     grind[abC.same,Nv,afW]
    .have e3:nx (aar r s v) u=nx (r v) u:=by
      rw[g,p];cases b<;>grind
     right;show nx (aar r s v) u∈r v/\_;rw[e3];exact⟨i,t,h2,y,B⟩
 obtain⟨k,rfl⟩:=o;rcases key k with h|h
 .exact h.2
 .exact absurd h.1 (H.TE A)
theorem abC.less(H:abC n r s S){v w:Nat}(h:w∈s v):del (aar r s) v w=aar r (del s v w):=by
 have b:=H.TE h;have h2:=H.TE (H.rs.sy _ _ h);have a:v≠w:=fun e=>H.rs.ir v hGr;funext x;show _=r x++del s v w x;by_cases c1:x=v
 .subst c1;rw[OE,OE];exact qL216 _ b
 by_cases c2:x=w
 .subst c2;rw[u9 _ a,u9 _ a];exact qL216 _ h2
 .rw[ab1 _ c1 c2,ab1 _ c1 c2];rfl
theorem ags:∀(m:Nat)(s:Nat->II),abC n r s S->(dl n s).length=m->Flat n r->Flat n s->Flat n (aar r s):=by
 intro m
 induction m using Nat.strongRecOn with
 |_ m g=>
  intro s H t fr h;cases hh:dl n s with
  |nil=>
   have:aar r s=r:=by funext v;unfold aar;rw[qe H.rs hh v,ai4]
   grind
  |cons d l=>obtain⟨v,w⟩:=d;have hw:w∈s v:=(IP (d:=(v,w)) H.rs).1 (by rw[hh];simp);have a:v≠w:=fun e=>H.rs.ir v hGr;have i:=(yH H.rs hw).length_eq;simp only[ah6]at i;obtain⟨j,k⟩:=Lq H.rs hw h;have f:abC n r (del s v w) S:=⟨H.rr,afL H.rs a,fun x y q=>H.on x y ((JF H.rs a).1 q).1,H.ap⟩;have F:=g _ NH _ f rfl fr j;have p:=H.on _ _ hw;have b:=H.on _ _ (H.rs.sy _ _ hw);refine abG H.Rl (aaT.2 (.inr hw)) (by grind[abC.less]) ⟨fun o c=>?_,fun c=>jh H.Rl (aaT.2 (.inr hw)) c⟩;rw[H.less hw]at c;exact k.1 (H.EI hw (H.rs.sy _ _ hw) o) (f.cr p b c)
theorem abC.flat(H:abC n r s S)(fr:Flat n r)(a:Flat n s):Flat n (aar r s):=ags _ s H rfl fr a
end
theorem ab3{n:Nat}{r:Nat->II}(R:V7 n r)(F:Flat n r){u v w:Nat}(t:v∈r u)(hw:nx (r u) v=w)(z:v≠w)(l:w∉r v):∃q,V7 n q/\Flat n q/\∀x y,y∈q x↔y∈r x\/(x=v/\y=w)\/(x=w/\y=v):=by
 have g:w∈r u:=by grind[ZP]
 have f:=R.sy _ _ t;have i:=R.sy _ _ g;have A:u≠v:=fun e=>R.ir u hGr;have B:u≠w:=fun e=>R.ir u hGr;have C:v∉r w:=fun h=>l (R.sy _ _ h);obtain⟨a,b,ev,H⟩:=sC f;obtain⟨c,d,D,I⟩:=sC i
 let q:Nat->II:=fun x=>if x=v then a++w::u::b else if x=w then c++u::v::d else r x
 have J:q v=a++w::u::b:=IE rfl;have E:q w=c++u::v::d:=hGr;have G:∀x,x≠v->x≠w->q x=r x:=fun x m h2=>by grind
 have mem:∀x y,y∈q x↔y∈r x\/(x=v/\y=w)\/(x=w/\y=v):=fun x y=>by grind
 have Q:V7 n q:=by
  refine⟨fun x=>?_,fun x y h=>?_,fun x y h=>?_,fun x h=>?_⟩
  .by_cases m:x=v
   .subst m;have nd:=R.nd x;grind
   by_cases h2:x=w
   .subst h2;have nd:=R.nd x;rw[D]at nd;have:v∉c++u::d:=hGr;rw[E];have p:(c++u::v::d).Perm (v::(c++u::d)):=by
     have:(c++u::v::d)=(c++[u])++v::d:=by simp
     rw[this];refine List.perm_middle.trans ?_;simp
    grind
   .rw[G x m h2];exact R.nd x
  .rcases(mem x y).1 h with h|⟨rfl,rfl⟩|⟨rfl,rfl⟩
   .exact R.lt x y h
   .exact R.lt _ _ f
   .exact R.lt _ _ i
  .grind[V7.sy]
  grind[V7.ir]
 have j:w∈q v:=(mem v w).2 (.inr (.inl ⟨rfl,rfl⟩));have dl:del q v w=r:=by funext x;grind[OE,u9,ab1]
 have tri:∀k,it (Nv q) k (w,v)=(w,v)\/it (Nv q) k (w,v)=(v,u)\/it (Nv q) k (w,v)=(u,w):=by
  have s1:Nv q (w,v)=(v,u):=by grind[Nv,ZL]
  have s2:Nv q (v,u)=(u,w):=by grind[Nv]
  have K:Nv q (u,w)=(w,v):=by grind[Nv,ZL]
  intro k
  induction k<;>grind[it]
 refine⟨q,Q,abG Q j hGr ⟨fun o=>?_,fun h=>?_⟩,mem⟩
 .obtain⟨k,L⟩:=(aaG Q).adK ((IP (d:=(v,w)) Q).2 j) o;grind
 .rw[dl]at h;exact absurd ((Cr.one f).trans (Cr.one g)) h
def aae(n:Nat)(A:Nat->Nat->Prop):Prop:=∃R,V7 n R/\Flat n R/\∀v w,w∈R v↔A v w
section
variable{n:Nat}{A B:Nat->Nat->Prop}
theorem aae.sy(h:aae n A){v w:Nat}(q:A v w):A w v:=by obtain⟨R,r,-,m⟩:=h;grind[V7.sy]
theorem aae.ir(h:aae n A)(v:Nat):¬A v v:=fun q=>by obtain⟨R,r,-,m⟩:=h;grind[V7.ir]
theorem aae.congr(h:aae n A)(k:∀v w,A v w↔B v w):aae n B:=by obtain⟨R,r,f,m⟩:=h;exact⟨R,r,f,fun v w=>by rw[m,k]⟩
theorem aae.less(h:aae n A)(k:∀v w,B v w->A v w)(sy:∀v w,B v w->B w v):aae n B:=by obtain⟨R,r,f,m⟩:=h;exact⟨Om B R,OG r sy,f.keep r sy,fun v w=>by grind[EM]⟩
def agK(A:Nat->Nat->Prop)(x b v w:Nat):Prop:=A v w\/(v=x/\w=b)\/(v=b/\w=x)
end
variable {n:Nat}
def Ren.flip{p q:Nat->Nat}(N:Ren n p q):Ren n q p:=⟨N.ql,N.pl,N.qp,N.pq⟩
theorem cr_iso{r:Nat->II}{x y:Nat}(h:∀t,t∉r x)(c:Cr r x y):x=y:=by
 induction c<;>grind
section
variable{n:Nat}{E:Nat->II}
end
def upR(A:Nat->Nat->Prop)(a b v x y:Nat):Prop:=(A x y/\¬(x=a/\y=b)/\¬(x=b/\y=a))\/(x=v/\(y=a\/y=b))\/(y=v/\(x=a\/x=b))
noncomputable def lst(n:Nat)(A:Nat->Nat->Prop)(v:Nat):II:=(rG n).filter fun w=>decide (A v w)
theorem aaD{n:Nat}{A:Nat->Nat->Prop}(lt:∀v w,A v w->w<n){v w:Nat}:w∈lst n A v↔A v w:=by grind[lst]
def aej{n:Nat}{A:Nat->Nat->Prop}(lt:∀v w,A v w->w<n)(sy:∀v w,A v w->A w v)(ir:∀v,¬A v v):V7 n (lst n A):=⟨fun v=>AQ.filter _,fun v w h=>lt w v (sy v w ((aaD lt).1 h)),fun v w h=>(aaD lt).2 (sy v w ((aaD lt).1 h)),fun v h=>ir v ((aaD lt).1 h)⟩
section
variable{n:Nat}{A:Nat->Nat->Prop}
theorem aae.aac(P:aae n A){v a:Nat}(iso:∀w,¬A v w)(o:v<n)(an:a<n)(ne:v≠a):aae n fun x y=>A x y\/(x=v/\y=a)\/(x=a/\y=v):=by
 have sy:=fun v w=>P.sy (v:=v) (w:=w);obtain⟨R,r,f,m⟩:=P;have i:R v=[]:=ff.2 fun w h=>iso w ((m v w).1 h);have nv:∀x,v∉R x:=fun x h=>iso x (sy _ _ ((m x v).1 h))
 let q:Nat->II:=fun x=>if x=v then[a]else if x=a then R a++[v]else R x
 have j:q v=[a]:=IE rfl;have k:q a=R a++[v]:=hGr;have l:∀x,x≠v->x≠a->q x=R x:=fun x b h2=>by grind
 have mem:∀x y,y∈q x↔y∈R x\/(x=v/\y=a)\/(x=a/\y=v):=fun x y=>by grind
 have Q:V7 n q:=by
  refine⟨fun x=>?_,fun x y h=>?_,fun x y h=>?_,fun x h=>?_⟩
  .by_cases b:x=v
   .grind
   by_cases h2:x=a
   .subst h2;rw[k];have:=r.nd x;grind
   .rw[l x b h2];exact r.nd x
  .rcases(mem x y).1 h with h|⟨h,-⟩|⟨h,-⟩
   .exact r.lt x y h
   all_goals grind
  all_goals grind[V7.ir]
 have d:a∈q v:=by rw[j];simp
 have dl:del q v a=R:=by grind[OE,u9,ab1]
 have e:¬Cr (del q v a) v a:=fun c=>ne (cr_iso (fun t g=>by rw[dl,i]at g;simp at g) c);refine⟨q,Q,abG Q d hGr ⟨fun _=>e,fun _=>jh Q d e⟩,fun x y=>?_⟩;rw[mem,m]
theorem aae.up(P:aae n A){v a b:Nat}(ab:A a b)(iso:∀w,¬A v w)(c:v<n):aae n (upR A a b v):=by obtain⟨R,r,f,m⟩:=P;have S:aan n R a b v:=⟨r,(m _ _).2 ab,ff.2 fun w h=>iso w ((m v w).1 h),c⟩;exact⟨aap R a b v,S.aff,S.flat.2 f,fun x y=>by rw[S.mem,m];rfl⟩
theorem aae.ear(P:aae n A){v a b:Nat}(ab:A a b)(iso:∀w,¬A v w)(d:v<n):aae n fun x y=>A x y\/(x=v/\(y=a\/y=b))\/(y=v/\(x=a\/x=b)):=by
 have sy:=fun v w=>P.sy (v:=v) (w:=w);have ir:=P.ir;have nab:a≠b:=fun e=>ir b (e▸ab:A b b);have nva:v≠a:=fun e=>iso b (e▸ab);have nvb:v≠b:=fun e=>iso a (e▸sy _ _ ab);obtain⟨q,Q,F,i⟩:=P.up ab iso d;have c:∀y,y∈q v↔y=a\/y=b:=fun y=>by grind[upR]
 have f:nx (q v) a=b:=by
  have g:=ZP ((c a).2 (.inl rfl));rcases(c _).1 g with h|h
  .have:=(Bk (Q.nd v) ((c a).2 (.inl rfl))).1 h;have h2:=(c b).2 (.inr rfl);grind
  .exact h
 have nb:b∉q a:=fun h=>by grind[upR]
 obtain⟨s,T,G,ms⟩:=ab3 Q F ((c a).2 (.inl rfl)) f nab nb;refine⟨s,T,G,fun x y=>?_⟩;grind[upR]
def agx(h3:3<=n)(h:∀v w,¬A v w):aae n A:=by have G:=dP (n:=n) (l:=[0,1,2]) Ma Ma (by simp;omega);exact aae.less (A:=fun v w=>w∈gH [0,1,2] v) ⟨_,G.Rl,G.flat,fun _ _=>Iff.rfl⟩ (fun v w q=>absurd q (h v w)) fun v w q=>absurd q (h v w)
end
def afa(f g:Nat->Nat):∀X:II,(∀v∈X,f v<=g v)->(X.map f).sum<=(X.map g).sum/\((∃v∈X,f v<g v)->(X.map f).sum<(X.map g).sum)
 |[],_=>⟨qL0 _,fun⟨v,h,_⟩=>by simp at h⟩
 |x::X,h=>by
  obtain⟨b,h2⟩:=afa f g X fun v a=>h v (ZT _ a);have c:=h x abV;simp only[Lm,V9];refine⟨NH,fun⟨v,a,q⟩=>?_⟩;rcases Og.1 a with rfl|a
  .omega
  .have:=h2 ⟨v,a,q⟩;omega
theorem afg(f:Nat->Nat):∀(M X:II),M.Nodup->(∀v∈M,v∈X)->(M.map f).sum<=(X.map f).sum
 |[],_,_,_=>abe _
 |x::M,X,nd,h=>by have p:=(List.perm_cons_erase (h x abV)).map f;have:=afg f M (X.erase x) (jz.1 nd).2 fun v a=>(akN hGr).2 (h v (ZT _ a));rw[Lm]at p;have e:=p.sum_nat;simp only[Lm,V9]at e ⊢;omega
def afH{L M:II}(nd:M.Nodup)(h:∀w∈M,w∈L)(b:L.length<=M.length){x:Nat}(a:x∈L):x∈M:=Hs fun no=>by
 have:=tf (A:=x::M) (B:=L) (jz.2 ⟨no,nd⟩) fun w hw=>by
  rcases Og.1 hw with rfl|hw
  .exact a
  .exact h w hw
 simp only[ah6]at this;omega
def agF{p q r s t:Nat}(nd:[p,q,r,s,t].Nodup):[p,q,s,t].Nodup/\[p,q,r,t].Nodup/\[p,q,r,s].Nodup/\[p,q,r,t,s].Nodup/\[p,q,s,t,r].Nodup:=by simp only[jz,Og,Qn,or_false,not_or]at nd ⊢;simp only[not_false_eq_true,qL230,and_true]at nd ⊢;omega
section
variable{n:Nat}{A:Nat->Nat->Prop}
theorem aae.deg3(P:aae n A){b p q r:Nat}(hb:∀w,A b w↔w=p\/w=q\/w=r)(pq:p≠q)(pr:p≠r)(qr:q≠r):aae n (agK A p q):=by
 by_cases h:A p q
 .refine P.congr fun v w=>⟨.inl,?_⟩;rintro(k|⟨rfl,rfl⟩|⟨rfl,rfl⟩)
  .exact k
  .exact h
  .exact P.sy h
 have h':¬A q p:=fun k=>h (P.sy k);obtain⟨R,o,f,m⟩:=P;have mb:∀w,w∈R b↔w=p\/w=q\/w=r:=fun w=>by rw[m,hb]
 have a:(R b).Perm [p,q,r]:=yR (o.nd b) hGr fun w=>by rw[mb];grind
 have key:nx (R b) p=q\/nx (R b) q=p:=by
  have nd:=o.nd b;have c:=a.length_eq;have m1:=(mb p).2 Ma;have m2:=(mb q).2 Ma;generalize R b=l at*
  match l,c with
  |[x,y,z],_=>
   clear mb a c;simp only[Og,Qn,or_false]at m1 m2;simp only[jz,Og,Qn,or_false,not_or]at nd;obtain⟨⟨n1,d⟩,n3,-⟩:=nd;have e:=j3 n1;have g:=j3 d;have i:=j3 n3
   rcases m1 with rfl|rfl|rfl<;>rcases m2 with rfl|rfl|rfl<;>first|exact absurd rfl pq|simp_all [nx,nxF]
 rcases key with k|k
 .obtain⟨s,T,G,ms⟩:=ab3 o f ((mb p).2 (.inl rfl)) k pq (by rw[m];exact h);exact⟨s,T,G,fun v w=>by rw[ms,m];rfl⟩
 .obtain⟨s,T,G,ms⟩:=ab3 o f ((mb q).2 (.inr (.inl rfl))) k pq.symm (by rw[m];exact h');exact⟨s,T,G,fun v w=>by rw[ms,m];grind[agK]⟩
theorem ae1{a b c d:Nat}(h3:3<=n)(nd:[a,b,c,d].Nodup)(lt:∀v∈[a,b,c,d],v<n):aae n fun v w=>v∈[a,b,c,d]/\w∈[a,b,c,d]/\v≠w:=by
 have e:=agx (n:=n) (A:=fun _ _=>False) h3 fun _ _ q=>q;have f:=e.aac (v:=b) (a:=a) hGr (lt b Ma) (lt a Ma) hGr;have g:=f.aac (v:=c) (a:=a) hGr (lt c Ma) (lt a Ma) hGr;have i:=g.aac (v:=d) (a:=a) hGr (lt d Ma) (lt a Ma) hGr;have j:=i.deg3 (b:=a) (p:=b) (q:=c) (r:=d) hGr hGr hGr hGr;have k:=j.deg3 (b:=a) (p:=c) (q:=d) (r:=b) (by grind[agK]) hGr hGr hGr;have l:=k.deg3 (b:=a) (p:=b) (q:=d) (r:=c) (by grind[agK]) hGr hGr hGr;refine l.less (fun v w ⟨m,h2,o⟩=>?_) fun v w h=>⟨h.2.1,h.1,h.2.2.symm⟩;simp only[Og,Qn,or_false]at m h2;clear e f g i j k l nd lt h3
 rcases m with rfl|rfl|rfl|rfl<;>rcases h2 with rfl|rfl|rfl|rfl<;>first|exact absurd rfl o|simp[agK]
theorem acP{p q r s t:Nat}(h3:3<=n)(nd:[p,q,r,s,t].Nodup)(lt:∀v∈[p,q,r,s,t],v<n)(sy:∀v w,A v w->A w v)(hA:∀v w,A v w->v∈[p,q,r,s,t]/\w∈[p,q,r,s,t]/\v≠w)(n1:¬A p q)(i:¬A r s):aae n A:=by have e:=ae1 (a:=t) (b:=p) (c:=r) (d:=q) h3 hGr fun v j=>lt v hGr;have f:=e.up (a:=p) (b:=q) (v:=s) hGr hGr (lt s Ma);have g:=f.deg3 (b:=p) (p:=t) (q:=s) (r:=r) (by grind[upR]) hGr hGr hGr;exact g.less (fun v w h=>by have k:=hA v w h;have h2:=sy v w h;grind[agK,upR]) sy
noncomputable def szA(n:Nat)(A:Nat->Nat->Prop):Nat:=((rG n).map fun v=>(lst n A v).length).sum
theorem few_plan(h3:3<=n):∀(k:Nat)(A:Nat->Nat->Prop),szA n A=k->k<=16->(∀v w,A v w->w<n)->(∀v w,A v w->A w v)->(∀v,¬A v v)->aae n A:=by
 intro k
 induction k using Nat.strongRecOn with
 |_ k T=>
 intro A E ae lt sy ir;have R:=aej lt sy ir;have M:∀{v w},w∈lst n A v↔A v w:=aaD lt;by_cases o:∃v x,A v x/\∀w,A v w->w=x
 .obtain⟨v,x,g,U⟩:=o;have lB:∀a b,(A a b/\a≠v/\b≠v)->b<n:=fun a b q=>lt a b q.1;have ls:=(afa (fun u=>(lst n (fun a b=>A a b/\a≠v/\b≠v) u).length) (fun u=>(lst n A u).length) (rG n) fun u _=>tf ((aej lB hGr hGr).nd u) fun w hw=>M.2 ((aaD lB).1 hw).1).2
   ⟨v,K4.2 (lt x v (sy v x g)),by have e:lst n (fun a b=>A a b/\a≠v/\b≠v) v=[]:=ff.2 fun w hw=>((aaD lB).1 hw).2.1 rfl;rw[e];exact ag1 (M.2 g)⟩
  have P:=T _ (by rw[<-E];exact ls) (fun a b=>A a b/\a≠v/\b≠v) rfl (by unfold szA at E ⊢;omega) lB hGr hGr;exact(P.aac (v:=v) (a:=x) hGr (lt x v (sy v x g)) (lt v x g) hGr).congr fun a b=>by grind
 by_cases h2:∃v x y,x≠y/\A v x/\A v y/\∀w,A v w->w=x\/w=y
 .obtain⟨v,x,y,xy,g,J,U⟩:=h2;have vn:=lt x v (sy v x g);have ag:v≠x:=fun e=>ir v (by rw[<-e]at g;exact g);have ai:v≠y:=fun e=>ir v (by rw[<-e]at J;exact J);have lB:∀a b,((A a b/\a≠v/\b≠v)\/(a=x/\b=y)\/(a=y/\b=x))->b<n:=fun a b q=>by
   rcases q with q|⟨-,rfl⟩|⟨-,rfl⟩
   .exact lt a b q.1
   .exact lt _ _ J
   .exact lt _ _ g
  have rB:=aej lB hGr hGr;have K:∀{a b},b∈lst n _ a↔_:=fun{a b}=>aaD lB (v:=a) (w:=b);have ls:=(afa (fun u=>(lst n (fun a b=>(A a b/\a≠v/\b≠v)\/(a=x/\b=y)\/(a=y/\b=x)) u).length) (fun u=>(lst n A u).length) (rG n) fun u _=>by
    by_cases ux:u=x
    .subst ux;have i:v∈lst n A u:=M.2 (sy _ _ g);have l1:=qL172 i;have l2:=ag1 i;have:=tf (rB.nd u) (B:=y::(lst n A u).erase v) fun w hw=>by
      rcases K.1 hw with q|q|q
      .exact ZT _ ((akN q.2.2).2 (M.2 q.1))
      .grind
      .grind
     simp only[ah6]at this;omega
    by_cases uy:u=y
    .subst uy;have i:v∈lst n A u:=M.2 (sy _ _ J);have l1:=qL172 i;have l2:=ag1 i;have:=tf (rB.nd u) (B:=x::(lst n A u).erase v) fun w hw=>by
      rcases K.1 hw with q|q|q
      .exact ZT _ ((akN q.2.2).2 (M.2 q.1))
      .grind
      .grind
     simp only[ah6]at this;omega
    .exact tf (rB.nd u) fun w hw=>M.2 (by rcases K.1 hw with q|q|q<;>grind)).2
   ⟨v,K4.2 vn,by
    have e:lst n (fun a b=>(A a b/\a≠v/\b≠v)\/(a=x/\b=y)\/(a=y/\b=x)) v=[]:=ff.2 fun w hw=>by
     rcases K.1 hw with q|q|q<;>grind
    rw[e];exact ag1 (M.2 g)⟩
  have P:=T _ (by rw[<-E];exact ls) (fun a b=>(A a b/\a≠v/\b≠v)\/(a=x/\b=y)\/(a=y/\b=x)) rfl (by unfold szA at E ⊢;omega) lB hGr hGr;refine(P.ear (a:=x) (b:=y) (v:=v) (.inr (.inl ⟨rfl,rfl⟩)) (fun w q=>by grind) vn).less (fun a b h=>?_) sy;by_cases F:a=v
  .subst F;exact .inr (.inl ⟨rfl,U b h⟩)
  by_cases N:b=v
  .subst N;exact .inr (.inr ⟨rfl,U a (sy _ _ h)⟩)
  exact .inl (.inl ⟨h,F,N⟩)
 have d3:∀v x,A v x->3<=(lst n A v).length:=fun v x g=>by
  have nd:=R.nd v;have m:=fun w=>M (v:=v) (w:=w);generalize lst n A v=l at*
  match l with
  |[]=>have:=(m x).2 g;simp at this
  |[a]=>exact absurd ⟨v,a,(m a).1 Ma,fun w hw=>by simpa using(m w).2 hw⟩ o
  |[a,b]=>exact absurd ⟨v,a,b,hGr,(m a).1 Ma,(m b).1 Ma,fun w hw=>by simpa using(m w).2 hw⟩ h2
  |_::_::_::_=>simp
 clear o h2 T;have sub:∀(L:II),L.Nodup->(∀v∈L,v<n)->(L.map fun v=>(lst n A v).length).sum<=16:=fun L nd hl=>EP (afg _ L (rG n) nd fun v i=>K4.2 (hl v i)) (by unfold szA at E;omega);by_cases h0:∃p x,A p x
 rotate_left
 .exact agx h3 fun v w q=>h0 ⟨v,w,q⟩
 obtain⟨f,x0,q0⟩:=h0;have G:∃p,(∃x,A p x)/\(lst n A p).length=3:=by
  refine Hs fun no=>?_;have d4:∀v x,A v x->4<=(lst n A v).length:=fun v x h=>by have:=d3 v x h;have:(lst n A v).length≠3:=fun e=>no ⟨v,⟨x,h⟩,e⟩;omega
  have l0:=d4 f x0 q0;have nd:=R.nd f;have m:=fun w=>M (v:=f) (w:=w);generalize lst n A f=l at*
  match l,l0 with
  |a::b::c::d::l,_=>
   have ha:=(m a).1 Ma;have hb:=(m b).1 Ma;have V:=(m c).1 Ma;have hd:=(m d).1 Ma;have s:=sub [f,a,b,c,d] (by
    have:=ir f;have n1:f≠a:=fun e=>this (e▸ha);have n2:f≠b:=fun e=>this (e▸hb);have n3:f≠c:=fun e=>this (e▸V);have n4:f≠d:=fun e=>this (e▸hd);grind) (by
    have:=lt _ _ (sy _ _ ha);have:=lt _ _ ha;have:=lt _ _ hb;have:=lt _ _ V;have:=lt _ _ hd;grind)
   have e0:=d4 f a ha;have F:=d4 a f (sy _ _ ha);have N:=d4 b f (sy _ _ hb);have e3:=d4 c f (sy _ _ V);have e4:=d4 d f (sy _ _ hd);simp only[Lm,akQ,V9,qL239]at s;omega
 clear f x0 q0;obtain⟨p,⟨x,px⟩,lp⟩:=G;have nd:=R.nd p;have m:=fun w=>M (v:=p) (w:=w);have dp:=d3 p x px;obtain⟨r,s,t,el⟩:∃r s t,lst n A p=[r,s,t]:=by
  generalize lst n A p=l at lp
  match l,lp with
  |[a,b,c],_=>exact⟨a,b,c,rfl⟩
 rw[el]at nd m;have pr:=(m r).1 Ma;have ps:=(m s).1 Ma;have O:=(m t).1 Ma;have z:=ir p;have n1:p≠r:=fun e=>z (e▸pr);have n2:p≠s:=fun e=>z (e▸ps);have n3:p≠t:=fun e=>z (e▸O);have W:[p,r,s,t].Nodup:=hGr;have X:∀v∈[p,r,s,t],v<n:=by have:=lt _ _ (sy _ _ pr);have:=lt _ _ pr;have:=lt _ _ ps;have:=lt _ _ O;grind
 by_cases H:∀v w,A v w->v∈[p,r,s,t]
 .exact(ae1 h3 W X).less (fun v w h=>⟨H v w h,H w v (sy v w h),fun e=>ir v (by rw[<-e]at h;exact h)⟩) sy
 obtain⟨q,Q⟩:=qL190.1 H;obtain⟨y,Q⟩:=qL190.1 Q;obtain⟨qy,nq⟩:=Classical.not_imp.1 Q;clear Q H;have pq:¬A p q:=fun k=>by have:=(m q).2 k;grind
 have j:[p,q,r,s,t].Nodup:=hGr;have C:∀v∈[p,q,r,s,t],v<n:=by have:=lt _ _ (sy _ _ qy);grind
 have h5:∀v w,A v w->v∈[p,q,r,s,t]:=fun v w h=>Hs fun nv=>by
  have s6:=sub [v,p,q,r,s,t] hGr (by have:=lt _ _ (sy _ _ h);grind);have e0:=d3 v w h;have F:=d3 p r pr;have N:=d3 q y qy;have e3:=d3 r p (sy _ _ pr);have e4:=d3 s p (sy _ _ ps);have e5:=d3 t p (sy _ _ O);simp only[Lm,akQ,V9,qL239]at s6;omega
 have hA:∀v w,A v w->v∈[p,q,r,s,t]/\w∈[p,q,r,s,t]/\v≠w:=fun v w h=>⟨h5 v w h,h5 w v (sy v w h),fun e=>ir v (by rw[<-e]at h;exact h)⟩;have aa:¬(A r s/\A s t/\A r t):=fun⟨k1,k2,k3⟩=>by
  have qd:=d3 q y qy;have q3:∀w,A q w->w=r\/w=s\/w=t:=fun w h=>by have:=(hA q w h).2;have:w≠p:=fun e=>pq (sy _ _ (e▸h));grind
  have qa:A q r/\A q s/\A q t:=by
   have D:=R.nd q;have S:=fun w=>M (v:=q) (w:=w);have o:∀w∈lst n A q,w∈[r,s,t]:=fun w hw=>by have:=q3 w ((S w).1 hw);simpa using this
   exact⟨(S r).1 (afH D o qd Ma),(S s).1 (afH D o qd Ma),(S t).1 (afH D o qd Ma)⟩
  obtain⟨i1,i2,i3,-⟩:=agF j;have s5:=sub [p,q,r,s,t] j C;have f4:∀v a b c d,[a,b,c,d].Nodup->A v a->A v b->A v c->A v d->4<=(lst n A v).length:=fun v a b c d hn o h2 h3 H=>by
   have:=tf (A:=[a,b,c,d]) (B:=lst n A v) hn fun w hw=>M.2 (by simp only[Og,Qn,or_false]at hw;rcases hw with rfl|rfl|rfl|rfl<;>assumption);simpa using this
  have F:=d3 p r pr;have e3:=f4 r p q s t i1 (sy _ _ pr) (sy _ _ qa.1) k1 k3;have e4:=f4 s p q r t i2 (sy _ _ ps) (sy _ _ qa.2.1) (sy _ _ k1) k2;have e5:=f4 t p q r s i3 (sy _ _ O) (sy _ _ qa.2.2) (sy _ _ k3) (sy _ _ k2);simp only[Lm,akQ,V9,qL239]at s5;omega
 obtain⟨-,-,-,i4,i5⟩:=agF j;have I:∀{a b c:Nat},(∀v,v=r\/v=s\/v=t↔v=a\/v=b\/v=c)->(∀v∈[p,q,a,b,c],v<n)/\∀v w,A v w->v∈[p,q,a,b,c]/\w∈[p,q,a,b,c]/\v≠w:=fun{a b c} h=>by
  have e:∀v,v∈[p,q,a,b,c]↔v∈[p,q,r,s,t]:=fun v=>by have:=h v;simp only[Og,Qn,or_false];omega
  exact⟨fun v i=>C v ((e v).1 i),fun v w k=>by rw[e,e];exact hA v w k⟩
 by_cases k1:A r s
 .by_cases k2:A s t
  .obtain⟨l1,l2⟩:=I (a:=r) (b:=t) (c:=s) fun v=>by omega
   exact acP (p:=p) (q:=q) (r:=r) (s:=t) (t:=s) h3 i4 l1 sy l2 pq fun k=>aa ⟨k1,k2,k⟩
  .obtain⟨l1,l2⟩:=I (a:=s) (b:=t) (c:=r) fun v=>by omega
   exact acP (p:=p) (q:=q) (r:=s) (s:=t) (t:=r) h3 i5 l1 sy l2 pq k2
 .exact acP (p:=p) (q:=q) (r:=r) (s:=s) (t:=t) h3 j C sy hA pq k1
end
end
end Go.Fw
