/- A text. -/
import Derived.Test.YtkccdnmaaelbiaaGreatFwEmb17
set_option linter.all false
set_option maxRecDepth 99999
set_option maxHeartbeats 9999999
namespace Go.Fw
section
attribute [local instance] Classical.propDecidable
section
variable{n:Nat}{R:Nat->II}{H:Nat->Nat->Prop}{F:Cs}{f g:II}{A B:Nat->II}{le:Nat->Nat->Nat}{hm:Nat×Nat×Nat->II}
theorem Mv.blobs(M:Mv n R H F f g A B le hm):∃j Q l P:Nat->II,XY n R (Ul f g) (SEf R H f g) (Sz R H le hm) j Q l P/\(∀u∈Ul f g,AtU R H f g A B le hm u (j u) (Q u) (l u) (P u))/\∀v,v∉Ul f g->∀w∈R v,¬SEf R H f g v w->Sz R H le hm v w∈Ul f g:=by
 have Cx:=M.P.C;have b:∀u:Nat,∃q:II×II×II×II,u∈Ul f g->AtU R H f g A B le hm u q.1 q.2.1 q.2.2.1 q.2.2.2:=fun u=>by
  by_cases h:u∈Ul f g
  .obtain⟨j,Q,l,P,k⟩:=M.atU h;exact⟨(j,Q,l,P),fun _=>k⟩
  simp_all
 obtain⟨W,r⟩:=ajE b;have a:∀v w,w∈R v->¬H v w->¬SK R H f g (QI R H v w)->Sz R H le hm v w∈Ul f g:=fun v w hw D s=>by obtain⟨u,x,m,i⟩:=M.P.one v w hw D;obtain⟨E,_,_,_,_⟩:=M.home u x m (i▸s);unfold Sz;rw[aal D,i];exact M.L.inU _ _ (M.T.O.bz _ E _ (Lt (M.T.O.ne _ E)))
 refine⟨fun u=>(W u).1,fun u=>(W u).2.1,fun u=>(W u).2.2.1,fun u=>(W u).2.2.2,⟨Cx.Rl,M.T.ndU,M.h2,fun v w h=>?_,fun v w hw=>?_,fun v o=>?_,(by grind[AtU.cyc]),(by grind[AtU.xl]),(by grind[AtU.yl]),(by grind[AtU.q]),(by grind[AtU.p]),fun u t e=>?_,fun u t e=>?_⟩,r,fun v o w hw s=>?_⟩
 .exact⟨Cx.Rl.sy _ _ h.1,fun q=>h.2.1 (Cx.sym _ _ q),by rw[<-RX Cx.Rl h.1];exact h.2.2⟩
 .unfold Sz;by_cases c:H v w
  .rw[AE c,AE (Cx.sym _ _ c)];exact M.L.sym v w (by grind[EM])
  .rw[aal c,aal fun q=>c (Cx.sym _ _ q),RX Cx.Rl hw]
 .by_cases c:off R H v
  .by_cases d:SK R H f g (0,lo R H v,0)
   .exact .inl fun w hw=>⟨hw,c w hw,by grind[M6]⟩
   .refine .inr ⟨fun w hw q=>d (by have:=q.2.2;grind[M6]),fun w hw w' y=>?_⟩;unfold Sz;rw[aal (c w hw),aal (c w' y),M6 c,M6 c]
  .have nS:∀w∈R v,¬SEf R H f g v w:=fun w hw q=>o (zq.2 ⟨q.2.2.1 v w ⟨c,hw,q.2.1⟩ rfl,q.2.2.2.1 v w ⟨c,hw,q.2.1⟩ rfl⟩);obtain⟨z,k1,k2⟩:=Q7 c;have i:z∈Om H R v:=by grind[EM]
   have all:∀w∈R v,Sz R H le hm v w=le v z:=fun w hw=>by
    by_cases d:H v w
    .unfold Sz;rw[AE d];exact M.L.same v o w z (by grind[EM]) i
    .have m:QP R H v w:=⟨c,hw,d⟩;exact M.tl_at m (fun q=>nS w hw ⟨hw,d,q⟩) m rfl o i
   grind
 .have:=(r u t).xh;simp_all
 .have:=(r u t).yh;simp_all
 .by_cases d:H v w
  .unfold Sz;rw[AE d];exact M.L.inU v w (by grind[EM])
  .exact a v w hw d fun q=>s ⟨hw,d,q⟩
theorem Pg.move(P:Pg n R H F)(alt:∀u x,QP R H u x->∃N∈F,∃h2∈F,N≠h2/\Fits R H (QI R H u x) N/\Fits R H (QI R H u x) h2)(hf:f∈F)(hg:g∈F)(E:f≠g){b x0:Nat}(D:QP R H b x0)(c0:WQ R H g b x0)(fit:Fits R H (QI R H b x0) f):
  ∃R',V7 n R'/\Flat n R'/\(∀v w,w∈R' v↔w∈R v)/\pP (Om H R') (Om H R)/\WQ R' H f b x0:=by
 have Cx:=P.C;have T:yx n (Om H R) F f g:=⟨OG Cx.Rl Cx.sym,Cx.O,Cx.fl.keep Cx.Rl Cx.sym,hf,hg,E,Cx.bp⟩;have s:Fits R H (QI R H b x0) g:=by obtain⟨h,hh,t⟩:=P.EI D;have e:=Cx.YQ hh hg (t b x0 D rfl) c0;subst e;exact fun z y i S=>by grind[WQ.ug]
 have j:b∈Ul f g:=zq.2 ⟨fit b x0 D rfl,s b x0 D rfl⟩;obtain⟨z,y,i,aB,S⟩:=P.two b x0 D;have aC:z∈Ul f g:=zq.2 ⟨fit z y i S.symm,s z y i S.symm⟩;have h2:∀u∈Ul f g,nx (Ul f g) u≠u:=by grind[Bk,yx.ndU]
 obtain⟨A,B,C⟩:=T.cutU;obtain⟨le,L⟩:=T.labE C h2 j;have key1:∀k:Nat×Nat×Nat,∃h:II,∀u x,QP R H u x->QI R H u x=k->¬SK R H f g k->h∈F/\h≠f/\h≠g/\Fits R H k h/\∀h'∈F,WQ R H h' u x->h'≠f->h'≠g->h'=h:=fun k=>by
  by_cases c:∃u x,QP R H u x/\QI R H u x=k/\¬SK R H f g k
  .obtain⟨u,x,U,rfl,V⟩:=c;obtain⟨h,hh,t⟩:=P.EI U;have ay:Fits R H (QI R H u x) h:=fun z y i S=>by grind[WQ.ug]
   by_cases d:h≠f/\h≠g
   .exact⟨h,(by grind[Ctx.YQ])⟩
   .have aD:h=f\/h=g:=pw;have aE:=t u x U rfl;have nb:¬(Fits R H (QI R H u x) f/\Fits R H (QI R H u x) g):=fun q=>V ⟨q.1,q.2,u,x,U,rfl,pw⟩;obtain⟨N,m1,aF,m2,az,f1,f2⟩:=alt u x U;have ex:∃h3∈F,h3≠f/\h3≠g/\Fits R H (QI R H u x) h3:=pw;obtain⟨h3,m3,a1,a2,f3⟩:=ex;refine⟨h3,fun u' x' aH aJ _=>⟨m3,a1,a2,f3,fun h' aK aP b1 b2=>?_⟩⟩;grind[Ctx.YQ]
  .exact⟨[],pw⟩
 obtain⟨hm,aT⟩:=ajE key1;have M:Mv n R H F f g A B le hm:=⟨P,T,C,L,h2,pw⟩;obtain⟨m,Q,o,r,W,G,I⟩:=M.blobs;obtain⟨_,aa,rot'⟩:=W.Vp Cx.fl I;have X:∀{v},v∈Ul f g->Vp R (Ul f g) (SEf R H f g) m Q o r v=m v++((r v).reverse++(o v++(Q v).reverse)):=fun h=>AE h;have J:∀v w,w∈Vp R (Ul f g) (SEf R H f g) m Q o r v↔w∈R v:=fun v w=>by
  by_cases c:v∈Ul f g
  .rw[X c,(W.cyc v c).perm.mem_iff];grind
  .unfold Vp;rw[aal c];split
   all_goals grind
 refine⟨_,rot',aa,J,fun v=>?_,?_,?_⟩
 .by_cases c:v∈Ul f g
  .have a:=G v c;have e:Om H (Vp R (Ul f g) (SEf R H f g) m Q o r) v=(A v++[pv g v])++(B v++[pv f v]):=by
    show(Vp R (Ul f g) (SEf R H f g) m Q o r v).filter _=_;rw[X c,Db,Db,Db,a.xh,a.yh,mz fun z i=>(a.p z (uu.1 i)).2.1,mz fun z i=>(a.q z (uu.1 i)).2.1];simp
   grind[Wa.c,Cyc.symm]
  .have e:Vp R (Ul f g) (SEf R H f g) m Q o r v=if∃w∈R v,¬SEf R H f g v w then R v else(R v).reverse:=aal c
   by_cases d:∃w∈R v,¬SEf R H f g v w
   .rw[AE d]at e;show Cyc ((Vp R (Ul f g) (SEf R H f g) m Q o r v).filter _) _;rw[e];exact Cyc.refl _
   .rw[aal d]at e;have hn:∀z∈R v,¬H v z:=fun z i q=>d ⟨z,i,fun k=>k.2.1 q⟩;show Cyc ((Vp R (Ul f g) (SEf R H f g) m Q o r v).filter _) ((R v).filter _);rw[e,mz pw,mz hn];exact Cyc.refl _
 .grind[zq]
 .have a:=G b j;have V:SEf R H f g b x0:=⟨D.mem,D.nh,fit,s,b,x0,D,rfl,.inr c0⟩;have ae:x0∈Q b:=by
   have:=(W.cyc b j).perm.mem_iff.1 D.mem;grind[AtU.xl,AtU.yl,Ctx.YQ,AtU.pf]
  have nd:=(W.cyc b j).perm.nodup_iff.1 (Cx.Rl.nd b);have ag:=rot'.nd b;rw[X j]at ag;have aj:x0∉m b:=fun q=>(a.xl x0 q).1 V;have al:x0∉o b:=fun q=>(a.yl x0 q).1 V;have aq:x0∉(r b).reverse:=fun q=>E (Cx.YQ hf hg (by grind[AtU.pf]) c0);obtain⟨q1,q2,eq,_⟩:=sC (uu.2 ae);have hQ:∀z∈q1++x0::q2,¬H b z:=fun z i=>(a.q z pw).2.1;have nq:(q1++x0::q2).Nodup:=pw;have ar:x0∉q1:=by grind[List.mem_cons_self]
  have av:x0∉q2:=(jz.1 (ZT.1 nq).2.1).1;have hN:∀l:II,(∀z∈l,¬H b z)->x0∉l->l.filter (fun w=>decide (H b w\/w=x0))=[]:=fun l N h2=>filter_none pw;have hY:∀l:II,x0∉l->l.filter (fun w=>decide (H b w\/w=x0))=l.filter (fun w=>decide (H b w)):=fun l h=>EH fun w hw=>by rw[Gq];exact⟨pw,.inl⟩
  have e:cl (Vp R (Ul f g) (SEf R H f g) m Q o r) H b x0=((A b++[pv g b])++B b)++pv f b::x0::[]:=by show(Vp R (Ul f g) (SEf R H f g) m Q o r b).filter _=_;rw[X j,eq,Db,Db,Db,Db,hY _ aj,a.xh,hN _ (fun z i=>(a.p z (uu.1 i)).2.1) aq,hY _ al,a.yh,hN q1 (fun z i=>hQ z (by simp[i])) ar,filter_one (XJ (.inr rfl)),hN q2 (fun z i=>hQ z (by simp[i])) av];simp
  have K:(cl (Vp R (Ul f g) (SEf R H f g) m Q o r) H b x0).Nodup:=(rot'.nd b).sublist fR;rw[e]at K ⊢;exact Nu fun k=>(ZT.1 K).2.2 _ k _ Ma rfl
end
section
variable{n:Nat}{R R':Nat->II}{H:Nat->Nat->Prop}{F:Cs}{f:II}{a b:Nat}{inn A B:II}
theorem FO.same{r d:Nat->II}(O:FO r F)(e:V7 n r)(h:pP r d):FO d F:=
 ⟨O.nd,O.ne,fun f hf v c=>h.mem.1 (O.bz f hf v c),fun f hf v c=>by
   rw[<-O.step f hf v c];exact((h _).nx (e.nd _) (e.sy _ _ (O.bz f hf v c))).symm,
  fun v w hw=>O.cover v w (h.mem.2 hw),O.uniq,O.nodup⟩
theorem Ctx.same(C:Ctx n R H F)(c:V7 n R')(fl:Flat n R')(h:pP (Om H R') (Om H R)):Ctx n R' H F:=by refine⟨c,C.sym,fl,C.O.same (OG C.Rl C.sym) h.symm,fun v w d hw=>?_⟩;have ne:∀{v},Om H R' v≠[]->Om H R v≠[]:=fun{v} q e=>q (by have:=h v;grind[Cyc.nil]);exact(C.bp v w (ne d) (ne hw)).mono fun x y q=>h.mem.2 q
theorem uR(c:∀v w,w∈R' v↔w∈R v)(v:Nat):off R' H v↔off R H v:=⟨fun h w hw=>h w ((c v w).2 hw),fun h w hw=>h w ((c v w).1 hw)⟩
theorem Py(d:∀v w,w∈R' v↔w∈R v)(v w:Nat):QI R' H v w=QI R H v w:=by
 have c:=uR (H:=H) d;have g:∀v,lo R' H v=lo R H v:=fun v=>by
  unfold lo;congr 1;funext z;refine propext ⟨fun q=>q.mono fun x y k=>?_,fun q=>q.mono fun x y k=>?_⟩
  .obtain⟨k1,k2,e⟩:=EM.1 k;exact EM.2 ⟨(d _ _).1 k1,(c _).1 k2,(c _).1 e⟩
  .obtain⟨k1,k2,e⟩:=EM.1 k;exact EM.2 ⟨(d _ _).2 k1,(c _).2 k2,(c _).2 e⟩
 grind[QI]
def Fv(c:∀v w,w∈R' v↔w∈R v){u x:Nat}:QP R' H u x↔QP R H u x:=⟨fun h=>⟨fun q=>h.on ((uR c u).2 q),(c _ _).1 h.mem,h.nh⟩,fun h=>⟨fun q=>h.on ((uR c u).1 q),(c _ _).2 h.mem,h.nh⟩⟩
theorem Ka.same(W:Ka R H a inn b)(c:∀v w,w∈R' v↔w∈R v):Ka R' H a inn b:=
 ⟨W.nd,(by grind[Ka.UQ]),(by grind[Ka.off]),
  by grind[Ka.ona],by grind[Ka.sN]⟩
theorem Ctx.lay(C:Ctx n R H F)(W:Ka R H a inn b)(hf:f∈F)(p:WQ R H f a ((inn++[b]).headD 0))(cy:Cyc f ((a::A)++(b::B))):
  Ctx n R (fun x y=>H x y\/Ay a inn b x y) (half a A b inn::half b B a inn.reverse::F.erase f):=by
 have k:=C.Rl;have hs:=C.sym;have L:=W.lay k hs;have d:∀v w,(H v w\/Ay a inn b v w)->H w v\/Ay a inn b w v:=by grind[Ef]
 obtain⟨u,g,c1,c2,d1,d2⟩:=C.drawn W;have:=C.YQ g hf c1 p;subst this;have z:Jt R H a inn b b=cl R H b ((inn.reverse++[a]).headD 0):=by refine EH fun y _=>?_;grind[Ka.Kk]
 have r:=L.gY C.O g cy (by rw[W.at_a];exact c1.at_) (by grind[WQ.at_]) d1 d2;have s:V7 n (Jt R H a inn b):=OG k d;have up:∀{v w},Cr (Om H R) v w->Cr (Jt R H a inn b) v w:=fun h=>h.mono fun x y q=>EM.2 ⟨(EM.1 q).1,.inl (EM.1 q).2⟩;have along:∀(i x:Nat),(aaq a inn b)[i]?=some x->Cr (Jt R H a inn b) a x:=fun i=>by
  induction i with
  |zero=>intro x j;have:=j.symm.trans (yT a b inn).1;injection this with this;subst this;exact .refl _
  |succ i t=>
   intro x j;have D:=(Ny.1 j).1;have o:(aaq a inn b)[i]?=some ((aaq a inn b)[i]'(by omega)):=yY NH
   exact(t _ o).step (L.UQ o j)
 have toA:∀v,Jt R H a inn b v≠[]->Cr (Jt R H a inn b) a v:=fun v m=>by
  by_cases c:Om H R v=[]
  .obtain⟨w,l,e⟩:=xD m;have hw:w∈Jt R H a inn b v:=by rw[e];simp
   obtain⟨k1,k2⟩:=EM.1 hw;rcases k2 with k2|k2
   .have:w∈Om H R v:=by grind[EM]
    grind
   .rcases k2 with⟨i,E,_⟩|⟨i,_,h2⟩
    all_goals grind
  grind[Ctx.bp,Lay.ra]
 exact⟨k,d,C.fl,r,fun v w m hw=>((toA v m).symm s).trans (toA w hw)⟩
theorem Pg.step(P:Pg n R H F)(hf:f∈F){s:Nat}(e:QP R H a s)(fit:Fits R H (QI R H a s) f)(cond:(∀h∈F,Fits R H (QI R H a s) h->h=f)\/∀u x,QP R H u x->∃i∈F,∃h2∈F,i≠h2/\Fits R H (QI R H u x) i/\Fits R H (QI R H u x) h2)(W:Ka R H a inn b)(hs:(inn++[b]).headD 0=s)(cy:Cyc f ((a::A)++(b::B))):
  ∃R',(∀v w,w∈R' v↔w∈R v)/\Ctx n R' (fun x y=>H x y\/Ay a inn b x y) (half a A b inn::half b B a inn.reverse::F.erase f):=by
 obtain⟨g,hg,d⟩:=P.EI e;have j:=d a s e rfl;have k:Fits R H (QI R H a s) g:=fun z y r t=>by grind[WQ.ug]
 by_cases c:g=f
 .subst c;exact⟨R,pw,P.C.lay W hg (hs▸j) cy⟩
 .rcases cond with q|alt
  .grind
  .obtain⟨R',l,fl,m,o,p⟩:=P.move alt hf hg (Hs c) e j fit;have C':=P.C.same l fl o;exact⟨R',m,(by grind[Ctx.lay,Ka.same])⟩
theorem Pg.fits(P:Pg n R H F){u x:Nat}(d:QP R H u x):∃g∈F,Fits R H (QI R H u x) g:=by obtain⟨g,hg,c⟩:=P.EI d;exact⟨g,hg,fun z y e h=>by grind[WQ.ug]⟩
end
structure QG (R:Nat->II):Prop where
 bp:∀v w,R v≠[]->R w≠[]->Cr R v w
 Z7:∀c v w,v≠c->w≠c->R v≠[]->R w≠[]->Cr (Om (fun x y=>x≠c/\y≠c) R) v w
section
variable{n:Nat}{R R':Nat->II}{H:Nat->Nat->Prop}{F:Cs}
theorem QG.same(D:QG R)(d:∀v w,w∈R' v↔w∈R v):QG R':=by
 have ne:∀{v},R' v≠[]->R v≠[]:=fun{v} h e=>by obtain⟨w,l,q⟩:=xD h;have:w∈R v:=pw;grind
 refine⟨fun v w a hw=>(D.bp v w (ne a) (ne hw)).mono pw,fun c v w b h2 a hw=>(D.Z7 c v w b h2 (ne a) (ne hw)).mono fun x y h=>?_⟩;grind[EM]
theorem tq{r:Nat->II}(f:V7 n R)(sub:∀v w,w∈r v->w∈R v){v w:Nat}(h:Cr r v w)(d:off R H v):(Cr (Mm R H) v w/\off R H w)\/∃y z,Cr (Mm R H) v y/\off R H y/\¬off R H z/\z∈r y:=by
 induction h with
 |refl=>exact .inl ⟨.refl _,d⟩
 |@step b c _ g a=>
  rcases a with⟨e,h2⟩|a
  .by_cases q:off R H c
   .exact .inl ⟨e.step (EM.2 pw),q⟩
   grind
  grind
theorem Ctx.pieces(C:Ctx n R H F)(D:QG R)(h2:∃p q,p≠q/\¬off R H p/\¬off R H q):Pg n R H F:=by
 obtain⟨p,q,o,s,J⟩:=h2;have a:=C.Rl;have d:∀{v w},w∈R v->R v≠[]:=pw;have A:∀{v},¬off R H v->R v≠[]:=by grind[Q7]
 have mk:∀{r:Nat->II}{v w:Nat},(∀v w,w∈r v->w∈R v)->Cr r v w->off R H v->¬off R H w->∃u x,QP R H u x/\QI R H u x=(0,lo R H v,0)/\x∈R u/\u∈r x:=fun{r v w} sub j B hw=>by
  rcases tq a sub j B with h|⟨y,z,E,h2,h3,f⟩
  .grind
  .have m:=a.sy _ _ (sub _ _ f);exact⟨z,y,⟨h3,m,fun k=>h2 z (sub _ _ f) (C.sym _ _ k)⟩,by grind[Jn,fX],m,f⟩
 refine⟨C,fun u x b=>?_,fun v w hw G=>?_⟩
 .by_cases c:off R H x
  .have:∃t,t≠u/\¬off R H t:=pw;obtain⟨t,I,g⟩:=this;have i:x≠u:=by grind[QP.on]
   have j:=D.Z7 u x t i I (d (a.sy _ _ b.mem)) (A g);grind[EM,Jn,QP.on]
  .exact⟨x,u,⟨c,a.sy _ _ b.mem,fun k=>b.nh (C.sym _ _ k)⟩,fun e=>a.ir u (e▸b.mem),RX a b.mem⟩
 .by_cases c:off R H v
  .obtain⟨z,y,E,h2,_⟩:=mk (fun _ _ h=>h) (by grind[QG.bp]) c s;grind[M6]
  .exact⟨v,w,⟨c,hw,G⟩,rfl⟩
end
def Ei(l:II)(x y:Nat):Prop:=(x∈l/\nx l x=y)\/(y∈l/\nx l y=x)
theorem aaN{l:II}(nd:l.Nodup)(h3:3<=l.length){v:Nat}(d:v∈l):nx l v≠pv l v:=fun e=>by
 have f:nx l (nx l v)=v:=by grind[G5]
 have QI:∀k,it (nx l) k v=v\/it (nx l) k v=nx l v:=fun k=>by
  induction k<;>grind[it]
 have sub:∀w∈l,w∈[v,nx l v]:=fun w hw=>by obtain⟨k,rfl⟩:=JT nd d hw;grind
 match l,h3 with
 |a::b::c::t,_=>have ha:=sub a Ma;have hb:=sub b Ma;have g:=sub c Ma;grind
section
variable{n:Nat}{R:Nat->II}{l:II}
theorem ki{x y:Nat}(h:Ei l x y):Ei l y x:=h.symm
theorem ring_ctx(i:V7 n R)(fl:Flat n R)(nd:l.Nodup)(h3:3<=l.length)(j:∀v∈l,nx l v∈R v):Ctx n R (Ei l) [l,l.reverse]:=by
 have hR:V7 n (Om (Ei l) R):=by grind[OG,ki]
 have b:∀v∈l,∀w,w∈Om (Ei l) R v↔w=pv l v\/w=nx l v:=fun v a w=>by
  rw[EM];constructor
  .rintro⟨_,h|h⟩
   all_goals grind[c7]
  .rintro(rfl|rfl)
   .have k1:=BJ a;have k2:=G5 nd a;refine⟨?_,.inr ⟨k1,k2⟩⟩;grind[V7.sy]
   .exact⟨j v a,.inl ⟨a,rfl⟩⟩
 have c:∀v w,w∈Om (Ei l) R v->v∈l:=fun v w h=>by
  rcases(EM.1 h).2 with h|h
  all_goals grind[ZP]
 have two:∀v∈l,nx (Om (Ei l) R v) (pv l v)=nx l v/\nx (Om (Ei l) R v) (nx l v)=pv l v:=fun v a=>ZZ (hR.nd v) (by grind[aaN]) (b v a);have o:∀v,nx l.reverse v=pv l v:=fun v=>rfl;have ne:l≠[]:=fun e=>by grind
 have O:FO (Om (Ei l) R) [l,l.reverse]:=by
  refine⟨fun f hf=>?_,fun f hf=>?_,fun f hf v a=>?_,fun f hf v a=>?_,fun v w hw=>?_,fun f hf g hg v p h2 e=>?_,?_⟩
  .grind
  .simp at hf;rcases hf with rfl|rfl
   .exact ne
   .simpa using ne
  .grind
  .grind[ZP,c7]
  .grind
  .grind[aaN]
  .obtain⟨v,t,q⟩:=xD ne;grind[aaN]
 refine⟨i,(by grind[ki]),fl,O,fun v w a hw=>?_⟩;have inl:∀{v},Om (Ei l) R v≠[]->v∈l:=fun{v} h=>by obtain⟨w,t,q⟩:=xD h;exact c v w (by rw[q];simp)
 obtain⟨k,rfl⟩:=JT nd (inl a) (inl hw);have d:=inl a;have:∀k,Cr (Om (Ei l) R) v (it (nx l) k v):=fun k=>by
  induction k with
  |zero=>exact .refl _
  |succ k m=>exact m.step ((b _ (O.it Ma d k).1 _).2 (.inr rfl))
 exact this k
end
noncomputable def kV(n:Nat)(r:Nat->II):II:=(List.range n).filter fun v=>decide (r v≠[])
def Num(n:Nat)(r:Nat->II)(F:Cs):Prop:=2*((kV n r).length+F.length)=(dl n r).length+4
theorem nu{L:II}{c:Nat}:∀X:II,(X.map fun v=>if v∈L then c else 0).sum=c*(X.filter fun v=>decide (v∈L)).length
 |[]=>rfl
 |x::X=>by rw[U9,Cj,nu X];grind
def NT{f g h k:Nat->Nat}:∀X:II,(∀x∈X,f x=g x+h x+k x)->(X.map f).sum=(X.map g).sum+(X.map h).sum+(X.map k).sum
 |[],_=>rfl
 |x::X,c=>by simp only[U9,Cj];rw[NT X fun y d=>c y (Eh _ d),c x LH];omega
theorem Xp{n:Nat}{L:II}(nd:L.Nodup)(h:∀x∈L,x<n):((List.range n).filter fun v=>decide (v∈L)).length=L.length:=by refine(yR (by grind[List.filter_sublist]) nd fun v=>?_).length_eq;grind
theorem Vq(n:Nat)(r:Nat->II):(dl n r).length=((List.range n).map fun v=>(r v).length).sum:=by grind[dl,List.map_congr_left]
section
variable{n:Nat}{r r':Nat->II}{F F':Cs}{a b:Nat}{inn:II}
def Lay.lts(L:Lay n r r' a b inn):a<n/\b<n/\∀x∈inn,x<n:=by refine⟨L.R'.lt _ _ L.sa,L.R'.lt _ _ L.sb,fun x c=>?_⟩;obtain⟨i,p,d,h2⟩:=qm (a:=a) (b:=b) (.inr c);exact L.R'.lt _ _ (L.R'.sy _ _ (L.UQ d h2))
theorem Lay.deg(L:Lay n r r' a b inn)(v:Nat):(r' v).length=(r v).length+(if v∈[a,b]then 1 else 0)+(if v∈inn then 2 else 0):=by
 have one:∀{l:II}{s:Nat},s∈l->l.length=(l.erase s).length+1:=pw;by_cases c1:v=a
 .subst c1;rw[one L.sa,L.ea,AE Ma,aal L.ain]
 by_cases c2:v=b
 .subst c2;rw[one L.sb,L.eb,AE Ma,aal L.bin]
 by_cases c:v∈inn
 .rw[AE c,L.off v c];obtain⟨i,p,f,g⟩:=qm (a:=a) (b:=b) (.inr c);have hi:i+2<(aaq a inn b).length:=by grind[Eo,Fg]
  obtain⟨_,_,k⟩:=L.mid i p v _ f g (yY hi);have d:p≠(aaq a inn b)[i+2]:=fun e=>by have:=X6 L.ndP f (by rw[e];exact yY hi);omega
  have:=(yR (L.R'.nd v) (by simp[d]:[p,(aaq a inn b)[i+2]].Nodup) pw).length_eq;grind
 grind[Lay.Wn]
theorem Lay.num(L:Lay n r r' a b inn)(d:F'.length=F.length+1)(N:Num n r F):Num n r' F':=by
 obtain⟨f,g,li⟩:=L.lts;have h:(dl n r').length=(dl n r).length+2*(inn.length+1):=by rw[Vq,Vq,NT _ fun v _=>L.deg v,nu,nu,Xp (by simp[L.ab]) pw,Xp L.nd li];simp;omega
 have i:(kV n r').length=(kV n r).length+inn.length:=by
  have pm:(kV n r').Perm (kV n r++inn):=by
   refine yR (QD.sublist fR) ?_ fun v=>?_
   .rw[ZT];refine⟨QD.sublist fR,L.nd,fun x c y j e=>?_⟩;have:=(uV.1 c).2;grind[Lay.off]
   .unfold kV;have hd:=L.deg v;grind[Lay.ra,Lay.rb,Lay.Wn]
  rw[pm.length_eq,eR]
 grind[Num]
theorem Num.flat(N:Num n r F)(R:V7 n r)(O:FO r F)(bp:∀v w,r v≠[]->r w≠[]->Cr r v w)(ne:∃v,v<n/\r v≠[]):Flat n r:=by
 obtain⟨d,i,j⟩:=ne;have f:((List.range n).filter fun v=>decide (r v=[])).length+(kV n r).length=n:=by
  have QI:∀X:II,(X.filter fun v=>decide (r v=[])).length+(X.filter fun v=>decide (r v≠[])).length=X.length:=fun X=>by
   induction X<;>grind
  have:=QI (List.range n);rw[GK]at this;exact this
 have l:iJ n r=((List.range n).filter fun v=>decide (r v=[])).length+1:=by
  unfold iJ;have iso:∀{v w},r v=[]->Cr r v w->v=w:=fun{v w} h c=>by
   induction c<;>grind
  have k1:∀y∈((List.range n).filter fun v=>decide (r v=[]))++[d],y∈List.range n:=pw;have k2:(((List.range n).filter fun v=>decide (r v=[]))++[d]).Pairwise fun a b=>¬Cr r a b:=by
   rw[ae7];refine⟨?_,Ma,fun x g y m c=>?_⟩
   .refine b7 (R:=fun x y=>x≠y) (fun{x y} g _ e c=>e ?_) (by grind[List.nodup_range]);grind
   grind
  have k:∀x∈List.range n,∃y∈((List.range n).filter fun v=>decide (r v=[]))++[d],Cr r x y:=fun x g=>by
   by_cases h:r x=[]
   .exact⟨x,(by grind[decide_eq_true]),.refl _⟩
   grind
  rw[qo (Cr.eqv R _) QD k1 k2 k];simp
 grind[Flat,mj,FO.cls,Num]
end
section
variable{n:Nat}{r r':Nat->II}{F:Cs}{f A B:II}{a b:Nat}{inn:II}
theorem Lay.mem(L:Lay n r r' a b inn){x y:Nat}:y∈r' x↔y∈r x\/Ay a inn b x y:=by
 have ends:∀{a b:Nat}{inn:II}(_:Lay n r r' a b inn){y:Nat},y∈r' a->y∈r a\/Ay a inn b a y:=fun{a b inn} L {y} h=>by
  by_cases c:y=(inn++[b]).headD 0
  .subst c;obtain⟨k,m⟩:=yT a b inn;exact .inr (.inl ⟨0,k,m⟩)
  grind[Lay.ea]
 constructor
 .intro h;by_cases c1:x=a
  .grind
  by_cases c2:x=b
  .subst c2;exact(ends L.swap h).imp id Ha.1
  by_cases o:x∈inn
  .obtain⟨i,p,e,d⟩:=qm (a:=a) (b:=b) (.inr o);have hi:i+2<(aaq a inn b).length:=by grind[Eo,Fg]
   have g:(aaq a inn b)[i+2]?=some ((aaq a inn b)[i+2]'hi):=yY hi
   rcases((L.mid i p x _ e d g).2.2 y).1 h with rfl|rfl
   .exact .inr (.inr ⟨i,e,d⟩)
   .exact .inr (.inl ⟨i+1,d,g⟩)
  grind[Lay.Wn]
 .rintro(h|⟨i,j,h2⟩|⟨i,j,h2⟩)
  .exact L.sub h
  .grind[Lay.UQ]
  .exact L.R'.sy _ _ (L.UQ j h2)
theorem Lay.conn2(L:Lay n r r' a b inn)(bp:∀v w,r v≠[]->r w≠[]->Cr r v w):∀v w,r' v≠[]->r' w≠[]->Cr r' v w:=by
 have along:∀(i x:Nat),(aaq a inn b)[i]?=some x->Cr r' a x:=fun i=>by
  induction i with
  |zero=>intro x c;have:=c.symm.trans (yT a b inn).1;injection this with this;subst this;exact .refl _
  |succ i j=>
   intro x c;have k:=(Ny.1 c).1;have g:(aaq a inn b)[i]?=some ((aaq a inn b)[i]'(by omega)):=yY NH
   exact(j _ g).step (L.UQ g c)
 have toA:∀v,r' v≠[]->Cr r' a v:=fun v d=>by
  obtain⟨w,l,e⟩:=xD d;have hw:w∈r' v:=by rw[e];simp
  rcases L.mem.1 hw with h|⟨i,m,_⟩|⟨i,_,h2⟩
  .exact(bp a v L.ra fun q=>by grind).mono fun x y h=>L.sub h
  all_goals grind
 exact fun v w d hw=>((toA v d).symm L.R').trans (toA w hw)
structure vy (n:Nat) (r:Nat->II) (F:Cs):Prop where
 Rl:V7 n r
 O:FO r F
 bp:∀v w,r v≠[]->r w≠[]->Cr r v w
 num:Num n r F
 ne:F≠[]
theorem vy.flat(G:vy n r F):Flat n r:=by
 obtain⟨f,l,e⟩:=xD G.ne;have hf:f∈F:=by rw[e];simp
 have hd:=G.O.bz f hf _ (Lt (G.O.ne f hf));exact G.num.flat G.Rl G.O G.bp ⟨_,G.Rl.lt _ _ hd,fun q=>by grind⟩
theorem vy.lay(G:vy n r F)(hf:f∈F)(C:UN n r f a b inn)(cy:Cyc f ((a::A)++(b::B))):
  vy n (EO r f a b inn) (half a A b inn::half b B a inn.reverse::F.erase f)/\∀x y,y∈EO r f a b inn x↔y∈r x\/Ay a inn b x y:=by
 obtain⟨L,c,h2,h3,d⟩:=C.lay G.Rl G.O hf;refine⟨⟨L.R',L.gY G.O hf cy c h2 h3 d,L.conn2 G.bp,L.num ?_ G.num,Ma⟩,fun x y=>L.mem⟩;grind
end
noncomputable def gH(l:II)(v:Nat):II:=if v∈l then[pv l v,nx l v]else[]
section
variable{n:Nat}{l:II}
theorem ez(nd:l.Nodup){v w:Nat}:w∈gH l v↔Ei l v w:=by grind[gH,Ei,BJ,G5,c7,ZP]
theorem dP(nd:l.Nodup)(h3:3<=l.length)(lt:∀v∈l,v<n):vy n (gH l) [l,l.reverse]:=by
 have d:=fun{v w}=>ez (v:=v) (w:=w) nd;have i:l≠[]:=fun e=>by grind
 have m:∀v∈l,nx l v≠v:=by grind[Bk]
 have R:V7 n (gH l):=by
  refine⟨fun v=>?_,fun v w h=>?_,fun v w h=>d.2 (ki (d.1 h)),fun v h=>?_⟩
  .grind[gH,aaN]
  .rcases d.1 h with h|h
   all_goals grind[ZP]
  .rcases d.1 h with h|h
   all_goals grind
 have s:Om (Ei l) (gH l)=gH l:=cS fun v w h=>d.1 h;have two:∀v∈l,nx (gH l v) (pv l v)=nx l v/\nx (gH l v) (nx l v)=pv l v:=by grind[gH,ss,aaN]
 have O:FO (gH l) [l,l.reverse]:=by
  refine⟨fun f hf=>?_,fun f hf=>?_,fun f hf v c=>?_,fun f hf v c=>?_,fun v w hw=>?_,fun f hf g hg v o h2 e=>?_,?_⟩
  .grind
  .simp at hf;rcases hf with rfl|rfl
   .exact i
   .simpa using i
  .simp at hf;rcases hf with rfl|rfl
   .exact d.2 (.inl ⟨c,rfl⟩)
   .have c:=uu.1 c;exact d.2 (.inr ⟨BJ c,G5 nd c⟩)
  .simp at hf;rcases hf with rfl|rfl
   .grind[ZP,c7]
   .have c:=uu.1 c;have:=(two _ (BJ c)).2;rw[G5 nd c]at this;exact this
  .rcases d.1 hw with h|h
   all_goals grind[ZP,pv,c7]
  .simp at hf hg;rcases hf with rfl|rfl
   .rcases hg with rfl|rfl
    .rfl
    .exact absurd e (aaN nd h3 o)
   .rcases hg with rfl|rfl
    .exact absurd e.symm (aaN nd h3 h2)
    .rfl
  .simp only[jz,jf,Bx,not_false_eq_true,List.nodup_nil,and_true];intro e;have c:=Lt i;grind[aaN,pv]
 have inl:∀{v},gH l v≠[]->v∈l:=fun{v} h=>ff fun q=>h (aal q);refine⟨R,O,fun v w c hw=>?_,?_,Ma⟩
 .obtain⟨k,rfl⟩:=JT nd (inl c) (inl hw);have j:=inl c;clear hw c;have:∀k,Cr (gH l) v (it (nx l) k v):=fun k=>by
   induction k with
   |zero=>exact .refl _
   |succ k p=>exact p.step (d.2 (.inl ⟨(O.it Ma j k).1,rfl⟩))
  exact this k
 .have t:(kV n (gH l)).length=l.length:=by
   rw[<-Xp nd lt];grind[kV,gH]
  have u:(dl n (gH l)).length=2*l.length:=by rw[Vq,<-Xp nd lt,<-nu];grind[gH]
  grind[Num]
end
def XU(n:Nat)(E:Nat->II):Prop:=∃R,V7 n R/\Flat n R/\∀v w,w∈R v↔w∈E v
structure PU (n:Nat) (E:Nat->II) (H:Nat->Nat->Prop) (F:Cs):Prop where
 sub:∀x y,H x y->y∈E x
 XK:∃r,vy n r F/\∀x y,y∈r x↔H x y
 full:XU n E->∃R,(∀v w,w∈R v↔w∈E v)/\Ctx n R H F
section
variable{n:Nat}{E:Nat->II}{H:Nat->Nat->Prop}{F:Cs}{f A B inn l:II}{a b s:Nat}
theorem BW{R R':Nat->II}(d:∀v w,w∈R' v↔w∈R v){k:Nat×Nat×Nat}{h:II}:Fits R' H k h↔Fits R H k h:=⟨fun q u x c e=>q u x ((Fv d).2 c) (by grind[Py]),fun q u x c e=>q u x ((Fv d).1 c) (by grind[Py])⟩
theorem PU.start(nd:l.Nodup)(h3:3<=l.length)(g:V7 n E)(d:∀v∈l,nx l v∈E v):PU n E (Ei l) [l,l.reverse]:=by
 refine⟨fun x y h=>?_,⟨_,dP nd h3 fun v c=>g.lt _ _ (d v c),fun x y=>ez nd⟩,fun⟨R,i,fl,e⟩=>⟨R,e,ring_ctx i fl nd h3 fun v c=>(e _ _).2 (d v c)⟩⟩;rcases h with h|h
 all_goals grind[V7.sy]
def PU.Re(I:PU n E H F):∃p q,p≠q/\¬off E H p/\¬off E H q:=by
 obtain⟨r,G,c⟩:=I.XK;obtain⟨f,t,e⟩:=xD G.ne;have hf:f∈F:=by rw[e];simp
 have hd:=G.O.bz f hf _ (Lt (G.O.ne f hf));have d:=(c _ _).1 hd;have h2:=(c _ _).1 (G.Rl.sy _ _ hd);exact⟨_,_,fun e=>G.Rl.ir _ (by rw[<-e]at hd;exact hd),fun q=>q _ (I.sub _ _ d) d,fun q=>q _ (I.sub _ _ h2) h2⟩
theorem PU.pieces(I:PU n E H F)(D:QG E){R:Nat->II}(c:∀v w,w∈R v↔w∈E v)(C:Ctx n R H F):Pg n R H F:=by obtain⟨p,q,d,h2,h3⟩:=I.Re;exact C.pieces (D.same c) ⟨p,q,d,(by grind[uR]),(by grind[uR])⟩
theorem PU.step(I:PU n E H F)(D:QG E)(m:V7 n E)(hf:f∈F)(z:QP E H a s)(fit:Fits E H (QI E H a s) f)(cond:(∀h∈F,Fits E H (QI E H a s) h->h=f)\/∀u x,QP E H u x->∃c∈F,∃h2∈F,c≠h2/\Fits E H (QI E H u x) c/\Fits E H (QI E H u x) h2)(W:Ka E H a inn b)(hs:(inn++[b]).headD 0=s)(cy:Cyc f ((a::A)++(b::B))):
  PU n E (fun x y=>H x y\/Ay a inn b x y) (half a A b inn::half b B a inn.reverse::F.erase f):=by
 obtain⟨r,G,j⟩:=I.XK;have o:∀v w,H v w->H w v:=fun v w h=>(j _ _).1 (G.Rl.sy _ _ ((j _ _).2 h));refine⟨fun x y h=>h.elim (I.sub x y) (by grind[Ka.wE]),?_,fun J=>?_⟩
 .have C:UN n r f a b inn:=by
   refine⟨W.ab,cy.perm.mem_iff.2 Ma,cy.perm.mem_iff.2 Ma,?_,fun x k=>?_,fun x k=>?_,fun e q=>?_⟩
   .have:=W.nd;grind[aaq.eq_1]
   .refine ff fun q=>?_;obtain⟨w,t,e⟩:=xD q;have h:=(j x w).1 (by rw[e];simp);exact W.off x k w (I.sub _ _ h) h
   .obtain⟨i,p,c,h2⟩:=qm (a:=a) (b:=b) (.inr k);exact m.lt _ _ (m.sy _ _ (W.UQ i p x c h2).1)
   .have c:(aaq a [] b)[0]?=some a:=rfl;grind[aaq,Ka.UQ]
  obtain⟨N,g⟩:=G.lay hf C cy;grind
 .obtain⟨R,g,C⟩:=I.full J;have P:=I.pieces D g C;have d:(∀h∈F,Fits R H (QI R H a s) h->h=f)\/∀u x,QP R H u x->∃c∈F,∃h2∈F,c≠h2/\Fits R H (QI R H u x) c/\Fits R H (QI R H u x) h2:=by
   rcases cond with q|q
   .grind[Py,BW]
   .refine .inr fun u x K=>?_;obtain⟨c,m1,h2,m2,L,O,Q⟩:=q u x ((Fv g).1 K);grind[Py,BW]
  obtain⟨R',M,C'⟩:=P.step hf ((Fv g).2 z) (by grind[Py,BW]) d (W.same g) hs cy;grind
theorem PU.fail(I:PU n E H F)(D:QG E){u x:Nat}(d:QP E H u x)(h:∀f∈F,¬Fits E H (QI E H u x) f):¬XU n E:=fun e=>by obtain⟨R,c,C⟩:=I.full e;obtain⟨g,hg,k⟩:=(I.pieces D c C).fits ((Fv c).2 d);grind[Py,BW]
def PU.done(I:PU n E H F)(h:∀x y,y∈E x->H x y):∃r,vy n r F/\Flat n r/\∀x y,y∈r x↔y∈E x:=by obtain⟨r,G,c⟩:=I.XK;exact⟨r,G,G.flat,fun x y=>(c x y).trans ⟨I.sub x y,h x y⟩⟩
end
theorem len_sub{α:Type}{A B:List α}(b:A.Nodup)(nb:B.Nodup)(h:∀a∈A,a∈B):A.length<=B.length:=by have pm:B.Perm (A++B.filter fun x=>decide (x∉A)):=pw;rw[pm.length_eq,eR];omega
theorem vR{α β:Type}{k:Nat}{g:α->List β}:∀{L:List α},(∀x∈L,k<=(g x).length)->k*L.length<=(L.flatMap g).length
 |[],_=>by simp
 |x::L,h=>by have:=vR (L:=L) fun y a=>h y (Eh _ a);grind[Nat.mul_succ]
section
variable{n:Nat}{r:Nat->II}
theorem Gj(R:V7 n r){k:Nat}(h:∀d∈dl n r,k<=bt (Nv r) d):k*cls (WD (Nv r)) (dl n r)<=(dl n r).length:=by
 have p:=TG R;rw[<-yp R];have hd:∀d∈L3 n r,d∈dl n r:=by grind[IP,gQ]
 have c:(L3 n r).Nodup:=by grind[dy,L3]
 refine Tn (vR (g:=AA (Nv r)) (by grind[oN])) (len_sub ?_ (J8 R) fun e a=>?_)
 .grind[Ri,List.Pairwise.imp_of_mem,vA,alm,WD.trans,Pm.xw]
 .obtain⟨d,b,a⟩:=y5.1 a;obtain⟨j,rfl⟩:=(vA p (hd d b)).1 a;grind[Pm.uN]
theorem Bu(R:V7 n r)(hf:Flat n r)(bp:∀v w,r v≠[]->r w≠[]->Cr r v w)(all:∀v,v<n->r v≠[])(a:0<n):2*(n+cls (WD (Nv r)) (dl n r))=(dl n r).length+4:=by
 have b:((List.range n).filter fun v=>decide (r v=[]))=[]:=by grind[filter_none]
 have c:iJ n r=1:=by unfold iJ;rw[qo (Cr.eqv R _) QD (L:=[0]) pw Ma pw];rfl
 grind[Flat,mj]
theorem QG.deg(D:QG r){v w:Nat}(h:r v=[w]){x:Nat}(a:r x≠[])(b:x≠v)(h2:x≠w)(hw:v≠w):False:=by
 have c:=D.Z7 w v x hw h2 (by rw[h];simp) a;have:∀y,Cr (Om (fun x y=>x≠w/\y≠w) r) v y->y=v:=fun y c=>by
  induction c<;>grind[EM]
 grind
theorem Co(R:V7 n r)(D:QG r)(h3:3<=n)(all:∀v,v<n->r v≠[]){d:H8}(hd:d∈dl n r):3<=bt (Nv r) d/\(bt (Nv r) d=3->∃x y z,y∈r x/\z∈r y/\x∈r z):=by
 have p:=TG R;obtain⟨m,f,_⟩:=aaI p hd;have i:=Sg R hd;have m0:=(IP R).1 hd;have m1:=(IP R).1 (p.uN hd 1);have m2:=(IP R).1 (p.uN hd 2);obtain⟨v,w⟩:=d;have a:∃x,x<n/\x≠v/\x≠w:=by
  by_cases g:0≠v/\0≠w
  .exact⟨0,NH,g.1,g.2⟩
  by_cases h:1≠v/\1≠w
  .exact⟨1,NH,h.1,h.2⟩
  .exact⟨2,NH,NH,NH⟩
 obtain⟨x,j,x1,k⟩:=a;have l:v≠w:=by grind[V7.ir]
 constructor
 .refine af2 i fun e=>?_;rw[<-e]at f;have b:(nx (r w) v,nx (r (nx (r w) v)) w)=((v,w):H8):=f;injection b with b _;have c:v∈r w:=R.sy _ _ m0;have:=(Bk (R.nd w) c).1 b;exact D.deg this (all x j) k x1 (Hs l)
 grind[it,Nv]
theorem UU(R:V7 n r)(hf:Flat n r)(D:QG r)(h3:3<=n)(all:∀v,v<n->r v≠[]):(dl n r).length+12<=6*n/\((∀x y z,y∈r x->z∈r y->x∉r z)->(dl n r).length+8<=4*n):=by
 have e:=Bu R hf D.bp all NH;constructor
 .have:=Gj R (k:=3) fun d hd=>(Co R D h3 all hd).1;omega
 .intro a;have:=Gj R (k:=4) fun d hd=>by grind[Co]
  omega
end
variable {F:Cs} {l:II} {n u:Nat} {r:Nat->II}
theorem J5{f g:Nat->Nat}{P:Nat->Prop}(b:∀x,P x->P (f x))(h:∀x,P x->f x=g x){u:Nat}(a:P u):∀k,it f k u=it g k u/\P (it f k u)
 |0=>⟨rfl,a⟩
 |k+1=>by obtain⟨e,p⟩:=J5 b h a k;grind[it]
def Pc{l:II}(nd:l.Nodup){u:Nat}{c:II}(e:l=u::c):∀k,k<l.length->l[k]?=some (it (nx l) k u)
 |0,_=>by rw[e];rfl
 |k+1,hk=>by
  have ih:=Pc nd e k NH;have h1:l[k+1]?=some (l[k+1]'hk):=yY hk
  rw[h1];congr 1;exact(aZ nd ih h1).1.symm
theorem cyc_iter(nd:l.Nodup)(b:u∈l):Cyc l ((List.range l.length).map fun k=>it (nx l) k u):=by
 obtain⟨c,d⟩:=Cyc.front b;have a:=d.perm.nodup_iff.1 nd;have e:((List.range l.length).map fun k=>it (nx l) k u)=u::c:=by
  refine mJ fun i=>?_;rw[d.perm.length_eq];by_cases h:i<(u::c).length
  .rw[F3,List.getElem?_range h,Pc a rfl i h];simp only[ai3];congr 1;exact(J5 (P:=fun x=>x∈l) (by grind[ZP]) (by grind[Cyc.nx]) b i).1
  grind
 grind
theorem nZ(R:V7 n r)(O:FO r F){next:Nat->Nat->Nat}(h:∀f∈F,∀v∈f,next v (pv f v)=nx f v){v u:Nat}(a:u∈r v):
  Cyc (r v) ((List.range (r v).length).map fun k=>it (next v) k u):=by
 have QI:∀w∈r v,next v w=nx (r v) w:=fun w hw=>by obtain⟨f,hf,b,e⟩:=O.cover w v (R.sy _ _ hw);grind[ZP,c7,FO.nd,FO.pv]
 have e:((List.range (r v).length).map fun k=>it (next v) k u)=(List.range (r v).length).map fun k=>it (nx (r v)) k u:=by refine Vn fun k _=>?_;exact((J5 (P:=fun x=>x∈r v) (by grind[ZP]) pw a k).1).symm
 rw[e];exact cyc_iter (R.nd v) a
section
variable{n:Nat}{r:Nat->II}{F:Cs}
theorem iso_on(n:Nat)(r:Nat->II):((List.range n).filter fun v=>decide (r v=[])).length+(kV n r).length=n:=by
 have QI:∀X:II,(X.filter fun v=>decide (r v=[])).length+(X.filter fun v=>decide (r v≠[])).length=X.length:=fun X=>by
  induction X<;>grind
 have:=QI (List.range n);rw[GK]at this;exact this
theorem cmps_on(R:V7 n r)(bp:∀v w,r v≠[]->r w≠[]->Cr r v w)(ne:∃v,v<n/\r v≠[]):iJ n r=((List.range n).filter fun v=>decide (r v=[])).length+1:=by
 obtain⟨d,g,i⟩:=ne;unfold iJ;have iso:∀{v w},r v=[]->Cr r v w->v=w:=fun{v w} h c=>by
  induction c<;>grind
 have k1:∀y∈((List.range n).filter fun v=>decide (r v=[]))++[d],y∈List.range n:=pw;have k2:(((List.range n).filter fun v=>decide (r v=[]))++[d]).Pairwise fun a b=>¬Cr r a b:=by
  rw[ae7];refine⟨?_,Ma,fun x f y k c=>?_⟩
  .refine b7 (R:=fun x y=>x≠y) (fun{x y} f _ e c=>e ?_) (by grind[List.nodup_range]);grind
  grind
 have j:∀x∈List.range n,∃y∈((List.range n).filter fun v=>decide (r v=[]))++[d],Cr r x y:=fun x f=>by
  by_cases h:r x=[]
  .exact⟨x,(by grind[decide_eq_true]),.refl _⟩
  grind
 rw[qo (Cr.eqv R _) QD k1 k2 j];simp
theorem flat_on(R:V7 n r)(hf:Flat n r)(bp:∀v w,r v≠[]->r w≠[]->Cr r v w)(ne:∃v,v<n/\r v≠[]):2*((kV n r).length+cls (WD (Nv r)) (dl n r))=(dl n r).length+4:=by grind[iso_on,cmps_on,Flat,mj]
theorem Oz(h3:3<=(kV n r).length)(v w:Nat):∃x,x<n/\r x≠[]/\x≠v/\x≠w:=by
 have nd:(kV n r).Nodup:=QD.sublist fR;have d:∀x∈kV n r,x<n/\r x≠[]:=fun x e=>⟨j3.1 (uV.1 e).1,U0 (uV.1 e).2⟩;generalize kV n r=L at h3 nd d
 match L,h3 with
 |a::b::c::t,_=>have ha:=d a Ma;have hb:=d b Ma;have f:=d c Ma;grind
theorem qh(R:V7 n r)(D:QG r)(h3:3<=(kV n r).length){d:H8}(hd:d∈dl n r):3<=bt (Nv r) d/\(bt (Nv r) d=3->∃x y z,y∈r x/\z∈r y/\x∈r z):=by
 have p:=TG R;obtain⟨j,f,_⟩:=aaI p hd;have g:=Sg R hd;have m0:=(IP R).1 hd;have m1:=(IP R).1 (p.uN hd 1);have m2:=(IP R).1 (p.uN hd 2);obtain⟨v,w⟩:=d;obtain⟨x,k,a,x1,h⟩:=Oz h3 v w;have i:v≠w:=by grind[V7.ir]
 constructor
 .refine af2 g fun e=>?_;rw[<-e]at f;have b:(nx (r w) v,nx (r (nx (r w) v)) w)=((v,w):H8):=f;injection b with b _;have c:v∈r w:=R.sy _ _ m0;exact D.deg ((Bk (R.nd w) c).1 b) a h x1 (Hs i)
 grind[it,Nv]
theorem bound_on(R:V7 n r)(hf:Flat n r)(D:QG r)(h3:3<=(kV n r).length):(dl n r).length+12<=6*(kV n r).length/\((∀x y z,y∈r x->z∈r y->x∉r z)->(dl n r).length+8<=4*(kV n r).length):=by
 obtain⟨x,b,a,_⟩:=Oz h3 0 0;have e:=flat_on R hf D.bp ⟨x,b,a⟩;constructor
 .have:=Gj R (k:=3) (by grind[qh]);omega
 .intro c;have:=Gj R (k:=4) (by grind[qh]);omega
theorem XU.bound{E:Nat->II}(d:V7 n E)(D:QG E)(h3:3<=(kV n E).length)(a:XU n E):(dl n E).length+12<=6*(kV n E).length/\((∀x y z,y∈E x->z∈E y->x∉E z)->(dl n E).length+8<=4*(kV n E).length):=by
 obtain⟨R,b,fl,c⟩:=a;have e:kV n R=kV n E:=by
  refine EH fun v _=>?_;have:R v=[]↔E v=[]:=by rw[Uz,Uz];grind
  grind
 have f:(dl n R).length=(dl n E).length:=by grind[J8,IP,List.Perm.length_eq]
 have:=bound_on b fl (D.same c) pw;grind
end
variable {m v w x:Nat}
theorem xT{E:Nat->II}(h:∀v,m<=v->E v=[])(k:Nat):dl (m+k) E=dl m E/\kV (m+k) E=kV m E:=by
 have e:List.range (m+k)=List.range m++(List.range k).map (m+·):=List.range_add;constructor
 .grind[dl,List.flatMap_eq_nil_iff]
 grind[kV,filter_none]
def k5E(v:Nat):II:=if v<5 then(List.range 5).filter fun w=>w !=v else[]
def aiM(v:Nat):II:=if v<3 then[3,4,5]else if v<6 then[0,1,2]else[]
theorem pZ:w∈k5E v↔v<5/\w<5/\w≠v:=by grind[k5E]
theorem Vb:w∈aiM v↔(v<3/\3<=w/\w<6)\/(3<=v/\v<6/\w<3):=by grind[aiM]
theorem Ce(h:x∈l):l≠[]:=fun e=>by grind
def WB(h:l≠[]):∃x,x∈l:=by obtain⟨x,t,e⟩:=xD h;exact⟨x,by rw[e];simp⟩
theorem k5_no(b:5<=n):¬XU n k5E:=fun d=>by
 have lt:∀{v},k5E v≠[]->v<5:=fun h=>by obtain⟨x,f⟩:=WB h;grind[pZ]
 have R:V7 n k5E:=by
  refine⟨fun v=>?_,fun v w h=>?_,fun v w h=>?_,fun v h=>?_⟩
  all_goals grind[k5E,List.filter_sublist]
 have D:QG k5E:=by
  refine⟨fun v w a hw=>?_,fun c v w g h2 a hw=>?_⟩
  .by_cases e:w=v
   .rw[e];exact .refl _
   grind[Cr.one,pZ]
  .by_cases e:w=v
   .rw[e];exact .refl _
   grind[Cr.one,EM,pZ]
 have off:∀v,5<=v->k5E v=[]:=pw;obtain⟨k,rfl⟩:=qL196 b;obtain⟨i,j⟩:=xT off k;have l1:(dl 5 k5E).length=20:=by decide
 have l2:(kV 5 k5E).length=5:=by
  have:kV 5 k5E=List.range 5:=Cg.2 fun v a=>by
   have a:=j3.1 a
   refine XJ (Ce (x:=if v=0 then 1 else 0) (pZ.2 ⟨a,?_,?_⟩))
   all_goals grind
  grind
 have:=(d.bound R D pw).1;grind
theorem k33_no(f:6<=n):¬XU n aiM:=fun g=>by
 have lt:∀{v},aiM v≠[]->v<6:=fun h=>by obtain⟨x,i⟩:=WB h;grind[Vb]
 have R:V7 n aiM:=by
  refine⟨fun v=>?_,fun v w h=>?_,fun v w h=>?_,fun v h=>?_⟩
  all_goals grind[aiM]
 have D:QG aiM:=by
  have two:∀c v w,v≠c->w≠c->v<6->w<6->Cr (Om (fun x y=>x≠c/\y≠c) aiM) v w:=fun c v w d h2 e hw=>by
   have UQ:∀{x y},x≠c->y≠c->((x<3/\3<=y/\y<6)\/(3<=x/\x<6/\y<3))->Cr (Om (fun x y=>x≠c/\y≠c) aiM) x y:=by grind[Cr.one,EM,Vb]
   by_cases a:v<3
   .by_cases b:w<3
    .by_cases z:c=3
     .exact(UQ (y:=4) d NH NH).trans pw
     .exact(UQ (y:=3) d NH NH).trans pw
    grind
   .by_cases b:w<3
    .grind
    .by_cases z:c=0
     .exact(UQ (y:=1) d NH NH).trans pw
     .exact(UQ (y:=0) d NH NH).trans pw
  refine⟨fun v w e hw=>?_,fun c v w d h2 e hw=>two c v w d h2 (lt e) (lt hw)⟩;have a:=lt e;have b:=lt hw;exact(two 6 v w NH NH a b).mono (by grind[EM])
 have off:∀v,6<=v->aiM v=[]:=pw;obtain⟨k,rfl⟩:=qL196 f;obtain⟨j,l⟩:=xT off k;have l1:(dl 6 aiM).length=18:=by decide
 have l2:(kV 6 aiM).length=6:=by grind[kV,aiM,List.filter_eq_self]
 have:=(g.bound R D pw).2 (by grind[Vb]);grind
abbrev Way:=Nat×II×Nat
inductive ahO (E:Nat->II):(Nat->Nat->Prop)->List Way->Prop
 |nil {H:Nat->Nat->Prop} (h:∀x y,y∈E x->H x y):ahO E H []
 |cons {H:Nat->Nat->Prop} {a b:Nat} {inn:II} {ws:List Way} (W:Ka E H a inn b) (h:ahO E (fun x y=>H x y\/Ay a inn b x y) ws):ahO E H ((a,inn,b)::ws)
inductive aiw:Cs->List Way->Prop
 |nil {F:Cs}:aiw F []
 |cons {F F':Cs} {f A B:II} {a b:Nat} {inn:II} {ws:List Way} (hf:f∈F) (cy:Cyc f ((a::A)++(b::B))) (pm:(half a A b inn::half b B a inn.reverse::F.erase f).Perm F') (h:aiw F' ws):aiw F ((a,inn,b)::ws)
section
variable{n:Nat}{E:Nat->II}
def vy.perm5{r:Nat->II}{F a:Cs}(G:vy n r F)(h:F.Perm a):vy n r a:=⟨G.Rl,G.O.perm h,G.bp,by have:=G.num;unfold Num at*;rw[<-h.length_eq];exact this,fun e=>G.ne (by rw[e]at h;exact h.eq_nil)⟩
def ai8{R:Nat->II}(d:∀v w,w∈R v↔w∈E v):∀{H:Nat->Nat->Prop}{ws:List Way},ahO E H ws->∀{F:Cs},Ctx n R H F->aiw F ws:=fun W=>by
 induction W with
 |nil _=>exact fun _=>.nil
 |@cons H a b inn ws W _ g=>
  intro F C;obtain⟨f,hf,c1,c2,_⟩:=C.drawn (W.same d);obtain⟨c,e⟩:=Cyc.front c1.ug;have hb:b∈c:=by have:=e.perm.mem_iff.1 c2.ug;rw[vZ]at this;exact this.resolve_left (Hs W.ab)
  obtain⟨A,B,rfl,_⟩:=sC hb;have cy:Cyc f ((a::A)++(b::B)):=by simpa using e
  exact .cons hf cy (.refl _) (g (C.lay (W.same d) hf c1 cy))
def akj(g:V7 n E):∀{H:Nat->Nat->Prop}{ws:List Way},ahO E H ws->∀{F:Cs}{r:Nat->II},vy n r F->(∀x y,y∈r x↔H x y)->(∀x y,H x y->y∈E x)->aiw F ws->XU n E:=fun W=>by
 induction W with
 |nil h=>exact fun{F r} G c sub _=>⟨r,G.Rl,G.flat,fun x y=>(c x y).trans ⟨sub x y,h x y⟩⟩
 |@cons H a b inn ws W _ k=>
  intro F r G c sub D;have d:∀v w,H v w->H w v:=fun v w h=>(c _ _).1 (G.Rl.sy _ _ ((c _ _).2 h));cases D with
  |@cons _ s f A B _ _ _ _ hf cy pm D=>
   have C:UN n r f a b inn:=by
    refine⟨W.ab,cy.perm.mem_iff.2 Ma,cy.perm.mem_iff.2 Ma,?_,fun x j=>?_,fun x j=>?_,fun e q=>?_⟩
    .have:=W.nd;rw[aaq,jz,ZT]at this;exact this.2.1
    .refine ff fun q=>?_;obtain⟨w,hw⟩:=WB q;have h:=(c x w).1 hw;exact W.off x j w (sub _ _ h) h
    .obtain⟨i,p,l,h2⟩:=qm (a:=a) (b:=b) (.inr j);exact g.lt _ _ (g.sy _ _ (W.UQ i p x l h2).1)
    .subst e;exact(W.UQ 0 a b rfl rfl).2 ((c _ _).1 q)
   obtain⟨m,o⟩:=G.lay hf C cy;exact k (m.perm5 pm) (fun x y=>by rw[o,c]) (fun x y h=>h.elim (sub x y) fun h=>(W.wE g d h).1) D
def alL(a:V7 n E){l:II}(nd:l.Nodup)(h3:3<=l.length)(b:∀v∈l,nx l v∈E v){ws:List Way}(W:ahO E (Ei l) ws):aiw [l,l.reverse] ws↔XU n E:=by
 have I:=PU.start nd h3 a b;constructor
 .obtain⟨r,G,c⟩:=I.XK;exact akj a W G c I.sub
 .intro d;obtain⟨R,e,C⟩:=I.full d;exact ai8 e W C
end
def jJ(R:Nat->II)(H:Nat->Nat->Prop)(v w x y:Nat):Prop:=(v=x/\w=y)\/(v=y/\w=x)\/∃a b,(a=v\/a=w)/\(b=x\/b=y)/\off R H a/\off R H b/\Cr (Mm R H) a b
section
variable{n:Nat}{R:Nat->II}{H H':Nat->Nat->Prop}
def IV(d:V7 n R){v w a:Nat}(hw:w∈R v)(ha:a=v\/a=w)(c:off R H a):QI R H v w=(0,lo R H a,0):=by
 rcases ha with rfl|rfl
 .exact M6 c
 .rw[RX d hw];exact M6 c
theorem Uu(f:V7 n R){v w x y:Nat}(hw:w∈R v)(i:y∈R x):QI R H v w=QI R H x y↔jJ R H v w x y:=by
 constructor
 .intro e;have d:∀{v w:Nat},(∃a,(a=v\/a=w)/\off R H a)\/(¬off R H v/\¬off R H w):=fun{v w}=>by
   by_cases c1:off R H v
   .exact pw
   by_cases c2:off R H w
   .exact pw
   .exact .inr ⟨c1,c2⟩
  rcases d (v:=v) (w:=w)with⟨a,ha,h⟩|⟨c1,c2⟩
  .rw[IV f hw ha h]at e;rcases d (v:=x) (w:=y)with⟨b,hb,g⟩|⟨j,k⟩
   .rw[IV f i hb g]at e;have l:lo R H a=lo R H b:=by injection e with _ e;injection e
    exact .inr (.inr ⟨a,b,ha,hb,h,g,(fX f).1 l⟩)
   .rw[rj j k]at e;have:=congrArg Prod.fst e;simp at this
  .rw[rj c1 c2]at e;rcases d (v:=x) (w:=y)with⟨b,hb,g⟩|⟨j,k⟩
   .rw[IV f i hb g]at e;have:=congrArg Prod.fst e;simp at this
   .rw[rj j k]at e;injection e with _ e;injection e with l m;by_cases q:v=x
    .exact .inl ⟨q,NH⟩
    .exact .inr pw
 .rintro(⟨rfl,rfl⟩|⟨rfl,rfl⟩|⟨a,b,ha,hb,h,g,c⟩)
  .rfl
  .exact RX f hw
  .rw[IV f hw ha h,IV f i hb g,(fX f).2 c]
theorem abz(c:∀x y,H x y->H' x y){v:Nat}(h:off R H' v):off R H v:=fun w hw q=>h w hw (c _ _ q)
theorem uf(c:∀x y,H x y->H' x y){v w:Nat}(h:w∈Mm R H' v):w∈Mm R H v:=by obtain⟨d,h2,h3⟩:=EM.1 h;exact EM.2 (by grind[abz])
theorem jJ.mono(d:∀x y,H x y->H' x y){v w x y:Nat}(h:jJ R H' v w x y):jJ R H v w x y:=by
 rcases h with h|h|⟨a,b,ha,hb,e,f,c⟩
 .exact .inl h
 .exact .inr (.inl h)
 .exact .inr (.inr ⟨a,b,ha,hb,abz d e,abz d f,c.mono fun v w=>uf d⟩)
theorem jJ.symm(d:V7 n R){v w x y:Nat}(h:jJ R H v w x y):jJ R H x y v w:=by
 rcases h with⟨e,h2⟩|⟨e,h2⟩|⟨a,b,ha,hb,f,g,c⟩
 .exact .inl pw
 .exact .inr pw
 .exact .inr (.inr ⟨b,a,hb,ha,g,f,c.symm (QM d)⟩)
variable{a b:Nat}{inn:II}
abbrev XZ(H:Nat->Nat->Prop)(a:Nat)(inn:II)(b:Nat):Nat->Nat->Prop:=fun x y=>H x y\/Ay a inn b x y
def wayH_sub{x y:Nat}(h:H x y):XZ H a inn b x y:=.inl h
theorem Ka.chain(W:Ka R H a inn b):∀(i x y:Nat),inn[0]?=some x->inn[i]?=some y->Cr (Mm R H) x y
 |0,x,y,c,h2=>by rw[c]at h2;injection h2 with h2;subst h2;exact .refl _
 |i+1,x,y,c,h2=>by
  have l:=(Ny.1 h2).1;have d:inn[i]?=some (inn[i]'(by omega)):=yY NH
  have h:=W.chain i x _ c d;have g:∀(j z:Nat),inn[j]?=some z->(aaq a inn b)[j+1]?=some z:=fun j z f=>by have k:=(Ny.1 f).1;show(a::(inn++[b]))[j+1]?=some z;rw[Bn,kc k];exact f
  have e:=W.UQ (i+1) _ _ (g i _ d) (g (i+1) _ h2);exact h.step (EM.2 ⟨e.1,W.off _ (BS d),W.off _ (BS h2)⟩)
def Ka.QC(W:Ka R H a inn b)(d:V7 n R)(hs:∀v w,H v w->H w v){v:Nat}(f:v∈inn):QI R H a ((inn++[b]).headD 0)=(0,lo R H v,0):=by
 cases hi:inn with
 |nil=>rw[hi]at f;cases f
 |cons c t=>
  have h:c∈inn:=by rw[hi];simp
  have e:((c::t++[b]):II).headD 0=c:=rfl;rw[e];have j:c∈R a:=by have:=(W.fst d hs).1;rw[hi]at this;exact this
  rw[IV d j (.inr rfl) (W.off c h)];obtain⟨i,g⟩:=qy.1 f;rw[(fX d).2 (W.chain i c v (by rw[hi];rfl) g)]
theorem Ka.PW(W:Ka R H a inn b)(c:V7 n R)(hs:∀v w,H v w->H w v){x y:Nat}(h:Ay a inn b x y):QI R H x y=QI R H a ((inn++[b]).headD 0):=by
 have d:=W.wE c hs h;by_cases f:x∈inn
 .rw[W.QC c hs f];exact IV c d.1 (.inl rfl) (W.off x f)
 by_cases cy:y∈inn
 .rw[W.QC c hs cy];exact IV c d.1 (.inr rfl) (W.off y cy)
 have g:=dC h;have i:=dC (Ef h);have ne:x≠y:=by grind[V7.ir]
 rcases g with rfl|rfl|g
 .rw[W.Fp.1 h]
 .have e:=d.1;rcases i with rfl|rfl|i
  .rw[RX c e];exact(by grind[Ka.Fp,Ef])
  .exact absurd rfl ne
  .exact absurd i cy
 .exact absurd g f
theorem yw(W:Ka R H a inn b)(k:V7 n R){v:Nat}:off R (XZ H a inn b) v↔off R H v/\v∉inn:=by
 constructor
 .intro h;refine⟨by grind[abz],fun f=>?_⟩;obtain⟨i,p,g,j⟩:=qm (a:=a) (b:=b) (.inr f);exact h p (by grind[V7.sy,Ka.UQ]) (.inr (.inr ⟨i,g,j⟩))
 .rintro⟨c,h2⟩ w hw (q|q)
  .exact c w hw q
  .rcases dC q with rfl|rfl|q
   .obtain⟨z,d,e⟩:=W.ona;exact c z d e
   .obtain⟨z,d,e⟩:=W.sN;exact c z d e
   .exact h2 q
theorem jJ.keep(W:Ka R H a inn b)(f:V7 n R)(hs:∀v w,H v w->H w v){v w x y:Nat}(hw:w∈R v)(m:QI R H v w≠QI R H a ((inn++[b]).headD 0))(h:jJ R H v w x y):jJ R (XZ H a inn b) v w x y:=by
 rcases h with h|h|⟨c,d,j,hd,k,s,q⟩
 .exact .inl h
 .exact .inr (.inl h)
 have g:∀z,Cr (Mm R H) c z->z∉inn:=fun z i o=>m (by rw[IV f hw j k,W.QC f hs o,(fX f).2 i]);have main:∀z,Cr (Mm R H) c z->off R (XZ H a inn b) z->Cr (Mm R (XZ H a inn b)) c z:=fun z i=>by
  induction i with
  |refl=>exact fun _=>.refl _
  |@step y z t h2 p=>
   intro r;obtain⟨m1,m2,_⟩:=EM.1 h2;have l:off R (XZ H a inn b) y:=by grind[yw]
   exact(p l).step (EM.2 ⟨m1,l,r⟩)
 have e:off R (XZ H a inn b) d:=by grind[yw]
 exact .inr (.inr ⟨c,d,j,hd,(yw W f).2 ⟨k,g _ (.refl _)⟩,e,main d q e⟩)
end
section
variable{n:Nat}{R:Nat->II}{H:Nat->Nat->Prop}{F G:Cs}
theorem feet_two(a:V7 n R)(hs:∀v w,H v w->H w v)(D:QG R)(h2:∃p q,p≠q/\¬off R H p/\¬off R H q):
  (∀u x,QP R H u x->∃z y,QP R H z y/\u≠z/\QI R H u x=QI R H z y)/\∀v w,w∈R v->¬H v w->∃u x,QP R H u x/\QI R H v w=QI R H u x:=by
 obtain⟨p,q,s,m,I⟩:=h2;have g:∀{v w},w∈R v->R v≠[]:=pw;have A:∀{v},¬off R H v->R v≠[]:=by grind[Q7]
 have mk:∀{r:Nat->II}{v w:Nat},(∀v w,w∈r v->w∈R v)->Cr r v w->off R H v->¬off R H w->∃u x,QP R H u x/\QI R H u x=(0,lo R H v,0)/\x∈R u/\u∈r x:=fun{r v w} sub i B hw=>by
  rcases tq a sub i B with h|⟨y,z,j,h2,h3,d⟩
  .exact absurd h.2 hw
  .have o:=a.sy _ _ (sub _ _ d);exact⟨z,y,⟨h3,o,fun k=>h2 z (sub _ _ d) (hs _ _ k)⟩,by rw[Jn h3 h2,(fX a).2 j],o,d⟩
 refine⟨fun u x f=>?_,fun v w hw C=>?_⟩
 .by_cases c:off R H x
  .have:∃t,t≠u/\¬off R H t:=by
    by_cases e:p=u
    .exact pw
    .exact⟨p,e,m⟩
   obtain⟨t,E,b⟩:=this;have l:x≠u:=by grind[QP.on]
   have i:=D.Z7 u x t l E (g (a.sy _ _ f.mem)) (A b);obtain⟨z,y,j,h2,_,d⟩:=mk (by grind[EM]) i c b;exact(by grind[EM,Jn,QP.on])
  .exact⟨x,u,⟨c,a.sy _ _ f.mem,(by grind[QP.nh])⟩,fun e=>a.ir u (e▸f.mem),RX a f.mem⟩
 .by_cases c:off R H v
  .obtain⟨z,y,j,h2,_⟩:=mk (fun _ _ h=>h) (by grind[QG.bp]) c m;exact(by grind[M6])
  .exact⟨v,w,⟨c,hw,C⟩,rfl⟩
theorem vy.perm(g:vy n R F)(h:F.Perm G):vy n R G:=⟨g.Rl,g.O.perm h,g.bp,by have:=g.num;unfold Num at this ⊢;rw[<-h.length_eq];exact this,(by grind[vy.ne,List.Perm.eq_nil])⟩
theorem Ctx.perm(C:Ctx n R H F)(h:F.Perm G):Ctx n R H G:=⟨C.Rl,C.sym,C.fl,C.O.perm h,C.bp⟩
theorem PU.perm{E:Nat->II}(I:PU n E H F)(h:F.Perm G):PU n E H G:=⟨I.sub,by obtain⟨r,g,a⟩:=I.XK;exact⟨r,g.perm h,a⟩,fun q=>by obtain⟨R,b,h2⟩:=I.full q;exact⟨R,b,h2.perm h⟩⟩
def PU.sym{E:Nat->II}(I:PU n E H F):∀v w,H v w->H w v:=fun v w h=>by obtain⟨r,g,a⟩:=I.XK;exact(a _ _).1 (g.Rl.sy _ _ ((a _ _).2 h))
def PU.on_face{E:Nat->II}(I:PU n E H F){f:II}(hf:f∈F){u:Nat}(b:u∈f):¬off E H u:=fun q=>by obtain⟨r,g,c⟩:=I.XK;have a:=(c _ _).1 (g.O.ah5 g.Rl hf b);exact q _ (I.sub _ _ a) a
def PU.aln{E:Nat->II}(I:PU n E H F){f:II}(hf:f∈F):f.Nodup/\∀u∈f,u<n:=by obtain⟨r,g,b⟩:=I.XK;exact⟨g.O.nd f hf,fun u a=>g.Rl.lt _ _ (g.O.ah5 g.Rl hf a)⟩
theorem PU.nodup{E:Nat->II}(I:PU n E H F):F.Nodup:=by obtain⟨r,g,a⟩:=I.XK;exact g.O.nodup
end
end
end Go.Fw
