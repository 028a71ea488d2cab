/- A text. -/
import Derived.Test.YtnakkbhjoiheoaaGreatFwEmb17
set_option linter.all false
set_option maxRecDepth 99999
set_option maxHeartbeats 9999999
open Option renaming some→Z
open List renaming range→rG
namespace Go.Fw
section
attribute [local instance] Classical.propDecidable
section
variable{n:Nat}{R:Nat->II}{H:Nat->Nat->Prop}{F:Cs}{f g:II}{A B:Nat->II}{le:Nat->Nat->Nat}{hm:Nat×Nat×Nat->II}
theorem Mv.blobs(M:Mv n R H F f g A B le hm):∃j Q l P:Nat->II,XY n R (Ul f g) (fB R H f g) (tlf R H le hm) j Q l P/\(∀u∈Ul f g,AtU R H f g A B le hm u (j u) (Q u) (l u) (P u))/\∀v,v∉Ul f g->∀w∈R v,¬fB R H f g v w->tlf R H le hm v w∈Ul f g:=by
 have Cx:=M.P.C;have b:∀u:Nat,∃q:II×II×II×II,u∈Ul f g->AtU R H f g A B le hm u q.1 q.2.1 q.2.2.1 q.2.2.2:=fun u=>by
  by_cases h:u∈Ul f g
  .obtain⟨j,Q,l,P,k⟩:=M.atU h;exact⟨(j,Q,l,P),fun _=>k⟩
  simp_all
 obtain⟨W,r⟩:=Ua b;have a:∀v w,w∈R v->¬H v w->¬SK R H f g (QI R H v w)->tlf R H le hm v w∈Ul f g:=fun v w hw D s=>by obtain⟨u,x,m,i⟩:=M.P.one v w hw D;obtain⟨E,_,_,_,_⟩:=M.home u x m (i▸s);unfold tlf;rw[yM D,i];exact M.L.inU _ _ (M.T.O.bz _ E _ (Lt (M.T.O.ne _ E)))
 refine⟨fun u=>(W u).1,fun u=>(W u).2.1,fun u=>(W u).2.2.1,fun u=>(W u).2.2.2,⟨Cx.Rl,M.T.ndU,M.h2,fun v w h=>?_,fun v w hw=>?_,fun v o=>?_,(by grind[AtU.cyc]),(by grind[AtU.xl]),(by grind[AtU.yl]),(by grind[AtU.q]),(by grind[AtU.p]),fun u t e=>?_,fun u t e=>?_⟩,r,fun v o w hw s=>?_⟩
 .exact⟨Cx.Rl.sy _ _ h.1,fun q=>h.2.1 (Cx.sym _ _ q),by rw[<-RX Cx.Rl h.1];exact h.2.2⟩
 .unfold tlf;by_cases c:H v w
  .rw[IE c,IE (Cx.sym _ _ c)];exact M.L.sym v w (by grind[EM])
  .rw[yM c,yM fun q=>c (Cx.sym _ _ q),RX Cx.Rl hw]
 .by_cases c:off R H v
  .by_cases d:SK R H f g (0,lo R H v,0)
   .exact .inl fun w hw=>⟨hw,c w hw,by grind[M6]⟩
   .refine .inr ⟨fun w hw q=>d (by have:=q.2.2;grind[M6]),fun w hw w' y=>?_⟩;unfold tlf;rw[yM (c w hw),yM (c w' y),M6 c,M6 c]
  .have nS:∀w∈R v,¬fB R H f g v w:=fun w hw q=>o (zq.2 ⟨q.2.2.1 v w ⟨c,hw,q.2.1⟩ rfl,q.2.2.2.1 v w ⟨c,hw,q.2.1⟩ rfl⟩);obtain⟨z,k1,k2⟩:=Q7 c;have i:z∈Om H R v:=by grind[EM]
   have all:∀w∈R v,tlf R H le hm v w=le v z:=fun w hw=>by
    by_cases d:H v w
    .unfold tlf;rw[IE d];exact M.L.same v o w z (by grind[EM]) i
    .have m:QP R H v w:=⟨c,hw,d⟩;exact M.tl_at m (fun q=>nS w hw ⟨hw,d,q⟩) m rfl o i
   grind
 .have:=(r u t).xh;simp_all
 .have:=(r u t).yh;simp_all
 .by_cases d:H v w
  .unfold tlf;rw[IE d];exact M.L.inU v w (by grind[EM])
  .exact a v w hw d fun q=>s ⟨hw,d,q⟩
theorem Pg.move(P:Pg n R H F)(alt:∀u x,QP R H u x->∃N∈F,∃h2∈F,N≠h2/\Fits R H (QI R H u x) N/\Fits R H (QI R H u x) h2)(hf:f∈F)(hg:g∈F)(E:f≠g){b x0:Nat}(D:QP R H b x0)(c0:WQ R H g b x0)(fit:Fits R H (QI R H b x0) f):
  ∃R',V7 n R'/\Flat n R'/\(∀v w,w∈R' v↔w∈R v)/\pP (Om H R') (Om H R)/\WQ R' H f b x0:=by
 have Cx:=P.C;have T:aaL n (Om H R) F f g:=⟨OG Cx.Rl Cx.sym,Cx.O,Cx.fl.keep Cx.Rl Cx.sym,hf,hg,E,Cx.bp⟩;have s:Fits R H (QI R H b x0) g:=by obtain⟨h,hh,t⟩:=P.EI D;have e:=Cx.YQ hh hg (t b x0 D rfl) c0;subst e;exact fun z y i S=>by grind[WQ.ug]
 have j:b∈Ul f g:=zq.2 ⟨fit b x0 D rfl,s b x0 D rfl⟩;obtain⟨z,y,i,az,S⟩:=P.two b x0 D;have aC:z∈Ul f g:=zq.2 ⟨fit z y i S.symm,s z y i S.symm⟩;have h2:∀u∈Ul f g,nx (Ul f g) u≠u:=by grind[Bk,aaL.ndU]
 obtain⟨A,B,C⟩:=T.cutU;obtain⟨le,L⟩:=T.labE C h2 j;have key1:∀k:Nat×Nat×Nat,∃h:II,∀u x,QP R H u x->QI R H u x=k->¬SK R H f g k->h∈F/\h≠f/\h≠g/\Fits R H k h/\∀h'∈F,WQ R H h' u x->h'≠f->h'≠g->h'=h:=fun k=>by
  by_cases c:∃u x,QP R H u x/\QI R H u x=k/\¬SK R H f g k
  .obtain⟨u,x,U,rfl,V⟩:=c;obtain⟨h,hh,t⟩:=P.EI U;have av:Fits R H (QI R H u x) h:=fun z y i S=>by grind[WQ.ug]
   by_cases d:h≠f/\h≠g
   .exact⟨h,(by grind[Ctx.YQ])⟩
   .have aD:h=f\/h=g:=hGr;have aF:=t u x U rfl;have nb:¬(Fits R H (QI R H u x) f/\Fits R H (QI R H u x) g):=fun q=>V ⟨q.1,q.2,u,x,U,rfl,hGr⟩;obtain⟨N,m1,aH,m2,ay,f1,f2⟩:=alt u x U;have ex:∃h3∈F,h3≠f/\h3≠g/\Fits R H (QI R H u x) h3:=hGr;obtain⟨h3,m3,a1,a2,f3⟩:=ex;refine⟨h3,fun u' x' aJ aK _=>⟨m3,a1,a2,f3,fun h' aL aN b1 b2=>?_⟩⟩;grind[Ctx.YQ]
  .exact⟨[],hGr⟩
 obtain⟨hm,aP⟩:=Ua key1;have M:Mv n R H F f g A B le hm:=⟨P,T,C,L,h2,hGr⟩;obtain⟨m,Q,o,r,W,G,I⟩:=M.blobs;obtain⟨_,aa,aff⟩:=W.Vp Cx.fl I;have X:∀{v},v∈Ul f g->Vp R (Ul f g) (fB R H f g) m Q o r v=m v++((r v).reverse++(o v++(Q v).reverse)):=fun h=>IE h;have J:∀v w,w∈Vp R (Ul f g) (fB R H f g) m Q o r v↔w∈R v:=fun v w=>by
  by_cases c:v∈Ul f g
  .rw[X c,(W.cyc v c).perm.mem_iff];grind
  .unfold Vp;rw[yM c];split
   all_goals grind
 refine⟨_,aff,aa,J,fun v=>?_,?_,?_⟩
 .by_cases c:v∈Ul f g
  .have a:=G v c;have e:Om H (Vp R (Ul f g) (fB R H f g) m Q o r) v=(A v++[pv g v])++(B v++[pv f v]):=by
    show(Vp R (Ul f g) (fB R H f g) m Q o r v).filter _=_;rw[X c,Db,Db,Db,a.xh,a.yh,mz fun z i=>(a.p z (aj3.1 i)).2.1,mz fun z i=>(a.q z (aj3.1 i)).2.1];simp
   grind[Wa.c,Cyc.symm]
  .have e:Vp R (Ul f g) (fB R H f g) m Q o r v=if∃w∈R v,¬fB R H f g v w then R v else(R v).reverse:=yM c
   by_cases d:∃w∈R v,¬fB R H f g v w
   .rw[IE d]at e;show Cyc ((Vp R (Ul f g) (fB R H f g) m Q o r v).filter _) _;rw[e];exact Cyc.refl _
   .rw[yM d]at e;have hn:∀z∈R v,¬H v z:=fun z i q=>d ⟨z,i,fun k=>k.2.1 q⟩;show Cyc ((Vp R (Ul f g) (fB R H f g) m Q o r v).filter _) ((R v).filter _);rw[e,mz hGr,mz hn];exact Cyc.refl _
 .grind[zq]
 .have a:=G b j;have V:fB R H f g b x0:=⟨D.mem,D.nh,fit,s,b,x0,D,rfl,.inr c0⟩;have ae:x0∈Q b:=by
   have:=(W.cyc b j).perm.mem_iff.1 D.mem;grind[AtU.xl,AtU.yl,Ctx.YQ,AtU.pf]
  have nd:=(W.cyc b j).perm.nodup_iff.1 (Cx.Rl.nd b);have ag:=aff.nd b;rw[X j]at ag;have ai:x0∉m b:=fun q=>(a.xl x0 q).1 V;have aj:x0∉o b:=fun q=>(a.yl x0 q).1 V;have al:x0∉(r b).reverse:=fun q=>E (Cx.YQ hf hg (by grind[AtU.pf]) c0);obtain⟨q1,q2,eq,_⟩:=sC (aj3.2 ae);have hQ:∀z∈q1++x0::q2,¬H b z:=fun z i=>(a.q z hGr).2.1;have nq:(q1++x0::q2).Nodup:=hGr;have aq:x0∉q1:=by grind[List.mem_cons_self]
  have ar:x0∉q2:=(jz.1 (jf.1 nq).2.1).1;have hN:∀l:II,(∀z∈l,¬H b z)->x0∉l->l.filter (fun w=>decide (H b w\/w=x0))=[]:=fun l N h2=>filter_none hGr;have hY:∀l:II,x0∉l->l.filter (fun w=>decide (H b w\/w=x0))=l.filter (fun w=>decide (H b w)):=fun l h=>QD fun w hw=>by rw[fE];exact⟨hGr,.inl⟩
  have e:cl (Vp R (Ul f g) (fB R H f g) m Q o r) H b x0=((A b++[pv g b])++B b)++pv f b::x0::[]:=by show(Vp R (Ul f g) (fB R H f g) m Q o r b).filter _=_;rw[X j,eq,Db,Db,Db,Db,hY _ ai,a.xh,hN _ (fun z i=>(a.p z (aj3.1 i)).2.1) al,hY _ aj,a.yh,hN q1 (fun z i=>hQ z (by simp[i])) aq,filter_one (qL7 (.inr rfl)),hN q2 (fun z i=>hQ z (by simp[i])) ar];simp
  have K:(cl (Vp R (Ul f g) (fB R H f g) m Q o r) H b x0).Nodup:=(aff.nd b).sublist N8;rw[e]at K ⊢;exact Nu fun k=>(jf.1 K).2.2 _ k _ Ma rfl
end
section
variable{n:Nat}{R R':Nat->II}{H:Nat->Nat->Prop}{F:Cs}{f:II}{a b:Nat}{inn A B:II}
theorem FO.same{r d:Nat->II}(O:FO r F)(e:V7 n r)(h:pP r d):FO d F:=
 ⟨O.nd,O.ne,fun f hf v c=>h.mem.1 (O.bz f hf v c),fun f hf v c=>by
   rw[<-O.step f hf v c];exact((h _).nx (e.nd _) (e.sy _ _ (O.bz f hf v c))).symm,
  fun v w hw=>O.cover v w (h.mem.2 hw),O.uniq,O.nodup⟩
theorem Ctx.same(C:Ctx n R H F)(c:V7 n R')(fl:Flat n R')(h:pP (Om H R') (Om H R)):Ctx n R' H F:=by refine⟨c,C.sym,fl,C.O.same (OG C.Rl C.sym) h.symm,fun v w d hw=>?_⟩;have ne:∀{v},Om H R' v≠[]->Om H R v≠[]:=fun{v} q e=>q (by have:=h v;grind[Cyc.nil]);exact(C.bp v w (ne d) (ne hw)).mono fun x y q=>h.mem.2 q
theorem uR(c:∀v w,w∈R' v↔w∈R v)(v:Nat):off R' H v↔off R H v:=⟨fun h w hw=>h w ((c v w).2 hw),fun h w hw=>h w ((c v w).1 hw)⟩
theorem Py(d:∀v w,w∈R' v↔w∈R v)(v w:Nat):QI R' H v w=QI R H v w:=by
 have c:=uR (H:=H) d;have g:∀v,lo R' H v=lo R H v:=fun v=>by
  unfold lo;congr 1;funext z;refine propext ⟨fun q=>q.mono fun x y k=>?_,fun q=>q.mono fun x y k=>?_⟩
  .obtain⟨k1,k2,e⟩:=EM.1 k;exact EM.2 ⟨(d _ _).1 k1,(c _).1 k2,(c _).1 e⟩
  .obtain⟨k1,k2,e⟩:=EM.1 k;exact EM.2 ⟨(d _ _).2 k1,(c _).2 k2,(c _).2 e⟩
 grind[QI]
def Fv(c:∀v w,w∈R' v↔w∈R v){u x:Nat}:QP R' H u x↔QP R H u x:=⟨fun h=>⟨fun q=>h.on ((uR c u).2 q),(c _ _).1 h.mem,h.nh⟩,fun h=>⟨fun q=>h.on ((uR c u).1 q),(c _ _).2 h.mem,h.nh⟩⟩
theorem Ka.same(W:Ka R H a inn b)(c:∀v w,w∈R' v↔w∈R v):Ka R' H a inn b:=
 ⟨W.nd,(by grind[Ka.UQ]),(by grind[Ka.off]),
  by grind[Ka.ona],by grind[Ka.onb]⟩
theorem Ctx.lay(C:Ctx n R H F)(W:Ka R H a inn b)(hf:f∈F)(p:WQ R H f a ((inn++[b]).headD 0))(cy:Cyc f ((a::A)++(b::B))):
  Ctx n R (fun x y=>H x y\/Ay a inn b x y) (half a A b inn::half b B a inn.reverse::F.erase f):=by
 have k:=C.Rl;have hs:=C.sym;have L:=W.lay k hs;have d:∀v w,(H v w\/Ay a inn b v w)->H w v\/Ay a inn b w v:=by grind[Ef]
 obtain⟨u,g,c1,c2,d1,d2⟩:=C.drawn W;have:=C.YQ g hf c1 p;subst this;have z:Jt R H a inn b b=cl R H b ((inn.reverse++[a]).headD 0):=by refine QD fun y _=>?_;grind[Ka.wE_b]
 have r:=L.gY C.O g cy (by rw[W.Ui];exact c1.at_) (by grind[WQ.at_]) d1 d2;have s:V7 n (Jt R H a inn b):=OG k d;have up:∀{v w},Cr (Om H R) v w->Cr (Jt R H a inn b) v w:=fun h=>h.mono fun x y q=>EM.2 ⟨(EM.1 q).1,.inl (EM.1 q).2⟩;have along:∀(i x:Nat),(nr a inn b)[i]?=Z x->Cr (Jt R H a inn b) a x:=fun i=>by
  induction i with
  |zero=>intro x j;have:=j.symm.trans (yT a b inn).1;injection this with this;subst this;exact .refl _
  |succ i t=>
   intro x j;have D:=(Ny.1 j).1;have o:(nr a inn b)[i]?=Z ((nr a inn b)[i]'(by omega)):=XJ NH
   exact(t _ o).step (L.UQ o j)
 have toA:∀v,Jt R H a inn b v≠[]->Cr (Jt R H a inn b) a v:=fun v m=>by
  by_cases c:Om H R v=[]
  .obtain⟨w,l,e⟩:=eR m;have hw:w∈Jt R H a inn b v:=by rw[e];simp
   obtain⟨k1,k2⟩:=EM.1 hw;rcases k2 with k2|k2
   .have:w∈Om H R v:=by grind[EM]
    grind
   .rcases k2 with⟨i,E,_⟩|⟨i,_,h2⟩
    all_goals grind
  grind[Ctx.bp,Lay.ra]
 exact⟨k,d,C.fl,r,fun v w m hw=>((toA v m).symm s).trans (toA w hw)⟩
theorem Pg.step(P:Pg n R H F)(hf:f∈F){s:Nat}(e:QP R H a s)(fit:Fits R H (QI R H a s) f)(cond:(∀h∈F,Fits R H (QI R H a s) h->h=f)\/∀u x,QP R H u x->∃i∈F,∃h2∈F,i≠h2/\Fits R H (QI R H u x) i/\Fits R H (QI R H u x) h2)(W:Ka R H a inn b)(hs:(inn++[b]).headD 0=s)(cy:Cyc f ((a::A)++(b::B))):
  ∃R',(∀v w,w∈R' v↔w∈R v)/\Ctx n R' (fun x y=>H x y\/Ay a inn b x y) (half a A b inn::half b B a inn.reverse::F.erase f):=by
 obtain⟨g,hg,d⟩:=P.EI e;have j:=d a s e rfl;have k:Fits R H (QI R H a s) g:=fun z y r t=>by grind[WQ.ug]
 by_cases c:g=f
 .subst c;exact⟨R,hGr,P.C.lay W hg (hs▸j) cy⟩
 .rcases cond with q|alt
  .grind
  .obtain⟨R',l,fl,m,o,p⟩:=P.move alt hf hg (j3 c) e j fit;have C':=P.C.same l fl o;exact⟨R',m,(by grind[Ctx.lay,Ka.same])⟩
theorem Pg.fits(P:Pg n R H F){u x:Nat}(d:QP R H u x):∃g∈F,Fits R H (QI R H u x) g:=by obtain⟨g,hg,c⟩:=P.EI d;exact⟨g,hg,fun z y e h=>by grind[WQ.ug]⟩
end
structure QG (R:Nat->II):Prop where
 bp:∀v w,R v≠[]->R w≠[]->Cr R v w
 Z7:∀c v w,v≠c->w≠c->R v≠[]->R w≠[]->Cr (Om (fun x y=>x≠c/\y≠c) R) v w
section
variable{n:Nat}{R R':Nat->II}{H:Nat->Nat->Prop}{F:Cs}
theorem QG.same(D:QG R)(d:∀v w,w∈R' v↔w∈R v):QG R':=by
 have ne:∀{v},R' v≠[]->R v≠[]:=fun{v} h e=>by obtain⟨w,l,q⟩:=eR h;have:w∈R v:=hGr;grind
 refine⟨fun v w a hw=>(D.bp v w (ne a) (ne hw)).mono hGr,fun c v w b h2 a hw=>(D.Z7 c v w b h2 (ne a) (ne hw)).mono fun x y h=>?_⟩;grind[EM]
theorem tq{r:Nat->II}(f:V7 n R)(sub:∀v w,w∈r v->w∈R v){v w:Nat}(h:Cr r v w)(d:off R H v):(Cr (Mm R H) v w/\off R H w)\/∃y z,Cr (Mm R H) v y/\off R H y/\¬off R H z/\z∈r y:=by
 induction h with
 |refl=>exact .inl ⟨.refl _,d⟩
 |@step b c _ g a=>
  rcases a with⟨e,h2⟩|a
  .by_cases q:off R H c
   .exact .inl ⟨e.step (EM.2 hGr),q⟩
   grind
  grind
theorem Ctx.pieces(C:Ctx n R H F)(D:QG R)(h2:∃p q,p≠q/\¬off R H p/\¬off R H q):Pg n R H F:=by
 obtain⟨p,q,o,s,J⟩:=h2;have a:=C.Rl;have d:∀{v w},w∈R v->R v≠[]:=hGr;have A:∀{v},¬off R H v->R v≠[]:=by grind[Q7]
 have mk:∀{r:Nat->II}{v w:Nat},(∀v w,w∈r v->w∈R v)->Cr r v w->off R H v->¬off R H w->∃u x,QP R H u x/\QI R H u x=(0,lo R H v,0)/\x∈R u/\u∈r x:=fun{r v w} sub j B hw=>by
  rcases tq a sub j B with h|⟨y,z,E,h2,h3,f⟩
  .grind
  .have m:=a.sy _ _ (sub _ _ f);exact⟨z,y,⟨h3,m,fun k=>h2 z (sub _ _ f) (C.sym _ _ k)⟩,by grind[Jn,fX],m,f⟩
 refine⟨C,fun u x b=>?_,fun v w hw G=>?_⟩
 .by_cases c:off R H x
  .have:∃t,t≠u/\¬off R H t:=hGr;obtain⟨t,I,g⟩:=this;have i:x≠u:=by grind[QP.on]
   have j:=D.Z7 u x t i I (d (a.sy _ _ b.mem)) (A g);grind[EM,Jn,QP.on]
  .exact⟨x,u,⟨c,a.sy _ _ b.mem,fun k=>b.nh (C.sym _ _ k)⟩,fun e=>a.ir u (e▸b.mem),RX a b.mem⟩
 .by_cases c:off R H v
  .obtain⟨z,y,E,h2,_⟩:=mk (fun _ _ h=>h) (by grind[QG.bp]) c s;grind[M6]
  .exact⟨v,w,⟨c,hw,G⟩,rfl⟩
end
def Ei(l:II)(x y:Nat):Prop:=(x∈l/\nx l x=y)\/(y∈l/\nx l y=x)
theorem fz{l:II}(nd:l.Nodup)(h3:3<=l.length){v:Nat}(d:v∈l):nx l v≠pv l v:=fun e=>by
 have f:nx l (nx l v)=v:=by grind[aa3]
 have QI:∀k,it (nx l) k v=v\/it (nx l) k v=nx l v:=fun k=>by
  induction k<;>grind[it]
 have sub:∀w∈l,w∈[v,nx l v]:=fun w hw=>by obtain⟨k,rfl⟩:=JT nd d hw;grind
 match l,h3 with
 |a::b::c::t,_=>have ha:=sub a Ma;have hb:=sub b Ma;have g:=sub c Ma;grind
section
variable{n:Nat}{R:Nat->II}{l:II}
theorem ki{x y:Nat}(h:Ei l x y):Ei l y x:=h.symm
theorem ring_ctx(i:V7 n R)(fl:Flat n R)(nd:l.Nodup)(h3:3<=l.length)(j:∀v∈l,nx l v∈R v):Ctx n R (Ei l) [l,l.reverse]:=by
 have hR:V7 n (Om (Ei l) R):=by grind[OG,ki]
 have b:∀v∈l,∀w,w∈Om (Ei l) R v↔w=pv l v\/w=nx l v:=fun v a w=>by
  rw[EM];constructor
  .rintro⟨_,h|h⟩
   all_goals grind[c7]
  .rintro(rfl|rfl)
   .have k1:=BJ a;have k2:=aa3 nd a;refine⟨?_,.inr ⟨k1,k2⟩⟩;grind[V7.sy]
   .exact⟨j v a,.inl ⟨a,rfl⟩⟩
 have c:∀v w,w∈Om (Ei l) R v->v∈l:=fun v w h=>by
  rcases(EM.1 h).2 with h|h
  all_goals grind[ZP]
 have two:∀v∈l,nx (Om (Ei l) R v) (pv l v)=nx l v/\nx (Om (Ei l) R v) (nx l v)=pv l v:=fun v a=>ZZ (hR.nd v) (by grind[fz]) (b v a);have o:∀v,nx l.reverse v=pv l v:=fun v=>rfl;have ne:l≠[]:=fun e=>by grind
 have O:FO (Om (Ei l) R) [l,l.reverse]:=by
  refine⟨fun f hf=>?_,fun f hf=>?_,fun f hf v a=>?_,fun f hf v a=>?_,fun v w hw=>?_,fun f hf g hg v p h2 e=>?_,?_⟩
  .grind
  .simp at hf;rcases hf with rfl|rfl
   .exact ne
   .simpa using ne
  .grind
  .grind[ZP,c7]
  .grind
  .grind[fz]
  .obtain⟨v,t,q⟩:=eR ne;grind[fz]
 refine⟨i,(by grind[ki]),fl,O,fun v w a hw=>?_⟩;have inl:∀{v},Om (Ei l) R v≠[]->v∈l:=fun{v} h=>by obtain⟨w,t,q⟩:=eR h;exact c v w (by rw[q];simp)
 obtain⟨k,rfl⟩:=JT nd (inl a) (inl hw);have d:=inl a;have:∀k,Cr (Om (Ei l) R) v (it (nx l) k v):=fun k=>by
  induction k with
  |zero=>exact .refl _
  |succ k m=>exact m.step ((b _ (O.it Ma d k).1 _).2 (.inr rfl))
 exact this k
end
noncomputable def kV(n:Nat)(r:Nat->II):II:=(rG n).filter fun v=>decide (r v≠[])
def Num(n:Nat)(r:Nat->II)(F:Cs):Prop:=2*((kV n r).length+F.length)=(dl n r).length+4
theorem nu{L:II}{c:Nat}:∀X:II,(X.map fun v=>if v∈L then c else 0).sum=c*(X.filter fun v=>decide (v∈L)).length
 |[]=>rfl
 |x::X=>by rw[Lm,V9,nu X];grind
def NT{f g h k:Nat->Nat}:∀X:II,(∀x∈X,f x=g x+h x+k x)->(X.map f).sum=(X.map g).sum+(X.map h).sum+(X.map k).sum
 |[],_=>rfl
 |x::X,c=>by simp only[Lm,V9];rw[NT X fun y d=>c y (ZT _ d),c x abV];omega
theorem Xp{n:Nat}{L:II}(nd:L.Nodup)(h:∀x∈L,x<n):((rG n).filter fun v=>decide (v∈L)).length=L.length:=by refine(yR (by grind[List.filter_sublist]) nd fun v=>?_).length_eq;grind
theorem Vq(n:Nat)(r:Nat->II):(dl n r).length=((rG n).map fun v=>(r v).length).sum:=by grind[dl,List.map_congr_left]
section
variable{n:Nat}{r r':Nat->II}{F F':Cs}{a b:Nat}{inn:II}
def Lay.lts(L:Lay n r r' a b inn):a<n/\b<n/\∀x∈inn,x<n:=by refine⟨L.R'.lt _ _ L.sa,L.R'.lt _ _ L.sb,fun x c=>?_⟩;obtain⟨i,p,d,h2⟩:=qm (a:=a) (b:=b) (.inr c);exact L.R'.lt _ _ (L.R'.sy _ _ (L.UQ d h2))
theorem Lay.deg(L:Lay n r r' a b inn)(v:Nat):(r' v).length=(r v).length+(if v∈[a,b]then 1 else 0)+(if v∈inn then 2 else 0):=by
 have one:∀{l:II}{s:Nat},s∈l->l.length=(l.erase s).length+1:=hGr;by_cases c1:v=a
 .subst c1;rw[one L.sa,L.ea,IE Ma,yM L.ain]
 by_cases c2:v=b
 .subst c2;rw[one L.sb,L.eb,IE Ma,yM L.bin]
 by_cases c:v∈inn
 .rw[IE c,L.off v c];obtain⟨i,p,f,g⟩:=qm (a:=a) (b:=b) (.inr c);have hi:i+2<(nr a inn b).length:=by grind[Eo,Fg]
  obtain⟨_,_,k⟩:=L.mid i p v _ f g (XJ hi);have d:p≠(nr a inn b)[i+2]:=fun e=>by have:=X6 L.ndP f (by rw[e];exact XJ hi);omega
  have:=(yR (L.R'.nd v) (by simp[d]:[p,(nr a inn b)[i+2]].Nodup) hGr).length_eq;grind
 grind[Lay.Wn]
theorem Lay.num(L:Lay n r r' a b inn)(d:F'.length=F.length+1)(N:Num n r F):Num n r' F':=by
 obtain⟨f,g,li⟩:=L.lts;have h:(dl n r').length=(dl n r).length+2*(inn.length+1):=by rw[Vq,Vq,NT _ fun v _=>L.deg v,nu,nu,Xp (by simp[L.ab]) hGr,Xp L.nd li];simp;omega
 have i:(kV n r').length=(kV n r).length+inn.length:=by
  have pm:(kV n r').Perm (kV n r++inn):=by
   refine yR (AQ.sublist N8) ?_ fun v=>?_
   .rw[jf];refine⟨AQ.sublist N8,L.nd,fun x c y j e=>?_⟩;have:=(Uz.1 c).2;grind[Lay.off]
   .unfold kV;have hd:=L.deg v;grind[Lay.ra,Lay.rb,Lay.Wn]
  rw[pm.length_eq,aaf]
 grind[Num]
theorem Num.flat(N:Num n r F)(R:V7 n r)(O:FO r F)(bp:∀v w,r v≠[]->r w≠[]->Cr r v w)(ne:∃v,v<n/\r v≠[]):Flat n r:=by
 obtain⟨d,i,j⟩:=ne;have f:((rG n).filter fun v=>decide (r v=[])).length+(kV n r).length=n:=by
  have QI:∀X:II,(X.filter fun v=>decide (r v=[])).length+(X.filter fun v=>decide (r v≠[])).length=X.length:=fun X=>by
   induction X<;>grind
  have:=QI (rG n);rw[WZ]at this;exact this
 have l:iJ n r=((rG n).filter fun v=>decide (r v=[])).length+1:=by
  unfold iJ;have iso:∀{v w},r v=[]->Cr r v w->v=w:=fun{v w} h c=>by
   induction c<;>grind
  have k1:∀y∈((rG n).filter fun v=>decide (r v=[]))++[d],y∈rG n:=hGr;have k2:(((rG n).filter fun v=>decide (r v=[]))++[d]).Pairwise fun a b=>¬Cr r a b:=by
   rw[To];refine⟨?_,Ma,fun x g y m c=>?_⟩
   .refine V3 (R:=fun x y=>x≠y) (fun{x y} g _ e c=>e ?_) (by grind[List.nodup_range]);grind
   grind
  have k:∀x∈rG n,∃y∈((rG n).filter fun v=>decide (r v=[]))++[d],Cr r x y:=fun x g=>by
   by_cases h:r x=[]
   .exact⟨x,(by grind[decide_eq_true]),.refl _⟩
   grind
  rw[ach (Cr.eqv R _) AQ k1 k2 k];simp
 grind[Flat,mj,FO.cls,Num]
end
section
variable{n:Nat}{r r':Nat->II}{F:Cs}{f A B:II}{a b:Nat}{inn:II}
theorem Lay.mem(L:Lay n r r' a b inn){x y:Nat}:y∈r' x↔y∈r x\/Ay a inn b x y:=by
 have ends:∀{a b:Nat}{inn:II}(_:Lay n r r' a b inn){y:Nat},y∈r' a->y∈r a\/Ay a inn b a y:=fun{a b inn} L {y} h=>by
  by_cases c:y=(inn++[b]).headD 0
  .subst c;obtain⟨k,m⟩:=yT a b inn;exact .inr (.inl ⟨0,k,m⟩)
  grind[Lay.ea]
 constructor
 .intro h;by_cases c1:x=a
  .grind
  by_cases c2:x=b
  .subst c2;exact(ends L.swap h).imp id Ha.1
  by_cases o:x∈inn
  .obtain⟨i,p,e,d⟩:=qm (a:=a) (b:=b) (.inr o);have hi:i+2<(nr a inn b).length:=by grind[Eo,Fg]
   have g:(nr a inn b)[i+2]?=Z ((nr a inn b)[i+2]'hi):=XJ hi
   rcases((L.mid i p x _ e d g).2.2 y).1 h with rfl|rfl
   .exact .inr (.inr ⟨i,e,d⟩)
   .exact .inr (.inl ⟨i+1,d,g⟩)
  grind[Lay.Wn]
 .rintro(h|⟨i,j,h2⟩|⟨i,j,h2⟩)
  .exact L.sub h
  .grind[Lay.UQ]
  .exact L.R'.sy _ _ (L.UQ j h2)
theorem Lay.conn2(L:Lay n r r' a b inn)(bp:∀v w,r v≠[]->r w≠[]->Cr r v w):∀v w,r' v≠[]->r' w≠[]->Cr r' v w:=by
 have along:∀(i x:Nat),(nr a inn b)[i]?=Z x->Cr r' a x:=fun i=>by
  induction i with
  |zero=>intro x c;have:=c.symm.trans (yT a b inn).1;injection this with this;subst this;exact .refl _
  |succ i j=>
   intro x c;have k:=(Ny.1 c).1;have g:(nr a inn b)[i]?=Z ((nr a inn b)[i]'(by omega)):=XJ NH
   exact(j _ g).step (L.UQ g c)
 have toA:∀v,r' v≠[]->Cr r' a v:=fun v d=>by
  obtain⟨w,l,e⟩:=eR d;have hw:w∈r' v:=by rw[e];simp
  rcases L.mem.1 hw with h|⟨i,m,_⟩|⟨i,_,h2⟩
  .exact(bp a v L.ra fun q=>by grind).mono fun x y h=>L.sub h
  all_goals grind
 exact fun v w d hw=>((toA v d).symm L.R').trans (toA w hw)
structure abK (n:Nat) (r:Nat->II) (F:Cs):Prop where
 Rl:V7 n r
 O:FO r F
 bp:∀v w,r v≠[]->r w≠[]->Cr r v w
 num:Num n r F
 ne:F≠[]
theorem abK.flat(G:abK n r F):Flat n r:=by
 obtain⟨f,l,e⟩:=eR G.ne;have hf:f∈F:=by rw[e];simp
 have hd:=G.O.bz f hf _ (Lt (G.O.ne f hf));exact G.num.flat G.Rl G.O G.bp ⟨_,G.Rl.lt _ _ hd,fun q=>by grind⟩
theorem abK.lay(G:abK n r F)(hf:f∈F)(C:UN n r f a b inn)(cy:Cyc f ((a::A)++(b::B))):
  abK n (EO r f a b inn) (half a A b inn::half b B a inn.reverse::F.erase f)/\∀x y,y∈EO r f a b inn x↔y∈r x\/Ay a inn b x y:=by
 obtain⟨L,c,h2,h3,d⟩:=C.lay G.Rl G.O hf;refine⟨⟨L.R',L.gY G.O hf cy c h2 h3 d,L.conn2 G.bp,L.num ?_ G.num,Ma⟩,fun x y=>L.mem⟩;grind
end
noncomputable def gH(l:II)(v:Nat):II:=if v∈l then[pv l v,nx l v]else[]
section
variable{n:Nat}{l:II}
theorem ez(nd:l.Nodup){v w:Nat}:w∈gH l v↔Ei l v w:=by grind[gH,Ei,BJ,aa3,c7,ZP]
theorem dP(nd:l.Nodup)(h3:3<=l.length)(lt:∀v∈l,v<n):abK n (gH l) [l,l.reverse]:=by
 have d:=fun{v w}=>ez (v:=v) (w:=w) nd;have i:l≠[]:=fun e=>by grind
 have m:∀v∈l,nx l v≠v:=by grind[Bk]
 have R:V7 n (gH l):=by
  refine⟨fun v=>?_,fun v w h=>?_,fun v w h=>d.2 (ki (d.1 h)),fun v h=>?_⟩
  .grind[gH,fz]
  .rcases d.1 h with h|h
   all_goals grind[ZP]
  .rcases d.1 h with h|h
   all_goals grind
 have s:Om (Ei l) (gH l)=gH l:=cS fun v w h=>d.1 h;have two:∀v∈l,nx (gH l v) (pv l v)=nx l v/\nx (gH l v) (nx l v)=pv l v:=by grind[gH,ajt,fz]
 have O:FO (gH l) [l,l.reverse]:=by
  refine⟨fun f hf=>?_,fun f hf=>?_,fun f hf v c=>?_,fun f hf v c=>?_,fun v w hw=>?_,fun f hf g hg v o h2 e=>?_,?_⟩
  .grind
  .simp at hf;rcases hf with rfl|rfl
   .exact i
   .simpa using i
  .simp at hf;rcases hf with rfl|rfl
   .exact d.2 (.inl ⟨c,rfl⟩)
   .have c:=aj3.1 c;exact d.2 (.inr ⟨BJ c,aa3 nd c⟩)
  .simp at hf;rcases hf with rfl|rfl
   .grind[ZP,c7]
   .have c:=aj3.1 c;have:=(two _ (BJ c)).2;rw[aa3 nd c]at this;exact this
  .rcases d.1 hw with h|h
   all_goals grind[ZP,pv,c7]
  .simp at hf hg;rcases hf with rfl|rfl
   .rcases hg with rfl|rfl
    .rfl
    .exact absurd e (fz nd h3 o)
   .rcases hg with rfl|rfl
    .exact absurd e.symm (fz nd h3 h2)
    .rfl
  .simp only[jz,xD,Qn,not_false_eq_true,qL230,and_true];intro e;have c:=Lt i;grind[fz,pv]
 have inl:∀{v},gH l v≠[]->v∈l:=fun{v} h=>Hs fun q=>h (yM q);refine⟨R,O,fun v w c hw=>?_,?_,Ma⟩
 .obtain⟨k,rfl⟩:=JT nd (inl c) (inl hw);have j:=inl c;clear hw c;have:∀k,Cr (gH l) v (it (nx l) k v):=fun k=>by
   induction k with
   |zero=>exact .refl _
   |succ k p=>exact p.step (d.2 (.inl ⟨(O.it Ma j k).1,rfl⟩))
  exact this k
 .have t:(kV n (gH l)).length=l.length:=by
   rw[<-Xp nd lt];grind[kV,gH]
  have u:(dl n (gH l)).length=2*l.length:=by rw[Vq,<-Xp nd lt,<-nu];grind[gH]
  grind[Num]
end
def XU(n:Nat)(E:Nat->II):Prop:=∃R,V7 n R/\Flat n R/\∀v w,w∈R v↔w∈E v
structure PU (n:Nat) (E:Nat->II) (H:Nat->Nat->Prop) (F:Cs):Prop where
 sub:∀x y,H x y->y∈E x
 XK:∃r,abK n r F/\∀x y,y∈r x↔H x y
 full:XU n E->∃R,(∀v w,w∈R v↔w∈E v)/\Ctx n R H F
section
variable{n:Nat}{E:Nat->II}{H:Nat->Nat->Prop}{F:Cs}{f A B inn l:II}{a b s:Nat}
theorem BW{R R':Nat->II}(d:∀v w,w∈R' v↔w∈R v){k:Nat×Nat×Nat}{h:II}:Fits R' H k h↔Fits R H k h:=⟨fun q u x c e=>q u x ((Fv d).2 c) (by grind[Py]),fun q u x c e=>q u x ((Fv d).1 c) (by grind[Py])⟩
theorem PU.start(nd:l.Nodup)(h3:3<=l.length)(g:V7 n E)(d:∀v∈l,nx l v∈E v):PU n E (Ei l) [l,l.reverse]:=by
 refine⟨fun x y h=>?_,⟨_,dP nd h3 fun v c=>g.lt _ _ (d v c),fun x y=>ez nd⟩,fun⟨R,i,fl,e⟩=>⟨R,e,ring_ctx i fl nd h3 fun v c=>(e _ _).2 (d v c)⟩⟩;rcases h with h|h
 all_goals grind[V7.sy]
def PU.Re(I:PU n E H F):∃p q,p≠q/\¬off E H p/\¬off E H q:=by
 obtain⟨r,G,c⟩:=I.XK;obtain⟨f,t,e⟩:=eR G.ne;have hf:f∈F:=by rw[e];simp
 have hd:=G.O.bz f hf _ (Lt (G.O.ne f hf));have d:=(c _ _).1 hd;have h2:=(c _ _).1 (G.Rl.sy _ _ hd);exact⟨_,_,fun e=>G.Rl.ir _ (by rw[<-e]at hd;exact hd),fun q=>q _ (I.sub _ _ d) d,fun q=>q _ (I.sub _ _ h2) h2⟩
theorem PU.pieces(I:PU n E H F)(D:QG E){R:Nat->II}(c:∀v w,w∈R v↔w∈E v)(C:Ctx n R H F):Pg n R H F:=by obtain⟨p,q,d,h2,h3⟩:=I.Re;exact C.pieces (D.same c) ⟨p,q,d,(by grind[uR]),(by grind[uR])⟩
theorem PU.step(I:PU n E H F)(D:QG E)(m:V7 n E)(hf:f∈F)(z:QP E H a s)(fit:Fits E H (QI E H a s) f)(cond:(∀h∈F,Fits E H (QI E H a s) h->h=f)\/∀u x,QP E H u x->∃c∈F,∃h2∈F,c≠h2/\Fits E H (QI E H u x) c/\Fits E H (QI E H u x) h2)(W:Ka E H a inn b)(hs:(inn++[b]).headD 0=s)(cy:Cyc f ((a::A)++(b::B))):
  PU n E (fun x y=>H x y\/Ay a inn b x y) (half a A b inn::half b B a inn.reverse::F.erase f):=by
 obtain⟨r,G,j⟩:=I.XK;have o:∀v w,H v w->H w v:=fun v w h=>(j _ _).1 (G.Rl.sy _ _ ((j _ _).2 h));refine⟨fun x y h=>h.elim (I.sub x y) (by grind[Ka.wE]),?_,fun J=>?_⟩
 .have C:UN n r f a b inn:=by
   refine⟨W.ab,cy.perm.mem_iff.2 Ma,cy.perm.mem_iff.2 Ma,?_,fun x k=>?_,fun x k=>?_,fun e q=>?_⟩
   .have:=W.nd;grind[nr.eq_1]
   .refine Hs fun q=>?_;obtain⟨w,t,e⟩:=eR q;have h:=(j x w).1 (by rw[e];simp);exact W.off x k w (I.sub _ _ h) h
   .obtain⟨i,p,c,h2⟩:=qm (a:=a) (b:=b) (.inr k);exact m.lt _ _ (m.sy _ _ (W.UQ i p x c h2).1)
   .have c:(nr a [] b)[0]?=Z a:=rfl;grind[nr,Ka.UQ]
  obtain⟨N,g⟩:=G.lay hf C cy;grind
 .obtain⟨R,g,C⟩:=I.full J;have P:=I.pieces D g C;have d:(∀h∈F,Fits R H (QI R H a s) h->h=f)\/∀u x,QP R H u x->∃c∈F,∃h2∈F,c≠h2/\Fits R H (QI R H u x) c/\Fits R H (QI R H u x) h2:=by
   rcases cond with q|q
   .grind[Py,BW]
   .refine .inr fun u x K=>?_;obtain⟨c,m1,h2,m2,L,O,Q⟩:=q u x ((Fv g).1 K);grind[Py,BW]
  obtain⟨R',M,C'⟩:=P.step hf ((Fv g).2 z) (by grind[Py,BW]) d (W.same g) hs cy;grind
theorem PU.fail(I:PU n E H F)(D:QG E){u x:Nat}(d:QP E H u x)(h:∀f∈F,¬Fits E H (QI E H u x) f):¬XU n E:=fun e=>by obtain⟨R,c,C⟩:=I.full e;obtain⟨g,hg,k⟩:=(I.pieces D c C).fits ((Fv c).2 d);grind[Py,BW]
def PU.done(I:PU n E H F)(h:∀x y,y∈E x->H x y):∃r,abK n r F/\Flat n r/\∀x y,y∈r x↔y∈E x:=by obtain⟨r,G,c⟩:=I.XK;exact⟨r,G,G.flat,fun x y=>(c x y).trans ⟨I.sub x y,h x y⟩⟩
end
theorem len_sub{α:Type}{A B:List α}(b:A.Nodup)(nb:B.Nodup)(h:∀a∈A,a∈B):A.length<=B.length:=by have pm:B.Perm (A++B.filter fun x=>decide (x∉A)):=hGr;rw[pm.length_eq,aaf];omega
theorem vR{α β:Type}{k:Nat}{g:α->List β}:∀{L:List α},(∀x∈L,k<=(g x).length)->k*L.length<=(L.flatMap g).length
 |[],_=>by simp
 |x::L,h=>by have:=vR (L:=L) fun y a=>h y (ZT _ a);grind[Nat.mul_succ]
section
variable{n:Nat}{r:Nat->II}
theorem Gj(R:V7 n r){k:Nat}(h:∀d∈dl n r,k<=bt (Nv r) d):k*cls (WD (Nv r)) (dl n r)<=(dl n r).length:=by
 have p:=aaG R;rw[<-yp R];have hd:∀d∈ahN n r,d∈dl n r:=by grind[IP,gQ]
 have c:(ahN n r).Nodup:=by grind[adS,ahN]
 refine EP (vR (g:=AA (Nv r)) (by grind[oN])) (len_sub ?_ (J8 R) fun e a=>?_)
 .grind[Ri,List.Pairwise.imp_of_mem,vA,RM,WD.trans,Pm.adK]
 .obtain⟨d,b,a⟩:=y5.1 a;obtain⟨j,rfl⟩:=(vA p (hd d b)).1 a;grind[Pm.uN]
theorem Bu(R:V7 n r)(hf:Flat n r)(bp:∀v w,r v≠[]->r w≠[]->Cr r v w)(all:∀v,v<n->r v≠[])(a:0<n):2*(n+cls (WD (Nv r)) (dl n r))=(dl n r).length+4:=by
 have b:((rG n).filter fun v=>decide (r v=[]))=[]:=by grind[filter_none]
 have c:iJ n r=1:=by unfold iJ;rw[ach (Cr.eqv R _) AQ (L:=[0]) hGr Ma hGr];rfl
 grind[Flat,mj]
theorem QG.deg(D:QG r){v w:Nat}(h:r v=[w]){x:Nat}(a:r x≠[])(b:x≠v)(h2:x≠w)(hw:v≠w):False:=by
 have c:=D.Z7 w v x hw h2 (by rw[h];simp) a;have:∀y,Cr (Om (fun x y=>x≠w/\y≠w) r) v y->y=v:=fun y c=>by
  induction c<;>grind[EM]
 grind
theorem Co(R:V7 n r)(D:QG r)(h3:3<=n)(all:∀v,v<n->r v≠[]){d:H8}(hd:d∈dl n r):3<=bt (Nv r) d/\(bt (Nv r) d=3->∃x y z,y∈r x/\z∈r y/\x∈r z):=by
 have p:=aaG R;obtain⟨l,f,_⟩:=aaM p hd;have h:=Sg R hd;have m0:=(IP R).1 hd;have m1:=(IP R).1 (p.uN hd 1);have m2:=(IP R).1 (p.uN hd 2);obtain⟨v,w⟩:=d;have a:∃x,x<n/\x≠v/\x≠w:=by
  by_cases g:0≠v/\0≠w
  .exact⟨0,NH,g.1,g.2⟩
  by_cases a1:1≠v/\1≠w
  .exact⟨1,NH,a1.1,a1.2⟩
  .exact⟨2,NH,NH,NH⟩
 obtain⟨x,i,x1,j⟩:=a;have k:v≠w:=by grind[V7.ir]
 constructor
 .refine qL201 h fun e=>?_;rw[<-e]at f;have b:(nx (r w) v,nx (r (nx (r w) v)) w)=((v,w):H8):=f;injection b with b _;have c:v∈r w:=R.sy _ _ m0;have:=(Bk (R.nd w) c).1 b;exact D.deg this (all x i) j x1 (j3 k)
 grind[it,Nv]
theorem UU(R:V7 n r)(hf:Flat n r)(D:QG r)(h3:3<=n)(all:∀v,v<n->r v≠[]):(dl n r).length+12<=6*n/\((∀x y z,y∈r x->z∈r y->x∉r z)->(dl n r).length+8<=4*n):=by
 have e:=Bu R hf D.bp all NH;constructor
 .have:=Gj R (k:=3) fun d hd=>(Co R D h3 all hd).1;omega
 .intro a;have:=Gj R (k:=4) fun d hd=>by grind[Co]
  omega
end
variable {l:II} {n u:Nat} {r:Nat->II}
theorem J5{f g:Nat->Nat}{P:Nat->Prop}(b:∀x,P x->P (f x))(h:∀x,P x->f x=g x){u:Nat}(a:P u):∀k,it f k u=it g k u/\P (it f k u)
 |0=>⟨rfl,a⟩
 |k+1=>by obtain⟨e,p⟩:=J5 b h a k;grind[it]
def afT{l:II}(nd:l.Nodup){u:Nat}{c:II}(e:l=u::c):∀k,k<l.length->l[k]?=Z (it (nx l) k u)
 |0,_=>by rw[e];rfl
 |k+1,hk=>by
  have ih:=afT nd e k NH;have h1:l[k+1]?=Z (l[k+1]'hk):=XJ hk
  rw[h1];congr 1;exact(aZ nd ih h1).1.symm
theorem cyc_iter(nd:l.Nodup)(b:u∈l):Cyc l ((rG l.length).map fun k=>it (nx l) k u):=by
 obtain⟨c,d⟩:=Cyc.front b;have a:=d.perm.nodup_iff.1 nd;have e:((rG l.length).map fun k=>it (nx l) k u)=u::c:=by
  refine wI fun i=>?_;rw[d.perm.length_eq];by_cases h:i<(u::c).length
  .rw[MY,List.getElem?_range h,afT a rfl i h];simp only[uu];congr 1;exact(J5 (P:=fun x=>x∈l) (by grind[ZP]) (by grind[Cyc.nx]) b i).1
  grind
 grind
theorem nZ{F:Cs}(R:V7 n r)(O:FO r F){next:Nat->Nat->Nat}(h:∀f∈F,∀v∈f,next v (pv f v)=nx f v){v u:Nat}(a:u∈r v):
  Cyc (r v) ((rG (r v).length).map fun k=>it (next v) k u):=by
 have QI:∀w∈r v,next v w=nx (r v) w:=fun w hw=>by obtain⟨f,hf,b,e⟩:=O.cover w v (R.sy _ _ hw);grind[ZP,c7,FO.nd,FO.pv]
 have e:((rG (r v).length).map fun k=>it (next v) k u)=(rG (r v).length).map fun k=>it (nx (r v)) k u:=by refine EH fun k _=>?_;exact((J5 (P:=fun x=>x∈r v) (by grind[ZP]) hGr a k).1).symm
 rw[e];exact cyc_iter (R.nd v) a
def hh(b m x:Nat):Nat:=if x=b then m else x
def aap(R:Nat->II)(a b m:Nat)(v:Nat):II:=if v=m then[a,b]else if v=a then(R a).map (hh b m)else if v=b then(R b).map (hh a m)else R v
theorem map_hh{b m:Nat}:∀{l:II},b∉l->l.map (hh b m)=l
 |[],_=>rfl
 |x::l,h=>by rw[Lm,map_hh (by grind[List.mem_cons_of_mem]),hh,yM hGr]
theorem ab2{b m:Nat}:∀{l:II},l.Nodup->m∉l->(l.map (hh b m)).erase m=l.erase b
 |[],_,_=>rfl
 |x::l,nd,d=>by
  rw[jz]at nd;rw[Lm];by_cases c:x=b
  .grind[hh,map_hh]
  .rw[show hh b m x=x from yM c,qL234 hGr,qL234 (by simpa using c),ab2 nd.2 (by grind[List.mem_cons_of_mem])]
theorem aee{b m:Nat}{l:II}(c:m∉l):∀x∈l,∀y∈l,hh b m x=hh b m y->x=y:=by grind[hh]
section
variable{n:Nat}{R:Nat->II}{a b m:Nat}
structure aan (n:Nat) (R:Nat->II) (a b m:Nat):Prop where
 Rl:V7 n R
 ab:b∈R a
 rm:R m=[]
 mn:m<n
theorem aan.nm(S:aan n R a b m){v:Nat}:m∉R v:=fun h=>by have:=S.Rl.sy _ _ h;grind[aan.rm]
theorem aan.ne(S:aan n R a b m):a≠b/\a≠m/\b≠m:=by refine⟨fun e=>S.Rl.ir a (by grind[aan.ab]),fun e=>?_,fun e=>S.nm (e▸S.ab)⟩;have:=S.ab;grind[aan.rm]
theorem aan.mem(S:aan n R a b m){v w:Nat}:w∈aap R a b m v↔(w∈R v/\¬(v=a/\w=b)/\¬(v=b/\w=a))\/(v=m/\(w=a\/w=b))\/(w=m/\(v=a\/v=b)):=by
 have c:∀{v b:Nat},b∈R v->(w∈(R v).map (hh b m)↔(w∈R v/\w≠b)\/w=m):=by grind[hh]
 unfold aap;by_cases c1:v=m
 .grind[aan.rm]
 rw[yM c1];by_cases c2:v=a
 .grind[aan.ab]
 rw[yM c2];by_cases d:v=b
 .subst d;rw[IE rfl,c (S.Rl.sy _ _ S.ab)];simp[c1,c2]
 grind
theorem aan.aff(S:aan n R a b m):V7 n (aap R a b m):=by
 obtain⟨g,h2,h3⟩:=S.ne;have d:=S.Rl.sy _ _ S.ab;refine⟨fun v=>?_,fun v w h=>?_,fun v w h=>?_,fun v h=>?_⟩
 .have c:∀{v b:Nat},((R v).map (hh b m)).Nodup:=fun{v b}=>by
   rw[Gw,vY];exact V3 (fun{x y} i j f e=>f (aee S.nm x i y j e)) (Gw.1 (S.Rl.nd v))
  unfold aap;split
  .simp[g]
  .split
   .exact c
   .split
    .exact c
    .exact S.Rl.nd v
 .rcases S.mem.1 h with h|h|h
  .exact S.Rl.lt _ _ h.1
  .rw[h.1];exact S.mn
  .rcases h.2 with e|e
   .rw[e];exact S.Rl.lt _ _ S.ab
   .rw[e];exact S.Rl.lt _ _ d
 .rw[S.mem]at h ⊢;rcases h with h|h|h
  .exact .inl ⟨S.Rl.sy _ _ h.1,hGr,hGr⟩
  all_goals grind
 .rcases S.mem.1 h with h|h|h
  .exact S.Rl.ir _ h.1
  all_goals grind
end
def sig(a b m:Nat)(d:H8):H8:=(d.1,if d.1=a then hh b m d.2 else if d.1=b then hh a m d.2 else d.2)
theorem sig_oth{a b m y z:Nat}(c1:y≠a)(c2:y≠b):sig a b m (y,z)=(y,z):=by grind[sig]
section
variable{n:Nat}{R:Nat->II}{a b m:Nat}
theorem aan.Ui(S:aan n R a b m):aap R a b m a=(R a).map (hh b m):=by grind[aap,aan.ne]
theorem aan.at_b(S:aan n R a b m):aap R a b m b=(R b).map (hh a m):=by grind[aap,aan.ne]
theorem aan.at_m(S:aan n R a b m):aap R a b m m=[a,b]:=IE rfl
def aan.nxa(S:aan n R a b m){x:Nat}(h:x∈R a):nx (aap R a b m a) (hh b m x)=hh b m (nx (R a) x):=by rw[S.Ui];exact HL (aee S.nm) h
def aan.nxb(S:aan n R a b m){x:Nat}(h:x∈R b):nx (aap R a b m b) (hh a m x)=hh a m (nx (R b) x):=by rw[S.at_b];exact HL (aee S.nm) h
theorem acQ(b m:Nat):hh b m b=m:=IE rfl
theorem aan.s1(S:aan n R a b m):Nv (aap R a b m) (a,m)=(m,b)/\Nv (aap R a b m) (m,b)=sig a b m (Nv R (a,b))/\Nv (aap R a b m) (b,m)=(m,a)/\Nv (aap R a b m) (m,a)=sig a b m (Nv R (b,a)):=by
 obtain⟨d,_,_⟩:=S.ne;have c:=S.Rl.sy _ _ S.ab;refine⟨?_,?_,?_,?_⟩
 .grind[Nv.eq_1,aan.at_m,ajt]
 .have:=S.nxb c;grind[acQ,Nv.eq_1,sig]
 .grind[Nv.eq_1,aan.at_m,ajt]
 .have:=S.nxa S.ab;grind[acQ,Nv.eq_1,sig]
theorem aan.s2(S:aan n R a b m){d:H8}(hd:d∈dl n R)(n1:d≠(a,b))(f:d≠(b,a)):Nv (aap R a b m) (sig a b m d)=sig a b m (Nv R d):=by
 obtain⟨x,y⟩:=d;have e:=(IP S.Rl).1 hd;have c:=S.Rl.sy _ _ e;have es:sig a b m (x,y)=(x,y):=by grind[sig,hh]
 rw[es,Nv];by_cases c1:y=a
 .subst c1;have k:=S.nxa c;grind[hh,Nv,sig]
 by_cases c2:y=b
 .subst c2;have k:=S.nxb c;grind[hh,Nv,sig]
 .have g:y≠m:=by grind[aan.rm]
  have k:aap R a b m y=R y:=by grind[aap]
  show(y,nx (aap R a b m y) x)=sig a b m (y,nx (R y) x);grind[sig_oth]
theorem aan.orb(S:aan n R a b m):WD (Nv (aap R a b m)) (a,m) (m,a)↔WD (Nv R) (a,b) (b,a):=by
 obtain⟨t1,l,o,q⟩:=S.s1;have p:=aaG S.Rl;have f:((a,b):H8)∈dl n R:=(IP S.Rl).2 S.ab;have sa:sig a b m (a,b)=(a,m):=by simp[sig,hh]
 have sb:sig a b m (b,a)=(b,m):=by grind[sig,hh]
 constructor
 .rintro⟨k,i⟩;have QI:∀k,∃d,WD (Nv R) (a,b) d/\(it (Nv (aap R a b m)) k (a,m)=sig a b m d\/(d=(a,b)/\it (Nv (aap R a b m)) k (a,m)=(m,b))\/(d=(b,a)/\it (Nv (aap R a b m)) k (a,m)=(m,a))):=fun k=>by
   induction k with
   |zero=>exact⟨(a,b),WD.refl _ _,.inl sa.symm⟩
   |succ k g=>
    obtain⟨d,c,h⟩:=g;have hd:d∈dl n R:=by obtain⟨j,rfl⟩:=c;grind[Pm.uN]
    have e:it (Nv (aap R a b m)) (k+1) (a,m)=Nv (aap R a b m) (it (Nv (aap R a b m)) k (a,m)):=rfl;rw[e];rcases h with h|⟨rfl,h⟩|⟨rfl,h⟩
    .by_cases c1:d=(a,b)
     all_goals grind[WD.trans,WD.one,aan.s2]
    all_goals grind[WD.trans,WD.one]
  obtain⟨d,c,h⟩:=QI k;rw[i]at h;rcases h with h|⟨_,h⟩|⟨rfl,_⟩
  .have e:=congrArg Prod.fst h;have e:m=d.1:=e;have hd:d∈dl n R:=by obtain⟨j,rfl⟩:=c;grind[Pm.uN]
   grind[IP,aan.Rl,aan.rm]
  all_goals grind
 .intro c;have step:∀d∈dl n R,WD (Nv (aap R a b m)) (sig a b m d) (sig a b m (Nv R d)):=fun d hd=>by
   by_cases c1:d=(a,b)
   .grind[WD.one,WD.trans]
   by_cases c2:d=(b,a)
   all_goals grind[WD.one,WD.trans,aan.s2]
  obtain⟨k,i⟩:=c;have all:∀k,WD (Nv (aap R a b m)) (a,m) (sig a b m (it (Nv R) k (a,b))):=fun k=>by
   induction k with
   |zero=>show WD _ _ (sig a b m (a,b));grind[WD.refl]
   |succ k g=>exact g.trans (step _ (p.uN f k))
  grind[WD.trans,WD.one]
theorem aan.flat(S:aan n R a b m):Flat n (aap R a b m)↔Flat n R:=by
 obtain⟨g,h2,h3⟩:=S.ne;have i:=S.Rl.sy _ _ S.ab;have R':=S.aff;have j:m∈aap R a b m a:=by rw[S.Ui,Eh];exact⟨b,S.ab,acQ b m⟩
 have k:=afL R' h2;have f:∀{x y},y∈del (aap R a b m) a m x↔y∈aap R a b m x/\¬(x=a/\y=m)/\¬(x=m/\y=a):=by grind[JF]
 have l:m∈del (aap R a b m) a m b:=by grind[aan.at_b,acQ]
 have p:del (del (aap R a b m) a m) b m=del R a b:=by
  funext x;unfold del;by_cases c1:x=a
  .subst c1;rw[yM g,yM h2,IE rfl,IE rfl,S.Ui];exact ab2 (S.Rl.nd _) S.nm
  by_cases c2:x=b
  .subst c2;rw[IE rfl,yM c1,yM h3,yM c1,IE rfl,S.at_b];exact ab2 (S.Rl.nd _) S.nm
  grind[aan.rm,aap]
 have d:∀{x y},y∈del R a b x↔y∈R x/\¬(x=a/\y=b)/\¬(x=b/\y=a):=fun{x y}=>JF S.Rl g;have u:∀y,y∈del (aap R a b m) a m m↔y=b:=by grind[aan.at_m]
 have aac:Flat n (del (aap R a b m) a m)↔Flat n (del R a b):=by
  have o:WD (Nv (del (aap R a b m) a m)) (b,m) (m,b):=⟨1,by show(m,nx (del (aap R a b m) a m m) b)=(m,b);grind[ZP]⟩;have v:¬Cr (del (del (aap R a b m) a m) b m) b m:=fun c=>by
   rw[p]at c;cases c with
   |refl=>exact h3 rfl
   |step _ hs=>exact S.nm (d.1 hs).1
  grind[Lq,abG]
 have r:Cr (del (aap R a b m) a m) a m↔Cr (del R a b) a b:=by
  have back:∀y,Cr (del (aap R a b m) a m) a y->(y≠m->Cr (del R a b) a y)/\(y=m->Cr (del R a b) a b):=fun y c=>by
   induction c with
   |refl=>exact⟨fun _=>.refl _,hGr⟩
   |@step x y _ hs s=>
    by_cases t:x=m
    .grind
    .by_cases w:y=m
     .have z:=k.sy _ _ hs;grind
     .refine⟨fun _=>(s.1 t).step ?_,hGr⟩;grind[aan.mem]
  constructor
  .grind
  .intro c;have up:Cr (del (aap R a b m) a m) a b:=c.mono fun x y h=>by
    have q:=d.1 h;refine f.2 ⟨S.mem.2 (.inl q),fun e=>?_,fun e=>?_⟩
    .rw[e.2]at q;exact S.nm q.1
    grind[aan.rm]
   exact up.step (by grind[V7.sy])
 grind[Lq,abG,aan.Rl,aan.ab,aan.orb]
end
section
variable{n:Nat}{E E':Nat->II}{a b m:Nat}
theorem XU.congr(h:∀v w,w∈E' v↔w∈E v):XU n E'↔XU n E:=by
 constructor
 .rintro⟨R,c,fl,d⟩;exact⟨R,c,fl,hGr⟩
 .rintro⟨R,c,fl,d⟩;exact⟨R,c,fl,hGr⟩
end
section
variable{n:Nat}{r:Nat->II}{F:Cs}
theorem iso_on(n:Nat)(r:Nat->II):((rG n).filter fun v=>decide (r v=[])).length+(kV n r).length=n:=by
 have QI:∀X:II,(X.filter fun v=>decide (r v=[])).length+(X.filter fun v=>decide (r v≠[])).length=X.length:=fun X=>by
  induction X<;>grind
 have:=QI (rG n);rw[WZ]at this;exact this
theorem cmps_on(R:V7 n r)(bp:∀v w,r v≠[]->r w≠[]->Cr r v w)(ne:∃v,v<n/\r v≠[]):iJ n r=((rG n).filter fun v=>decide (r v=[])).length+1:=by
 obtain⟨d,g,i⟩:=ne;unfold iJ;have iso:∀{v w},r v=[]->Cr r v w->v=w:=fun{v w} h c=>by
  induction c<;>grind
 have k1:∀y∈((rG n).filter fun v=>decide (r v=[]))++[d],y∈rG n:=hGr;have k2:(((rG n).filter fun v=>decide (r v=[]))++[d]).Pairwise fun a b=>¬Cr r a b:=by
  rw[To];refine⟨?_,Ma,fun x f y k c=>?_⟩
  .refine V3 (R:=fun x y=>x≠y) (fun{x y} f _ e c=>e ?_) (by grind[List.nodup_range]);grind
  grind
 have j:∀x∈rG n,∃y∈((rG n).filter fun v=>decide (r v=[]))++[d],Cr r x y:=fun x f=>by
  by_cases h:r x=[]
  .exact⟨x,(by grind[decide_eq_true]),.refl _⟩
  grind
 rw[ach (Cr.eqv R _) AQ k1 k2 j];simp
theorem flat_on(R:V7 n r)(hf:Flat n r)(bp:∀v w,r v≠[]->r w≠[]->Cr r v w)(ne:∃v,v<n/\r v≠[]):2*((kV n r).length+cls (WD (Nv r)) (dl n r))=(dl n r).length+4:=by grind[iso_on,cmps_on,Flat,mj]
theorem Oz(h3:3<=(kV n r).length)(v w:Nat):∃x,x<n/\r x≠[]/\x≠v/\x≠w:=by
 have nd:(kV n r).Nodup:=AQ.sublist N8;have d:∀x∈kV n r,x<n/\r x≠[]:=fun x e=>⟨K4.1 (Uz.1 e).1,ail (Uz.1 e).2⟩;generalize kV n r=L at h3 nd d
 match L,h3 with
 |a::b::c::t,_=>have ha:=d a Ma;have hb:=d b Ma;have f:=d c Ma;grind
theorem afU(R:V7 n r)(D:QG r)(h3:3<=(kV n r).length){d:H8}(hd:d∈dl n r):3<=bt (Nv r) d/\(bt (Nv r) d=3->∃x y z,y∈r x/\z∈r y/\x∈r z):=by
 have p:=aaG R;obtain⟨j,f,_⟩:=aaM p hd;have g:=Sg R hd;have m0:=(IP R).1 hd;have m1:=(IP R).1 (p.uN hd 1);have m2:=(IP R).1 (p.uN hd 2);obtain⟨v,w⟩:=d;obtain⟨x,k,a,x1,h⟩:=Oz h3 v w;have i:v≠w:=by grind[V7.ir]
 constructor
 .refine qL201 g fun e=>?_;rw[<-e]at f;have b:(nx (r w) v,nx (r (nx (r w) v)) w)=((v,w):H8):=f;injection b with b _;have c:v∈r w:=R.sy _ _ m0;exact D.deg ((Bk (R.nd w) c).1 b) a h x1 (j3 i)
 grind[it,Nv]
theorem bound_on(R:V7 n r)(hf:Flat n r)(D:QG r)(h3:3<=(kV n r).length):(dl n r).length+12<=6*(kV n r).length/\((∀x y z,y∈r x->z∈r y->x∉r z)->(dl n r).length+8<=4*(kV n r).length):=by
 obtain⟨x,b,a,_⟩:=Oz h3 0 0;have e:=flat_on R hf D.bp ⟨x,b,a⟩;constructor
 .have:=Gj R (k:=3) (by grind[afU]);omega
 .intro c;have:=Gj R (k:=4) (by grind[afU]);omega
theorem XU.bound{E:Nat->II}(d:V7 n E)(D:QG E)(h3:3<=(kV n E).length)(a:XU n E):(dl n E).length+12<=6*(kV n E).length/\((∀x y z,y∈E x->z∈E y->x∉E z)->(dl n E).length+8<=4*(kV n E).length):=by
 obtain⟨R,b,fl,c⟩:=a;have e:kV n R=kV n E:=by
  refine QD fun v _=>?_;have:R v=[]↔E v=[]:=by rw[ff,ff];grind
  grind
 have f:(dl n R).length=(dl n E).length:=by grind[J8,IP,List.Perm.length_eq]
 have:=bound_on b fl (D.same c) hGr;grind
end
variable {m:Nat}
theorem dl_more{E:Nat->II}(h:∀v,m<=v->E v=[])(k:Nat):dl (m+k) E=dl m E/\kV (m+k) E=kV m E:=by
 have e:rG (m+k)=rG m++(rG k).map (m+·):=List.range_add;constructor
 .grind[dl,List.flatMap_eq_nil_iff]
 grind[kV,filter_none]
def k5E(v:Nat):II:=if v<5 then(rG 5).filter fun w=>w !=v else[]
theorem pZ{v w:Nat}:w∈k5E v↔v<5/\w<5/\w≠v:=by grind[k5E]
theorem Ce{x:Nat}(h:x∈l):l≠[]:=fun e=>by grind
def nil_mem(h:l≠[]):∃x,x∈l:=by obtain⟨x,t,e⟩:=eR h;exact⟨x,by rw[e];simp⟩
theorem k5_no(b:5<=n):¬XU n k5E:=fun d=>by
 have lt:∀{v},k5E v≠[]->v<5:=fun h=>by obtain⟨x,f⟩:=nil_mem h;grind[pZ]
 have R:V7 n k5E:=by
  refine⟨fun v=>?_,fun v w h=>?_,fun v w h=>?_,fun v h=>?_⟩
  all_goals grind[k5E,List.filter_sublist]
 have D:QG k5E:=by
  refine⟨fun v w a hw=>?_,fun c v w g h2 a hw=>?_⟩
  .by_cases e:w=v
   .rw[e];exact .refl _
   grind[Cr.one,pZ]
  .by_cases e:w=v
   .rw[e];exact .refl _
   grind[Cr.one,EM,pZ]
 have off:∀v,5<=v->k5E v=[]:=hGr;obtain⟨k,rfl⟩:=qL215 b;obtain⟨i,j⟩:=dl_more off k;have l1:(dl 5 k5E).length=20:=by decide
 have l2:(kV 5 k5E).length=5:=by
  have:kV 5 k5E=rG 5:=pz.2 fun v a=>by
   have a:=K4.1 a
   refine qL7 (Ce (x:=if v=0 then 1 else 0) (pZ.2 ⟨a,?_,?_⟩))
   all_goals grind
  grind
 have:=(d.bound R D hGr).1;grind
structure Ren (n:Nat) (p q:Nat->Nat):Prop where
 pl:∀v,v<n->p v<n
 ql:∀v,v<n->q v<n
 pq:∀v,v<n->p (q v)=v
 qp:∀v,v<n->q (p v)=v
def uH(n:Nat)(p q:Nat->Nat)(r:Nat->II)(w:Nat):II:=if w<n then(r (q w)).map p else[]
def pp(p:Nat->Nat)(d:H8):H8:=(p d.1,p d.2)
section
variable{n:Nat}{p q:Nat->Nat}{r:Nat->II}
theorem Ren.inj(N:Ren n p q){x y:Nat}(a:x<n)(b:y<n)(e:p x=p y):x=y:=by grind[Ren.qp]
theorem ren_at(N:Ren n p q){v:Nat}(a:v<n):uH n p q r (p v)=(r v).map p:=by grind[uH,Ren.pl,Ren.qp]
def rlt(R:V7 n r){v w:Nat}(h:w∈r v):v<n/\w<n:=⟨R.lt _ _ h,R.lt _ _ (R.sy _ _ h)⟩
theorem uX(N:Ren n p q)(R:V7 n r){v w:Nat}:w∈uH n p q r v↔v<n/\w<n/\q w∈r (q v):=by
 unfold uH;by_cases c:v<n
 .rw[IE c,Eh];constructor
  .rintro⟨x,a,rfl⟩;have:=(rlt R a).2;grind[Ren.pl,Ren.qp]
  grind[Ren.pq]
 grind
theorem aef(N:Ren n p q)(R:V7 n r):V7 n (uH n p q r):=by
 refine⟨fun v=>?_,(by grind[uX]),fun v w h=>?_,(by grind[V7.ir,uX])⟩
 .unfold uH;split
  .rw[Gw,vY];exact V3 (fun{x y} b c a e=>a (N.inj (rlt R b).2 (rlt R c).2 e)) (Gw.1 (R.nd _))
  .simp
 grind[uX,V7.sy]
def ren_phi(N:Ren n p q)(R:V7 n r){d:H8}(hd:d∈dl n r):Nv (uH n p q r) (pp p d)=pp p (Nv r d):=by have a:=(IP R).1 hd;have hs:=R.sy _ _ a;show(p d.2,nx (uH n p q r (p d.2)) (p d.1))=(p d.2,p (nx (r d.2) d.1));rw[ren_at N (rlt R a).2,HL (fun x b y c e=>N.inj (rlt R b).2 (rlt R c).2 e) hs]
def XS(N:Ren n p q)(R:V7 n r){d:H8}(hd:d∈dl n r):∀k,it (Nv (uH n p q r)) k (pp p d)=pp p (it (Nv r) k d)
 |0=>rfl
 |k+1=>by show Nv (uH n p q r) (it (Nv (uH n p q r)) k (pp p d))=_;rw[XS N R hd k,ren_phi N R ((aaG R).uN hd k)];rfl
theorem pp_inj(N:Ren n p q)(R:V7 n r){d e:H8}(hd:d∈dl n r)(a:e∈dl n r)(h:pp p d=pp p e):d=e:=by have b:=rlt R ((IP R).1 hd);have h2:=rlt R ((IP R).1 a);injection h with k1 k2;grind[Ren.inj]
theorem ren_cr(N:Ren n p q)(R:V7 n r){x y:Nat}(b:x<n)(d:y<n):Cr (uH n p q r) (p x) (p y)↔Cr r x y:=by
 constructor
 .have QI:∀z,Cr (uH n p q r) (p x) z->Cr r x (q z):=fun z c=>by
   induction c with
   |refl=>rw[N.qp x b];exact .refl _
   |step _ hs a=>exact a.step (by grind[uX])
  grind[Ren.qp]
 .intro h;clear d
  induction h with
  |refl=>exact .refl _
  |step _ hs a=>have k:=rlt R hs;exact a.step (by grind[uX,Ren.pl,Ren.qp])
theorem pd(N:Ren n p q)(R:V7 n r):Flat n (uH n p q r)↔Flat n r:=by
 have R':=aef N R;have a:(rG n).Perm ((rG n).map p):=by
  refine yR AQ ?_ fun v=>?_
  .grind[List.Pairwise.imp_of_mem,Ren.inj,List.nodup_range]
  .all_goals grind[Ren.ql,Ren.pq,Ren.pl]
 have b:(dl n (uH n p q r)).Perm ((dl n r).map (pp p)):=by
  refine yR (J8 R') ?_ fun d=>?_
  .rw[Gw,vY];exact V3 (fun{x y} i j c e=>c (pp_inj N R i j e)) (Gw.1 (J8 R))
  .rw[IP R',uX N R,Eh];constructor
   .rintro⟨l,h2,h3⟩;exact⟨(q d.1,q d.2),(IP R).2 h3,by show(p (q d.1),p (q d.2))=d;grind[Ren.pq]⟩
   .rintro⟨e,f,rfl⟩;have h:=(IP R).1 f;have k:=rlt R h;refine⟨N.pl _ k.1,N.pl _ k.2,?_⟩;show q (p e.2)∈r (q (p e.1));grind[Ren.qp]
 have m:(dl n (uH n p q r)).length=(dl n r).length:=by rw[b.length_eq,fj]
 have o:cls (WD (Nv (uH n p q r))) (dl n (uH n p q r))=cls (WD (Nv r)) (dl n r):=by
  rw[Yy b (aaG R').eqv,Zx];refine IZ fun d hd e f=>?_;constructor
  .rintro⟨k,g⟩;rw[XS N R hd k]at g;exact⟨k,pp_inj N R ((aaG R).uN hd k) f g⟩
  .rintro⟨k,rfl⟩;exact⟨k,XS N R hd k⟩
 have e3:((rG n).filter fun v=>decide (uH n p q r v=[])).length=((rG n).filter fun v=>decide (r v=[])).length:=by rw[(a.filter _).length_eq,qL218,fj];refine congrArg List.length (QD fun v s=>?_);grind[ren_at,List.map_eq_nil_iff]
 have e4:iJ n (uH n p q r)=iJ n r:=by unfold iJ;rw[Yy a (Cr.eqv R' _),Zx];exact IZ (by grind[ren_cr])
 grind[Flat,mj]
theorem XU.ren(N:Ren n p q){E E':Nat->II}(h:∀v w,w∈E' v↔v<n/\w<n/\q w∈E (q v))(b:XU n E):XU n E':=by obtain⟨R,a,fl,c⟩:=b;exact⟨uH n p q R,aef N a,(pd N a).2 fl,(by grind[uX])⟩
end
end
end Go.Fw
