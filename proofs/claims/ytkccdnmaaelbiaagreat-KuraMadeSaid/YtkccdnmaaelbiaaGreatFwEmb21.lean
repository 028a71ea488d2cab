/- A text. -/
import Derived.Test.YtkccdnmaaelbiaaGreatFwEmb17
set_option linter.all false
set_option maxRecDepth 99999
set_option maxHeartbeats 9999999
namespace Go.Fw
attribute [local instance] Classical.propDecidable
section
variable {n : Nat} {R : Nat → List Nat} {H : Nat → Nat → Prop} {F : List (List Nat)} {f g : List Nat} {A B : Nat → List Nat} {le : Nat → Nat → Nat} {hm : Nat × Nat × Nat → List Nat}
theorem Mv.blobs (M:Mv n R H F f g A B le hm):∃j Q l P:Nat->II,XY n R (Ul f g) (fB R H f g) (Sz R H le hm) j Q l P/\(∀u∈Ul f g,AtU R H f g A B le hm u (j u) (Q u) (l u) (P u))/\∀v,v∉Ul f g->∀w∈R v,¬fB R H f g v w->Sz R H le hm v w∈Ul f g:=by
 have Cx:=M.P.C;have b:∀u:Nat,∃q:II×II×II×II,u∈Ul f g->AtU R H f g A B le hm u q.1 q.2.1 q.2.2.1 q.2.2.2:=fun u=>by
  by_cases h:u∈Ul f g
  .obtain ⟨j, Q, l, P, k⟩ := M.atU h
   exact⟨(j,Q,l,P),fun _=>k⟩
  simp_all
 obtain⟨W,r⟩:=iU b;have a:∀v w,w∈R v->¬H v w->¬SK R H f g (QI R H v w)->Sz R H le hm v w∈Ul f g:=fun v w hw D s=>by
  obtain⟨u,x,m,i⟩:=M.P.one v w hw D;obtain⟨E,_,_,_,_⟩:=M.home u x m (i▸s);unfold Sz;rw[if_neg D,i];exact M.L.inU _ _ (M.T.O.bz _ E _ (Lt (M.T.O.ne _ E)))
 refine⟨fun u=>(W u).1,fun u=>(W u).2.1,fun u=>(W u).2.2.1,fun u=>(W u).2.2.2,⟨Cx.Rl,M.T.ndU,M.h2,fun v w h=>?_,fun v w hw=>?_,fun v o=>?_,(by grind [AtU.cyc]),(by grind [AtU.xl]),(by grind [AtU.yl]),(by grind [AtU.q]),(by grind [AtU.p]),fun u t e=>?_,fun u t e=>?_⟩,r,fun v o w hw s=>?_⟩
 .exact⟨Cx.Rl.sy _ _ h.1,fun q=>h.2.1 (Cx.sym _ _ q),by rw[<-RX Cx.Rl h.1];exact h.2.2⟩
 .unfold Sz
  by_cases c:H v w
  .rw [if_pos c, if_pos (Cx.sym _ _ c)]
   exact M.L.sym v w (by grind [EM])
  .rw[if_neg c,if_neg fun q=>c (Cx.sym _ _ q),RX Cx.Rl hw]
 .by_cases c : off R H v
  .by_cases d : SK R H f g (0, lo R H v, 0)
   .exact .inl fun w hw=>⟨hw,c w hw,by grind [M6]⟩
   .refine .inr ⟨fun w hw q => d (by have := q.2.2; grind [M6]), fun w hw w' y => ?_⟩
    unfold Sz;rw[if_neg (c w hw),if_neg (c w' y),M6 c,M6 c]
  .have nS : ∀ w ∈ R v, ¬ fB R H f g v w := fun w hw q => o (zq.2 ⟨q.2.2.1 v w ⟨c, hw, q.2.1⟩ rfl, q.2.2.2.1 v w ⟨c, hw, q.2.1⟩ rfl⟩)
   obtain⟨z,k1,k2⟩:=Q7 c;have i:z∈Om H R v:=by grind [EM]
   have all:∀w∈R v,Sz R H le hm v w=le v z:=fun w hw=>by
    by_cases d:H v w
    .unfold Sz; rw [if_pos d]
     exact M.L.same v o w z (by grind [EM]) i
    .have m : QP R H v w := ⟨c, hw, d⟩
     exact M.tl_at m (fun q=>nS w hw ⟨hw,d,q⟩) m rfl o i
   grind
 .have := (r u t).xh
  simp_all
 .have := (r u t).yh
  simp_all
 .by_cases d : H v w
  .unfold Sz; rw [if_pos d]
   exact M.L.inU v w (by grind [EM])
  .exact a v w hw d fun q=>s ⟨hw,d,q⟩
theorem Pg.move (P:Pg n R H F) (alt:∀u x,QP R H u x->∃N∈F,∃h2∈F,N≠h2/\Fits R H (QI R H u x) N/\Fits R H (QI R H u x) h2)
  (hf:f∈F) (hg:g∈F) (E:f≠g) {b x0:Nat} (D:QP R H b x0) (c0:WQ R H g b x0) (fit:Fits R H (QI R H b x0) f):
  ∃R',V7 n R'/\Flat n R'/\(∀v w,w∈R' v↔w∈R v)/\pP (Om H R') (Om H R)/\WQ R' H f b x0:=by
 have Cx:=P.C;have T:yx n (Om H R) F f g:=⟨OG Cx.Rl Cx.sym,Cx.O,Cx.fl.keep Cx.Rl Cx.sym,hf,hg,E,Cx.bp⟩;have s:Fits R H (QI R H b x0) g:=by
  obtain⟨h,hh,t⟩:=P.EI D;have e:=Cx.YQ hh hg (t b x0 D rfl) c0;subst e;exact fun z y i S=>by grind [WQ.ug]
 have j:b∈Ul f g:=zq.2 ⟨fit b x0 D rfl,s b x0 D rfl⟩;obtain⟨z,y,i,aD,S⟩:=P.two b x0 D;have aH:z∈Ul f g:=zq.2 ⟨fit z y i S.symm,s z y i S.symm⟩;have h2:∀u∈Ul f g,nx (Ul f g) u≠u:=by grind [Bk,yx.ndU]
 obtain⟨A,B,C⟩:=T.cutU;obtain⟨le,L⟩:=T.labE C h2 j;have key1:∀k:Nat×Nat×Nat,∃h:II,∀u x,QP R H u x->QI R H u x=k->¬SK R H f g k->h∈F/\h≠f/\h≠g/\Fits R H k h/\∀h'∈F,WQ R H h' u x->h'≠f->h'≠g->h'=h:=fun k=>by
  by_cases c:∃u x,QP R H u x/\QI R H u x=k/\¬SK R H f g k
  .obtain ⟨u, x, U, rfl, V⟩ := c
   obtain⟨h,hh,t⟩:=P.EI U;have az:Fits R H (QI R H u x) h:=fun z y i S=>by grind [WQ.ug]
   by_cases d:h≠f/\h≠g
   .exact⟨h,(by grind [Ctx.YQ])⟩
   .have aJ : h = f \/ h = g := pw
    have aK:=t u x U rfl;have nb:¬(Fits R H (QI R H u x) f/\Fits R H (QI R H u x) g):=fun q=>V ⟨q.1,q.2,u,x,U,rfl,pw⟩;obtain⟨N,m1,aP,m2,aC,f1,f2⟩:=alt u x U;have ex:∃h3∈F,h3≠f/\h3≠g/\Fits R H (QI R H u x) h3:=pw;obtain⟨h3,m3,a1,a2,f3⟩:=ex;refine⟨h3,fun u' x' aT aW _=>⟨m3,a1,a2,f3,fun h' aX a6 b1 b2=>?_⟩⟩
    grind [Ctx.YQ]
  .exact⟨[],pw⟩
 obtain⟨hm,a7⟩:=iU key1;have M:Mv n R H F f g A B le hm:=⟨P,T,C,L,h2,pw⟩;obtain⟨m,Q,o,r,W,G,I⟩:=M.blobs;obtain⟨_,ae,ae8⟩:=W.Vp Cx.fl I;have X:∀{v},v∈Ul f g->Vp R (Ul f g) (fB R H f g) m Q o r v=m v++((r v).reverse++(o v++(Q v).reverse)):=fun h=>if_pos h;have J:∀v w,w∈Vp R (Ul f g) (fB R H f g) m Q o r v↔w∈R v:=fun v w=>by
  by_cases c:v∈Ul f g
  .rw [X c, (W.cyc v c).perm.mem_iff]
   grind
  .unfold Vp
   rw[if_neg c];split
   all_goals grind
 refine⟨_,ae8,ae,J,fun v=>?_,?_,?_⟩
 .by_cases c : v ∈ Ul f g
  .have a := G v c
   have e:Om H (Vp R (Ul f g) (fB R H f g) m Q o r) v=(A v++[pv g v])++(B v++[pv f v]):=by
    show(Vp R (Ul f g) (fB R H f g) m Q o r v).filter _=_;rw[X c,EP,EP,EP,a.xh,a.yh,mz fun z i=>(a.p z (acQ.1 i)).2.1,mz fun z i=>(a.q z (acQ.1 i)).2.1];simp
   grind [Wa.c,Cyc.symm]
  .have e : Vp R (Ul f g) (fB R H f g) m Q o r v = if ∃ w ∈ R v, ¬ fB R H f g v w then R v else (R v).reverse := if_neg c
   by_cases d:∃w∈R v,¬fB R H f g v w
   .rw [if_pos d] at e
    show Cyc ((Vp R (Ul f g) (fB R H f g) m Q o r v).filter _) _;rw[e];exact Cyc.refl _
   .rw [if_neg d] at e
    have hn:∀z∈R v,¬H v z:=fun z i q=>d ⟨z,i,fun k=>k.2.1 q⟩;show Cyc ((Vp R (Ul f g) (fB R H f g) m Q o r v).filter _) ((R v).filter _);rw[e,mz pw,mz hn];exact Cyc.refl _
 .grind [zq]
 .have a := G b j
  have V:fB R H f g b x0:=⟨D.mem,D.nh,fit,s,b,x0,D,rfl,.inr c0⟩;have ag:x0∈Q b:=by
   have:=(W.cyc b j).perm.mem_iff.1 D.mem
   grind [AtU.xl,AtU.yl,Ctx.YQ,AtU.pf]
  have nd:=(W.cyc b j).perm.nodup_iff.1 (Cx.Rl.nd b);have aj:=ae8.nd b;rw[X j]at aj;have al:x0∉m b:=fun q=>(a.xl x0 q).1 V;have aq:x0∉o b:=fun q=>(a.yl x0 q).1 V;have ar:x0∉(r b).reverse:=fun q=>E (Cx.YQ hf hg (by grind [AtU.pf]) c0);obtain⟨Y,Z,eq,_⟩:=sC (acQ.2 ag);have hQ:∀z∈Y++x0::Z,¬H b z:=fun z i=>(a.q z pw).2.1;have nq:(Y++x0::Z).Nodup:=pw;have av:x0∉Y:=by grind [List.mem_cons_self]
  have ay:x0∉Z:=(ZT.1 (si.1 nq).2.1).1;have hN:∀l:II,(∀z∈l,¬H b z)->x0∉l->l.filter (fun w=>decide (H b w\/w=x0))=[]:=fun l N h2=>filter_none pw;have hY:∀l:II,x0∉l->l.filter (fun w=>decide (H b w\/w=x0))=l.filter (fun w=>decide (H b w)):=fun l h=>qH fun w hw=>by
   rw[decide_eq_decide];exact⟨pw,.inl⟩
  have e:cl (Vp R (Ul f g) (fB R H f g) m Q o r) H b x0=((A b++[pv g b])++B b)++pv f b::x0::[]:=by
   show(Vp R (Ul f g) (fB R H f g) m Q o r b).filter _=_;rw[X j,eq,EP,EP,EP,EP,hY _ al,a.xh,hN _ (fun z i=>(a.p z (acQ.1 i)).2.1) ar,hY _ aq,a.yh,hN Y (fun z i=>hQ z (by simp[i])) av,filter_one (decide_eq_true (.inr rfl)),hN Z (fun z i=>hQ z (by simp[i])) ay];simp
  have K:(cl (Vp R (Ul f g) (fB R H f g) m Q o r) H b x0).Nodup:=(ae8.nd b).sublist xD;rw[e]at K ⊢;exact Nu fun k=>(si.1 K).2.2 _ k _ Ma rfl
end
end Go.Fw
namespace Go.Fw
attribute [local instance] Classical.propDecidable
section
variable {n : Nat} {R R' : Nat → List Nat} {H : Nat → Nat → Prop} {F : List (List Nat)} {f : List Nat} {a b : Nat} {inn A B : List Nat}
theorem FO.same {r d:Nat->II} (O:FO r F) (e:V7 n r) (h:pP r d):FO d F:=
 ⟨O.nd,O.ne,fun f hf v c=>h.mem.1 (O.bz f hf v c),fun f hf v c=>by
   rw[<-O.step f hf v c];exact((h _).nx (e.nd _) (e.sy _ _ (O.bz f hf v c))).symm,
  fun v w hw=>O.cover v w (h.mem.2 hw),O.uniq,O.nodup⟩
theorem Ctx.same (C:Ctx n R H F) (c:V7 n R') (fl:Flat n R') (h:pP (Om H R') (Om H R)):Ctx n R' H F:=by
 refine⟨c,C.sym,fl,C.O.same (OG C.Rl C.sym) h.symm,fun v w d hw=>?_⟩;have ne:∀{v},Om H R' v≠[]->Om H R v≠[]:=fun{v} q e=>q (by have:=h v;grind [Cyc.nil]);exact(C.bp v w (ne d) (ne hw)).mono fun x y q=>h.mem.2 q
theorem uR (c:∀v w,w∈R' v↔w∈R v) (v:Nat):off R' H v↔off R H v:=⟨fun h w hw=>h w ((c v w).2 hw),fun h w hw=>h w ((c v w).1 hw)⟩
theorem Py (d:∀v w,w∈R' v↔w∈R v) (v w:Nat):QI R' H v w=QI R H v w:=by
 have c:=uR (H:=H) d;have g:∀v,lo R' H v=lo R H v:=fun v=>by
  unfold lo;congr 1;funext z;refine propext ⟨fun q=>q.mono fun x y k=>?_,fun q=>q.mono fun x y k=>?_⟩
  .obtain ⟨k1, k2, e⟩ := EM.1 k
   exact EM.2 ⟨(d _ _).1 k1,(c _).1 k2,(c _).1 e⟩
  .obtain ⟨k1, k2, e⟩ := EM.1 k
   exact EM.2 ⟨(d _ _).2 k1,(c _).2 k2,(c _).2 e⟩
 grind [QI]
def Fv (c:∀v w,w∈R' v↔w∈R v) {u x:Nat}:QP R' H u x↔QP R H u x:=
 ⟨fun h=>⟨fun q=>h.on ((uR c u).2 q),(c _ _).1 h.mem,h.nh⟩,fun h=>⟨fun q=>h.on ((uR c u).1 q),(c _ _).2 h.mem,h.nh⟩⟩
theorem Ka.same (W:Ka R H a inn b) (c:∀v w,w∈R' v↔w∈R v):Ka R' H a inn b:=
 ⟨W.nd,(by grind [Ka.UQ]),(by grind [Ka.off]),
  by grind [Ka.ona],by grind [Ka.sN]⟩
theorem Ctx.lay (C:Ctx n R H F) (W:Ka R H a inn b) (hf:f∈F) (p:WQ R H f a ((inn++[b]).headD 0)) (cy:Cyc f ((a::A)++(b::B))):
  Ctx n R (fun x y=>H x y\/Ay a inn b x y) (half a A b inn::half b B a inn.reverse::F.erase f):=by
 have k:=C.Rl;have hs:=C.sym;have L:=W.lay k hs;have d:∀v w,(H v w\/Ay a inn b v w)->H w v\/Ay a inn b w v:=by grind [Ef]
 obtain⟨u,g,c1,c2,d1,d2⟩:=C.drawn W;have:=C.YQ g hf c1 p;subst this;have z:Jt R H a inn b b=cl R H b ((inn.reverse++[a]).headD 0):=by
  refine qH fun y _=>?_
  grind [Ka.Kk]
 have r:=L.gY C.O g cy (by rw[W.Ui];exact c1.at_) (by grind [WQ.at_]) d1 d2;have s:V7 n (Jt R H a inn b):=OG k d;have up:∀{v w},Cr (Om H R) v w->Cr (Jt R H a inn b) v w:=fun h=>h.mono fun x y q=>EM.2 ⟨(EM.1 q).1,.inl (EM.1 q).2⟩;have along:∀(i x:Nat),(nr a inn b)[i]?=some x->Cr (Jt R H a inn b) a x:=fun i=>by
  induction i with
  |zero=>
   intro x j;have:=j.symm.trans (yT a b inn).1;injection this with this;subst this;exact .refl _
  |succ i t=>
   intro x j;have D:=(Ny.1 j).1;have o:(nr a inn b)[i]?=some ((nr a inn b)[i]'(by omega)):=XJ NH
   exact(t _ o).step (L.UQ o j)
 have toA:∀v,Jt R H a inn b v≠[]->Cr (Jt R H a inn b) a v:=fun v m=>by
  by_cases c:Om H R v=[]
  .obtain ⟨w, l, e⟩ := iy m
   have hw:w∈Jt R H a inn b v:=by rw[e];simp
   obtain⟨k1,k2⟩:=EM.1 hw;rcases k2 with k2|k2
   .have : w ∈ Om H R v := by grind [EM]
    grind
   .rcases k2 with ⟨i, E, _⟩ | ⟨i, _, h2⟩
    all_goals grind
  grind [Ctx.bp,Lay.ra]
 exact⟨k,d,C.fl,r,fun v w m hw=>((toA v m).symm s).trans (toA w hw)⟩
theorem Pg.step (P:Pg n R H F) (hf:f∈F) {s:Nat} (e:QP R H a s) (fit:Fits R H (QI R H a s) f)
  (cond:(∀h∈F,Fits R H (QI R H a s) h->h=f)\/∀u x,QP R H u x->∃i∈F,∃h2∈F,i≠h2/\Fits R H (QI R H u x) i/\Fits R H (QI R H u x) h2)
  (W:Ka R H a inn b) (hs:(inn++[b]).headD 0=s) (cy:Cyc f ((a::A)++(b::B))):
  ∃R',(∀v w,w∈R' v↔w∈R v)/\Ctx n R' (fun x y=>H x y\/Ay a inn b x y) (half a A b inn::half b B a inn.reverse::F.erase f):=by
 obtain⟨g,hg,d⟩:=P.EI e;have j:=d a s e rfl;have k:Fits R H (QI R H a s) g:=fun z y r t=>by grind [WQ.ug]
 by_cases c:g=f
 .subst c
  exact⟨R,pw,P.C.lay W hg (hs▸j) cy⟩
 .rcases cond with q | alt
  .grind
  .obtain ⟨R', l, fl, m, o, p⟩ := P.move alt hf hg (fj c) e j fit
   have C':=P.C.same l fl o;exact⟨R',m,(by grind [Ctx.lay,Ka.same])⟩
theorem Pg.fits (P:Pg n R H F) {u x:Nat} (d:QP R H u x):∃g∈F,Fits R H (QI R H u x) g:=by
 obtain⟨g,hg,c⟩:=P.EI d;exact⟨g,hg,fun z y e h=>by grind [WQ.ug]⟩
end
end Go.Fw
namespace Go.Fw
attribute [local instance] Classical.propDecidable
structure QG (R:Nat->II):Prop where
 bp:∀v w,R v≠[]->R w≠[]->Cr R v w
 Z7:∀c v w,v≠c->w≠c->R v≠[]->R w≠[]->Cr (Om (fun x y=>x≠c/\y≠c) R) v w
section
variable {n : Nat} {R R' : Nat → List Nat} {H : Nat → Nat → Prop} {F : List (List Nat)}
theorem QG.same (D:QG R) (d:∀v w,w∈R' v↔w∈R v):QG R':=by
 have ne:∀{v},R' v≠[]->R v≠[]:=fun{v} h e=>by
  obtain⟨w,l,q⟩:=iy h;have:w∈R v:=pw
  grind
 refine⟨fun v w a hw=>(D.bp v w (ne a) (ne hw)).mono pw,fun c v w b h2 a hw=>(D.Z7 c v w b h2 (ne a) (ne hw)).mono fun x y h=>?_⟩
 grind [EM]
theorem tq {r:Nat->II} (f:V7 n R) (sub:∀v w,w∈r v->w∈R v) {v w:Nat} (h:Cr r v w) (d:off R H v):(Cr (Mm R H) v w/\off R H w)\/∃y z,Cr (Mm R H) v y/\off R H y/\¬off R H z/\z∈r y:=by
 induction h with
 |refl=>exact .inl ⟨.refl _,d⟩
 |@step b c _ g a=>
  rcases a with⟨e,h2⟩|a
  .by_cases q : off R H c
   .exact .inl ⟨e.step (EM.2 pw),q⟩
   grind
  grind
theorem Ctx.pieces (C:Ctx n R H F) (D:QG R) (h2:∃p q,p≠q/\¬off R H p/\¬off R H q):Pg n R H F:=by
 obtain⟨p,q,o,s,J⟩:=h2;have a:=C.Rl;have d:∀{v w},w∈R v->R v≠[]:=pw;have A:∀{v},¬off R H v->R v≠[]:=by grind [Q7]
 have mk:∀{r:Nat->II} {v w:Nat},(∀v w,w∈r v->w∈R v)->Cr r v w->off R H v->¬off R H w->∃u x,QP R H u x/\QI R H u x=(0,lo R H v,0)/\x∈R u/\u∈r x:=fun{r v w} sub j B hw=>by
  rcases tq a sub j B with h|⟨y,z,E,h2,h3,f⟩
  .grind
  .have m := a.sy _ _ (sub _ _ f)
   exact⟨z,y,⟨h3,m,fun k=>h2 z (sub _ _ f) (C.sym _ _ k)⟩,by grind [Jn,fX],m,f⟩
 refine⟨C,fun u x b=>?_,fun v w hw G=>?_⟩
 .by_cases c : off R H x
  .have : ∃ t, t ≠ u /\ ¬ off R H t := pw
   obtain⟨t,I,g⟩:=this;have i:x≠u:=by grind [QP.on]
   have j:=D.Z7 u x t i I (d (a.sy _ _ b.mem)) (A g)
   grind [EM,Jn,QP.on]
  .exact⟨x,u,⟨c,a.sy _ _ b.mem,fun k=>b.nh (C.sym _ _ k)⟩,fun e=>a.ir u (e▸b.mem),RX a b.mem⟩
 .by_cases c : off R H v
  .obtain ⟨z, y, E, h2, _⟩ := mk (fun _ _ h => h) (by grind [QG.bp]) c s
   grind [M6]
  .exact⟨v,w,⟨c,hw,G⟩,rfl⟩
end
def Ei (l:II) (x y:Nat):Prop:=(x∈l/\nx l x=y)\/(y∈l/\nx l y=x)
theorem aaN {l:II} (nd:l.Nodup) (h3:3<=l.length) {v:Nat} (d:v∈l):nx l v≠pv l v:=fun e=>by
 have f:nx l (nx l v)=v:=by grind [G5]
 have QI:∀k,it (nx l) k v=v\/it (nx l) k v=nx l v:=fun k=>by
  induction k<;>grind [it]
 have sub:∀w∈l,w∈[v,nx l v]:=fun w hw=>by
  obtain⟨k,rfl⟩:=JT nd d hw
  grind
 match l,h3 with
 |a::b::c::t,_=>
  have ha:=sub a Ma;have hb:=sub b Ma;have g:=sub c Ma
  grind
section
variable {n : Nat} {R : Nat → List Nat} {l : List Nat}
theorem ki {x y:Nat} (h:Ei l x y):Ei l y x:=h.symm
theorem Cy (i:V7 n R) (fl:Flat n R) (nd:l.Nodup) (h3:3<=l.length) (j:∀v∈l,nx l v∈R v):Ctx n R (Ei l) [l,l.reverse]:=by
 have hR:V7 n (Om (Ei l) R):=by grind [OG,ki]
 have b:∀v∈l,∀w,w∈Om (Ei l) R v↔w=pv l v\/w=nx l v:=fun v a w=>by
  rw[EM];constructor
  .rintro ⟨_, h | h⟩
   all_goals grind [c7]
  .rintro (rfl | rfl)
   .have k1 := BJ a
    have k2:=G5 nd a;refine⟨?_,.inr ⟨k1,k2⟩⟩
    grind [V7.sy]
   .exact⟨j v a,.inl ⟨a,rfl⟩⟩
 have c:∀v w,w∈Om (Ei l) R v->v∈l:=fun v w h=>by
  rcases(EM.1 h).2 with h|h
  all_goals grind [ZP]
 have two:∀v∈l,nx (Om (Ei l) R v) (pv l v)=nx l v/\nx (Om (Ei l) R v) (nx l v)=pv l v:=fun v a=>ZZ (hR.nd v) (by grind [aaN]) (b v a);have o:∀v,nx l.reverse v=pv l v:=fun v=>rfl;have ne:l≠[]:=fun e=>by grind
 have O:FO (Om (Ei l) R) [l,l.reverse]:=by
  refine⟨fun f hf=>?_,fun f hf=>?_,fun f hf v a=>?_,fun f hf v a=>?_,fun v w hw=>?_,fun f hf g hg v p h2 e=>?_,?_⟩
  .grind
  .simp at hf; rcases hf with rfl | rfl
   .exact ne
   .simpa using ne
  .grind
  .grind [ZP,c7]
  .grind
  .grind [aaN]
  .obtain ⟨v, t, q⟩ := iy ne
   grind [aaN]
 refine⟨i,(by grind [ki]),fl,O,fun v w a hw=>?_⟩;have inl:∀{v},Om (Ei l) R v≠[]->v∈l:=fun{v} h=>by
  obtain⟨w,t,q⟩:=iy h;exact c v w (by rw[q];simp)
 obtain⟨k,rfl⟩:=JT nd (inl a) (inl hw);have d:=inl a;have:∀k,Cr (Om (Ei l) R) v (it (nx l) k v):=fun k=>by
  induction k with
  |zero=>exact .refl _
  |succ k m=>exact m.step ((b _ (O.it Ma d k).1 _).2 (.inr rfl))
 exact this k
end
end Go.Fw
namespace Go.Fw
attribute [local instance] Classical.propDecidable
noncomputable def kV (n:Nat) (r:Nat->II):II:=(List.range n).filter fun v=>decide (r v≠[])
def Num (n:Nat) (r:Nat->II) (F:Cs):Prop:=2*((kV n r).length+F.length)=(dl n r).length+4
theorem nu {L:II} {c:Nat}:∀X:II,(X.map fun v=>if v∈L then c else 0).sum=c*(X.filter fun v=>decide (v∈L)).length
 |[]=>rfl
 |x::X=>by
  rw[wI,MY,nu X]
  grind
def NT {f g h k:Nat->Nat}:∀X:II,(∀x∈X,f x=g x+h x+k x)->(X.map f).sum=(X.map g).sum+(X.map h).sum+(X.map k).sum
 |[],_=>rfl
 |x::X,c=>by
  simp only[wI,MY];rw[NT X fun y d=>c y (j9 _ d),c x Db];omega
theorem Xp {n:Nat} {L:II} (nd:L.Nodup) (h:∀x∈L,x<n):((List.range n).filter fun v=>decide (v∈L)).length=L.length:=by
 refine(yR (by grind [List.filter_sublist]) nd fun v=>?_).length_eq
 grind
theorem Vq (n:Nat) (r:Nat->II):(dl n r).length=((List.range n).map fun v=>(r v).length).sum:=by grind [dl,List.map_congr_left]
section
variable {n : Nat} {r r' : Nat → List Nat} {F F' : List (List Nat)} {a b : Nat} {inn : List Nat}
def Lay.lts (L:Lay n r r' a b inn):a<n/\b<n/\∀x∈inn,x<n:=by
 refine⟨L.R'.lt _ _ L.sa,L.R'.lt _ _ L.sb,fun x c=>?_⟩;obtain⟨i,p,d,h2⟩:=qm (a:=a) (b:=b) (.inr c);exact L.R'.lt _ _ (L.R'.sy _ _ (L.UQ d h2))
theorem Lay.deg (L:Lay n r r' a b inn) (v:Nat):(r' v).length=(r v).length+(if v∈[a,b]then 1 else 0)+(if v∈inn then 2 else 0):=by
 have one:∀{l:II} {s:Nat},s∈l->l.length=(l.erase s).length+1:=pw;by_cases c1:v=a
 .subst c1
  rw[one L.sa,L.ea,if_pos Ma,if_neg L.ain]
 by_cases c2:v=b
 .subst c2
  rw[one L.sb,L.eb,if_pos Ma,if_neg L.bin]
 by_cases c:v∈inn
 .rw [if_pos c, L.off v c]
  obtain⟨i,p,f,g⟩:=qm (a:=a) (b:=b) (.inr c);have hi:i+2<(nr a inn b).length:=by grind [Eo,Fg]
  obtain⟨_,_,k⟩:=L.mid i p v _ f g (XJ hi);have d:p≠(nr a inn b)[i+2]:=fun e=>by
   have:=X6 L.ndP f (by rw[e];exact XJ hi);omega
  have:=(yR (L.R'.nd v) (by simp[d]:[p,(nr a inn b)[i+2]].Nodup) pw).length_eq
  grind
 grind [Lay.Wn]
theorem Lay.num (L:Lay n r r' a b inn) (d:F'.length=F.length+1) (N:Num n r F):Num n r' F':=by
 obtain⟨f,g,li⟩:=L.lts;have h:(dl n r').length=(dl n r).length+2*(inn.length+1):=by
  rw[Vq,Vq,NT _ fun v _=>L.deg v,nu,nu,Xp (by simp[L.ab]) pw,Xp L.nd li];simp;omega
 have i:(kV n r').length=(kV n r).length+inn.length:=by
  have pm:(kV n r').Perm (kV n r++inn):=by
   refine yR (Tn.sublist xD) ?_ fun v=>?_
   .rw [si]
    refine⟨Tn.sublist xD,L.nd,fun x c y j e=>?_⟩;have:=(VU.1 c).2
    grind [Lay.off]
   .unfold kV
    have hd:=L.deg v
    grind [Lay.ra,Lay.rb,Lay.Wn]
  rw[pm.length_eq,vZ]
 grind [Num]
theorem Num.flat (N:Num n r F) (R:V7 n r) (O:FO r F) (bp:∀v w,r v≠[]->r w≠[]->Cr r v w) (ne:∃v,v<n/\r v≠[]):Flat n r:=by
 obtain⟨d,i,j⟩:=ne;have f:((List.range n).filter fun v=>decide (r v=[])).length+(kV n r).length=n:=by
  have QI:∀X:II,(X.filter fun v=>decide (r v=[])).length+(X.filter fun v=>decide (r v≠[])).length=X.length:=fun X=>by
   induction X<;>grind
  have:=QI (List.range n);rw[mg]at this;exact this
 have l:iJ n r=((List.range n).filter fun v=>decide (r v=[])).length+1:=by
  unfold iJ;have iso:∀{v w},r v=[]->Cr r v w->v=w:=fun{v w} h c=>by
   induction c<;>grind
  have k1:∀y∈((List.range n).filter fun v=>decide (r v=[]))++[d],y∈List.range n:=pw;have k2:(((List.range n).filter fun v=>decide (r v=[]))++[d]).Pairwise fun a b=>¬Cr r a b:=by
   rw[Ah];refine⟨?_,Ma,fun x g y m c=>?_⟩
   .refine ff (R := fun x y => x ≠ y) (fun {x y} g _ e c => e ?_) (by grind [List.nodup_range])
    grind
   grind
  have k:∀x∈List.range n,∃y∈((List.range n).filter fun v=>decide (r v=[]))++[d],Cr r x y:=fun x g=>by
   by_cases h:r x=[]
   .exact⟨x,(by grind [decide_eq_true]),.refl _⟩
   grind
  rw[qo (Cr.eqv R _) Tn k1 k2 k];simp
 grind [Flat,mj,FO.cls,Num]
end
end Go.Fw
namespace Go.Fw
attribute [local instance] Classical.propDecidable
section
variable {n : Nat} {r r' : Nat → List Nat} {F : List (List Nat)} {f A B : List Nat} {a b : Nat} {inn : List Nat}
theorem Lay.mem (L:Lay n r r' a b inn) {x y:Nat}:y∈r' x↔y∈r x\/Ay a inn b x y:=by
 have ends:∀{a b:Nat} {inn:II} (_:Lay n r r' a b inn) {y:Nat},y∈r' a->y∈r a\/Ay a inn b a y:=fun{a b inn} L {y} h=>by
  by_cases c:y=(inn++[b]).headD 0
  .subst c
   obtain⟨k,m⟩:=yT a b inn;exact .inr (.inl ⟨0,k,m⟩)
  grind [Lay.ea]
 constructor
 .intro h
  by_cases c1:x=a
  .grind
  by_cases c2:x=b
  .subst c2;exact(ends L.swap h).imp id Ha.1
  by_cases o:x∈inn
  .obtain ⟨i, p, e, d⟩ := qm (a := a) (b := b) (.inr o)
   have hi:i+2<(nr a inn b).length:=by grind [Eo,Fg]
   have g:(nr a inn b)[i+2]?=some ((nr a inn b)[i+2]'hi):=XJ hi
   rcases((L.mid i p x _ e d g).2.2 y).1 h with rfl|rfl
   .exact .inr (.inr ⟨i,e,d⟩)
   .exact .inr (.inl ⟨i+1,d,g⟩)
  grind [Lay.Wn]
 .rintro (h | ⟨i, j, h2⟩ | ⟨i, j, h2⟩)
  .exact L.sub h
  .grind [Lay.UQ]
  .exact L.R'.sy _ _ (L.UQ j h2)
theorem Lay.conn2 (L:Lay n r r' a b inn) (bp:∀v w,r v≠[]->r w≠[]->Cr r v w):∀v w,r' v≠[]->r' w≠[]->Cr r' v w:=by
 have along:∀(i x:Nat),(nr a inn b)[i]?=some x->Cr r' a x:=fun i=>by
  induction i with
  |zero=>
   intro x c;have:=c.symm.trans (yT a b inn).1;injection this with this;subst this;exact .refl _
  |succ i j=>
   intro x c;have k:=(Ny.1 c).1;have g:(nr a inn b)[i]?=some ((nr a inn b)[i]'(by omega)):=XJ NH
   exact(j _ g).step (L.UQ g c)
 have toA:∀v,r' v≠[]->Cr r' a v:=fun v d=>by
  obtain⟨w,l,e⟩:=iy d;have hw:w∈r' v:=by rw[e];simp
  rcases L.mem.1 hw with h|⟨i,m,_⟩|⟨i,_,h2⟩
  .exact(bp a v L.ra fun q=>by grind).mono fun x y h=>L.sub h
  all_goals grind
 exact fun v w d hw=>((toA v d).symm L.R').trans (toA w hw)
structure vy (n:Nat) (r:Nat->II) (F:Cs):Prop where
 Rl:V7 n r
 O:FO r F
 bp:∀v w,r v≠[]->r w≠[]->Cr r v w
 num:Num n r F
 ne:F≠[]
theorem vy.flat (G:vy n r F):Flat n r:=by
 obtain⟨f,l,e⟩:=iy G.ne;have hf:f∈F:=by rw[e];simp
 have hd:=G.O.bz f hf _ (Lt (G.O.ne f hf));exact G.num.flat G.Rl G.O G.bp ⟨_,G.Rl.lt _ _ hd,fun q=>by grind⟩
theorem vy.lay (G:vy n r F) (hf:f∈F) (C:UN n r f a b inn) (cy:Cyc f ((a::A)++(b::B))):
  vy n (EO r f a b inn) (half a A b inn::half b B a inn.reverse::F.erase f)/\∀x y,y∈EO r f a b inn x↔y∈r x\/Ay a inn b x y:=by
 obtain⟨L,c,h2,h3,d⟩:=C.lay G.Rl G.O hf;refine⟨⟨L.R',L.gY G.O hf cy c h2 h3 d,L.conn2 G.bp,L.num ?_ G.num,Ma⟩,fun x y=>L.mem⟩
 grind
end
noncomputable def gH (l:II) (v:Nat):II:=if v∈l then[pv l v,nx l v]else[]
section
variable {n : Nat} {l : List Nat}
theorem ez (nd:l.Nodup) {v w:Nat}:w∈gH l v↔Ei l v w:=by grind [gH,Ei,BJ,G5,c7,ZP]
theorem dP (nd:l.Nodup) (h3:3<=l.length) (lt:∀v∈l,v<n):vy n (gH l) [l,l.reverse]:=by
 have d:=fun{v w}=>ez (v:=v) (w:=w) nd;have i:l≠[]:=fun e=>by grind
 have m:∀v∈l,nx l v≠v:=by grind [Bk]
 have R:V7 n (gH l):=by
  refine⟨fun v=>?_,fun v w h=>?_,fun v w h=>d.2 (ki (d.1 h)),fun v h=>?_⟩
  .grind [gH,aaN]
  .rcases d.1 h with h | h
   all_goals grind [ZP]
  .rcases d.1 h with h | h
   all_goals grind
 have s:Om (Ei l) (gH l)=gH l:=cS fun v w h=>d.1 h;have two:∀v∈l,nx (gH l v) (pv l v)=nx l v/\nx (gH l v) (nx l v)=pv l v:=by grind [gH,ss,aaN]
 have O:FO (gH l) [l,l.reverse]:=by
  refine⟨fun f hf=>?_,fun f hf=>?_,fun f hf v c=>?_,fun f hf v c=>?_,fun v w hw=>?_,fun f hf g hg v o h2 e=>?_,?_⟩
  .grind
  .simp at hf; rcases hf with rfl | rfl
   .exact i
   .simpa using i
  .simp at hf; rcases hf with rfl | rfl
   .exact d.2 (.inl ⟨c,rfl⟩)
   .have c := acQ.1 c
    exact d.2 (.inr ⟨BJ c,G5 nd c⟩)
  .simp at hf; rcases hf with rfl | rfl
   .grind [ZP,c7]
   .have c := acQ.1 c
    have:=(two _ (BJ c)).2;rw[G5 nd c]at this;exact this
  .rcases d.1 hw with h | h
   all_goals grind [ZP,pv,c7]
  .simp at hf hg
   rcases hf with rfl|rfl
   .rcases hg with rfl | rfl
    .rfl
    .exact absurd e (aaN nd h3 o)
   .rcases hg with rfl | rfl
    .exact absurd e.symm (aaN nd h3 h2)
    .rfl
  .simp only [ZT, jf, vY, not_false_eq_true, agk, and_true]
   intro e;have c:=Lt i
   grind [aaN,pv]
 have inl:∀{v},gH l v≠[]->v∈l:=fun{v} h=>Eh fun q=>h (if_neg q);refine⟨R,O,fun v w c hw=>?_,?_,Ma⟩
 .obtain ⟨k, rfl⟩ := JT nd (inl c) (inl hw)
  have j:=inl c;clear hw c;have:∀k,Cr (gH l) v (it (nx l) k v):=fun k=>by
   induction k with
   |zero=>exact .refl _
   |succ k p=>exact p.step (d.2 (.inl ⟨(O.it Ma j k).1,rfl⟩))
  exact this k
 .have t:(kV n (gH l)).length=l.length:=by
   rw[<-Xp nd lt]
   grind [kV,gH]
  have u:(dl n (gH l)).length=2*l.length:=by
   rw[Vq,<-Xp nd lt,<-nu]
   grind [gH]
  grind [Num]
end
end Go.Fw
namespace Go.Fw
attribute [local instance] Classical.propDecidable
def XU (n:Nat) (E:Nat->II):Prop:=∃R,V7 n R/\Flat n R/\∀v w,w∈R v↔w∈E v
structure PU (n:Nat) (E:Nat->II) (H:Nat->Nat->Prop) (F:Cs):Prop where
 sub:∀x y,H x y->y∈E x
 XK:∃r,vy n r F/\∀x y,y∈r x↔H x y
 full:XU n E->∃R,(∀v w,w∈R v↔w∈E v)/\Ctx n R H F
section
variable {n : Nat} {E : Nat → List Nat} {H : Nat → Nat → Prop} {F : List (List Nat)} {f A B inn l : List Nat} {a b s : Nat}
theorem BW {R R':Nat->II} (d:∀v w,w∈R' v↔w∈R v) {k:Nat×Nat×Nat} {h:II}:Fits R' H k h↔Fits R H k h:=
 ⟨fun q u x c e=>q u x ((Fv d).2 c) (by grind [Py]),fun q u x c e=>q u x ((Fv d).1 c) (by grind [Py])⟩
theorem PU.start (nd:l.Nodup) (h3:3<=l.length) (g:V7 n E) (d:∀v∈l,nx l v∈E v):PU n E (Ei l) [l,l.reverse]:=by
 refine⟨fun x y h=>?_,⟨_,dP nd h3 fun v c=>g.lt _ _ (d v c),fun x y=>ez nd⟩,fun⟨R,i,fl,e⟩=>⟨R,e,Cy i fl nd h3 fun v c=>(e _ _).2 (d v c)⟩⟩;rcases h with h|h
 all_goals grind [V7.sy]
def PU.Re (I:PU n E H F):∃p q,p≠q/\¬off E H p/\¬off E H q:=by
 obtain⟨r,G,c⟩:=I.XK;obtain⟨f,t,e⟩:=iy G.ne;have hf:f∈F:=by rw[e];simp
 have hd:=G.O.bz f hf _ (Lt (G.O.ne f hf));have d:=(c _ _).1 hd;have h2:=(c _ _).1 (G.Rl.sy _ _ hd);exact⟨_,_,fun e=>G.Rl.ir _ (by rw[<-e]at hd;exact hd),fun q=>q _ (I.sub _ _ d) d,fun q=>q _ (I.sub _ _ h2) h2⟩
theorem PU.pieces (I:PU n E H F) (D:QG E) {R:Nat->II} (c:∀v w,w∈R v↔w∈E v) (C:Ctx n R H F):Pg n R H F:=by
 obtain⟨p,q,d,h2,h3⟩:=I.Re;exact C.pieces (D.same c) ⟨p,q,d,(by grind [uR]),(by grind [uR])⟩
theorem PU.step (I:PU n E H F) (D:QG E) (m:V7 n E) (hf:f∈F) (z:QP E H a s) (fit:Fits E H (QI E H a s) f)
  (cond:(∀h∈F,Fits E H (QI E H a s) h->h=f)\/∀u x,QP E H u x->∃c∈F,∃h2∈F,c≠h2/\Fits E H (QI E H u x) c/\Fits E H (QI E H u x) h2)
  (W:Ka E H a inn b) (hs:(inn++[b]).headD 0=s) (cy:Cyc f ((a::A)++(b::B))):
  PU n E (fun x y=>H x y\/Ay a inn b x y) (half a A b inn::half b B a inn.reverse::F.erase f):=by
 obtain⟨r,G,j⟩:=I.XK;have o:∀v w,H v w->H w v:=fun v w h=>(j _ _).1 (G.Rl.sy _ _ ((j _ _).2 h));refine⟨fun x y h=>h.elim (I.sub x y) (by grind [Ka.wE]),?_,fun J=>?_⟩
 .have C:UN n r f a b inn:=by
   refine⟨W.ab,cy.perm.mem_iff.2 Ma,cy.perm.mem_iff.2 Ma,?_,fun x k=>?_,fun x k=>?_,fun e q=>?_⟩
   .have := W.nd
    grind [nr.eq_1]
   .refine Eh fun q => ?_
    obtain⟨w,t,e⟩:=iy q;have h:=(j x w).1 (by rw[e];simp);exact W.off x k w (I.sub _ _ h) h
   .obtain ⟨i, p, c, h2⟩ := qm (a := a) (b := b) (.inr k)
    exact m.lt _ _ (m.sy _ _ (W.UQ i p x c h2).1)
   .have c : (nr a [] b)[0]? = some a := rfl
    grind [nr,Ka.UQ]
  obtain⟨N,g⟩:=G.lay hf C cy
  grind
 .obtain ⟨R, g, C⟩ := I.full J
  have P:=I.pieces D g C;have d:(∀h∈F,Fits R H (QI R H a s) h->h=f)\/∀u x,QP R H u x->∃c∈F,∃h2∈F,c≠h2/\Fits R H (QI R H u x) c/\Fits R H (QI R H u x) h2:=by
   rcases cond with q|q
   .grind [Py,BW]
   .refine .inr fun u x K => ?_
    obtain⟨c,m1,h2,m2,L,O,Q⟩:=q u x ((Fv g).1 K)
    grind [Py,BW]
  obtain⟨R',M,C'⟩:=P.step hf ((Fv g).2 z) (by grind [Py,BW]) d (W.same g) hs cy
  grind
theorem PU.fail (I:PU n E H F) (D:QG E) {u x:Nat} (d:QP E H u x) (h:∀f∈F,¬Fits E H (QI E H u x) f):¬XU n E:=fun e=>by
 obtain⟨R,c,C⟩:=I.full e;obtain⟨g,hg,k⟩:=(I.pieces D c C).fits ((Fv c).2 d)
 grind [Py,BW]
def PU.done (I:PU n E H F) (h:∀x y,y∈E x->H x y):∃r,vy n r F/\Flat n r/\∀x y,y∈r x↔y∈E x:=by
 obtain⟨r,G,c⟩:=I.XK;exact⟨r,G,G.flat,fun x y=>(c x y).trans ⟨I.sub x y,h x y⟩⟩
end
end Go.Fw
namespace Go.Fw
attribute [local instance] Classical.propDecidable
theorem len_sub {α:Type} {A B:List α} (b:A.Nodup) (nb:B.Nodup) (h:∀a∈A,a∈B):A.length<=B.length:=by
 have pm:B.Perm (A++B.filter fun x=>decide (x∉A)):=pw;rw[pm.length_eq,vZ];omega
theorem vR {α β:Type} {k:Nat} {g:α->List β}:∀{L:List α},(∀x∈L,k<=(g x).length)->k*L.length<=(L.flatMap g).length
 |[],_=>by simp
 |x::L,h=>by
  have:=vR (L:=L) fun y a=>h y (j9 _ a)
  grind [Nat.mul_succ]
section
variable {n : Nat} {r : Nat → List Nat}
theorem Gj (R:V7 n r) {k:Nat} (h:∀d∈dl n r,k<=bt (Nv r) d):k*cls (WD (Nv r)) (dl n r)<=(dl n r).length:=by
 have p:=TG R;rw[<-yp R];have hd:∀d∈L3 n r,d∈dl n r:=by grind [IP,gQ]
 have c:(L3 n r).Nodup:=by grind [dy,L3]
 refine jz (vR (g:=AA (Nv r)) (by grind [oN])) (len_sub ?_ (J8 R) fun e a=>?_)
 .grind [Ri,List.Pairwise.imp_of_mem,vA,RM,WD.trans,Pm.xw]
 .obtain ⟨d, b, a⟩ := QD.1 a
  obtain⟨j,rfl⟩:=(vA p (hd d b)).1 a
  grind [Pm.uN]
theorem Bu (R:V7 n r) (hf:Flat n r) (bp:∀v w,r v≠[]->r w≠[]->Cr r v w) (all:∀v,v<n->r v≠[]) (a:0<n):2*(n+cls (WD (Nv r)) (dl n r))=(dl n r).length+4:=by
 have b:((List.range n).filter fun v=>decide (r v=[]))=[]:=by grind [filter_none]
 have c:iJ n r=1:=by
  unfold iJ;rw[qo (Cr.eqv R _) Tn (L:=[0]) pw Ma pw];rfl
 grind [Flat,mj]
theorem QG.deg (D:QG r) {v w:Nat} (h:r v=[w]) {x:Nat} (a:r x≠[]) (b:x≠v) (h2:x≠w) (hw:v≠w):False:=by
 have c:=D.Z7 w v x hw h2 (by rw[h];simp) a;have:∀y,Cr (Om (fun x y=>x≠w/\y≠w) r) v y->y=v:=fun y c=>by
  induction c<;>grind [EM]
 grind
theorem Co (R:V7 n r) (D:QG r) (h3:3<=n) (all:∀v,v<n->r v≠[]) {d:H8} (hd:d∈dl n r):3<=bt (Nv r) d/\(bt (Nv r) d=3->∃x y z,y∈r x/\z∈r y/\x∈r z):=by
 have p:=TG R;obtain⟨l,f,_⟩:=aaI p hd;have h:=Sg R hd;have m0:=(IP R).1 hd;have m1:=(IP R).1 (p.uN hd 1);have m2:=(IP R).1 (p.uN hd 2);obtain⟨v,w⟩:=d;have a:∃x,x<n/\x≠v/\x≠w:=by
  by_cases g:0≠v/\0≠w
  .exact⟨0,NH,g.1,g.2⟩
  by_cases a1:1≠v/\1≠w
  .exact⟨1,NH,a1.1,a1.2⟩
  .exact⟨2,NH,NH,NH⟩
 obtain⟨x,i,x1,j⟩:=a;have k:v≠w:=by grind [V7.ir]
 constructor
 .refine Nat.lt_of_le_of_ne h fun e => ?_
  rw[<-e]at f;have b:(nx (r w) v,nx (r (nx (r w) v)) w)=((v,w):H8):=f;injection b with b _;have c:v∈r w:=R.sy _ _ m0;have:=(Bk (R.nd w) c).1 b;exact D.deg this (all x i) j x1 (fj k)
 grind [it,Nv]
theorem UU (R:V7 n r) (hf:Flat n r) (D:QG r) (h3:3<=n) (all:∀v,v<n->r v≠[]):(dl n r).length+12<=6*n/\((∀x y z,y∈r x->z∈r y->x∉r z)->(dl n r).length+8<=4*n):=by
 have e:=Bu R hf D.bp all NH;constructor
 .have := Gj R (k := 3) fun d hd => (Co R D h3 all hd).1
  omega
 .intro a
  have:=Gj R (k:=4) fun d hd=>by grind [Co]
  omega
end
end Go.Fw
namespace Go.Fw
section
attribute [local instance] Classical.propDecidable
variable {l:II} {n u:Nat}
theorem J5 {f g:Nat->Nat} {P:Nat->Prop} (b:∀x,P x->P (f x)) (h:∀x,P x->f x=g x) {u:Nat} (a:P u):∀k,it f k u=it g k u/\P (it f k u)
 |0=>⟨rfl,a⟩
 |k+1=>by
  obtain⟨e,p⟩:=J5 b h a k
  grind [it]
def Pc {l:II} (nd:l.Nodup) {u:Nat} {c:II} (e:l=u::c):∀k,k<l.length->l[k]?=some (it (nx l) k u)
 |0,_=>by rw[e];rfl
 |k+1,hk=>by
  have ih:=Pc nd e k NH;have h1:l[k+1]?=some (l[k+1]'hk):=XJ hk
  rw[h1];congr 1;exact(aZ nd ih h1).1.symm
theorem N1 (nd:l.Nodup) (b:u∈l):Cyc l ((List.range l.length).map fun k=>it (nx l) k u):=by
 obtain⟨c,d⟩:=Cyc.front b;have a:=d.perm.nodup_iff.1 nd;have e:((List.range l.length).map fun k=>it (nx l) k u)=u::c:=by
  refine EH fun i=>?_;rw[d.perm.length_eq];by_cases h:i<(u::c).length
  .rw [PN, List.getElem?_range h, Pc a rfl i h]
   simp only[FD];congr 1;exact(J5 (P:=fun x=>x∈l) (by grind [ZP]) (by grind [Cyc.nx]) b i).1
  grind
 grind
theorem nZ {r:Nat->II} {F:Cs} (R:V7 n r) (O:FO r F) {next:Nat->Nat->Nat} (h:∀f∈F,∀v∈f,next v (pv f v)=nx f v) {v u:Nat} (a:u∈r v):
  Cyc (r v) ((List.range (r v).length).map fun k=>it (next v) k u):=by
 have QI:∀w∈r v,next v w=nx (r v) w:=fun w hw=>by
  obtain⟨f,hf,b,e⟩:=O.cover w v (R.sy _ _ hw)
  grind [ZP,c7,FO.nd,FO.pv]
 have e:((List.range (r v).length).map fun k=>it (next v) k u)=(List.range (r v).length).map fun k=>it (nx (r v)) k u:=by
  refine Uz fun k _=>?_;exact((J5 (P:=fun x=>x∈r v) (by grind [ZP]) pw a k).1).symm
 rw[e];exact N1 (R.nd v) a
end
end Go.Fw
namespace Go.Fw
attribute [local instance] Classical.propDecidable
def hh (b m x:Nat):Nat:=if x=b then m else x
def aam (R:Nat->II) (a b m:Nat) (v:Nat):II:=if v=m then[a,b]else if v=a then(R a).map (hh b m)else if v=b then(R b).map (hh a m)else R v
theorem afP {b m:Nat}:∀{l:II},b∉l->l.map (hh b m)=l
 |[],_=>rfl
 |x::l,h=>by rw[wI,afP (by grind [List.mem_cons_of_mem]),hh,if_neg pw]
theorem abR {b m:Nat}:∀{l:II},l.Nodup->m∉l->(l.map (hh b m)).erase m=l.erase b
 |[],_,_=>rfl
 |x::l,nd,d=>by
  rw[ZT]at nd;rw[wI];by_cases c:x=b
  .grind [hh,afP]
  .rw[show hh b m x=x from if_neg c,qL231 pw,qL231 (by simpa using c),abR nd.2 (by grind [List.mem_cons_of_mem])]
theorem ac8 {b m:Nat} {l:II} (c:m∉l):∀x∈l,∀y∈l,hh b m x=hh b m y->x=y:=by grind [hh]
section
variable {n : Nat} {R : Nat → List Nat} {a b m : Nat}
structure aak (n:Nat) (R:Nat->II) (a b m:Nat):Prop where
 Rl:V7 n R
 ab:b∈R a
 rm:R m=[]
 mn:m<n
theorem aak.nm (S:aak n R a b m) {v:Nat}:m∉R v:=fun h=>by
 have:=S.Rl.sy _ _ h
 grind [aak.rm]
theorem aak.ne (S:aak n R a b m):a≠b/\a≠m/\b≠m:=by
 refine⟨fun e=>S.Rl.ir a (by grind [aak.ab]),fun e=>?_,fun e=>S.nm (e▸S.ab)⟩;have:=S.ab
 grind [aak.rm]
theorem aak.mem (S:aak n R a b m) {v w:Nat}:w∈aam R a b m v↔(w∈R v/\¬(v=a/\w=b)/\¬(v=b/\w=a))\/(v=m/\(w=a\/w=b))\/(w=m/\(v=a\/v=b)):=by
 have c:∀{v b:Nat},b∈R v->(w∈(R v).map (hh b m)↔(w∈R v/\w≠b)\/w=m):=by grind [hh]
 unfold aam;by_cases c1:v=m
 .grind [aak.rm]
 rw[if_neg c1];by_cases c2:v=a
 .grind [aak.ab]
 rw[if_neg c2];by_cases d:v=b
 .subst d
  rw[if_pos rfl,c (S.Rl.sy _ _ S.ab)];simp[c1,c2]
 grind
theorem aak.ae8 (S:aak n R a b m):V7 n (aam R a b m):=by
 obtain⟨g,h2,h3⟩:=S.ne;have d:=S.Rl.sy _ _ S.ab;refine⟨fun v=>?_,fun v w h=>?_,fun v w h=>?_,fun v h=>?_⟩
 .have c:∀{v b:Nat},((R v).map (hh b m)).Nodup:=fun{v b}=>by
   rw[kc,Hs];exact ff (fun{x y} i j f e=>f (ac8 S.nm x i y j e)) (kc.1 (S.Rl.nd v))
  unfold aam;split
  .simp[g]
  .split
   .exact c
   .split
    .exact c
    .exact S.Rl.nd v
 .rcases S.mem.1 h with h | h | h
  .exact S.Rl.lt _ _ h.1
  .rw[h.1];exact S.mn
  .rcases h.2 with e | e
   .rw[e];exact S.Rl.lt _ _ S.ab
   .rw[e];exact S.Rl.lt _ _ d
 .rw [S.mem] at h ⊢
  rcases h with h|h|h
  .exact .inl ⟨S.Rl.sy _ _ h.1,pw,pw⟩
  all_goals grind
 .rcases S.mem.1 h with h | h | h
  .exact S.Rl.ir _ h.1
  all_goals grind
end
end Go.Fw
