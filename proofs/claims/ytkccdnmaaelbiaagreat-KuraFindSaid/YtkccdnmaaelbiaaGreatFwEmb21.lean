/- A text. -/
import Derived.Test.YtkccdnmaaelbiaaGreatFwEmb3
set_option linter.all false
set_option maxRecDepth 99999
set_option maxHeartbeats 9999999
namespace Go.Fw
attribute [local instance] Classical.propDecidable
section
variable {n : Nat} {R : Nat → List Nat} {H : Nat → Nat → Prop} {F : List (List Nat)} {f g : List Nat} {A B : Nat → List Nat} {le : Nat → Nat → Nat} {hm : Nat × Nat × Nat → List Nat}
theorem Mv.blobs (M:Mv n R H F f g A B le hm):∃j Q l P:Nat->II,XY n R (Ul f g) (fB R H f g) (Sz R H le hm) j Q l P/\(∀u∈Ul f g,AtU R H f g A B le hm u (j u) (Q u) (l u) (P u))/\∀v,v∉Ul f g->∀w∈R v,¬fB R H f g v w->Sz R H le hm v w∈Ul f g:=by
 have Cx:=M.P.C;have b:∀u:Nat,∃q:II×II×II×II,u∈Ul f g->AtU R H f g A B le hm u q.1 q.2.1 q.2.2.1 q.2.2.2:=fun u=>by
  by_cases h:u∈Ul f g
  .obtain ⟨j, Q, l, P, k⟩ := M.atU h
   exact⟨(j,Q,l,P),fun _=>k⟩
  simp_all
 obtain⟨W,r⟩:=Fu b;have a:∀v w,w∈R v->¬H v w->¬SK R H f g (QI R H v w)->Sz R H le hm v w∈Ul f g:=fun v w hw D s=>by
  obtain⟨u,x,m,i⟩:=M.P.one v w hw D;obtain⟨E,_,_,_,_⟩:=M.home u x m (i▸s);unfold Sz;rw[if_neg D,i];exact M.L.inU _ _ (M.T.O.bz _ E _ (Lt (M.T.O.ne _ E)))
 refine⟨fun u=>(W u).1,fun u=>(W u).2.1,fun u=>(W u).2.2.1,fun u=>(W u).2.2.2,⟨Cx.Rl,M.T.ndU,M.h2,fun v w h=>?_,fun v w hw=>?_,fun v o=>?_,(by grind [AtU.cyc]),(by grind [AtU.xl]),(by grind [AtU.yl]),(by grind [AtU.q]),(by grind [AtU.p]),fun u t e=>?_,fun u t e=>?_⟩,r,fun v o w hw s=>?_⟩
 .exact⟨Cx.Rl.sy _ _ h.1,fun q=>h.2.1 (Cx.sym _ _ q),by rw[<-RX Cx.Rl h.1];exact h.2.2⟩
 .unfold Sz
  by_cases c:H v w
  .rw [if_pos c, if_pos (Cx.sym _ _ c)]
   exact M.L.sym v w (by grind [EM])
  .rw[if_neg c,if_neg fun q=>c (Cx.sym _ _ q),RX Cx.Rl hw]
 .by_cases c : off R H v
  .by_cases d : SK R H f g (0, lo R H v, 0)
   .exact .inl fun w hw=>⟨hw,c w hw,by grind [M6]⟩
   .refine .inr ⟨fun w hw q => d (by have := q.2.2; grind [M6]), fun w hw w' y => ?_⟩
    unfold Sz;rw[if_neg (c w hw),if_neg (c w' y),M6 c,M6 c]
  .have nS : ∀ w ∈ R v, ¬ fB R H f g v w := fun w hw q => o (zq.2 ⟨q.2.2.1 v w ⟨c, hw, q.2.1⟩ rfl, q.2.2.2.1 v w ⟨c, hw, q.2.1⟩ rfl⟩)
   obtain⟨z,k1,k2⟩:=Q7 c;have i:z∈Om H R v:=by grind [EM]
   have all:∀w∈R v,Sz R H le hm v w=le v z:=fun w hw=>by
    by_cases d:H v w
    .unfold Sz; rw [if_pos d]
     exact M.L.same v o w z (by grind [EM]) i
    .have m : QP R H v w := ⟨c, hw, d⟩
     exact M.tl_at m (fun q=>nS w hw ⟨hw,d,q⟩) m rfl o i
   grind
 .have := (r u t).xh
  simp_all
 .have := (r u t).yh
  simp_all
 .by_cases d : H v w
  .unfold Sz; rw [if_pos d]
   exact M.L.inU v w (by grind [EM])
  .exact a v w hw d fun q=>s ⟨hw,d,q⟩
theorem Pg.move (P:Pg n R H F) (alt:∀u x,QP R H u x->∃N∈F,∃h2∈F,N≠h2/\Fits R H (QI R H u x) N/\Fits R H (QI R H u x) h2)
  (hf:f∈F) (hg:g∈F) (E:f≠g) {b x0:Nat} (D:QP R H b x0) (c0:WQ R H g b x0) (fit:Fits R H (QI R H b x0) f):
  ∃R',V7 n R'/\Flat n R'/\(∀v w,w∈R' v↔w∈R v)/\pP (Om H R') (Om H R)/\WQ R' H f b x0:=by
 have Cx:=P.C;have T:aaL n (Om H R) F f g:=⟨OG Cx.Rl Cx.sym,Cx.O,Cx.fl.keep Cx.Rl Cx.sym,hf,hg,E,Cx.bp⟩;have s:Fits R H (QI R H b x0) g:=by
  obtain⟨h,hh,t⟩:=P.EI D;have e:=Cx.YQ hh hg (t b x0 D rfl) c0;subst e;exact fun z y i S=>by grind [WQ.ug]
 have j:b∈Ul f g:=zq.2 ⟨fit b x0 D rfl,s b x0 D rfl⟩;obtain⟨z,y,i,aC,S⟩:=P.two b x0 D;have aD:z∈Ul f g:=zq.2 ⟨fit z y i S.symm,s z y i S.symm⟩;have h2:∀u∈Ul f g,nx (Ul f g) u≠u:=by grind [Bk,aaL.ndU]
 obtain⟨A,B,C⟩:=T.cutU;obtain⟨le,L⟩:=T.labE C h2 j;have key1:∀k:Nat×Nat×Nat,∃h:II,∀u x,QP R H u x->QI R H u x=k->¬SK R H f g k->h∈F/\h≠f/\h≠g/\Fits R H k h/\∀h'∈F,WQ R H h' u x->h'≠f->h'≠g->h'=h:=fun k=>by
  by_cases c:∃u x,QP R H u x/\QI R H u x=k/\¬SK R H f g k
  .obtain ⟨u, x, U, rfl, V⟩ := c
   obtain⟨h,hh,t⟩:=P.EI U;have ay:Fits R H (QI R H u x) h:=fun z y i S=>by grind [WQ.ug]
   by_cases d:h≠f/\h≠g
   .exact⟨h,(by grind [Ctx.YQ])⟩
   .have aF : h = f \/ h = g := pw
    have aH:=t u x U rfl;have nb:¬(Fits R H (QI R H u x) f/\Fits R H (QI R H u x) g):=fun q=>V ⟨q.1,q.2,u,x,U,rfl,pw⟩;obtain⟨N,m1,aJ,m2,az,f1,f2⟩:=alt u x U;have ex:∃h3∈F,h3≠f/\h3≠g/\Fits R H (QI R H u x) h3:=pw;obtain⟨h3,m3,a1,a2,f3⟩:=ex;refine⟨h3,fun u' x' aK aP _=>⟨m3,a1,a2,f3,fun h' aT aW b1 b2=>?_⟩⟩
    grind [Ctx.YQ]
  .exact⟨[],pw⟩
 obtain⟨hm,aX⟩:=Fu key1;have M:Mv n R H F f g A B le hm:=⟨P,T,C,L,h2,pw⟩;obtain⟨m,Q,o,r,W,G,I⟩:=M.blobs;obtain⟨_,aa,aff⟩:=W.Vp Cx.fl I;have X:∀{v},v∈Ul f g->Vp R (Ul f g) (fB R H f g) m Q o r v=m v++((r v).reverse++(o v++(Q v).reverse)):=fun h=>if_pos h;have J:∀v w,w∈Vp R (Ul f g) (fB R H f g) m Q o r v↔w∈R v:=fun v w=>by
  by_cases c:v∈Ul f g
  .rw [X c, (W.cyc v c).perm.mem_iff]
   grind
  .unfold Vp
   rw[if_neg c];split
   all_goals grind
 refine⟨_,aff,aa,J,fun v=>?_,?_,?_⟩
 .by_cases c : v ∈ Ul f g
  .have a := G v c
   have e:Om H (Vp R (Ul f g) (fB R H f g) m Q o r) v=(A v++[pv g v])++(B v++[pv f v]):=by
    show(Vp R (Ul f g) (fB R H f g) m Q o r v).filter _=_;rw[X c,N8,N8,N8,a.xh,a.yh,mz fun z i=>(a.p z (KG.1 i)).2.1,mz fun z i=>(a.q z (KG.1 i)).2.1];simp
   grind [Wa.c,Cyc.symm]
  .have e : Vp R (Ul f g) (fB R H f g) m Q o r v = if ∃ w ∈ R v, ¬ fB R H f g v w then R v else (R v).reverse := if_neg c
   by_cases d:∃w∈R v,¬fB R H f g v w
   .rw [if_pos d] at e
    show Cyc ((Vp R (Ul f g) (fB R H f g) m Q o r v).filter _) _;rw[e];exact Cyc.refl _
   .rw [if_neg d] at e
    have hn:∀z∈R v,¬H v z:=fun z i q=>d ⟨z,i,fun k=>k.2.1 q⟩;show Cyc ((Vp R (Ul f g) (fB R H f g) m Q o r v).filter _) ((R v).filter _);rw[e,mz (by grind),mz hn];exact Cyc.refl _
 .grind [zq]
 .have a := G b j
  have V:fB R H f g b x0:=⟨D.mem,D.nh,fit,s,b,x0,D,rfl,.inr c0⟩;have ae:x0∈Q b:=by
   have:=(W.cyc b j).perm.mem_iff.1 D.mem
   grind [AtU.xl,AtU.yl,Ctx.YQ,AtU.pf]
  have nd:=(W.cyc b j).perm.nodup_iff.1 (Cx.Rl.nd b);have ag:=aff.nd b;rw[X j]at ag;have aj:x0∉m b:=fun q=>(a.xl x0 q).1 V;have al:x0∉o b:=fun q=>(a.yl x0 q).1 V;have aq:x0∉(r b).reverse:=fun q=>E (Cx.YQ hf hg (by grind [AtU.pf]) c0);obtain⟨Y,Z,eq,_⟩:=sC (KG.2 ae);have hQ:∀z∈Y++x0::Z,¬H b z:=fun z i=>(a.q z (by grind)).2.1;have nq:(Y++x0::Z).Nodup:=pw;have ar:x0∉Y:=by grind [List.mem_cons_self]
  have av:x0∉Z:=(aaf.1 (AE.1 nq).2.1).1;have hN:∀l:II,(∀z∈l,¬H b z)->x0∉l->l.filter (fun w=>decide (H b w\/w=x0))=[]:=fun l N h2=>filter_none pw;have hY:∀l:II,x0∉l->l.filter (fun w=>decide (H b w\/w=x0))=l.filter (fun w=>decide (H b w)):=fun l h=>j3 fun w hw=>by
   rw[decide_eq_decide];exact⟨pw,.inl⟩
  have e:cl (Vp R (Ul f g) (fB R H f g) m Q o r) H b x0=((A b++[pv g b])++B b)++pv f b::x0::[]:=by
   show(Vp R (Ul f g) (fB R H f g) m Q o r b).filter _=_;rw[X j,eq,N8,N8,N8,N8,hY _ aj,a.xh,hN _ (fun z i=>(a.p z (KG.1 i)).2.1) aq,hY _ al,a.yh,hN Y (fun z i=>hQ z (by simp[i])) ar,filter_one (decide_eq_true (.inr rfl)),hN Z (fun z i=>hQ z (by simp[i])) av];simp
  have K:(cl (Vp R (Ul f g) (fB R H f g) m Q o r) H b x0).Nodup:=(aff.nd b).sublist eR;rw[e]at K ⊢;exact Nu fun k=>(AE.1 K).2.2 _ k _ Ma rfl
end
end Go.Fw
namespace Go.Fw
attribute [local instance] Classical.propDecidable
section
variable {n : Nat} {R R' : Nat → List Nat} {H : Nat → Nat → Prop} {F : List (List Nat)} {f : List Nat} {a b : Nat} {inn A B : List Nat}
theorem FO.same {r d:Nat->II} (O:FO r F) (e:V7 n r) (h:pP r d):FO d F:=
 ⟨O.nd,O.ne,fun f hf v c=>h.mem.1 (O.bz f hf v c),fun f hf v c=>by
   rw[<-O.step f hf v c];exact((h _).nx (e.nd _) (e.sy _ _ (O.bz f hf v c))).symm,
  fun v w hw=>O.cover v w (h.mem.2 hw),O.uniq,O.nodup⟩
theorem Ctx.same (C:Ctx n R H F) (c:V7 n R') (fl:Flat n R') (h:pP (Om H R') (Om H R)):Ctx n R' H F:=by
 refine⟨c,C.sym,fl,C.O.same (OG C.Rl C.sym) h.symm,fun v w d hw=>?_⟩;have ne:∀{v},Om H R' v≠[]->Om H R v≠[]:=fun{v} q e=>q (by have:=h v;grind [Cyc.nil]);exact(C.bp v w (ne d) (ne hw)).mono fun x y q=>h.mem.2 q
theorem uR (c:∀v w,w∈R' v↔w∈R v) (v:Nat):off R' H v↔off R H v:=⟨fun h w hw=>h w ((c v w).2 hw),fun h w hw=>h w ((c v w).1 hw)⟩
theorem Py (d:∀v w,w∈R' v↔w∈R v) (v w:Nat):QI R' H v w=QI R H v w:=by
 have c:=uR (H:=H) d;have g:∀v,lo R' H v=lo R H v:=fun v=>by
  unfold lo;congr 1;funext z;refine propext ⟨fun q=>q.mono fun x y k=>?_,fun q=>q.mono fun x y k=>?_⟩
  .obtain ⟨k1, k2, e⟩ := EM.1 k
   exact EM.2 ⟨(d _ _).1 k1,(c _).1 k2,(c _).1 e⟩
  .obtain ⟨k1, k2, e⟩ := EM.1 k
   exact EM.2 ⟨(d _ _).2 k1,(c _).2 k2,(c _).2 e⟩
 grind [QI]
def Fv (c:∀v w,w∈R' v↔w∈R v) {u x:Nat}:QP R' H u x↔QP R H u x:=
 ⟨fun h=>⟨fun q=>h.on ((uR c u).2 q),(c _ _).1 h.mem,h.nh⟩,fun h=>⟨fun q=>h.on ((uR c u).1 q),(c _ _).2 h.mem,h.nh⟩⟩
theorem Ka.same (W:Ka R H a inn b) (c:∀v w,w∈R' v↔w∈R v):Ka R' H a inn b:=
 ⟨W.nd,(by grind [Ka.UQ]),(by grind [Ka.off]),
  by grind [Ka.JX],by grind [Ka.sN]⟩
theorem Ctx.lay (C:Ctx n R H F) (W:Ka R H a inn b) (hf:f∈F) (p:WQ R H f a ((inn++[b]).headD 0)) (cy:Cyc f ((a::A)++(b::B))):
  Ctx n R (fun x y=>H x y\/Ay a inn b x y) (half a A b inn::half b B a inn.reverse::F.erase f):=by
 have k:=C.Rl;have hs:=C.sym;have L:=W.lay k hs;have d:∀v w,(H v w\/Ay a inn b v w)->H w v\/Ay a inn b w v:=by grind [Ef]
 obtain⟨u,g,c1,c2,d1,d2⟩:=C.drawn W;have:=C.YQ g hf c1 p;subst this;have z:Jt R H a inn b b=cl R H b ((inn.reverse++[a]).headD 0):=by
  refine j3 fun y _=>?_
  grind [Ka.Kk]
 have r:=L.gY C.O g cy (by rw[W.Ui];exact c1.at_) (by grind [WQ.at_]) d1 d2;have s:V7 n (Jt R H a inn b):=OG k d;have up:∀{v w},Cr (Om H R) v w->Cr (Jt R H a inn b) v w:=fun h=>h.mono fun x y q=>EM.2 ⟨(EM.1 q).1,.inl (EM.1 q).2⟩;have along:∀(i x:Nat),(nr a inn b)[i]?=some x->Cr (Jt R H a inn b) a x:=fun i=>by
  induction i with
  |zero=>
   intro x j;have:=j.symm.trans (yT a b inn).1;injection this with this;subst this;exact .refl _
  |succ i t=>
   intro x j;have D:=(Ny.1 j).1;have o:(nr a inn b)[i]?=some ((nr a inn b)[i]'(by omega)):=BS NH
   exact(t _ o).step (L.UQ o j)
 have toA:∀v,Jt R H a inn b v≠[]->Cr (Jt R H a inn b) a v:=fun v m=>by
  by_cases c:Om H R v=[]
  .obtain ⟨w, l, e⟩ := xD m
   have hw:w∈Jt R H a inn b v:=by rw[e];simp
   obtain⟨k1,k2⟩:=EM.1 hw;rcases k2 with k2|k2
   .have : w ∈ Om H R v := by grind [EM]
    grind
   .rcases k2 with ⟨i, E, _⟩ | ⟨i, _, h2⟩
    all_goals grind
  grind [Ctx.bp,Lay.ra]
 exact⟨k,d,C.fl,r,fun v w m hw=>((toA v m).symm s).trans (toA w hw)⟩
theorem Pg.step (P:Pg n R H F) (hf:f∈F) {s:Nat} (e:QP R H a s) (fit:Fits R H (QI R H a s) f)
  (cond:(∀h∈F,Fits R H (QI R H a s) h->h=f)\/∀u x,QP R H u x->∃i∈F,∃h2∈F,i≠h2/\Fits R H (QI R H u x) i/\Fits R H (QI R H u x) h2)
  (W:Ka R H a inn b) (hs:(inn++[b]).headD 0=s) (cy:Cyc f ((a::A)++(b::B))):
  ∃R',(∀v w,w∈R' v↔w∈R v)/\Ctx n R' (fun x y=>H x y\/Ay a inn b x y) (half a A b inn::half b B a inn.reverse::F.erase f):=by
 obtain⟨g,hg,d⟩:=P.EI e;have j:=d a s e rfl;have k:Fits R H (QI R H a s) g:=fun z y r t=>by grind [WQ.ug]
 by_cases c:g=f
 .subst c
  exact⟨R,pw,P.C.lay W hg (hs▸j) cy⟩
 .rcases cond with q | alt
  .grind
  .obtain ⟨R', l, fl, m, o, p⟩ := P.move alt hf hg (uV c) e j fit
   have C':=P.C.same l fl o;exact⟨R',m,(by grind [Ctx.lay,Ka.same])⟩
theorem Pg.fits (P:Pg n R H F) {u x:Nat} (d:QP R H u x):∃g∈F,Fits R H (QI R H u x) g:=by
 obtain⟨g,hg,c⟩:=P.EI d;exact⟨g,hg,fun z y e h=>by grind [WQ.ug]⟩
end
end Go.Fw
namespace Go.Fw
attribute [local instance] Classical.propDecidable
structure QG (R:Nat->II):Prop where
 bp:∀v w,R v≠[]->R w≠[]->Cr R v w
 Z7:∀c v w,v≠c->w≠c->R v≠[]->R w≠[]->Cr (Om (fun x y=>x≠c/\y≠c) R) v w
section
variable {n : Nat} {R R' : Nat → List Nat} {H : Nat → Nat → Prop} {F : List (List Nat)}
theorem QG.same (D:QG R) (d:∀v w,w∈R' v↔w∈R v):QG R':=by
 have ne:∀{v},R' v≠[]->R v≠[]:=fun{v} h e=>by
  obtain⟨w,l,q⟩:=xD h;have:w∈R v:=pw
  grind
 refine⟨fun v w a hw=>(D.bp v w (ne a) (ne hw)).mono pw,fun c v w b h2 a hw=>(D.Z7 c v w b h2 (ne a) (ne hw)).mono fun x y h=>?_⟩
 grind [EM]
theorem tq {r:Nat->II} (f:V7 n R) (sub:∀v w,w∈r v->w∈R v) {v w:Nat} (h:Cr r v w) (d:off R H v):(Cr (Mm R H) v w/\off R H w)\/∃y z,Cr (Mm R H) v y/\off R H y/\¬off R H z/\z∈r y:=by
 induction h with
 |refl=>exact .inl ⟨.refl _,d⟩
 |@step b c _ g a=>
  rcases a with⟨e,h2⟩|a
  .by_cases q : off R H c
   .exact .inl ⟨e.step (EM.2 pw),q⟩
   grind
  grind
theorem Ctx.pieces (C:Ctx n R H F) (D:QG R) (h2:∃p q,p≠q/\¬off R H p/\¬off R H q):Pg n R H F:=by
 obtain⟨p,q,o,s,J⟩:=h2;have a:=C.Rl;have d:∀{v w},w∈R v->R v≠[]:=pw;have A:∀{v},¬off R H v->R v≠[]:=by grind [Q7]
 have mk:∀{r:Nat->II} {v w:Nat},(∀v w,w∈r v->w∈R v)->Cr r v w->off R H v->¬off R H w->∃u x,QP R H u x/\QI R H u x=(0,lo R H v,0)/\x∈R u/\u∈r x:=fun{r v w} sub j B hw=>by
  rcases tq a sub j B with h|⟨y,z,E,h2,h3,f⟩
  .grind
  .have m := a.sy _ _ (sub _ _ f)
   exact⟨z,y,⟨h3,m,fun k=>h2 z (sub _ _ f) (C.sym _ _ k)⟩,by grind [Jn,fX],m,f⟩
 refine⟨C,fun u x b=>?_,fun v w hw G=>?_⟩
 .by_cases c : off R H x
  .have : ∃ t, t ≠ u /\ ¬ off R H t := pw
   obtain⟨t,I,g⟩:=this;have i:x≠u:=by grind [QP.on]
   have j:=D.Z7 u x t i I (d (a.sy _ _ b.mem)) (A g)
   grind [EM,Jn,QP.on]
  .exact⟨x,u,⟨c,a.sy _ _ b.mem,fun k=>b.nh (C.sym _ _ k)⟩,fun e=>a.ir u (e▸b.mem),RX a b.mem⟩
 .by_cases c : off R H v
  .obtain ⟨z, y, E, h2, _⟩ := mk (fun _ _ h => h) (by grind [QG.bp]) c s
   grind [M6]
  .exact⟨v,w,⟨c,hw,G⟩,rfl⟩
end
def Ei (l:II) (x y:Nat):Prop:=(x∈l/\nx l x=y)\/(y∈l/\nx l y=x)
theorem fz {l:II} (nd:l.Nodup) (h3:3<=l.length) {v:Nat} (d:v∈l):nx l v≠pv l v:=fun e=>by
 have f:nx l (nx l v)=v:=by grind [aa3]
 have QI:∀k,it (nx l) k v=v\/it (nx l) k v=nx l v:=fun k=>by
  induction k<;>grind [it]
 have sub:∀w∈l,w∈[v,nx l v]:=fun w hw=>by
  obtain⟨k,rfl⟩:=JT nd d hw
  grind
 match l,h3 with
 |a::b::c::t,_=>
  have ha:=sub a Ma;have hb:=sub b Ma;have g:=sub c Ma
  grind
section
variable {n : Nat} {R : Nat → List Nat} {l : List Nat}
theorem ki {x y:Nat} (h:Ei l x y):Ei l y x:=h.symm
theorem Cy (i:V7 n R) (fl:Flat n R) (nd:l.Nodup) (h3:3<=l.length) (j:∀v∈l,nx l v∈R v):Ctx n R (Ei l) [l,l.reverse]:=by
 have hR:V7 n (Om (Ei l) R):=by grind [OG,ki]
 have b:∀v∈l,∀w,w∈Om (Ei l) R v↔w=pv l v\/w=nx l v:=fun v a w=>by
  rw[EM];constructor
  .rintro ⟨_, h | h⟩
   all_goals grind [c7]
  .rintro (rfl | rfl)
   .have k1 := BJ a
    have k2:=aa3 nd a;refine⟨?_,.inr ⟨k1,k2⟩⟩
    grind [V7.sy]
   .exact⟨j v a,.inl ⟨a,rfl⟩⟩
 have c:∀v w,w∈Om (Ei l) R v->v∈l:=fun v w h=>by
  rcases(EM.1 h).2 with h|h
  all_goals grind [ZP]
 have two:∀v∈l,nx (Om (Ei l) R v) (pv l v)=nx l v/\nx (Om (Ei l) R v) (nx l v)=pv l v:=fun v a=>ZZ (hR.nd v) (by grind [fz]) (b v a);have o:∀v,nx l.reverse v=pv l v:=fun v=>rfl;have ne:l≠[]:=fun e=>by grind
 have O:FO (Om (Ei l) R) [l,l.reverse]:=by
  refine⟨fun f hf=>?_,fun f hf=>?_,fun f hf v a=>?_,fun f hf v a=>?_,fun v w hw=>?_,fun f hf g hg v p h2 e=>?_,?_⟩
  .grind
  .simp at hf; rcases hf with rfl | rfl
   .exact ne
   .simpa using ne
  .grind
  .grind [ZP,c7]
  .grind
  .grind [fz]
  .obtain ⟨v, t, q⟩ := xD ne
   grind [fz]
 refine⟨i,(by grind [ki]),fl,O,fun v w a hw=>?_⟩;have inl:∀{v},Om (Ei l) R v≠[]->v∈l:=fun{v} h=>by
  obtain⟨w,t,q⟩:=xD h;exact c v w (by rw[q];simp)
 obtain⟨k,rfl⟩:=JT nd (inl a) (inl hw);have d:=inl a;have:∀k,Cr (Om (Ei l) R) v (it (nx l) k v):=fun k=>by
  induction k with
  |zero=>exact .refl _
  |succ k m=>exact m.step ((b _ (O.it Ma d k).1 _).2 (.inr rfl))
 exact this k
end
end Go.Fw
namespace Go.Fw
attribute [local instance] Classical.propDecidable
noncomputable def kV (n:Nat) (r:Nat->II):II:=(List.range n).filter fun v=>decide (r v≠[])
def Num (n:Nat) (r:Nat->II) (F:Cs):Prop:=2*((kV n r).length+F.length)=(dl n r).length+4
theorem nu {L:II} {c:Nat}:∀X:II,(X.map fun v=>if v∈L then c else 0).sum=c*(X.filter fun v=>decide (v∈L)).length
 |[]=>rfl
 |x::X=>by
  rw[mJ,MY,nu X]
  grind
def NT {f g h k:Nat->Nat}:∀X:II,(∀x∈X,f x=g x+h x+k x)->(X.map f).sum=(X.map g).sum+(X.map h).sum+(X.map k).sum
 |[],_=>rfl
 |x::X,c=>by
  simp only[mJ,MY];rw[NT X fun y d=>c y (Gw _ d),c x vg];omega
theorem Xp {n:Nat} {L:II} (nd:L.Nodup) (h:∀x∈L,x<n):((List.range n).filter fun v=>decide (v∈L)).length=L.length:=by
 refine(yR (by grind [List.filter_sublist]) nd fun v=>?_).length_eq
 grind
theorem Vq (n:Nat) (r:Nat->II):(dl n r).length=((List.range n).map fun v=>(r v).length).sum:=by grind [dl,List.map_congr_left]
section
variable {n : Nat} {r r' : Nat → List Nat} {F F' : List (List Nat)} {a b : Nat} {inn : List Nat}
def Lay.lts (L:Lay n r r' a b inn):a<n/\b<n/\∀x∈inn,x<n:=by
 refine⟨L.R'.lt _ _ L.sa,L.R'.lt _ _ L.sb,fun x c=>?_⟩;obtain⟨i,p,d,h2⟩:=qm (a:=a) (b:=b) (.inr c);exact L.R'.lt _ _ (L.R'.sy _ _ (L.UQ d h2))
theorem Lay.deg (L:Lay n r r' a b inn) (v:Nat):(r' v).length=(r v).length+(if v∈[a,b]then 1 else 0)+(if v∈inn then 2 else 0):=by
 have one:∀{l:II} {s:Nat},s∈l->l.length=(l.erase s).length+1:=pw;by_cases c1:v=a
 .subst c1
  rw[one L.sa,L.ea,if_pos Ma,if_neg L.ain]
 by_cases c2:v=b
 .subst c2
  rw[one L.sb,L.eb,if_pos Ma,if_neg L.bin]
 by_cases c:v∈inn
 .rw [if_pos c, L.off v c]
  obtain⟨i,p,f,g⟩:=qm (a:=a) (b:=b) (.inr c);have hi:i+2<(nr a inn b).length:=by grind [Eo,Fg]
  obtain⟨_,_,k⟩:=L.mid i p v _ f g (BS hi);have d:p≠(nr a inn b)[i+2]:=fun e=>by
   have:=X6 L.ndP f (by rw[e];exact BS hi);omega
  have:=(yR (L.R'.nd v) (by simp[d]:[p,(nr a inn b)[i+2]].Nodup) pw).length_eq
  grind
 grind [Lay.Wn]
theorem Lay.num (L:Lay n r r' a b inn) (d:F'.length=F.length+1) (N:Num n r F):Num n r' F':=by
 obtain⟨f,g,li⟩:=L.lts;have h:(dl n r').length=(dl n r).length+2*(inn.length+1):=by
  rw[Vq,Vq,NT _ fun v _=>L.deg v,nu,nu,Xp (by simp[L.ab]) pw,Xp L.nd li];simp;omega
 have i:(kV n r').length=(kV n r).length+inn.length:=by
  have pm:(kV n r').Perm (kV n r++inn):=by
   refine yR (VU.sublist eR) ?_ fun v=>?_
   .rw [AE]
    refine⟨VU.sublist eR,L.nd,fun x c y j e=>?_⟩;have:=(aax.1 c).2
    grind [Lay.off]
   .unfold kV
    have hd:=L.deg v
    grind [Lay.ra,Lay.rb,Lay.Wn]
  rw[pm.length_eq,j9]
 grind [Num]
theorem Num.flat (N:Num n r F) (R:V7 n r) (O:FO r F) (bp:∀v w,r v≠[]->r w≠[]->Cr r v w) (ne:∃v,v<n/\r v≠[]):Flat n r:=by
 obtain⟨d,i,j⟩:=ne;have f:((List.range n).filter fun v=>decide (r v=[])).length+(kV n r).length=n:=by
  have QI:∀X:II,(X.filter fun v=>decide (r v=[])).length+(X.filter fun v=>decide (r v≠[])).length=X.length:=fun X=>by
   induction X<;>grind
  have:=QI (List.range n);rw[aex]at this;exact this
 have l:iJ n r=((List.range n).filter fun v=>decide (r v=[])).length+1:=by
  unfold iJ;have iso:∀{v w},r v=[]->Cr r v w->v=w:=fun{v w} h c=>by
   induction c<;>grind
  have k1:∀y∈((List.range n).filter fun v=>decide (r v=[]))++[d],y∈List.range n:=pw;have k2:(((List.range n).filter fun v=>decide (r v=[]))++[d]).Pairwise fun a b=>¬Cr r a b:=by
   rw[fE];refine⟨?_,Ma,fun x g y m c=>?_⟩
   .refine K4 (R := fun x y => x ≠ y) (fun {x y} g _ e c => e ?_) (by grind [List.nodup_range])
    grind
   grind
  have k:∀x∈List.range n,∃y∈((List.range n).filter fun v=>decide (r v=[]))++[d],Cr r x y:=fun x g=>by
   by_cases h:r x=[]
   .exact⟨x,(by grind [decide_eq_true]),.refl _⟩
   grind
  rw[ach (Cr.eqv R _) VU k1 k2 k];simp
 grind [Flat,mj,FO.cls,Num]
end
end Go.Fw
namespace Go.Fw
attribute [local instance] Classical.propDecidable
section
variable {n : Nat} {r r' : Nat → List Nat} {F : List (List Nat)} {f A B : List Nat} {a b : Nat} {inn : List Nat}
theorem Lay.mem (L:Lay n r r' a b inn) {x y:Nat}:y∈r' x↔y∈r x\/Ay a inn b x y:=by
 have ends:∀{a b:Nat} {inn:II} (_:Lay n r r' a b inn) {y:Nat},y∈r' a->y∈r a\/Ay a inn b a y:=fun{a b inn} L {y} h=>by
  by_cases c:y=(inn++[b]).headD 0
  .subst c
   obtain⟨k,m⟩:=yT a b inn;exact .inr (.inl ⟨0,k,m⟩)
  grind [Lay.ea]
 constructor
 .intro h
  by_cases c1:x=a
  .grind
  by_cases c2:x=b
  .subst c2;exact(ends L.swap h).imp id Ha.1
  by_cases o:x∈inn
  .obtain ⟨i, p, e, d⟩ := qm (a := a) (b := b) (.inr o)
   have hi:i+2<(nr a inn b).length:=by grind [Eo,Fg]
   have g:(nr a inn b)[i+2]?=some ((nr a inn b)[i+2]'hi):=BS hi
   rcases((L.mid i p x _ e d g).2.2 y).1 h with rfl|rfl
   .exact .inr (.inr ⟨i,e,d⟩)
   .exact .inr (.inl ⟨i+1,d,g⟩)
  grind [Lay.Wn]
 .rintro (h | ⟨i, j, h2⟩ | ⟨i, j, h2⟩)
  .exact L.sub h
  .grind [Lay.UQ]
  .exact L.R'.sy _ _ (L.UQ j h2)
theorem Lay.conn2 (L:Lay n r r' a b inn) (bp:∀v w,r v≠[]->r w≠[]->Cr r v w):∀v w,r' v≠[]->r' w≠[]->Cr r' v w:=by
 have along:∀(i x:Nat),(nr a inn b)[i]?=some x->Cr r' a x:=fun i=>by
  induction i with
  |zero=>
   intro x c;have:=c.symm.trans (yT a b inn).1;injection this with this;subst this;exact .refl _
  |succ i j=>
   intro x c;have k:=(Ny.1 c).1;have g:(nr a inn b)[i]?=some ((nr a inn b)[i]'(by omega)):=BS NH
   exact(j _ g).step (L.UQ g c)
 have toA:∀v,r' v≠[]->Cr r' a v:=fun v d=>by
  obtain⟨w,l,e⟩:=xD d;have hw:w∈r' v:=by rw[e];simp
  rcases L.mem.1 hw with h|⟨i,m,_⟩|⟨i,_,h2⟩
  .exact(bp a v L.ra fun q=>by grind).mono fun x y h=>L.sub h
  all_goals grind
 exact fun v w d hw=>((toA v d).symm L.R').trans (toA w hw)
structure vy (n:Nat) (r:Nat->II) (F:Cs):Prop where
 Rl:V7 n r
 O:FO r F
 bp:∀v w,r v≠[]->r w≠[]->Cr r v w
 num:Num n r F
 ne:F≠[]
theorem vy.flat (G:vy n r F):Flat n r:=by
 obtain⟨f,l,e⟩:=xD G.ne;have hf:f∈F:=by rw[e];simp
 have hd:=G.O.bz f hf _ (Lt (G.O.ne f hf));exact G.num.flat G.Rl G.O G.bp ⟨_,G.Rl.lt _ _ hd,fun q=>by grind⟩
theorem vy.lay (G:vy n r F) (hf:f∈F) (C:UN n r f a b inn) (cy:Cyc f ((a::A)++(b::B))):
  vy n (EO r f a b inn) (half a A b inn::half b B a inn.reverse::F.erase f)/\∀x y,y∈EO r f a b inn x↔y∈r x\/Ay a inn b x y:=by
 obtain⟨L,c,h2,h3,d⟩:=C.lay G.Rl G.O hf;refine⟨⟨L.R',L.gY G.O hf cy c h2 h3 d,L.conn2 G.bp,L.num ?_ G.num,Ma⟩,fun x y=>L.mem⟩
 grind
end
noncomputable def gH (l:II) (v:Nat):II:=if v∈l then[pv l v,nx l v]else[]
section
variable {n : Nat} {l : List Nat}
theorem ez (nd:l.Nodup) {v w:Nat}:w∈gH l v↔Ei l v w:=by grind [gH,Ei,BJ,aa3,c7,ZP]
theorem dP (nd:l.Nodup) (h3:3<=l.length) (lt:∀v∈l,v<n):vy n (gH l) [l,l.reverse]:=by
 have d:=fun{v w}=>ez (v:=v) (w:=w) nd;have i:l≠[]:=fun e=>by grind
 have m:∀v∈l,nx l v≠v:=by grind [Bk]
 have R:V7 n (gH l):=by
  refine⟨fun v=>?_,fun v w h=>?_,fun v w h=>d.2 (ki (d.1 h)),fun v h=>?_⟩
  .grind [gH,fz]
  .rcases d.1 h with h | h
   all_goals grind [ZP]
  .rcases d.1 h with h | h
   all_goals grind
 have s:Om (Ei l) (gH l)=gH l:=cS fun v w h=>d.1 h;have two:∀v∈l,nx (gH l v) (pv l v)=nx l v/\nx (gH l v) (nx l v)=pv l v:=by grind [gH,ss,fz]
 have O:FO (gH l) [l,l.reverse]:=by
  refine⟨fun f hf=>?_,fun f hf=>?_,fun f hf v c=>?_,fun f hf v c=>?_,fun v w hw=>?_,fun f hf g hg v o h2 e=>?_,?_⟩
  .grind
  .simp at hf; rcases hf with rfl | rfl
   .exact i
   .simpa using i
  .simp at hf; rcases hf with rfl | rfl
   .exact d.2 (.inl ⟨c,rfl⟩)
   .have c := KG.1 c
    exact d.2 (.inr ⟨BJ c,aa3 nd c⟩)
  .simp at hf; rcases hf with rfl | rfl
   .grind [ZP,c7]
   .have c := KG.1 c
    have:=(two _ (BJ c)).2;rw[aa3 nd c]at this;exact this
  .rcases d.1 hw with h | h
   all_goals grind [ZP,pv,c7]
  .simp at hf hg
   rcases hf with rfl|rfl
   .rcases hg with rfl | rfl
    .rfl
    .exact absurd e (fz nd h3 o)
   .rcases hg with rfl | rfl
    .exact absurd e.symm (fz nd h3 h2)
    .rfl
  .simp only [aaf, jf, EP, not_false_eq_true, ahc, and_true]
   intro e;have c:=Lt i
   grind [fz,pv]
 have inl:∀{v},gH l v≠[]->v∈l:=fun{v} h=>qy fun q=>h (if_neg q);refine⟨R,O,fun v w c hw=>?_,?_,Ma⟩
 .obtain ⟨k, rfl⟩ := JT nd (inl c) (inl hw)
  have j:=inl c;clear hw c;have:∀k,Cr (gH l) v (it (nx l) k v):=fun k=>by
   induction k with
   |zero=>exact .refl _
   |succ k p=>exact p.step (d.2 (.inl ⟨(O.it Ma j k).1,rfl⟩))
  exact this k
 .have t:(kV n (gH l)).length=l.length:=by
   rw[<-Xp nd lt]
   grind [kV,gH]
  have u:(dl n (gH l)).length=2*l.length:=by
   rw[Vq,<-Xp nd lt,<-nu]
   grind [gH]
  grind [Num]
end
end Go.Fw
namespace Go.Fw
attribute [local instance] Classical.propDecidable
def XU (n:Nat) (E:Nat->II):Prop:=∃R,V7 n R/\Flat n R/\∀v w,w∈R v↔w∈E v
structure PU (n:Nat) (E:Nat->II) (H:Nat->Nat->Prop) (F:Cs):Prop where
 sub:∀x y,H x y->y∈E x
 XK:∃r,vy n r F/\∀x y,y∈r x↔H x y
 full:XU n E->∃R,(∀v w,w∈R v↔w∈E v)/\Ctx n R H F
section
variable {n : Nat} {E : Nat → List Nat} {H : Nat → Nat → Prop} {F : List (List Nat)} {f A B inn l : List Nat} {a b s : Nat}
theorem BW {R R':Nat->II} (d:∀v w,w∈R' v↔w∈R v) {k:Nat×Nat×Nat} {h:II}:Fits R' H k h↔Fits R H k h:=
 ⟨fun q u x c e=>q u x ((Fv d).2 c) (by grind [Py]),fun q u x c e=>q u x ((Fv d).1 c) (by grind [Py])⟩
theorem PU.start (nd:l.Nodup) (h3:3<=l.length) (g:V7 n E) (d:∀v∈l,nx l v∈E v):PU n E (Ei l) [l,l.reverse]:=by
 refine⟨fun x y h=>?_,⟨_,dP nd h3 fun v c=>g.lt _ _ (d v c),fun x y=>ez nd⟩,fun⟨R,i,fl,e⟩=>⟨R,e,Cy i fl nd h3 fun v c=>(e _ _).2 (d v c)⟩⟩;rcases h with h|h
 all_goals grind [V7.sy]
def PU.Re (I:PU n E H F):∃p q,p≠q/\¬off E H p/\¬off E H q:=by
 obtain⟨r,G,c⟩:=I.XK;obtain⟨f,t,e⟩:=xD G.ne;have hf:f∈F:=by rw[e];simp
 have hd:=G.O.bz f hf _ (Lt (G.O.ne f hf));have d:=(c _ _).1 hd;have h2:=(c _ _).1 (G.Rl.sy _ _ hd);exact⟨_,_,fun e=>G.Rl.ir _ (by rw[<-e]at hd;exact hd),fun q=>q _ (I.sub _ _ d) d,fun q=>q _ (I.sub _ _ h2) h2⟩
theorem PU.pieces (I:PU n E H F) (D:QG E) {R:Nat->II} (c:∀v w,w∈R v↔w∈E v) (C:Ctx n R H F):Pg n R H F:=by
 obtain⟨p,q,d,h2,h3⟩:=I.Re;exact C.pieces (D.same c) ⟨p,q,d,(by grind [uR]),(by grind [uR])⟩
theorem PU.step (I:PU n E H F) (D:QG E) (m:V7 n E) (hf:f∈F) (z:QP E H a s) (fit:Fits E H (QI E H a s) f)
  (cond:(∀h∈F,Fits E H (QI E H a s) h->h=f)\/∀u x,QP E H u x->∃c∈F,∃h2∈F,c≠h2/\Fits E H (QI E H u x) c/\Fits E H (QI E H u x) h2)
  (W:Ka E H a inn b) (hs:(inn++[b]).headD 0=s) (cy:Cyc f ((a::A)++(b::B))):
  PU n E (fun x y=>H x y\/Ay a inn b x y) (half a A b inn::half b B a inn.reverse::F.erase f):=by
 obtain⟨r,G,j⟩:=I.XK;have o:∀v w,H v w->H w v:=fun v w h=>(j _ _).1 (G.Rl.sy _ _ ((j _ _).2 h));refine⟨fun x y h=>h.elim (I.sub x y) (by grind [Ka.wE]),?_,fun J=>?_⟩
 .have C:UN n r f a b inn:=by
   refine⟨W.ab,cy.perm.mem_iff.2 Ma,cy.perm.mem_iff.2 Ma,?_,fun x k=>?_,fun x k=>?_,fun e q=>?_⟩
   .have := W.nd
    grind [nr.eq_1]
   .refine qy fun q => ?_
    obtain⟨w,t,e⟩:=xD q;have h:=(j x w).1 (by rw[e];simp);exact W.off x k w (I.sub _ _ h) h
   .obtain ⟨i, p, c, h2⟩ := qm (a := a) (b := b) (.inr k)
    exact m.lt _ _ (m.sy _ _ (W.UQ i p x c h2).1)
   .have c : (nr a [] b)[0]? = some a := rfl
    grind [nr,Ka.UQ]
  obtain⟨N,g⟩:=G.lay hf C cy
  grind
 .obtain ⟨R, g, C⟩ := I.full J
  have P:=I.pieces D g C;have d:(∀h∈F,Fits R H (QI R H a s) h->h=f)\/∀u x,QP R H u x->∃c∈F,∃h2∈F,c≠h2/\Fits R H (QI R H u x) c/\Fits R H (QI R H u x) h2:=by
   rcases cond with q|q
   .grind [Py,BW]
   .refine .inr fun u x K => ?_
    obtain⟨c,m1,h2,m2,L,O,Q⟩:=q u x ((Fv g).1 K)
    grind [Py,BW]
  obtain⟨R',M,C'⟩:=P.step hf ((Fv g).2 z) (by grind [Py,BW]) d (W.same g) hs cy
  grind
theorem PU.fail (I:PU n E H F) (D:QG E) {u x:Nat} (d:QP E H u x) (h:∀f∈F,¬Fits E H (QI E H u x) f):¬XU n E:=fun e=>by
 obtain⟨R,c,C⟩:=I.full e;obtain⟨g,hg,k⟩:=(I.pieces D c C).fits ((Fv c).2 d)
 grind [Py,BW]
def PU.done (I:PU n E H F) (h:∀x y,y∈E x->H x y):∃r,vy n r F/\Flat n r/\∀x y,y∈r x↔y∈E x:=by
 obtain⟨r,G,c⟩:=I.XK;exact⟨r,G,G.flat,fun x y=>(c x y).trans ⟨I.sub x y,h x y⟩⟩
end
end Go.Fw
namespace Go.Fw
attribute [local instance] Classical.propDecidable
theorem LC {α:Type} {A B:List α} (b:A.Nodup) (nb:B.Nodup) (h:∀a∈A,a∈B):A.length<=B.length:=by
 have pm:B.Perm (A++B.filter fun x=>decide (x∉A)):=pw;rw[pm.length_eq,j9];omega
theorem vR {α β:Type} {k:Nat} {g:α->List β}:∀{L:List α},(∀x∈L,k<=(g x).length)->k*L.length<=(L.flatMap g).length
 |[],_=>by simp
 |x::L,h=>by
  have:=vR (L:=L) fun y a=>h y (Gw _ a)
  grind [Nat.mul_succ]
section
variable {n : Nat} {r : Nat → List Nat}
theorem Gj (R:V7 n r) {k:Nat} (h:∀d∈dl n r,k<=bt (Nv r) d):k*cls (WD (Nv r)) (dl n r)<=(dl n r).length:=by
 have p:=TG R;rw[<-yp R];have hd:∀d∈L3 n r,d∈dl n r:=by grind [IP,gQ]
 have c:(L3 n r).Nodup:=by grind [adS,L3]
 refine Hs (vR (g:=AA (Nv r)) (by grind [oN])) (LC ?_ (J8 R) fun e a=>?_)
 .grind [Ri,List.Pairwise.imp_of_mem,vA,RM,WD.trans,Pm.xw]
 .obtain ⟨d, b, a⟩ := Yi.1 a
  obtain⟨j,rfl⟩:=(vA p (hd d b)).1 a
  grind [Pm.uN]
theorem Bu (R:V7 n r) (hf:Flat n r) (bp:∀v w,r v≠[]->r w≠[]->Cr r v w) (all:∀v,v<n->r v≠[]) (a:0<n):2*(n+cls (WD (Nv r)) (dl n r))=(dl n r).length+4:=by
 have b:((List.range n).filter fun v=>decide (r v=[]))=[]:=by grind [filter_none]
 have c:iJ n r=1:=by
  unfold iJ;rw[ach (Cr.eqv R _) VU (L:=[0]) pw Ma (by grind)];rfl
 grind [Flat,mj]
theorem QG.deg (D:QG r) {v w:Nat} (h:r v=[w]) {x:Nat} (a:r x≠[]) (b:x≠v) (h2:x≠w) (hw:v≠w):False:=by
 have c:=D.Z7 w v x hw h2 (by rw[h];simp) a;have:∀y,Cr (Om (fun x y=>x≠w/\y≠w) r) v y->y=v:=fun y c=>by
  induction c<;>grind [EM]
 grind
theorem Co (R:V7 n r) (D:QG r) (h3:3<=n) (all:∀v,v<n->r v≠[]) {d:H8} (hd:d∈dl n r):3<=bt (Nv r) d/\(bt (Nv r) d=3->∃x y z,y∈r x/\z∈r y/\x∈r z):=by
 have p:=TG R;obtain⟨l,f,_⟩:=aaM p hd;have h:=Sg R hd;have m0:=(IP R).1 hd;have m1:=(IP R).1 (p.uN hd 1);have m2:=(IP R).1 (p.uN hd 2);obtain⟨v,w⟩:=d;have a:∃x,x<n/\x≠v/\x≠w:=by
  by_cases g:0≠v/\0≠w
  .exact⟨0,NH,g.1,g.2⟩
  by_cases a1:1≠v/\1≠w
  .exact⟨1,NH,a1.1,a1.2⟩
  .exact⟨2,NH,NH,NH⟩
 obtain⟨x,i,x1,j⟩:=a;have k:v≠w:=by grind [V7.ir]
 constructor
 .refine Nat.lt_of_le_of_ne h fun e => ?_
  rw[<-e]at f;have b:(nx (r w) v,nx (r (nx (r w) v)) w)=((v,w):H8):=f;injection b with b _;have c:v∈r w:=R.sy _ _ m0;have:=(Bk (R.nd w) c).1 b;exact D.deg this (all x i) j x1 (uV k)
 grind [it,Nv]
theorem UU (R:V7 n r) (hf:Flat n r) (D:QG r) (h3:3<=n) (all:∀v,v<n->r v≠[]):(dl n r).length+12<=6*n/\((∀x y z,y∈r x->z∈r y->x∉r z)->(dl n r).length+8<=4*n):=by
 have e:=Bu R hf D.bp all NH;constructor
 .have := Gj R (k := 3) fun d hd => (Co R D h3 all hd).1
  omega
 .intro a
  have:=Gj R (k:=4) fun d hd=>by grind [Co]
  omega
end
end Go.Fw
namespace Go.Fw
section
attribute [local instance] Classical.propDecidable
variable {l:II} {n u:Nat}
theorem J5 {f g:Nat->Nat} {P:Nat->Prop} (b:∀x,P x->P (f x)) (h:∀x,P x->f x=g x) {u:Nat} (a:P u):∀k,it f k u=it g k u/\P (it f k u)
 |0=>⟨rfl,a⟩
 |k+1=>by
  obtain⟨e,p⟩:=J5 b h a k
  grind [it]
def afT {l:II} (nd:l.Nodup) {u:Nat} {c:II} (e:l=u::c):∀k,k<l.length->l[k]?=some (it (nx l) k u)
 |0,_=>by rw[e];rfl
 |k+1,hk=>by
  have ih:=afT nd e k NH;have h1:l[k+1]?=some (l[k+1]'hk):=BS hk
  rw[h1];congr 1;exact(aZ nd ih h1).1.symm
theorem ahg (nd:l.Nodup) (b:u∈l):Cyc l ((List.range l.length).map fun k=>it (nx l) k u):=by
 obtain⟨c,d⟩:=Cyc.front b;have a:=d.perm.nodup_iff.1 nd;have e:((List.range l.length).map fun k=>it (nx l) k u)=u::c:=by
  refine V3 fun i=>?_;rw[d.perm.length_eq];by_cases h:i<(u::c).length
  .rw [Yq, List.getElem?_range h, afT a rfl i h]
   simp only[uu];congr 1;exact(J5 (P:=fun x=>x∈l) (by grind [ZP]) (by grind [Cyc.nx]) b i).1
  grind
 grind
theorem nZ {r:Nat->II} {F:Cs} (R:V7 n r) (O:FO r F) {next:Nat->Nat->Nat} (h:∀f∈F,∀v∈f,next v (pv f v)=nx f v) {v u:Nat} (a:u∈r v):
  Cyc (r v) ((List.range (r v).length).map fun k=>it (next v) k u):=by
 have QI:∀w∈r v,next v w=nx (r v) w:=fun w hw=>by
  obtain⟨f,hf,b,e⟩:=O.cover w v (R.sy _ _ hw)
  grind [ZP,c7,FO.nd,FO.pv]
 have e:((List.range (r v).length).map fun k=>it (next v) k u)=(List.range (r v).length).map fun k=>it (nx (r v)) k u:=by
  refine Qn fun k _=>?_;exact((J5 (P:=fun x=>x∈r v) (by grind [ZP]) pw a k).1).symm
 rw[e];exact ahg (R.nd v) a
end
end Go.Fw
namespace Go.Fw
attribute [local instance] Classical.propDecidable
def hh (b m x:Nat):Nat:=if x=b then m else x
def aap (R:Nat->II) (a b m:Nat) (v:Nat):II:=if v=m then[a,b]else if v=a then(R a).map (hh b m)else if v=b then(R b).map (hh a m)else R v
theorem ahh {b m:Nat}:∀{l:II},b∉l->l.map (hh b m)=l
 |[],_=>rfl
 |x::l,h=>by rw[mJ,ahh (by grind [List.mem_cons_of_mem]),hh,if_neg pw]
theorem ab2 {b m:Nat}:∀{l:II},l.Nodup->m∉l->(l.map (hh b m)).erase m=l.erase b
 |[],_,_=>rfl
 |x::l,nd,d=>by
  rw[aaf]at nd;rw[mJ];by_cases c:x=b
  .grind [hh,ahh]
  .rw[show hh b m x=x from if_neg c,qL238 pw,qL238 (by simpa using c),ab2 nd.2 (by grind [List.mem_cons_of_mem])]
theorem aee {b m:Nat} {l:II} (c:m∉l):∀x∈l,∀y∈l,hh b m x=hh b m y->x=y:=by grind [hh]
section
variable {n : Nat} {R : Nat → List Nat} {a b m : Nat}
structure aan (n:Nat) (R:Nat->II) (a b m:Nat):Prop where
 Rl:V7 n R
 ab:b∈R a
 rm:R m=[]
 mn:m<n
theorem aan.nm (S:aan n R a b m) {v:Nat}:m∉R v:=fun h=>by
 have:=S.Rl.sy _ _ h
 grind [aan.rm]
theorem aan.ne (S:aan n R a b m):a≠b/\a≠m/\b≠m:=by
 refine⟨fun e=>S.Rl.ir a (by grind [aan.ab]),fun e=>?_,fun e=>S.nm (e▸S.ab)⟩;have:=S.ab
 grind [aan.rm]
theorem aan.mem (S:aan n R a b m) {v w:Nat}:w∈aap R a b m v↔(w∈R v/\¬(v=a/\w=b)/\¬(v=b/\w=a))\/(v=m/\(w=a\/w=b))\/(w=m/\(v=a\/v=b)):=by
 have c:∀{v b:Nat},b∈R v->(w∈(R v).map (hh b m)↔(w∈R v/\w≠b)\/w=m):=by grind [hh]
 unfold aap;by_cases c1:v=m
 .grind [aan.rm]
 rw[if_neg c1];by_cases c2:v=a
 .grind [aan.ab]
 rw[if_neg c2];by_cases d:v=b
 .subst d
  rw[if_pos rfl,c (S.Rl.sy _ _ S.ab)];simp[c1,c2]
 grind
theorem aan.aff (S:aan n R a b m):V7 n (aap R a b m):=by
 obtain⟨g,h2,h3⟩:=S.ne;have d:=S.Rl.sy _ _ S.ab;refine⟨fun v=>?_,fun v w h=>?_,fun v w h=>?_,fun v h=>?_⟩
 .have c:∀{v b:Nat},((R v).map (hh b m)).Nodup:=fun{v b}=>by
   rw[si,wI];exact K4 (fun{x y} i j f e=>f (aee S.nm x i y j e)) (si.1 (S.Rl.nd v))
  unfold aap;split
  .simp[g]
  .split
   .exact c
   .split
    .exact c
    .exact S.Rl.nd v
 .rcases S.mem.1 h with h | h | h
  .exact S.Rl.lt _ _ h.1
  .rw[h.1];exact S.mn
  .rcases h.2 with e | e
   .rw[e];exact S.Rl.lt _ _ S.ab
   .rw[e];exact S.Rl.lt _ _ d
 .rw [S.mem] at h ⊢
  rcases h with h|h|h
  .exact .inl ⟨S.Rl.sy _ _ h.1,pw,pw⟩
  all_goals grind
 .rcases S.mem.1 h with h | h | h
  .exact S.Rl.ir _ h.1
  all_goals grind
end
end Go.Fw
namespace Go.Fw
attribute [local instance] Classical.propDecidable
def sig (a b m:Nat) (d:H8):H8:=(d.1,if d.1=a then hh b m d.2 else if d.1=b then hh a m d.2 else d.2)
theorem sig_oth {a b m y z:Nat} (c1:y≠a) (c2:y≠b):sig a b m (y,z)=(y,z):=by grind [sig]
section
variable {n : Nat} {R : Nat → List Nat} {a b m : Nat}
theorem aan.Ui (S:aan n R a b m):aap R a b m a=(R a).map (hh b m):=by grind [aap,aan.ne]
theorem aan.at_b (S:aan n R a b m):aap R a b m b=(R b).map (hh a m):=by grind [aap,aan.ne]
theorem aan.at_m (S:aan n R a b m):aap R a b m m=[a,b]:=if_pos rfl
def aan.nxa (S:aan n R a b m) {x:Nat} (h:x∈R a):nx (aap R a b m a) (hh b m x)=hh b m (nx (R a) x):=by rw[S.Ui];exact HL (aee S.nm) h
def aan.nxb (S:aan n R a b m) {x:Nat} (h:x∈R b):nx (aap R a b m b) (hh a m x)=hh a m (nx (R b) x):=by rw[S.at_b];exact HL (aee S.nm) h
theorem acQ (b m:Nat):hh b m b=m:=if_pos rfl
theorem aan.s1 (S:aan n R a b m):Nv (aap R a b m) (a,m)=(m,b)/\Nv (aap R a b m) (m,b)=sig a b m (Nv R (a,b))/\Nv (aap R a b m) (b,m)=(m,a)/\Nv (aap R a b m) (m,a)=sig a b m (Nv R (b,a)):=by
 obtain⟨d,_,_⟩:=S.ne;have c:=S.Rl.sy _ _ S.ab;refine⟨?_,?_,?_,?_⟩
 .grind [Nv.eq_1,aan.at_m,ss]
 .have := S.nxb c
  grind [acQ,Nv.eq_1,sig]
 .grind [Nv.eq_1,aan.at_m,ss]
 .have := S.nxa S.ab
  grind [acQ,Nv.eq_1,sig]
theorem aan.s2 (S:aan n R a b m) {d:H8} (hd:d∈dl n R) (n1:d≠(a,b)) (f:d≠(b,a)):Nv (aap R a b m) (sig a b m d)=sig a b m (Nv R d):=by
 obtain⟨x,y⟩:=d;have e:=(IP S.Rl).1 hd;have c:=S.Rl.sy _ _ e;have es:sig a b m (x,y)=(x,y):=by grind [sig,hh]
 rw[es,Nv];by_cases c1:y=a
 .subst c1
  have k:=S.nxa c
  grind [hh,Nv,sig]
 by_cases c2:y=b
 .subst c2
  have k:=S.nxb c
  grind [hh,Nv,sig]
 .have g : y ≠ m := by grind [aan.rm]
  have k:aap R a b m y=R y:=by grind [aap]
  show(y,nx (aap R a b m y) x)=sig a b m (y,nx (R y) x)
  grind [sig_oth]
theorem aan.orb (S:aan n R a b m):WD (Nv (aap R a b m)) (a,m) (m,a)↔WD (Nv R) (a,b) (b,a):=by
 obtain⟨t1,l,o,q⟩:=S.s1;have p:=TG S.Rl;have f:((a,b):H8)∈dl n R:=(IP S.Rl).2 S.ab;have sa:sig a b m (a,b)=(a,m):=by simp[sig,hh]
 have sb:sig a b m (b,a)=(b,m):=by grind [sig,hh]
 constructor
 .rintro ⟨k, i⟩
  have QI:∀k,∃d,WD (Nv R) (a,b) d/\(it (Nv (aap R a b m)) k (a,m)=sig a b m d\/(d=(a,b)/\it (Nv (aap R a b m)) k (a,m)=(m,b))\/(d=(b,a)/\it (Nv (aap R a b m)) k (a,m)=(m,a))):=fun k=>by
   induction k with
   |zero=>exact⟨(a,b),WD.refl _ _,.inl sa.symm⟩
   |succ k g=>
    obtain⟨d,c,h⟩:=g;have hd:d∈dl n R:=by obtain⟨j,rfl⟩:=c;grind [Pm.uN]
    have e:it (Nv (aap R a b m)) (k+1) (a,m)=Nv (aap R a b m) (it (Nv (aap R a b m)) k (a,m)):=rfl;rw[e];rcases h with h|⟨rfl,h⟩|⟨rfl,h⟩
    .by_cases c1 : d = (a, b)
     all_goals grind [WD.trans,WD.one,aan.s2]
    all_goals grind [WD.trans,WD.one]
  obtain⟨d,c,h⟩:=QI k;rw[i]at h;rcases h with h|⟨_,h⟩|⟨rfl,_⟩
  .have e := congrArg Prod.fst h
   have e:m=d.1:=e;have hd:d∈dl n R:=by obtain⟨j,rfl⟩:=c;grind [Pm.uN]
   grind [IP,aan.Rl,aan.rm]
  all_goals grind
 .intro c
  have step:∀d∈dl n R,WD (Nv (aap R a b m)) (sig a b m d) (sig a b m (Nv R d)):=fun d hd=>by
   by_cases c1:d=(a,b)
   .grind [WD.one,WD.trans]
   by_cases c2:d=(b,a)
   all_goals grind [WD.one,WD.trans,aan.s2]
  obtain⟨k,i⟩:=c;have all:∀k,WD (Nv (aap R a b m)) (a,m) (sig a b m (it (Nv R) k (a,b))):=fun k=>by
   induction k with
   |zero=>show WD _ _ (sig a b m (a,b));grind [WD.refl]
   |succ k g=>exact g.trans (step _ (p.uN f k))
  grind [WD.trans,WD.one]
theorem aan.flat (S:aan n R a b m):Flat n (aap R a b m)↔Flat n R:=by
 obtain⟨g,h2,h3⟩:=S.ne;have i:=S.Rl.sy _ _ S.ab;have R':=S.aff;have j:m∈aap R a b m a:=by rw[S.Ui,Z6];exact⟨b,S.ab,acQ b m⟩
 have k:=pG R' h2;have f:∀{x y},y∈del (aap R a b m) a m x↔y∈aap R a b m x/\¬(x=a/\y=m)/\¬(x=m/\y=a):=by grind [JF]
 have l:m∈del (aap R a b m) a m b:=by grind [aan.at_b,acQ]
 have p:del (del (aap R a b m) a m) b m=del R a b:=by
  funext x;unfold del;by_cases c1:x=a
  .subst c1
   rw[if_neg g,if_neg h2,if_pos rfl,if_pos rfl,S.Ui];exact ab2 (S.Rl.nd _) S.nm
  by_cases c2:x=b
  .subst c2
   rw[if_pos rfl,if_neg c1,if_neg h3,if_neg c1,if_pos rfl,S.at_b];exact ab2 (S.Rl.nd _) S.nm
  grind [aan.rm,aap]
 have d:∀{x y},y∈del R a b x↔y∈R x/\¬(x=a/\y=b)/\¬(x=b/\y=a):=fun{x y}=>JF S.Rl g;have u:∀y,y∈del (aap R a b m) a m m↔y=b:=by grind [aan.at_m]
 have aac:Flat n (del (aap R a b m) a m)↔Flat n (del R a b):=by
  have o:WD (Nv (del (aap R a b m) a m)) (b,m) (m,b):=⟨1,by
   show(m,nx (del (aap R a b m) a m m) b)=(m,b)
   grind [ZP]⟩
  have v:¬Cr (del (del (aap R a b m) a m) b m) b m:=fun c=>by
   rw[p]at c;cases c with
   |refl=>exact h3 rfl
   |step _ hs=>exact S.nm (d.1 hs).1
  grind [Lq,abG]
 have r:Cr (del (aap R a b m) a m) a m↔Cr (del R a b) a b:=by
  have back:∀y,Cr (del (aap R a b m) a m) a y->(y≠m->Cr (del R a b) a y)/\(y=m->Cr (del R a b) a b):=fun y c=>by
   induction c with
   |refl=>exact⟨fun _=>.refl _,pw⟩
   |@step x y _ hs s=>
    by_cases t:x=m
    .grind
    .by_cases w : y = m
     .have z := k.sy _ _ hs
      grind
     .refine ⟨fun _ => (s.1 t).step ?_, pw⟩
      grind [aan.mem]
  constructor
  .grind
  .intro c
   have up:Cr (del (aap R a b m) a m) a b:=c.mono fun x y h=>by
    have q:=d.1 h;refine f.2 ⟨S.mem.2 (.inl q),fun e=>?_,fun e=>?_⟩
    .rw[e.2]at q;exact S.nm q.1
    grind [aan.rm]
   exact up.step (by grind [V7.sy])
 grind [Lq,abG,aan.Rl,aan.ab,aan.orb]
end
end Go.Fw
namespace Go.Fw
attribute [local instance] Classical.propDecidable
section
variable {n : Nat} {E E' : Nat → List Nat} {a b m : Nat}
theorem XU.congr (h:∀v w,w∈E' v↔w∈E v):XU n E'↔XU n E:=by
 constructor
 .rintro⟨R,c,fl,d⟩;exact⟨R,c,fl,pw⟩
 .rintro⟨R,c,fl,d⟩;exact⟨R,c,fl,pw⟩
theorem XU.less (d:XU n E) (hs:∀v w,w∈E' v->w∈E v) (sy:∀v w,w∈E' v->v∈E' w):XU n E':=by
 obtain⟨R,c,fl,e⟩:=d;refine⟨Om (fun v w=>w∈E' v) R,OG c sy,fl.keep c sy,fun v w=>?_⟩
 grind [EM]
theorem hh_back {b m:Nat} {l:II} (hb:b∉l):(l.map (hh m b)).map (hh b m)=l:=by
 rw[b7];have:∀x∈l,(hh b m∘hh m b) x=x:=by grind [hh]
 rw[Qn this,List.map_id']
structure adH (n:Nat) (E E':Nat->II) (a b m:Nat):Prop where
 e:V7 n E
 e':V7 n E'
 ab:b∈E a
 em:E m=[]
 mn:m<n
 mem:∀v w,w∈E' v↔(w∈E v/\¬(v=a/\w=b)/\¬(v=b/\w=a))\/(v=m/\(w=a\/w=b))\/(w=m/\(v=a\/v=b))
theorem adH.planar (U:adH n E E' a b m):XU n E'↔XU n E:=by
 have k:a≠b:=fun e=>U.e.ir a (by grind [adH.ab]);have B:a≠m:=fun e=>by have:=U.ab;grind [adH.em]
 have C:=U.e.sy _ _ U.ab;have D:b≠m:=by grind [adH.em]
 have F:∀v,m∉E v:=fun v h=>by
  have:=U.e.sy _ _ h
  grind [adH.em]
 constructor
 .rintro ⟨R, g, fl, f⟩
  have hb:b∉R a:=fun h=>by
   rcases(U.mem _ _).1 ((f _ _).1 h)with q|q|q
   all_goals grind
  have ha:a∉R b:=by grind [V7.sy]
  have o:m∈R a:=(f _ _).2 ((U.mem _ _).2 pw);have p:m∈R b:=(f _ _).2 ((U.mem _ _).2 pw)
  let Q:Nat->II:=fun v=>if v=m then[]else if v=a then(R a).map (hh m b)else if v=b then(R b).map (hh m a)else R v
  have G:Q m=[]:=if_pos rfl;have H:Q a=(R a).map (hh m b):=pw;have I:Q b=(R b).map (hh m a):=pw;have z:∀v,v≠m->v≠a->v≠b->Q v=R v:=pw;have i:∀{v b w:Nat},b∉R v->m∈R v->(w∈(R v).map (hh m b)↔(w∈R v/\w≠m)\/w=b):=by grind [hh]
  have d:∀v w,w∈Q v↔w∈E v:=fun v w=>by
   by_cases c1:v=m
   .grind [adH.em]
   by_cases c2:v=a
   .subst c2
    rw[H,i hb o,f,U.mem]
    grind [adH.ab]
   by_cases l:v=b
   .subst l
    rw[I,i ha p,f,U.mem]
    grind
   .rw [z v c1 c2 l, f, U.mem]
    grind
  have A:∀{v b:Nat},b∉R v->((R v).map (hh m b)).Nodup:=fun{v b} h=>by
   rw[si,wI];exact K4 (by grind [aee]) (si.1 (g.nd v))
  have j:V7 n Q:=by
   refine⟨fun v=>?_,fun v w h=>U.e.lt _ _ ((d v w).1 h),fun v w h=>(d w v).2 (U.e.sy _ _ ((d v w).1 h)),fun v h=>U.e.ir v ((d v v).1 h)⟩;by_cases c1:v=m
   .grind
   by_cases c2:v=a
   .grind
   by_cases l:v=b
   .grind
   .rw[z v c1 c2 l];exact g.nd v
  have S:aan n Q a b m:=⟨j,(d _ _).2 U.ab,G,U.mn⟩;have same:pP R (aap Q a b m):=fun v=>by
   unfold aap;by_cases c1:v=m
   .subst c1
    rw[if_pos rfl];have mm:∀y,y∈R v↔y=a\/y=b:=fun y=>by
     rw[f,U.mem,U.em]
     grind
    have r:=(mm a).2 (.inl rfl);obtain⟨c,s⟩:=Cyc.front r;have nd:=s.perm.nodup_iff.1 (g.nd v);have J:=ZZ (g.nd v) k mm;have pm:=(yR (g.nd v) (by simp[k]:[a,b].Nodup) pw).length_eq;have lc:c.length=1:=by have:=s.perm.length_eq;grind
    match c,lc with
    |[x],_=>
     have K:=(mm x).1 (s.perm.mem_iff.2 Ma)
     grind
   rw[if_neg c1];by_cases c2:v=a
   all_goals grind [hh_back,Cyc.refl]
  exact⟨Q,j,S.flat.1 ((same.flat g).1 fl),d⟩
 .rintro ⟨R, g, fl, f⟩
  have u:R m=[]:=qy fun q=>by
   obtain⟨w,t,e⟩:=xD q;have:=(f m w).1 (by rw[e];simp)
   grind [adH.em]
  have S:aan n R a b m:=⟨g,(f _ _).2 U.ab,u,U.mn⟩;exact⟨aap R a b m,S.aff,S.flat.2 fl,fun v w=>by rw[S.mem,U.mem,f]⟩
end
end Go.Fw
namespace Go.Fw
attribute [local instance] Classical.propDecidable
section
variable {n : Nat} {r : Nat → List Nat} {F : List (List Nat)}
theorem iso_on (n:Nat) (r:Nat->II):((List.range n).filter fun v=>decide (r v=[])).length+(kV n r).length=n:=by
 have QI:∀X:II,(X.filter fun v=>decide (r v=[])).length+(X.filter fun v=>decide (r v≠[])).length=X.length:=fun X=>by
  induction X<;>grind
 have:=QI (List.range n);rw[aex]at this;exact this
theorem cmps_on (R:V7 n r) (bp:∀v w,r v≠[]->r w≠[]->Cr r v w) (ne:∃v,v<n/\r v≠[]):iJ n r=((List.range n).filter fun v=>decide (r v=[])).length+1:=by
 obtain⟨d,g,i⟩:=ne;unfold iJ;have iso:∀{v w},r v=[]->Cr r v w->v=w:=fun{v w} h c=>by
  induction c<;>grind
 have k1:∀y∈((List.range n).filter fun v=>decide (r v=[]))++[d],y∈List.range n:=pw;have k2:(((List.range n).filter fun v=>decide (r v=[]))++[d]).Pairwise fun a b=>¬Cr r a b:=by
  rw[fE];refine⟨?_,Ma,fun x f y k c=>?_⟩
  .refine K4 (R := fun x y => x ≠ y) (fun {x y} f _ e c => e ?_) (by grind [List.nodup_range])
   grind
  grind
 have j:∀x∈List.range n,∃y∈((List.range n).filter fun v=>decide (r v=[]))++[d],Cr r x y:=fun x f=>by
  by_cases h:r x=[]
  .exact⟨x,(by grind [decide_eq_true]),.refl _⟩
  grind
 rw[ach (Cr.eqv R _) VU k1 k2 j];simp
theorem BQ (R:V7 n r) (hf:Flat n r) (bp:∀v w,r v≠[]->r w≠[]->Cr r v w) (ne:∃v,v<n/\r v≠[]):2*((kV n r).length+cls (WD (Nv r)) (dl n r))=(dl n r).length+4:=by grind [iso_on,cmps_on,Flat,mj]
theorem Oz (h3:3<=(kV n r).length) (v w:Nat):∃x,x<n/\r x≠[]/\x≠v/\x≠w:=by
 have nd:(kV n r).Nodup:=VU.sublist eR;have d:∀x∈kV n r,x<n/\r x≠[]:=fun x e=>⟨iy.1 (aax.1 e).1,of_decide_eq_true (aax.1 e).2⟩;generalize kV n r=L at h3 nd d
 match L,h3 with
 |a::b::c::t,_=>
  have ha:=d a Ma;have hb:=d b Ma;have f:=d c Ma
  grind
theorem afU (R:V7 n r) (D:QG r) (h3:3<=(kV n r).length) {d:H8} (hd:d∈dl n r):3<=bt (Nv r) d/\(bt (Nv r) d=3->∃x y z,y∈r x/\z∈r y/\x∈r z):=by
 have p:=TG R;obtain⟨j,f,_⟩:=aaM p hd;have g:=Sg R hd;have m0:=(IP R).1 hd;have m1:=(IP R).1 (p.uN hd 1);have m2:=(IP R).1 (p.uN hd 2);obtain⟨v,w⟩:=d;obtain⟨x,k,a,x1,h⟩:=Oz h3 v w;have i:v≠w:=by grind [V7.ir]
 constructor
 .refine Nat.lt_of_le_of_ne g fun e => ?_
  rw[<-e]at f;have b:(nx (r w) v,nx (r (nx (r w) v)) w)=((v,w):H8):=f;injection b with b _;have c:v∈r w:=R.sy _ _ m0;exact D.deg ((Bk (R.nd w) c).1 b) a h x1 (uV i)
 grind [it,Nv]
theorem LR (R:V7 n r) (hf:Flat n r) (D:QG r) (h3:3<=(kV n r).length):(dl n r).length+12<=6*(kV n r).length/\((∀x y z,y∈r x->z∈r y->x∉r z)->(dl n r).length+8<=4*(kV n r).length):=by
 obtain⟨x,b,a,_⟩:=Oz h3 0 0;have e:=BQ R hf D.bp ⟨x,b,a⟩;constructor
 .have := Gj R (k := 3) (by grind [afU])
  omega
 .intro c
  have:=Gj R (k:=4) (by grind [afU]);omega
theorem XU.bound {E:Nat->II} (d:V7 n E) (D:QG E) (h3:3<=(kV n E).length) (a:XU n E):(dl n E).length+12<=6*(kV n E).length/\((∀x y z,y∈E x->z∈E y->x∉E z)->(dl n E).length+8<=4*(kV n E).length):=by
 obtain⟨R,b,fl,c⟩:=a;have e:kV n R=kV n E:=by
  refine j3 fun v _=>?_;have:R v=[]↔E v=[]:=by
   rw[Tn,Tn]
   grind
  grind
 have f:(dl n R).length=(dl n E).length:=by grind [J8,IP,List.Perm.length_eq]
 have:=LR b fl (D.same c) pw
 grind
end
end Go.Fw
namespace Go.Fw
section
attribute [local instance] Classical.propDecidable
variable {l:II} {m n v w x:Nat}
theorem xT {E:Nat->II} (h:∀v,m<=v->E v=[]) (k:Nat):dl (m+k) E=dl m E/\kV (m+k) E=kV m E:=by
 have e:List.range (m+k)=List.range m++(List.range k).map (m+·):=List.range_add;constructor
 .grind [dl,List.flatMap_eq_nil_iff]
 grind [kV,filter_none]
def Hr (v:Nat):II:=if v<5 then(List.range 5).filter fun w=>w !=v else[]
def pT (v:Nat):II:=if v<3 then[3,4,5]else if v<6 then[0,1,2]else[]
theorem pZ:w∈Hr v↔v<5/\w<5/\w≠v:=by grind [Hr]
theorem Vb:w∈pT v↔(v<3/\3<=w/\w<6)\/(3<=v/\v<6/\w<3):=by grind [pT]
theorem Ce (h:x∈l):l≠[]:=fun e=>by grind
def WB (h:l≠[]):∃x,x∈l:=by
 obtain⟨x,t,e⟩:=xD h;exact⟨x,by rw[e];simp⟩
theorem afV (b:5<=n):¬XU n Hr:=fun d=>by
 have lt:∀{v},Hr v≠[]->v<5:=fun h=>by obtain⟨x,f⟩:=WB h;grind [pZ]
 have R:V7 n Hr:=by
  refine⟨fun v=>?_,fun v w h=>?_,fun v w h=>?_,fun v h=>?_⟩
  all_goals grind [Hr,List.filter_sublist]
 have D:QG Hr:=by
  refine⟨fun v w a hw=>?_,fun c v w g h2 a hw=>?_⟩
  .by_cases e : w = v
   .rw[e];exact .refl _
   grind [Cr.one,pZ]
  .by_cases e : w = v
   .rw[e];exact .refl _
   grind [Cr.one,EM,pZ]
 have off:∀v,5<=v->Hr v=[]:=pw;obtain⟨k,rfl⟩:=afK b;obtain⟨i,j⟩:=xT off k;have l1:(dl 5 Hr).length=20:=by decide
 have l2:(kV 5 Hr).length=5:=by
  have:kV 5 Hr=List.range 5:=Bn.2 fun v a=>by
   have a:=iy.1 a
   refine decide_eq_true (Ce (x:=if v=0 then 1 else 0) (pZ.2 ⟨a,?_,?_⟩))
   all_goals grind
  grind
 have:=(d.bound R D pw).1
 grind
theorem afg (f:6<=n):¬XU n pT:=fun g=>by
 have lt:∀{v},pT v≠[]->v<6:=fun h=>by obtain⟨x,i⟩:=WB h;grind [Vb]
 have R:V7 n pT:=by
  refine⟨fun v=>?_,fun v w h=>?_,fun v w h=>?_,fun v h=>?_⟩
  all_goals grind [pT]
 have D:QG pT:=by
  have two:∀c v w,v≠c->w≠c->v<6->w<6->Cr (Om (fun x y=>x≠c/\y≠c) pT) v w:=fun c v w d h2 e hw=>by
   have UQ:∀{x y},x≠c->y≠c->((x<3/\3<=y/\y<6)\/(3<=x/\x<6/\y<3))->Cr (Om (fun x y=>x≠c/\y≠c) pT) x y:=by grind [Cr.one,EM,Vb]
   by_cases a:v<3
   .by_cases b : w < 3
    .by_cases z : c = 3
     .exact(UQ (y:=4) d NH NH).trans pw
     .exact(UQ (y:=3) d NH NH).trans pw
    grind
   .by_cases b : w < 3
    .grind
    .by_cases z : c = 0
     .exact(UQ (y:=1) d NH NH).trans pw
     .exact(UQ (y:=0) d NH NH).trans pw
  refine⟨fun v w e hw=>?_,fun c v w d h2 e hw=>two c v w d h2 (lt e) (lt hw)⟩;have a:=lt e;have b:=lt hw;exact(two 6 v w NH NH a b).mono (by grind [EM])
 have off:∀v,6<=v->pT v=[]:=pw;obtain⟨k,rfl⟩:=afK f;obtain⟨j,l⟩:=xT off k;have l1:(dl 6 pT).length=18:=by decide
 have l2:(kV 6 pT).length=6:=by grind [kV,pT,List.filter_eq_self]
 have:=(g.bound R D pw).2 (by grind [Vb])
 grind
end
end Go.Fw
namespace Go.Fw
attribute [local instance] Classical.propDecidable
structure Ren (n:Nat) (p q:Nat->Nat):Prop where
 pl:∀v,v<n->p v<n
 ql:∀v,v<n->q v<n
 pq:∀v,v<n->p (q v)=v
 qp:∀v,v<n->q (p v)=v
def uH (n:Nat) (p q:Nat->Nat) (r:Nat->II) (w:Nat):II:=if w<n then(r (q w)).map p else[]
def pp (p:Nat->Nat) (d:H8):H8:=(p d.1,p d.2)
section
variable {n : Nat} {p q : Nat → Nat} {r : Nat → List Nat}
theorem Ren.inj (N:Ren n p q) {x y:Nat} (a:x<n) (b:y<n) (e:p x=p y):x=y:=by grind [Ren.qp]
theorem KB (N:Ren n p q) {v:Nat} (a:v<n):uH n p q r (p v)=(r v).map p:=by grind [uH,Ren.pl,Ren.qp]
def rlt (R:V7 n r) {v w:Nat} (h:w∈r v):v<n/\w<n:=⟨R.lt _ _ h,R.lt _ _ (R.sy _ _ h)⟩
theorem uX (N:Ren n p q) (R:V7 n r) {v w:Nat}:w∈uH n p q r v↔v<n/\w<n/\q w∈r (q v):=by
 unfold uH;by_cases c:v<n
 .rw [if_pos c, Z6]
  constructor
  .rintro ⟨x, a, rfl⟩
   have:=(rlt R a).2
   grind [Ren.pl,Ren.qp]
  grind [Ren.pq]
 grind
theorem aef (N:Ren n p q) (R:V7 n r):V7 n (uH n p q r):=by
 refine⟨fun v=>?_,(by grind [uX]),fun v w h=>?_,(by grind [V7.ir,uX])⟩
 .unfold uH
  split
  .rw [si, wI]
   exact K4 (fun{x y} b c a e=>a (N.inj (rlt R b).2 (rlt R c).2 e)) (si.1 (R.nd _))
  .simp
 grind [uX,V7.sy]
def ren_phi (N:Ren n p q) (R:V7 n r) {d:H8} (hd:d∈dl n r):Nv (uH n p q r) (pp p d)=pp p (Nv r d):=by
 have a:=(IP R).1 hd;have hs:=R.sy _ _ a;show(p d.2,nx (uH n p q r (p d.2)) (p d.1))=(p d.2,p (nx (r d.2) d.1));rw[KB N (rlt R a).2,HL (fun x b y c e=>N.inj (rlt R b).2 (rlt R c).2 e) hs]
def XS (N:Ren n p q) (R:V7 n r) {d:H8} (hd:d∈dl n r):∀k,it (Nv (uH n p q r)) k (pp p d)=pp p (it (Nv r) k d)
 |0=>rfl
 |k+1=>by
  show Nv (uH n p q r) (it (Nv (uH n p q r)) k (pp p d))=_;rw[XS N R hd k,ren_phi N R ((TG R).uN hd k)];rfl
theorem Oq (N:Ren n p q) (R:V7 n r) {d e:H8} (hd:d∈dl n r) (a:e∈dl n r) (h:pp p d=pp p e):d=e:=by
 have b:=rlt R ((IP R).1 hd);have h2:=rlt R ((IP R).1 a);injection h with k1 k2
 grind [Ren.inj]
theorem ren_cr (N:Ren n p q) (R:V7 n r) {x y:Nat} (b:x<n) (d:y<n):Cr (uH n p q r) (p x) (p y)↔Cr r x y:=by
 constructor
 .have QI:∀z,Cr (uH n p q r) (p x) z->Cr r x (q z):=fun z c=>by
   induction c with
   |refl=>rw[N.qp x b];exact .refl _
   |step _ hs a=>exact a.step (by grind [uX])
  grind [Ren.qp]
 .intro h
  clear d
  induction h with
  |refl=>exact .refl _
  |step _ hs a=>
   have k:=rlt R hs;exact a.step (by grind [uX,Ren.pl,Ren.qp])
theorem pd (N:Ren n p q) (R:V7 n r):Flat n (uH n p q r)↔Flat n r:=by
 have R':=aef N R;have a:(List.range n).Perm ((List.range n).map p):=by
  refine yR VU ?_ fun v=>?_
  .grind [List.Pairwise.imp_of_mem,Ren.inj,List.nodup_range]
  .all_goals grind [Ren.ql,Ren.pq,Ren.pl]
 have b:(dl n (uH n p q r)).Perm ((dl n r).map (pp p)):=by
  refine yR (J8 R') ?_ fun d=>?_
  .rw [si, wI]
   exact K4 (fun{x y} i j c e=>c (Oq N R i j e)) (si.1 (J8 R))
  .rw [IP R', uX N R, Z6]
   constructor
   .rintro ⟨l, h2, h3⟩
    exact⟨(q d.1,q d.2),(IP R).2 h3,by show(p (q d.1),p (q d.2))=d;grind [Ren.pq]⟩
   .rintro ⟨e, f, rfl⟩
    have h:=(IP R).1 f;have k:=rlt R h;refine⟨N.pl _ k.1,N.pl _ k.2,?_⟩;show q (p e.2)∈r (q (p e.1))
    grind [Ren.qp]
 have m:(dl n (uH n p q r)).length=(dl n r).length:=by rw[b.length_eq,jz]
 have o:cls (WD (Nv (uH n p q r))) (dl n (uH n p q r))=cls (WD (Nv r)) (dl n r):=by
  rw[Yy b (TG R').eqv,Zx];refine IZ fun d hd e f=>?_;constructor
  .rintro ⟨k, g⟩
   rw[XS N R hd k]at g;exact⟨k,Oq N R ((TG R).uN hd k) f g⟩
  .rintro ⟨k, rfl⟩
   exact⟨k,XS N R hd k⟩
 have e3:((List.range n).filter fun v=>decide (uH n p q r v=[])).length=((List.range n).filter fun v=>decide (r v=[])).length:=by
  rw[(a.filter _).length_eq,ag4,jz];refine congrArg List.length (j3 fun v s=>?_)
  grind [KB,List.map_eq_nil_iff]
 have e4:iJ n (uH n p q r)=iJ n r:=by
  unfold iJ;rw[Yy a (Cr.eqv R' _),Zx];exact IZ (by grind [ren_cr])
 grind [Flat,mj]
theorem XU.ren (N:Ren n p q) {E E':Nat->II} (h:∀v w,w∈E' v↔v<n/\w<n/\q w∈E (q v)) (b:XU n E):XU n E':=by
 obtain⟨R,a,fl,c⟩:=b;exact⟨uH n p q R,aef N a,(pd N a).2 fl,(by grind [uX])⟩
end
end Go.Fw
namespace Go.Fw
attribute [local instance] Classical.propDecidable
def jJ (R:Nat->II) (H:Nat->Nat->Prop) (v w x y:Nat):Prop:=
 (v=x/\w=y)\/(v=y/\w=x)\/∃a b,(a=v\/a=w)/\(b=x\/b=y)/\off R H a/\off R H b/\Cr (Mm R H) a b
section
variable {n : Nat} {R : Nat → List Nat} {H H' : Nat → Nat → Prop}
def IV (d:V7 n R) {v w a:Nat} (hw:w∈R v) (ha:a=v\/a=w) (c:off R H a):QI R H v w=(0,lo R H a,0):=by
 rcases ha with rfl|rfl
 .exact M6 c
 .rw[RX d hw];exact M6 c
theorem Uu (f:V7 n R) {v w x y:Nat} (hw:w∈R v) (i:y∈R x):QI R H v w=QI R H x y↔jJ R H v w x y:=by
 constructor
 .intro e
  have d:∀{v w:Nat},(∃a,(a=v\/a=w)/\off R H a)\/(¬off R H v/\¬off R H w):=fun{v w}=>by
   by_cases c1:off R H v
   .exact pw
   by_cases c2:off R H w
   .exact pw
   .exact .inr ⟨c1,c2⟩
  rcases d (v:=v) (w:=w)with⟨a,ha,h⟩|⟨c1,c2⟩
  .rw [IV f hw ha h] at e
   rcases d (v:=x) (w:=y)with⟨b,hb,g⟩|⟨j,k⟩
   .rw [IV f i hb g] at e
    have l:lo R H a=lo R H b:=by injection e with _ e;injection e
    exact .inr (.inr ⟨a,b,ha,hb,h,g,(fX f).1 l⟩)
   .rw [rj j k] at e
    have:=congrArg Prod.fst e;simp at this
  .rw [rj c1 c2] at e
   rcases d (v:=x) (w:=y)with⟨b,hb,g⟩|⟨j,k⟩
   .rw [IV f i hb g] at e
    have:=congrArg Prod.fst e;simp at this
   .rw [rj j k] at e
    injection e with _ e;injection e with l m;by_cases q:v=x
    .exact .inl ⟨q,NH⟩
    .exact .inr pw
 .rintro (⟨rfl, rfl⟩ | ⟨rfl, rfl⟩ | ⟨a, b, ha, hb, h, g, c⟩)
  .rfl
  .exact RX f hw
  .rw[IV f hw ha h,IV f i hb g,(fX f).2 c]
theorem abI (c:∀x y,H x y->H' x y) {v:Nat} (h:off R H' v):off R H v:=fun w hw q=>h w hw (c _ _ q)
theorem uf (c:∀x y,H x y->H' x y) {v w:Nat} (h:w∈Mm R H' v):w∈Mm R H v:=by
 obtain⟨d,h2,h3⟩:=EM.1 h;exact EM.2 (by grind [abI])
theorem jJ.mono (d:∀x y,H x y->H' x y) {v w x y:Nat} (h:jJ R H' v w x y):jJ R H v w x y:=by
 rcases h with h|h|⟨a,b,ha,hb,e,f,c⟩
 .exact .inl h
 .exact .inr (.inl h)
 .exact .inr (.inr ⟨a,b,ha,hb,abI d e,abI d f,c.mono fun v w=>uf d⟩)
theorem jJ.symm (d:V7 n R) {v w x y:Nat} (h:jJ R H v w x y):jJ R H x y v w:=by
 rcases h with⟨e,h2⟩|⟨e,h2⟩|⟨a,b,ha,hb,f,g,c⟩
 .exact .inl pw
 .exact .inr pw
 .exact .inr (.inr ⟨b,a,hb,ha,g,f,c.symm (QM d)⟩)
variable {a b : Nat} {inn : List Nat}
abbrev XZ (H:Nat->Nat->Prop) (a:Nat) (inn:II) (b:Nat):Nat->Nat->Prop:=fun x y=>H x y\/Ay a inn b x y
def OH {x y:Nat} (h:H x y):XZ H a inn b x y:=.inl h
theorem Ka.chain (W:Ka R H a inn b):∀(i x y:Nat),inn[0]?=some x->inn[i]?=some y->Cr (Mm R H) x y
 |0,x,y,c,h2=>by rw[c]at h2;injection h2 with h2;subst h2;exact .refl _
 |i+1,x,y,c,h2=>by
  have l:=(Ny.1 h2).1;have d:inn[i]?=some (inn[i]'(by omega)):=BS NH
  have h:=W.chain i x _ c d;have g:∀(j z:Nat),inn[j]?=some z->(nr a inn b)[j+1]?=some z:=fun j z f=>by
   have k:=(Ny.1 f).1;show(a::(inn++[b]))[j+1]?=some z;rw[FD,Eh k];exact f
  have e:=W.UQ (i+1) _ _ (g i _ d) (g (i+1) _ h2);exact h.step (EM.2 ⟨e.1,W.off _ (Gc d),W.off _ (Gc h2)⟩)
def Ka.QC (W:Ka R H a inn b) (d:V7 n R) (hs:∀v w,H v w->H w v) {v:Nat} (f:v∈inn):QI R H a ((inn++[b]).headD 0)=(0,lo R H v,0):=by
 cases hi:inn with
 |nil=>rw[hi]at f;cases f
 |cons c t=>
  have h:c∈inn:=by rw[hi];simp
  have e:((c::t++[b]):II).headD 0=c:=rfl;rw[e];have j:c∈R a:=by have:=(W.fst d hs).1;rw[hi]at this;exact this
  rw[IV d j (.inr rfl) (W.off c h)];obtain⟨i,g⟩:=IE.1 f;rw[(fX d).2 (W.chain i c v (by rw[hi];rfl) g)]
theorem Ka.PW (W:Ka R H a inn b) (c:V7 n R) (hs:∀v w,H v w->H w v) {x y:Nat} (h:Ay a inn b x y):QI R H x y=QI R H a ((inn++[b]).headD 0):=by
 have d:=W.wE c hs h;by_cases f:x∈inn
 .rw[W.QC c hs f];exact IV c d.1 (.inl rfl) (W.off x f)
 by_cases cy:y∈inn
 .rw[W.QC c hs cy];exact IV c d.1 (.inr rfl) (W.off y cy)
 have g:=dC h;have i:=dC (Ef h);have ne:x≠y:=by grind [V7.ir]
 rcases g with rfl|rfl|g
 .rw[W.Fp.1 h]
 .have e := d.1
  rcases i with rfl|rfl|i
  .rw[RX c e];exact(by grind [Ka.Fp,Ef])
  .exact absurd rfl ne
  .exact absurd i cy
 .exact absurd g f
theorem yw (W:Ka R H a inn b) (k:V7 n R) {v:Nat}:off R (XZ H a inn b) v↔off R H v/\v∉inn:=by
 constructor
 .intro h
  refine⟨by grind [abI],fun f=>?_⟩;obtain⟨i,p,g,j⟩:=qm (a:=a) (b:=b) (.inr f);exact h p (by grind [V7.sy,Ka.UQ]) (.inr (.inr ⟨i,g,j⟩))
 .rintro ⟨c, h2⟩ w hw (q | q)
  .exact c w hw q
  .rcases dC q with rfl | rfl | q
   .obtain⟨z,d,e⟩:=W.JX;exact c z d e
   .obtain⟨z,d,e⟩:=W.sN;exact c z d e
   .exact h2 q
theorem jJ.keep (W:Ka R H a inn b) (f:V7 n R) (hs:∀v w,H v w->H w v) {v w x y:Nat} (hw:w∈R v) (m:QI R H v w≠QI R H a ((inn++[b]).headD 0)) (h:jJ R H v w x y):jJ R (XZ H a inn b) v w x y:=by
 rcases h with h|h|⟨c,d,j,hd,k,s,q⟩
 .exact .inl h
 .exact .inr (.inl h)
 have g:∀z,Cr (Mm R H) c z->z∉inn:=fun z i o=>m (by rw[IV f hw j k,W.QC f hs o,(fX f).2 i]);have main:∀z,Cr (Mm R H) c z->off R (XZ H a inn b) z->Cr (Mm R (XZ H a inn b)) c z:=fun z i=>by
  induction i with
  |refl=>exact fun _=>.refl _
  |@step y z t h2 p=>
   intro r;obtain⟨m1,m2,_⟩:=EM.1 h2;have l:off R (XZ H a inn b) y:=by grind [yw]
   exact(p l).step (EM.2 ⟨m1,l,r⟩)
 have e:off R (XZ H a inn b) d:=by grind [yw]
 exact .inr (.inr ⟨c,d,j,hd,(yw W f).2 ⟨k,g _ (.refl _)⟩,e,main d q e⟩)
end
end Go.Fw
namespace Go.Fw
attribute [local instance] Classical.propDecidable
section
variable {n : Nat} {R : Nat → List Nat} {H : Nat → Nat → Prop} {F G : List (List Nat)}
theorem JY (a:V7 n R) (hs:∀v w,H v w->H w v) (D:QG R) (h2:∃p q,p≠q/\¬off R H p/\¬off R H q):
  (∀u x,QP R H u x->∃z y,QP R H z y/\u≠z/\QI R H u x=QI R H z y)/\∀v w,w∈R v->¬H v w->∃u x,QP R H u x/\QI R H v w=QI R H u x:=by
 obtain⟨p,q,s,m,I⟩:=h2;have g:∀{v w},w∈R v->R v≠[]:=pw;have A:∀{v},¬off R H v->R v≠[]:=by grind [Q7]
 have mk:∀{r:Nat->II} {v w:Nat},(∀v w,w∈r v->w∈R v)->Cr r v w->off R H v->¬off R H w->∃u x,QP R H u x/\QI R H u x=(0,lo R H v,0)/\x∈R u/\u∈r x:=fun{r v w} sub i B hw=>by
  rcases tq a sub i B with h|⟨y,z,j,h2,h3,d⟩
  .exact absurd h.2 hw
  .have o := a.sy _ _ (sub _ _ d)
   exact⟨z,y,⟨h3,o,fun k=>h2 z (sub _ _ d) (hs _ _ k)⟩,by rw[Jn h3 h2,(fX a).2 j],o,d⟩
 refine⟨fun u x f=>?_,fun v w hw C=>?_⟩
 .by_cases c : off R H x
  .have:∃t,t≠u/\¬off R H t:=by
    by_cases e:p=u
    .exact pw
    .exact⟨p,e,m⟩
   obtain⟨t,E,b⟩:=this;have l:x≠u:=by grind [QP.on]
   have i:=D.Z7 u x t l E (g (a.sy _ _ f.mem)) (A b);obtain⟨z,y,j,h2,_,d⟩:=mk (by grind [EM]) i c b;exact(by grind [EM,Jn,QP.on])
  .exact⟨x,u,⟨c,a.sy _ _ f.mem,(by grind [QP.nh])⟩,fun e=>a.ir u (e▸f.mem),RX a f.mem⟩
 .by_cases c : off R H v
  .obtain ⟨z, y, j, h2, _⟩ := mk (fun _ _ h => h) (by grind [QG.bp]) c m
   exact(by grind [M6])
  .exact⟨v,w,⟨c,hw,C⟩,rfl⟩
theorem vy.perm (g:vy n R F) (h:F.Perm G):vy n R G:=
 ⟨g.Rl,g.O.perm h,g.bp,by have:=g.num;unfold Num at this ⊢;rw[<-h.length_eq];exact this,(by grind [vy.ne,List.Perm.eq_nil])⟩
theorem Ctx.perm (C:Ctx n R H F) (h:F.Perm G):Ctx n R H G:=⟨C.Rl,C.sym,C.fl,C.O.perm h,C.bp⟩
theorem PU.perm {E:Nat->II} (I:PU n E H F) (h:F.Perm G):PU n E H G:=
 ⟨I.sub,by obtain⟨r,g,a⟩:=I.XK;exact⟨r,g.perm h,a⟩,fun q=>by obtain⟨R,b,h2⟩:=I.full q;exact⟨R,b,h2.perm h⟩⟩
def PU.sym {E:Nat->II} (I:PU n E H F):∀v w,H v w->H w v:=fun v w h=>by
 obtain⟨r,g,a⟩:=I.XK;exact(a _ _).1 (g.Rl.sy _ _ ((a _ _).2 h))
def PU.on_face {E:Nat->II} (I:PU n E H F) {f:II} (hf:f∈F) {u:Nat} (b:u∈f):¬off E H u:=fun q=>by
 obtain⟨r,g,c⟩:=I.XK;have a:=(c _ _).1 (g.O.df g.Rl hf b);exact q _ (I.sub _ _ a) a
def PU.O0 {E:Nat->II} (I:PU n E H F) {f:II} (hf:f∈F):f.Nodup/\∀u∈f,u<n:=by
 obtain⟨r,g,b⟩:=I.XK;exact⟨g.O.nd f hf,fun u a=>g.Rl.lt _ _ (g.O.df g.Rl hf a)⟩
theorem PU.nodup {E:Nat->II} (I:PU n E H F):F.Nodup:=by
 obtain⟨r,g,a⟩:=I.XK;exact g.O.nodup
end
end Go.Fw
namespace Go.Fw
attribute [local instance] Classical.propDecidable
section
variable {n : Nat} {r E : Nat → List Nat}
def V7.ahi (R:V7 n r) {v:Nat} (h:n<=v):r v=[]:=by
 rcases a:r v with _|⟨w,l⟩
 .rfl
 .have:=R.lt v w (by rw[a];simp);omega
def adV (R:V7 n r):Flat (n+1) r↔Flat n r:=by
 have e:=R.ahi (qL0 n);have hd:dl (n+1) r=dl n r:=by unfold dl;rw[Bx,afN];simp[e]
 have hf:mj (n+1) r=mj n r+1:=by
  unfold mj;rw[hd,Bx,N8,j9];simp[e];omega
 have a:iJ (n+1) r=iJ n r+1:=by
  have R':V7 (n+1) r:=⟨R.nd,fun v w h=>agr (R.lt v w h),R.sy,R.ir⟩;unfold iJ;rw[Bx,Yy (afM (l₁:=List.range n) (l₂:=[n])) (Cr.eqv R' _)];rw[agP,cls,if_neg];rintro⟨y,b,h⟩;have:∀y,Cr r n y->y=n:=fun y h=>by
   induction h with
   |refl=>rfl
   |step _ h c=>rw[c,e]at h;cases h
  have:=this y h;simp at b;omega
 unfold Flat;rw[hd,hf,a];omega
theorem XU.more (h:∀v w,w∈E v->v<n):XU (n+1) E↔XU n E:=by
 constructor
 .rintro ⟨R, a, fl, c⟩
  have b:V7 n R:=⟨a.nd,pw,a.sy,a.ir⟩;exact⟨R,b,(adV b).1 fl,c⟩
 .rintro ⟨R, a, fl, c⟩
  exact⟨R,⟨a.nd,(by grind [V7.lt]),a.sy,a.ir⟩,(adV a).2 fl,c⟩
theorem XU.mores (h:∀v w,w∈E v->v<n) (k:Nat):XU (n+k) E↔XU n E:=by
 induction k with
 |zero=>rfl
 |succ k a=>exact(by grind [XU.more])
end
end Go.Fw
namespace Go.Fw
attribute [local instance] Classical.propDecidable
def aar (r s:Nat->II) (v:Nat):II:=r v++s v
structure abC (n:Nat) (r s:Nat->II) (S:Nat->Prop):Prop where
 rr:V7 n r
 rs:V7 n s
 on:∀v w,w∈s v->S v
 ap:∀x y,S x->S y->x≠y->¬Cr r x y
section
variable {n : Nat} {r s : Nat → List Nat} {S : Nat → Prop}
theorem abC.TE (H:abC n r s S) {v w:Nat} (h:w∈s v):w∉r v:=fun k=>
 H.ap v w (H.on _ _ h) (H.on _ _ (H.rs.sy _ _ h)) (fun e=>H.rs.ir v pw) (Cr.one k)
theorem aaT {v w:Nat}:w∈aar r s v↔w∈r v\/w∈s v:=qL7
theorem abC.Rl (H:abC n r s S):V7 n (aar r s):=by
 refine⟨fun v=>?_,fun v w h=>?_,fun v w h=>?_,fun v h=>?_⟩
 .unfold aar
  rw[AE];exact⟨H.rr.nd v,H.rs.nd v,fun a ha b hb e=>H.TE hb (e▸ha)⟩
 .exact(aaT.1 h).elim (H.rr.lt v w) (H.rs.lt v w)
 .exact aaT.2 ((aaT.1 h).imp (H.rr.sy v w) (H.rs.sy v w))
 .exact(aaT.1 h).elim (H.rr.ir v) (H.rs.ir v)
theorem abC.same (H:abC n r s S) {x y:Nat} (a:S x) (b:S y) (c:Cr r x y):x=y:=
 qy fun e=>H.ap x y a b e c
theorem abC.cr (H:abC n r s S) {v w:Nat} (d:S v) (hw:S w) (c:Cr (aar r s) v w):Cr s v w:=by
 have:∀z,Cr (aar r s) v z->∃t,S t/\Cr s v t/\Cr r t z:=fun z c=>by
  induction c with
  |refl=>exact⟨v,d,.refl _,.refl _⟩
  |@step b c _ e f=>
   obtain⟨t,a,h2,h3⟩:=f;rcases aaT.1 e with e|e
   .exact⟨t,a,h2,.step h3 e⟩
   .obtain rfl := H.same a (H.on _ _ e) h3
    exact⟨c,H.on _ _ (H.rs.sy _ _ e),.step h2 e,.refl _⟩
 grind [abC.same]
theorem afW {l:II} (h:l≠[]) (d:Nat):l.headD d∈l:=by
 cases l<;>grind
theorem abC.EI (H:abC n r s S) {d e:H8} (hd:d.2∈s d.1) (A:e.2∈s e.1) (o:WD (Nv (aar r s)) d e):WD (Nv s) d e:=by
 have key:∀k,((it (Nv (aar r s)) k d).2∈s (it (Nv (aar r s)) k d).1/\WD (Nv s) d (it (Nv (aar r s)) k d))\/((it (Nv (aar r s)) k d).2∈r (it (Nv (aar r s)) k d).1/\∃v,s v≠[]/\Cr r v (it (Nv (aar r s)) k d).1/\WD (Nv s) d (v,(s v).headD 0)):=by
  intro k
  induction k with
  |zero=>exact .inl ⟨hd,WD.refl _ _⟩
  |succ k z=>
   show((Nv (aar r s) (it (Nv (aar r s)) k d)).2∈_/\_)\/_;rw[show it (Nv (aar r s)) (k+1) d=Nv (aar r s) (it (Nv (aar r s)) k d)from rfl];generalize it (Nv (aar r s)) k d=x at*;obtain⟨u,v⟩:=x;simp only at z;rcases z with⟨j,h2⟩|⟨j,t,h2,h3,B⟩
   .have f := H.rs.sy _ _ j
    obtain⟨a,b,hs,m⟩:=sC f;have C:u∉r v:=H.TE f;have g:nx (aar r s v) u=(b++(r v++a++[u])).headD 0:=by grind [aar,ZL]
    have p:nx (s v) u=(b++(a++[u])).headD 0:=by grind [ZL]
    have i:nx (s v) u∈s v:=ZP f;have F:WD (Nv s) d (v,nx (s v) u):=h2.trans (WD.one (Nv s) (u,v));by_cases c:b=[]/\r v≠[]
    .obtain ⟨rfl, G⟩ := c
     have e3:nx (aar r s v) u=(r v).headD 0:=by
      rw[g];cases D:r v<;>grind
     have e4:nx (s v) u=(s v).headD 0:=pw;refine .inr ⟨?_,v,?_,.refl _,pw⟩
     .show nx (aar r s v) u ∈ r v
      grind [afW]
     grind
    .have e3:nx (aar r s v) u=nx (s v) u:=by
      rw[g,p];cases b<;>grind
     grind [Nv]
   .have f := H.rr.sy _ _ j
    obtain⟨a,b,hs,m⟩:=sC f;have g:nx (aar r s v) u=(b++s v++(a++[u])).headD 0:=by grind [aar,ZL]
    have p:nx (r v) u=(b++(a++[u])).headD 0:=by grind [ZL]
    have i:nx (r v) u∈r v:=ZP f;have y:Cr r t v:=.step h3 j;by_cases c:b=[]/\s v≠[]
    .obtain ⟨rfl, E⟩ := c
     have e3:nx (aar r s v) u=(s v).headD 0:=by
      rw[g];cases D:s v<;>grind
     have st:∀{v},s v≠[]->S v:=fun{v} q=>by
      obtain⟨w,l,e⟩:=xD q;exact H.on v w (by rw[e];simp)
     grind [abC.same,Nv,afW]
    .have e3:nx (aar r s v) u=nx (r v) u:=by
      rw[g,p];cases b<;>grind
     right;show nx (aar r s v) u∈r v/\_;rw[e3];exact⟨i,t,h2,y,B⟩
 obtain⟨k,rfl⟩:=o;rcases key k with h|h
 .exact h.2
 .exact absurd h.1 (H.TE A)
theorem abC.less (H:abC n r s S) {v w:Nat} (h:w∈s v):del (aar r s) v w=aar r (del s v w):=by
 have b:=H.TE h;have h2:=H.TE (H.rs.sy _ _ h);have a:v≠w:=fun e=>H.rs.ir v pw;funext x;show _=r x++del s v w x;by_cases c1:x=v
 .subst c1;rw[OE,OE];exact qL213 _ b
 by_cases c2:x=w
 .subst c2;rw[u9 _ a,u9 _ a];exact qL213 _ h2
 .rw[ab1 _ c1 c2,ab1 _ c1 c2];rfl
theorem ags:∀(m:Nat) (s:Nat->II),abC n r s S->(dl n s).length=m->Flat n r->Flat n s->Flat n (aar r s):=by
 intro m
 induction m using Nat.strongRecOn with
 |_ m g=>
  intro s H t fr h;cases hh:dl n s with
  |nil=>
   have:aar r s=r:=by
    funext v;unfold aar;rw[qe H.rs hh v,wV]
   grind
  |cons d l=>
   obtain⟨v,w⟩:=d;have hw:w∈s v:=(IP (d:=(v,w)) H.rs).1 (by rw[hh];simp);have a:v≠w:=fun e=>H.rs.ir v pw;have i:=(yH H.rs hw).length_eq;simp only[Uz]at i;obtain⟨j,k⟩:=Lq H.rs hw h;have f:abC n r (del s v w) S:=⟨H.rr,pG H.rs a,fun x y q=>H.on x y ((JF H.rs a).1 q).1,H.ap⟩;have F:=g _ NH _ f rfl fr j;have p:=H.on _ _ hw;have b:=H.on _ _ (H.rs.sy _ _ hw);refine abG H.Rl (aaT.2 (.inr hw)) (by grind [abC.less]) ⟨fun o c=>?_,fun c=>jh H.Rl (aaT.2 (.inr hw)) c⟩;rw[H.less hw]at c;exact k.1 (H.EI hw (H.rs.sy _ _ hw) o) (f.cr p b c)
theorem abC.flat (H:abC n r s S) (fr:Flat n r) (a:Flat n s):Flat n (aar r s):=ags _ s H rfl fr a
end
theorem ab3 {n:Nat} {r:Nat->II} (R:V7 n r) (F:Flat n r) {u v w:Nat} (t:v∈r u) (hw:nx (r u) v=w) (z:v≠w) (l:w∉r v):∃q,V7 n q/\Flat n q/\∀x y,y∈q x↔y∈r x\/(x=v/\y=w)\/(x=w/\y=v):=by
 have g:w∈r u:=by grind [ZP]
 have f:=R.sy _ _ t;have i:=R.sy _ _ g;have A:u≠v:=fun e=>R.ir u pw;have B:u≠w:=fun e=>R.ir u pw;have C:v∉r w:=fun h=>l (R.sy _ _ h);obtain⟨a,b,H,I⟩:=sC f;obtain⟨c,d,D,J⟩:=sC i
 let q:Nat->II:=fun x=>if x=v then a++w::u::b else if x=w then c++u::v::d else r x
 have K:q v=a++w::u::b:=if_pos rfl;have E:q w=c++u::v::d:=pw;have G:∀x,x≠v->x≠w->q x=r x:=fun x m h2=>by grind
 have mem:∀x y,y∈q x↔y∈r x\/(x=v/\y=w)\/(x=w/\y=v):=fun x y=>by grind
 have Q:V7 n q:=by
  refine⟨fun x=>?_,fun x y h=>?_,fun x y h=>?_,fun x h=>?_⟩
  .by_cases m : x = v
   .subst m
    have nd:=R.nd x
    grind
   by_cases h2:x=w
   .subst h2
    have nd:=R.nd x;rw[D]at nd;have:v∉c++u::d:=pw;rw[E];have p:(c++u::v::d).Perm (v::(c++u::d)):=by
     have:(c++u::v::d)=(c++[u])++v::d:=by simp
     rw[this];refine List.perm_middle.trans ?_;simp
    grind
   .rw[G x m h2];exact R.nd x
  .rcases (mem x y).1 h with h | ⟨rfl, rfl⟩ | ⟨rfl, rfl⟩
   .exact R.lt x y h
   .exact R.lt _ _ f
   .exact R.lt _ _ i
  .grind [V7.sy]
  grind [V7.ir]
 have j:w∈q v:=(mem v w).2 (.inr (.inl ⟨rfl,rfl⟩));have dl:del q v w=r:=by
  funext x
  grind [OE,u9,ab1]
 have tri:∀k,it (Nv q) k (w,v)=(w,v)\/it (Nv q) k (w,v)=(v,u)\/it (Nv q) k (w,v)=(u,w):=by
  have s1:Nv q (w,v)=(v,u):=by grind [Nv,ZL]
  have s2:Nv q (v,u)=(u,w):=by grind [Nv]
  have L:Nv q (u,w)=(w,v):=by grind [Nv,ZL]
  intro k
  induction k<;>grind [it]
 refine⟨q,Q,abG Q j pw ⟨fun o=>?_,fun h=>?_⟩,mem⟩
 .obtain ⟨k, M⟩ := (TG Q).xw ((IP (d := (v, w)) Q).2 j) o
  grind
 .rw [dl] at h
  exact absurd ((Cr.one f).trans (Cr.one g)) h
end Go.Fw
namespace Go.Fw
attribute [local instance] Classical.propDecidable
def aae (n:Nat) (A:Nat->Nat->Prop):Prop:=∃R,V7 n R/\Flat n R/\∀v w,w∈R v↔A v w
section
variable {n : Nat} {A B : Nat → Nat → Prop}
theorem aae.lt (h:aae n A) {v w:Nat} (q:A v w):v<n/\w<n:=by
 obtain⟨R,r,-,m⟩:=h;exact⟨r.lt v w ((m v w).2 q),r.lt w v (r.sy v w ((m v w).2 q))⟩
theorem aae.sy (h:aae n A) {v w:Nat} (q:A v w):A w v:=by
 obtain⟨R,r,-,m⟩:=h
 grind [V7.sy]
theorem aae.ir (h:aae n A) (v:Nat):¬A v v:=fun q=>by
 obtain⟨R,r,-,m⟩:=h
 grind [V7.ir]
theorem aae.congr (h:aae n A) (k:∀v w,A v w↔B v w):aae n B:=by
 obtain⟨R,r,f,m⟩:=h;exact⟨R,r,f,fun v w=>by rw[m,k]⟩
theorem aae.less (h:aae n A) (k:∀v w,B v w->A v w) (sy:∀v w,B v w->B w v):aae n B:=by
 obtain⟨R,r,f,m⟩:=h;exact⟨Om B R,OG r sy,f.keep r sy,fun v w=>by grind [EM]⟩
def addE (A:Nat->Nat->Prop) (x b v w:Nat):Prop:=A v w\/(v=x/\w=b)\/(v=b/\w=x)
theorem aae.slide (h:aae n A) {x y b0:Nat} (g:A y x) (hb:A y b0) (ne:b0≠x):∃b,A y b/\b≠x/\aae n (addE A x b):=by
 obtain⟨R,r,f,m⟩:=h;have a:=(m y x).2 g;have nb:nx (R y) x≠x:=fun e=>by
  have:=(Bk (r.nd y) a).1 e
  grind
 have d:nx (R y) x∈R y:=ZP a;refine⟨nx (R y) x,(m _ _).1 d,nb,?_⟩;by_cases c:nx (R y) x∈R x
 .refine aae.congr ⟨R, r, f, m⟩ fun v w => ?_
  grind [V7.sy,addE]
 .obtain ⟨q, Q, F, i⟩ := ab3 r f a rfl (uV nb) c
  exact⟨q,Q,F,fun v w=>by rw[i,m];rfl⟩
def acM (A:Nat->Nat->Prop) (x y v w:Nat):Prop:=v≠y/\w≠y/\v≠w/\(A v w\/(v=x/\A y w)\/(w=x/\A v y))
def afX (sy:∀v w,A v w->A w v) (x y v w:Nat) (h:acM A x y v w):acM A x y w v:=by
 obtain⟨a,h2,h3,b⟩:=h;exact⟨h2,a,uV h3,b.elim (fun q=>.inl (sy _ _ q)) fun q=>q.elim (fun q=>.inr (.inr ⟨q.1,sy _ _ q.2⟩)) fun q=>.inr (.inl ⟨q.1,sy _ _ q.2⟩)⟩
theorem con_ind {x y:Nat}:∀(k:Nat) (L:II) (A:Nat->Nat->Prop),L.length=k->(∀b,A y b->b≠x->b∈L)->A x y->aae n A->aae n (acM A x y):=by
 intro k
 induction k using Nat.strongRecOn with
 |_ k j=>
  intro L A p l a P;have sy:=fun v w=>P.sy (v:=v) (w:=w);have ir:=P.ir;by_cases c:∃b0,A y b0/\b0≠x
  rotate_left
  .refine P.less (fun v w q => ?_) (afX sy x y)
   obtain⟨r,h2,h3,q|⟨rfl,q⟩|⟨rfl,q⟩⟩:=q
   all_goals grind
  obtain⟨b0,f,g⟩:=c;obtain⟨b,hb,ne,i⟩:=P.slide (sy _ _ a) f g;have m:y≠b:=fun e=>ir b (e▸hb:A b b);have d:x≠y:=fun e=>ir y (e▸a:A y y);have o:aae n fun v w=>addE A x b v w/\¬(v=y/\w=b)/\¬(v=b/\w=y):=i.less (fun v w q=>q.1) fun v w q=>⟨i.sy q.1,fun e=>q.2.2 ⟨e.2,e.1⟩,fun e=>q.2.1 ⟨e.2,e.1⟩⟩;have h:=l b hb ne;have s:0<L.length:=IK h;refine(j (L.erase b).length pw (L.erase b) _ rfl (fun z t u=>?_) ⟨.inl a,fun e=>d e.1,fun e=>ne e.1.symm⟩ o).congr fun v w=>?_
  all_goals grind [acM,addE]
theorem aae.bp (P:aae n A) {x y:Nat} (h:A x y):aae n (acM A x y):=
 con_ind _ (List.range n) A rfl (fun b hb _=>iy.2 (P.lt hb).2) h P
end
def ahj {l:II} {v:Nat} (h:v∈l):∃c,Cyc l (c++[v]):=by
 obtain⟨a,b,rfl,-⟩:=sC h;exact⟨b++a,a++[v],b,Ma,Ma⟩
def agt {l:II} {v:Nat} (h:v∈l):∃c,Cyc l (v::c):=by
 obtain⟨a,b,rfl,-⟩:=sC h;exact⟨b++a,a,v::b,rfl,Ma⟩
theorem afY {n:Nat} {r:Nat->II} (R:V7 n r) (F:Flat n r) (u:Nat) {l:II} (h:Cyc (r u) l):∃q,V7 n q/\Flat n q/\q u=l/\∀v w,w∈q v↔w∈r v:=by
 let q:Nat->II:=fun v=>if v=u then l else r v
 have S:pP r q:=fun v=>by grind [Cyc.refl]
 exact⟨q,S.Rl R,(S.flat R).1 F,if_pos rfl,fun v w=>S.mem.symm⟩
theorem aae.two {n:Nat} {A B:Nat->Nat->Prop} {u v m:Nat} (g:aae n A) (r:aae n B) (hA:A u v) (hB:B u v) (t:m<n) (s:∀w,¬A m w) (Z:∀w,¬B m w)
  (aa:∀z,(∃w,A z w)->(∃w,B z w)->z=u\/z=v):aae n fun x y=>A x y\/B x y:=by
 have lv:=g.lt hA;have C:u≠v:=fun e=>g.ir v (e▸hA:A v v);have num:u≠m:=fun e=>s v (e▸hA:A m v);have k:v≠m:=fun e=>s u (e▸g.sy hA:A m u);have i:=fun v w=>g.sy (v:=v) (w:=w);have l:=fun v w=>r.sy (v:=v) (w:=w);have D:=g.ir;have E:=r.ir;have ae:=fun v w=>g.lt (v:=v) (w:=w);have a:=fun v w=>r.lt (v:=v) (w:=w);obtain⟨R,rR,fR,mR⟩:=g;obtain⟨S0,G,fS,mS⟩:=r
 let p:Nat->Nat:=fun z=>if z=v then m else if z=m then v else z
 have pv:p v=m:=if_pos rfl;have pm:p m=v:=pw;have po:∀z,z≠v->z≠m->p z=z:=fun z h1 h2=>by grind
 have pl:∀z,z<n->p z<n:=fun z hz=>by grind
 have pp:∀z,p (p z)=z:=fun z=>by grind
 have N:Ren n p p:=⟨pl,pl,fun z _=>pp z,fun z _=>pp z⟩;have I:=aef N G;have J:=(pd N G).2 fS;have o:∀x y,y∈uH n p p S0 x↔x<n/\y<n/\B (p x) (p y):=fun x y=>by rw[uX N G,mS]
 obtain⟨c,hc⟩:=ahj ((mR u v).2 hA);obtain⟨j,K,L,ag,M⟩:=afY rR fR u hc;have O:m∈uH n p p S0 u:=(o u m).2 ⟨lv.1,t,pw⟩;obtain⟨d,hd⟩:=agt O;obtain⟨b,P,S,aj,T⟩:=afY I J u hd;have mA:∀x y,y∈j x↔A x y:=fun x y=>by rw[M,mR]
 have mB:∀x y,y∈b x↔x<n/\y<n/\B (p x) (p y):=fun x y=>by rw[T,o]
 have al:∀x,(∃y,y∈b x)->(∃y,A x y)->x=u:=fun x ⟨y,hy⟩ aq=>by
  obtain⟨-,-,q⟩:=(mB x y).1 hy;by_cases c1:x=v
  .grind
  by_cases c2:x=m
  .grind
  grind
 have U:∀{x y},Cr j x y->x=y\/((∃w,A x w)/\∃w,A y w):=fun{x y} h=>by
  induction h with
  |refl=>grind
  |step _ e ih=>
   have e:=(mA _ _).1 e;right;rcases ih with rfl|⟨q,-⟩
   .grind
   .exact⟨q,_,i _ _ e⟩
 have H:abC n j b fun x=>∃y,y∈b x:=⟨K,P,fun x y h=>⟨y,h⟩,fun x y hx hy ne h=>by grind⟩;have rQ:=H.Rl;have fQ:=H.flat L S;have eQ:aar j b u=c++v::(m::d):=by grind [aar]
 have V:nx (aar j b u) v=m:=by
  have nd:=rQ.nd u;rw[eQ]at nd ⊢;have hv:v∉c:=fun h=>(AE.1 nd).2.2 v h v Ma rfl;rw[ZL hv];rfl
 have W:v∈aar j b u:=by rw[eQ];simp
 have X:m∉aar j b v:=fun h=>by grind [aaT]
 obtain⟨q,Q,F,Y⟩:=ab3 rQ fQ W V k X;have P1:aae n fun x y=>y∈q x:=⟨q,Q,F,fun _ _=>Iff.rfl⟩;have P2:aae n fun x y=>y∈q x/\¬(x=u/\y=m)/\¬(x=m/\y=u):=P1.less (fun _ _ h=>h.1) fun x y h=>⟨Q.sy _ _ h.1,fun e=>h.2.2 ⟨e.2,e.1⟩,fun e=>h.2.1 ⟨e.2,e.1⟩⟩;have P3:=P2.bp (x:=v) (y:=m) ⟨(Y v m).2 (.inr (.inl ⟨rfl,rfl⟩)),fun e=>C e.1.symm,fun e=>k e.1⟩;have inA:∀{x y},A x y->y∈q x:=fun{x y} h=>(Y x y).2 (.inl (aaT.2 (.inl ((mA x y).2 h))));have inB:∀{x y},x<n->y<n->B (p x) (p y)->y∈q x:=fun{x y} h1 h2 h=>(Y x y).2 (.inl (aaT.2 (.inr ((mB x y).2 ⟨h1,h2,h⟩))));have nA:∀{x y},A x y->x≠m/\y≠m/\x≠y:=fun{x y} h=>⟨fun e=>s y (e▸h),fun e=>s x (e▸i _ _ h),fun e=>D y (e▸h)⟩;have nB:∀{x y},B x y->x≠m/\y≠m/\x≠y:=fun{x y} h=>⟨fun e=>Z y (e▸h),fun e=>Z x (e▸l _ _ h),fun e=>E y (e▸h)⟩;have toA:∀{x y},A x y->acM (fun x y=>y∈q x/\¬(x=u/\y=m)/\¬(x=m/\y=u)) v m x y:=fun{x y} h=>by
  obtain⟨n1,f,n3⟩:=nA h;exact⟨n1,f,n3,.inl ⟨inA h,fun e=>f e.2,fun e=>n1 e.1⟩⟩
 refine P3.less (fun x y h=>?_) fun x y h=>h.imp (i _ _) (l _ _);rcases h with h|h
 .exact toA h
 .obtain ⟨n1, f, n3⟩ := nB h
  by_cases c1:x=v
  .by_cases c2 : y = u
   .grind
   .refine ⟨n1, f, n3, .inr (.inl ⟨c1, inB t (a _ _ h).2 ?_, fun e => f e.2, fun e => c2 e.2⟩)⟩
    grind
  by_cases c2:y=v
  .by_cases c3 : x = u
   .grind
   .refine ⟨n1, f, n3, .inr (.inr ⟨c2, inB (a _ _ h).1 t ?_, fun e => c3 e.1, fun e => n1 e.1⟩)⟩
    grind
  .exact⟨n1,f,n3,.inl ⟨inB (a _ _ h).1 (a _ _ h).2 pw,fun e=>f e.2,fun e=>n1 e.1⟩⟩
end Go.Fw
