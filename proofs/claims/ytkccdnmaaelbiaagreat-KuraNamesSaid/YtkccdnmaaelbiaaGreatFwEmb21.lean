/- A text. -/
import Derived.Test.YtkccdnmaaelbiaaGreatFwEmb4
set_option linter.all false
set_option maxRecDepth 99999
set_option maxHeartbeats 9999999
namespace Go.Fw
attribute [local instance] Classical.propDecidable
section
variable {n : Nat} {R : Nat → List Nat} {H : Nat → Nat → Prop} {F : List (List Nat)} {f g : List Nat} {A B : Nat → List Nat} {le : Nat → Nat → Nat} {hm : Nat × Nat × Nat → List Nat}
theorem Mv.blobs (M:Mv n R H F f g A B le hm):∃m Q o P:Nat->II,XY n R (Ul f g) (fB R H f g) (tlf R H le hm) m Q o P/\(∀u∈Ul f g,AtU R H f g A B le hm u (m u) (Q u) (o u) (P u))/\∀v,v∉Ul f g->∀w∈R v,¬fB R H f g v w->tlf R H le hm v w∈Ul f g:=by
 have Cx:=M.P.C;have j:∀u:Nat,∃q:II×II×II×II,u∈Ul f g->AtU R H f g A B le hm u q.1 q.2.1 q.2.2.1 q.2.2.2:=fun u=>by
  by_cases h:u∈Ul f g
  .obtain ⟨m, Q, o, P, k⟩ := M.atU h
   exact⟨(m,Q,o,P),fun _=>k⟩
  simp_all
 obtain⟨W,i⟩:=aax j;have b:∀v w,w∈R v->¬H v w->¬SK R H f g (QI R H v w)->tlf R H le hm v w∈Ul f g:=fun v w hw D t=>by
  obtain⟨u,x,r,l⟩:=M.P.one v w hw D;obtain⟨E,_,_,_,_⟩:=M.home u x r (l▸t);unfold tlf;rw[if_neg D,l];exact M.L.inU _ _ (M.T.O.bz _ E _ (Lt (M.T.O.ne _ E)))
 refine⟨fun u=>(W u).1,fun u=>(W u).2.1,fun u=>(W u).2.2.1,fun u=>(W u).2.2.2,⟨Cx.Rl,M.T.ndU,M.h2,fun v w h=>?_,fun v w hw=>?_,fun v s=>?_,fun u a=>(i u a).eH,fun u a=>(i u a).xl,fun u a=>(i u a).yl,fun u a=>(i u a).q,fun u a=>(i u a).p,fun u a e=>?_,fun u a e=>?_⟩,i,fun v s w hw t=>?_⟩
 .exact⟨Cx.Rl.sy _ _ h.1,fun q=>h.2.1 (Cx.sym _ _ q),by rw[<-RX Cx.Rl h.1];exact h.2.2⟩
 .unfold tlf
  by_cases c:H v w
  .rw [if_pos c, if_pos (Cx.sym _ _ c)]
   exact M.L.sym v w (EM.2 ⟨hw,c⟩)
  .rw[if_neg c,if_neg fun q=>c (Cx.sym _ _ q),RX Cx.Rl hw]
 .by_cases c : off R H v
  .by_cases d : SK R H f g (0, lo R H v, 0)
   .exact .inl fun w hw=>⟨hw,c w hw,by grind [M6]⟩
   .refine .inr ⟨fun w hw q => d (by have := q.2.2; grind [M6]), fun w hw w' y => ?_⟩
    unfold tlf;rw[if_neg (c w hw),if_neg (c w' y),M6 c,M6 c]
  .have nS : ∀ w ∈ R v, ¬ fB R H f g v w := fun w hw q => s (zq.2 ⟨q.2.2.1 v w ⟨c, hw, q.2.1⟩ rfl, q.2.2.2.1 v w ⟨c, hw, q.2.1⟩ rfl⟩)
   obtain⟨z,k1,k2⟩:=Q7 c;have l:z∈Om H R v:=EM.2 ⟨k1,k2⟩;have all:∀w∈R v,tlf R H le hm v w=le v z:=fun w hw=>by
    by_cases d:H v w
    .unfold tlf; rw [if_pos d]
     exact M.L.same v s w z (EM.2 ⟨hw,d⟩) l
    .have r : QP R H v w := ⟨c, hw, d⟩
     exact M.tl_at r (fun q=>nS w hw ⟨hw,d,q⟩) r rfl s l
   grind
 .have := (i u a).xh
  simp_all
 .have := (i u a).yh
  simp_all
 .by_cases d : H v w
  .unfold tlf; rw [if_pos d]
   exact M.L.inU v w (EM.2 ⟨hw,d⟩)
  .exact b v w hw d fun q=>t ⟨hw,d,q⟩
theorem Pg.move (P:Pg n R H F) (alt:∀u x,QP R H u x->∃J∈F,∃h2∈F,J≠h2/\Fits R H (QI R H u x) J/\Fits R H (QI R H u x) h2)
  (hf:f∈F) (hg:g∈F) (K:f≠g) {b x0:Nat} (D:QP R H b x0) (c0:WQ R H g b x0) (fit:Fits R H (QI R H b x0) f):
  ∃R',V7 n R'/\Flat n R'/\(∀v w,w∈R' v↔w∈R v)/\pP (Om H R') (Om H R)/\WQ R' H f b x0:=by
 have Cx:=P.C;have T:yx n (Om H R) F f g:=⟨OG Cx.Rl Cx.sym,Cx.O,Cx.fl.keep Cx.Rl Cx.sym,hf,hg,K,Cx.bp⟩;have t:Fits R H (QI R H b x0) g:=by
  obtain⟨h,hh,j⟩:=P.EI D;have e:=Cx.YQ hh hg (j b x0 D rfl) c0;subst e;exact fun z y i E=>(j z y i E).ug
 have m:b∈Ul f g:=zq.2 ⟨fit b x0 D rfl,t b x0 D rfl⟩;obtain⟨z,y,i,aJ,E⟩:=P.two b x0 D;have aK:z∈Ul f g:=zq.2 ⟨fit z y i E.symm,t z y i E.symm⟩;have h2:∀u∈Ul f g,nx (Ul f g) u≠u:=fun u hu e=>by grind [Bk,yx.ndU]
 obtain⟨A,B,C⟩:=T.cutU;obtain⟨le,L⟩:=T.labE C h2 m;have key1:∀k:Nat×Nat×Nat,∃h:II,∀u x,QP R H u x->QI R H u x=k->¬SK R H f g k->h∈F/\h≠f/\h≠g/\Fits R H k h/\∀h'∈F,WQ R H h' u x->h'≠f->h'≠g->h'=h:=fun k=>by
  by_cases c:∃u x,QP R H u x/\QI R H u x=k/\¬SK R H f g k
  .obtain ⟨u, x, G, rfl, I⟩ := c
   obtain⟨h,hh,j⟩:=P.EI G;have N:Fits R H (QI R H u x) h:=fun z y i E=>(j z y i E).ug;by_cases d:h≠f/\h≠g
   .exact⟨h,fun u' x' S U _=>⟨hh,d.1,d.2,N,fun h' V W _ _=>Cx.YQ V hh W (j u' x' S U)⟩⟩
   .have aj : h = f \/ h = g := j9 fun q => d ⟨fun e => q (.inl e), fun e => q (.inr e)⟩
    have aL:=j u x G rfl;have nb:¬(Fits R H (QI R H u x) f/\Fits R H (QI R H u x) g):=fun q=>I ⟨q.1,q.2,u,x,G,rfl,aj.elim (fun e=>.inl pw) fun e=>.inr pw⟩;obtain⟨J,m1,aN,m2,aH,f1,f2⟩:=alt u x G;have ex:∃h3∈F,h3≠f/\h3≠g/\Fits R H (QI R H u x) h3:=pw;obtain⟨h3,m3,a1,a2,f3⟩:=ex;refine⟨h3,fun u' x' S U _=>⟨m3,a1,a2,f3,fun h' V W b1 b2=>?_⟩⟩
    grind [Ctx.YQ]
  .exact⟨[],fun u x G E I=>absurd ⟨u,x,G,E,I⟩ c⟩
 obtain⟨hm,al⟩:=aax key1;have M:Mv n R H F f g A B le hm:=⟨P,T,C,L,h2,fun u x G I=>al _ u x G rfl I⟩;obtain⟨o,Q,r,s,Bl,X,Y⟩:=M.blobs;obtain⟨_,aq,rot'⟩:=Bl.Vp Cx.fl Y;have eU:∀{v},v∈Ul f g->Vp R (Ul f g) (fB R H f g) o Q r s v=o v++((s v).reverse++(r v++(Q v).reverse)):=fun h=>if_pos h;have Z:∀v w,w∈Vp R (Ul f g) (fB R H f g) o Q r s v↔w∈R v:=fun v w=>by
  by_cases c:v∈Ul f g
  .rw [eU c, (Bl.eH v c).perm.mem_iff]
   grind
  .unfold Vp
   rw[if_neg c];split
   all_goals grind
 refine⟨_,rot',aq,Z,fun v=>?_,?_,?_⟩
 .by_cases c : v ∈ Ul f g
  .have a := X v c
   have e:Om H (Vp R (Ul f g) (fB R H f g) o Q r s) v=(A v++[pv g v])++(B v++[pv f v]):=by
    show(Vp R (Ul f g) (fB R H f g) o Q r s v).filter _=_;rw[eU c,N8,N8,N8,a.xh,a.yh,mz fun z i=>(a.p z (V3.1 i)).2.1,mz fun z i=>(a.q z (V3.1 i)).2.1];simp
   grind [Wa.c,Cyc.symm]
  .have e : Vp R (Ul f g) (fB R H f g) o Q r s v = if ∃ w ∈ R v, ¬ fB R H f g v w then R v else (R v).reverse := if_neg c
   by_cases d:∃w∈R v,¬fB R H f g v w
   .rw [if_pos d] at e
    show Cyc ((Vp R (Ul f g) (fB R H f g) o Q r s v).filter _) _;rw[e];exact Cyc.refl _
   .rw [if_neg d] at e
    have hn:∀z∈R v,¬H v z:=fun z i q=>d ⟨z,i,fun k=>k.2.1 q⟩;show Cyc ((Vp R (Ul f g) (fB R H f g) o Q r s v).filter _) ((R v).filter _);rw[e,mz fun z i=>hn z (V3.1 i),mz hn];exact Cyc.refl _
 .grind [zq]
 .have a := X b m
  have I:fB R H f g b x0:=⟨D.mem,D.nh,fit,t,b,x0,D,rfl,.inr c0⟩;have ar:x0∈Q b:=by
   have:=(Bl.eH b m).perm.mem_iff.1 D.mem
   grind [AtU.xl,AtU.yl,Ctx.YQ,AtU.pf]
  have nd:=(Bl.eH b m).perm.nodup_iff.1 (Cx.Rl.nd b);have av:=rot'.nd b;rw[eU m]at av;have ay:x0∉o b:=fun q=>(a.xl x0 q).1 I;have az:x0∉r b:=fun q=>(a.yl x0 q).1 I;have aC:x0∉(s b).reverse:=fun q=>K (Cx.YQ hf hg (a.pf x0 (V3.1 q)) c0);obtain⟨q1,q2,eq,_⟩:=sC (V3.2 ar);have hQ:∀z∈q1++x0::q2,¬H b z:=fun z i=>(a.q z (V3.1 (eq▸i))).2.1;have nq:(q1++x0::q2).Nodup:=pw;have aD:x0∉q1:=fun k=>(qy.1 nq).2.2 x0 k x0 VU rfl;have aF:x0∉q2:=(xD.1 (qy.1 nq).2.1).1;have hN:∀l:II,(∀z∈l,¬H b z)->x0∉l->l.filter (fun w=>decide (H b w\/w=x0))=[]:=fun l J h2=>filter_none fun z i h=>(of_decide_eq_true h).elim (J z i) fun e=>h2 (e▸i);have hY:∀l:II,x0∉l->l.filter (fun w=>decide (H b w\/w=x0))=l.filter (fun w=>decide (H b w)):=fun l h=>fj fun w hw=>by
   rw[decide_eq_decide];exact⟨fun k=>k.resolve_right fun e=>h (e▸hw),.inl⟩
  have e:cl (Vp R (Ul f g) (fB R H f g) o Q r s) H b x0=((A b++[pv g b])++B b)++pv f b::x0::[]:=by
   show(Vp R (Ul f g) (fB R H f g) o Q r s b).filter _=_;rw[eU m,eq,N8,N8,N8,N8,hY _ ay,a.xh,hN _ (fun z i=>(a.p z (V3.1 i)).2.1) aC,hY _ az,a.yh,hN q1 (fun z i=>hQ z (by simp[i])) aD,filter_one (decide_eq_true (.inr rfl)),hN q2 (fun z i=>hQ z (by simp[i])) aF];simp
  have ag:(cl (Vp R (Ul f g) (fB R H f g) o Q r s) H b x0).Nodup:=(rot'.nd b).sublist fR;rw[e]at ag ⊢;exact Nu fun k=>(qy.1 ag).2.2 _ k _ Ma rfl
end
end Go.Fw
namespace Go.Fw
attribute [local instance] Classical.propDecidable
section
variable {n : Nat} {R R' : Nat → List Nat} {H : Nat → Nat → Prop} {F : List (List Nat)} {f : List Nat} {a b : Nat} {inn A B : List Nat}
theorem FO.same {r d:Nat->II} (O:FO r F) (e:V7 n r) (h:pP r d):FO d F:=
 ⟨O.nd,O.ne,fun f hf v c=>h.mem.1 (O.bz f hf v c),fun f hf v c=>by
   rw[<-O.step f hf v c];exact((h _).nx (e.nd _) (e.sy _ _ (O.bz f hf v c))).symm,
  fun v w hw=>O.cover v w (h.mem.2 hw),O.uniq,O.nodup⟩
theorem Ctx.same (C:Ctx n R H F) (c:V7 n R') (fl:Flat n R') (h:pP (Om H R') (Om H R)):Ctx n R' H F:=by
 refine⟨c,C.sym,fl,C.O.same (OG C.Rl C.sym) h.symm,fun v w d hw=>?_⟩;have ne:∀{v},Om H R' v≠[]->Om H R v≠[]:=fun{v} q e=>q (by have:=h v;grind [Cyc.nil]);exact(C.bp v w (ne d) (ne hw)).mono fun x y q=>h.mem.2 q
def uR (c:∀v w,w∈R' v↔w∈R v) (v:Nat):off R' H v↔off R H v:=⟨fun h w hw=>h w ((c v w).2 hw),fun h w hw=>h w ((c v w).1 hw)⟩
theorem Py (d:∀v w,w∈R' v↔w∈R v) (v w:Nat):QI R' H v w=QI R H v w:=by
 have c:=uR (H:=H) d;have g:∀v,lo R' H v=lo R H v:=fun v=>by
  unfold lo;congr 1;funext z;refine propext ⟨fun q=>q.mono fun x y k=>?_,fun q=>q.mono fun x y k=>?_⟩
  .obtain ⟨k1, k2, e⟩ := EM.1 k
   exact EM.2 ⟨(d _ _).1 k1,(c _).1 k2,(c _).1 e⟩
  .obtain ⟨k1, k2, e⟩ := EM.1 k
   exact EM.2 ⟨(d _ _).2 k1,(c _).2 k2,(c _).2 e⟩
 grind [QI]
def Fv (c:∀v w,w∈R' v↔w∈R v) {u x:Nat}:QP R' H u x↔QP R H u x:=
 ⟨fun h=>⟨fun q=>h.on ((uR c u).2 q),(c _ _).1 h.mem,h.nh⟩,fun h=>⟨fun q=>h.on ((uR c u).1 q),(c _ _).2 h.mem,h.nh⟩⟩
theorem Ka.same (W:Ka R H a inn b) (c:∀v w,w∈R' v↔w∈R v):Ka R' H a inn b:=
 ⟨W.nd,fun i x y d h2=>⟨(c _ _).2 (W.UQ i x y d h2).1,(W.UQ i x y d h2).2⟩,fun x e w hw=>W.off x e w ((c _ _).1 hw),
  by grind [Ka.JX],by grind [Ka.sN]⟩
theorem Ctx.lay (C:Ctx n R H F) (W:Ka R H a inn b) (hf:f∈F) (p:WQ R H f a ((inn++[b]).headD 0)) (cy:Cyc f ((a::A)++(b::B))):
  Ctx n R (fun x y=>H x y\/Ay a inn b x y) (half a A b inn::half b B a inn.reverse::F.erase f):=by
 have k:=C.Rl;have hs:=C.sym;have L:=W.lay k hs;have d:∀v w,(H v w\/Ay a inn b v w)->H w v\/Ay a inn b w v:=fun v w h=>h.imp (hs v w) Ef;obtain⟨u,g,c1,c2,d1,d2⟩:=C.drawn W;have:=C.YQ g hf c1 p;subst this;have z:Jt R H a inn b b=cl R H b ((inn.reverse++[a]).headD 0):=by
  refine fj fun y _=>?_
  grind [Ka.Kk]
 have r:=L.gY C.O g cy (by rw[W.Ui];exact c1.at_) (by grind [WQ.at_]) d1 d2;have s:V7 n (Jt R H a inn b):=OG k d;have up:∀{v w},Cr (Om H R) v w->Cr (Jt R H a inn b) v w:=fun h=>h.mono fun x y q=>EM.2 ⟨(EM.1 q).1,.inl (EM.1 q).2⟩;have along:∀(i x:Nat),(nr a inn b)[i]?=some x->Cr (Jt R H a inn b) a x:=fun i=>by
  induction i with
  |zero=>
   intro x j;have:=j.symm.trans (yT a b inn).1;injection this with this;subst this;exact .refl _
  |succ i t=>
   intro x j;have D:=(Ny.1 j).1;have o:(nr a inn b)[i]?=some ((nr a inn b)[i]'(by omega)):=XJ NH
   exact(t _ o).step (L.UQ o j)
 have toA:∀v,Jt R H a inn b v≠[]->Cr (Jt R H a inn b) a v:=fun v m=>by
  by_cases c:Om H R v=[]
  .obtain ⟨w, l, e⟩ := iy m
   have hw:w∈Jt R H a inn b v:=by rw[e];simp
   obtain⟨k1,k2⟩:=EM.1 hw;rcases k2 with k2|k2
   .have : w ∈ Om H R v := EM.2 ⟨k1, k2⟩
    grind
   .rcases k2 with ⟨i, E, _⟩ | ⟨i, _, h2⟩
    all_goals grind
  grind [Ctx.bp,Lay.ra]
 exact⟨k,d,C.fl,r,fun v w m hw=>((toA v m).symm s).trans (toA w hw)⟩
theorem Pg.step (P:Pg n R H F) (hf:f∈F) {s:Nat} (e:QP R H a s) (fit:Fits R H (QI R H a s) f)
  (cond:(∀h∈F,Fits R H (QI R H a s) h->h=f)\/∀u x,QP R H u x->∃j∈F,∃h2∈F,j≠h2/\Fits R H (QI R H u x) j/\Fits R H (QI R H u x) h2)
  (W:Ka R H a inn b) (hs:(inn++[b]).headD 0=s) (cy:Cyc f ((a::A)++(b::B))):
  ∃R',(∀v w,w∈R' v↔w∈R v)/\Ctx n R' (fun x y=>H x y\/Ay a inn b x y) (half a A b inn::half b B a inn.reverse::F.erase f):=by
 obtain⟨g,hg,d⟩:=P.EI e;have k:=d a s e rfl;have l:Fits R H (QI R H a s) g:=fun z y o p=>(d z y o p).ug;by_cases c:g=f
 .subst c
  exact⟨R,fun _ _=>Iff.rfl,P.C.lay W hg (hs▸k) cy⟩
 .rcases cond with q | alt
  .grind
  .obtain ⟨R', r, fl, m, t, i⟩ := P.move alt hf hg (ff c) e k fit
   have C':=P.C.same r fl t;exact⟨R',m,C'.lay (W.same m) hf (hs▸i) cy⟩
theorem Pg.fits (P:Pg n R H F) {u x:Nat} (d:QP R H u x):∃g∈F,Fits R H (QI R H u x) g:=by
 obtain⟨g,hg,c⟩:=P.EI d;exact⟨g,hg,fun z y e h=>(c z y e h).ug⟩
end
end Go.Fw
namespace Go.Fw
attribute [local instance] Classical.propDecidable
structure QG (R:Nat->II):Prop where
 bp:∀v w,R v≠[]->R w≠[]->Cr R v w
 Z7:∀c v w,v≠c->w≠c->R v≠[]->R w≠[]->Cr (Om (fun x y=>x≠c/\y≠c) R) v w
section
variable {n : Nat} {R R' : Nat → List Nat} {H : Nat → Nat → Prop} {F : List (List Nat)}
theorem QG.same (D:QG R) (b:∀v w,w∈R' v↔w∈R v):QG R':=by
 have ne:∀{v},R' v≠[]->R v≠[]:=fun{v} h e=>by
  obtain⟨w,l,q⟩:=iy h;have:w∈R v:=(b v w).1 (by rw[q];simp)
  grind
 refine⟨fun v w a hw=>(D.bp v w (ne a) (ne hw)).mono fun x y h=>(b x y).2 h,fun c v w d h2 a hw=>(D.Z7 c v w d h2 (ne a) (ne hw)).mono fun x y h=>?_⟩
 grind [EM]
theorem tq {r:Nat->II} (g:V7 n R) (sub:∀v w,w∈r v->w∈R v) {v w:Nat} (h:Cr r v w) (d:off R H v):(Cr (Mm R H) v w/\off R H w)\/∃y z,Cr (Mm R H) v y/\off R H y/\¬off R H z/\z∈r y:=by
 induction h with
 |refl=>exact .inl ⟨.refl _,d⟩
 |@step b c _ e a=>
  rcases a with⟨f,h2⟩|a
  .by_cases q : off R H c
   .exact .inl ⟨f.step (EM.2 ⟨sub _ _ e,h2,q⟩),q⟩
   grind
  grind
theorem Ctx.pieces (C:Ctx n R H F) (D:QG R) (h2:∃p q,p≠q/\¬off R H p/\¬off R H q):Pg n R H F:=by
 obtain⟨p,q,A,j,J⟩:=h2;have a:=C.Rl;have d:∀{v w},w∈R v->R v≠[]:=fun h e=>by grind
 have m:∀{v},¬off R H v->R v≠[]:=fun h=>by grind [Q7]
 have mk:∀{r:Nat->II} {v w:Nat},(∀v w,w∈r v->w∈R v)->Cr r v w->off R H v->¬off R H w->∃u x,QP R H u x/\QI R H u x=(0,lo R H v,0)/\x∈R u/\u∈r x:=fun{r v w} sub o B hw=>by
  rcases tq a sub o B with h|⟨y,z,E,h2,h3,f⟩
  .grind
  .have s := a.sy _ _ (sub _ _ f)
   exact⟨z,y,⟨h3,s,fun k=>h2 z (sub _ _ f) (C.sym _ _ k)⟩,by grind [Jn,fX],s,f⟩
 refine⟨C,fun u x b=>?_,fun v w hw G=>?_⟩
 .by_cases c : off R H x
  .have : ∃ t, t ≠ u /\ ¬ off R H t := pw
   obtain⟨t,I,g⟩:=this;have i:x≠u:=fun e=>b.on (e▸c);have o:=D.Z7 u x t i I (d (a.sy _ _ b.mem)) (m g)
   grind [EM,Jn,QP.on]
  .exact⟨x,u,⟨c,a.sy _ _ b.mem,fun k=>b.nh (C.sym _ _ k)⟩,fun e=>a.ir u (e▸b.mem),RX a b.mem⟩
 .by_cases c : off R H v
  .obtain ⟨z, y, E, h2, _⟩ := mk (fun _ _ h => h) (D.bp v p (d hw) (m j)) c j
   grind [M6]
  .exact⟨v,w,⟨c,hw,G⟩,rfl⟩
end
def Ei (l:II) (x y:Nat):Prop:=(x∈l/\nx l x=y)\/(y∈l/\nx l y=x)
theorem aag {l:II} (nd:l.Nodup) (h3:3<=l.length) {v:Nat} (d:v∈l):nx l v≠pv l v:=fun e=>by
 have f:nx l (nx l v)=v:=by grind [G5]
 have QI:∀k,it (nx l) k v=v\/it (nx l) k v=nx l v:=fun k=>by
  induction k<;>grind [it]
 have sub:∀w∈l,w∈[v,nx l v]:=fun w hw=>by
  obtain⟨k,rfl⟩:=JT nd d hw
  grind
 clear QI f e d;generalize nx l v=w at sub
 match l,h3 with
 |a::b::c::t,_=>
  have ha:=sub a Ma;have hb:=sub b Ma;have g:=sub c Ma
  grind
section
variable {n : Nat} {R : Nat → List Nat} {l : List Nat}
def ki {x y:Nat} (h:Ei l x y):Ei l y x:=h.symm
theorem Cy (i:V7 n R) (fl:Flat n R) (nd:l.Nodup) (h3:3<=l.length) (j:∀v∈l,nx l v∈R v):Ctx n R (Ei l) [l,l.reverse]:=by
 have hR:V7 n (Om (Ei l) R):=OG i fun _ _ h=>ki h;have m:l.reverse.Nodup:=Gv nd;have b:∀v∈l,∀w,w∈Om (Ei l) R v↔w=pv l v\/w=nx l v:=fun v a w=>by
  rw[EM];constructor
  .rintro ⟨_, h | h⟩
   all_goals grind [c7]
  .rintro (rfl | rfl)
   .have k1 := BJ a
    have k2:=G5 nd a;refine⟨?_,.inr ⟨k1,k2⟩⟩
    grind [V7.sy]
   .exact⟨j v a,.inl ⟨a,rfl⟩⟩
 have c:∀v w,w∈Om (Ei l) R v->v∈l:=fun v w h=>by
  rcases(EM.1 h).2 with h|h
  all_goals grind [ZP]
 have two:∀v∈l,nx (Om (Ei l) R v) (pv l v)=nx l v/\nx (Om (Ei l) R v) (nx l v)=pv l v:=fun v a=>ZZ (hR.nd v) (ff (aag nd h3 a)) (b v a);have p:∀v,nx l.reverse v=pv l v:=fun v=>rfl;have ne:l≠[]:=fun e=>by grind
 have O:FO (Om (Ei l) R) [l,l.reverse]:=by
  refine⟨fun f hf=>?_,fun f hf=>?_,fun f hf v a=>?_,fun f hf v a=>?_,fun v w hw=>?_,fun f hf g hg v r h2 e=>?_,?_⟩
  .grind
  .simp at hf; rcases hf with rfl | rfl
   .exact ne
   .simpa using ne
  .grind
  .grind [ZP,c7]
  .grind
  .grind [aag]
  .simp only [xD, jf, K4, not_false_eq_true, aaX, and_true]
   intro e;obtain⟨v,t,q⟩:=iy ne;have a:v∈l:=by rw[q];simp
   grind [aag]
 refine⟨i,fun _ _ h=>ki h,fl,O,fun v w a hw=>?_⟩;have inl:∀{v},Om (Ei l) R v≠[]->v∈l:=fun{v} h=>by
  obtain⟨w,t,q⟩:=iy h;exact c v w (by rw[q];simp)
 obtain⟨k,rfl⟩:=JT nd (inl a) (inl hw);have d:=inl a;clear hw a;have:∀k,Cr (Om (Ei l) R) v (it (nx l) k v):=fun k=>by
  induction k with
  |zero=>exact .refl _
  |succ k o=>exact o.step ((b _ (O.it Ma d k).1 _).2 (.inr rfl))
 exact this k
end
end Go.Fw
namespace Go.Fw
attribute [local instance] Classical.propDecidable
noncomputable def kV (n:Nat) (r:Nat->II):II:=(List.range n).filter fun v=>decide (r v≠[])
def Num (n:Nat) (r:Nat->II) (F:Cs):Prop:=2*((kV n r).length+F.length)=(dl n r).length+4
theorem nu {L:II} {c:Nat}:∀X:II,(X.map fun v=>if v∈L then c else 0).sum=c*(X.filter fun v=>decide (v∈L)).length
 |[]=>rfl
 |x::X=>by
  rw[vY,PN,nu X]
  grind
def NT {f g h k:Nat->Nat}:∀X:II,(∀x∈X,f x=g x+h x+k x)->(X.map f).sum=(X.map g).sum+(X.map h).sum+(X.map k).sum
 |[],_=>rfl
 |x::X,c=>by
  simp only[vY,PN];rw[NT X fun y d=>c y (kc _ d),c x VU];omega
theorem Xp {n:Nat} {L:II} (nd:L.Nodup) (h:∀x∈L,x<n):((List.range n).filter fun v=>decide (v∈L)).length=L.length:=by
 refine(yR (Hs.sublist fR) nd fun v=>?_).length_eq
 grind
theorem Vq (n:Nat) (r:Nat->II):(dl n r).length=((List.range n).map fun v=>(r v).length).sum:=by grind [dl,List.map_congr_left]
section
variable {n : Nat} {r r' : Nat → List Nat} {F F' : List (List Nat)} {a b : Nat} {inn : List Nat}
def Lay.lts (L:Lay n r r' a b inn):a<n/\b<n/\∀x∈inn,x<n:=by
 refine⟨L.R'.lt _ _ L.sa,L.R'.lt _ _ L.sb,fun x c=>?_⟩;obtain⟨i,p,d,h2⟩:=qm (a:=a) (b:=b) (.inr c);exact L.R'.lt _ _ (L.R'.sy _ _ (L.UQ d h2))
theorem Lay.deg (L:Lay n r r' a b inn) (v:Nat):(r' v).length=(r v).length+(if v∈[a,b]then 1 else 0)+(if v∈inn then 2 else 0):=by
 have one:∀{l:II} {s:Nat},s∈l->l.length=(l.erase s).length+1:=fun{l s} h=>by grind
 by_cases c1:v=a
 .subst c1
  rw[one L.sa,L.ea,if_pos Ma,if_neg L.ain]
 by_cases c2:v=b
 .subst c2
  rw[one L.sb,L.eb,if_pos Ma,if_neg L.bin]
 rw[if_neg (by simp[c1,c2])];by_cases c:v∈inn
 .rw [if_pos c, L.off v c]
  obtain⟨i,p,f,g⟩:=qm (a:=a) (b:=b) (.inr c);have j:=(Ny.1 g).1;have hi:i+2<(nr a inn b).length:=by grind [Eo,Fg]
  obtain⟨_,_,k⟩:=L.mid i p v _ f g (XJ hi);have d:p≠(nr a inn b)[i+2]:=fun e=>by
   have:=X6 L.ndP f (by rw[e];exact XJ hi);omega
  have:=(yR (L.R'.nd v) (by simp[d]:[p,(nr a inn b)[i+2]].Nodup) fun y=>by rw[k];simp).length_eq
  grind
 grind [Lay.Wn]
theorem Lay.num (L:Lay n r r' a b inn) (d:F'.length=F.length+1) (N:Num n r F):Num n r' F':=by
 obtain⟨f,g,li⟩:=L.lts;have h:(dl n r').length=(dl n r).length+2*(inn.length+1):=by
  rw[Vq,Vq,NT _ fun v _=>L.deg v,nu,nu,Xp (by simp[L.ab]) pw,Xp L.nd li];simp;omega
 have i:(kV n r').length=(kV n r).length+inn.length:=by
  have pm:(kV n r').Perm (kV n r++inn):=by
   refine yR (Hs.sublist fR) ?_ fun v=>?_
   .rw [qy]
    refine⟨Hs.sublist fR,L.nd,fun x c y j e=>?_⟩;subst e;have:=(eR.1 c).2
    grind [Lay.off]
   .unfold kV
    rw[WA,eR,eR,ZT,decide_eq_true_eq,decide_eq_true_eq];have hd:=L.deg v
    grind [Lay.ra,Lay.rb,Lay.Wn]
  rw[pm.length_eq,Eh]
 grind [Num]
theorem Num.flat (N:Num n r F) (R:V7 n r) (O:FO r F) (bp:∀v w,r v≠[]->r w≠[]->Cr r v w) (ne:∃v,v<n/\r v≠[]):Flat n r:=by
 obtain⟨d,i,j⟩:=ne;have g:((List.range n).filter fun v=>decide (r v=[])).length+(kV n r).length=n:=by
  have QI:∀X:II,(X.filter fun v=>decide (r v=[])).length+(X.filter fun v=>decide (r v≠[])).length=X.length:=fun X=>by
   induction X<;>grind
  have:=QI (List.range n);rw[iB]at this;exact this
 have m:iJ n r=((List.range n).filter fun v=>decide (r v=[])).length+1:=by
  unfold iJ;have iso:∀{v w},r v=[]->Cr r v w->v=w:=fun{v w} h c=>by
   induction c<;>grind
  have k1:∀y∈((List.range n).filter fun v=>decide (r v=[]))++[d],y∈List.range n:=fun y k=>by grind
  have k2:(((List.range n).filter fun v=>decide (r v=[]))++[d]).Pairwise fun a b=>¬Cr r a b:=by
   rw[iU];refine⟨?_,Ma,fun x e y k c=>?_⟩
   .refine Uz (R := fun x y => x ≠ y) (fun {x y} e _ f c => f ?_) (IE.1 (Hs.sublist fR))
    grind
   grind
  have l:∀x∈List.range n,∃y∈((List.range n).filter fun v=>decide (r v=[]))++[d],Cr r x y:=fun x e=>by
   by_cases h:r x=[]
   .exact⟨x,wI _ (eR.2 ⟨e,decide_eq_true h⟩),.refl _⟩
   grind
  rw[qo (Cr.eqv R _) Hs k1 k2 l];simp
 grind [Flat,mj,FO.cls,Num]
end
end Go.Fw
