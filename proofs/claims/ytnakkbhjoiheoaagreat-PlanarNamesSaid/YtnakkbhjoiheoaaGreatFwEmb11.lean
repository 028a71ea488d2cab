/- A text. -/
import Derived.Test.YtnakkbhjoiheoaaGreatFwFac2
set_option linter.all false
set_option maxRecDepth 99999
set_option maxHeartbeats 9999999
open Option renaming some→Z
open List
namespace Go.Fw
section
attribute [local instance] Classical.propDecidable
theorem nx_filter{l:II}(nd:l.Nodup){p:Nat->Prop}[DecidablePred p]{u:Nat}(j:u∈l)(q:p u)(k:nx (l.filter fun v=>decide (p v)) u≠u):
  ∃c1 c2,Cyc l (u::(c1++nx (l.filter fun v=>decide (p v)) u::c2))/\∀v∈c1,¬p v:=by
 have⟨c,b⟩:=Cyc.front j;have a:=b.filter fun v=>decide (p v);have d:(u::c).filter (fun v=>decide (p v))=u::c.filter fun v=>decide (p v):=hGr;rw[d]at a;have m:u∈l.filter fun v=>decide (p v):=hGr;have e:=a.nx (nd.sublist Tn) m;rw[ET]at e;have hex:∃c1 w c2,c=c1++w::c2/\(∀v∈c1,¬p v)/\p w:=by
  have i:c.filter (fun v=>decide (p v))≠[]:=fun h=>by grind
  clear b a d e
  induction c with
  |nil=>grind
  |cons z c s=>
   by_cases o:p z
   .exact⟨[],z,c,rfl,Ma,o⟩
   grind
 grind
structure aaL (n:Nat) (r:Nat->II) (F:Cs) (f g:II):Prop where
 R:V7 n r
 O:FO r F
 fl:Flat n r
 hf:f∈F
 hg:g∈F
 ne:f≠g
 bp:∀v w,r v≠[]->r w≠[]->Cr r v w
def Ul(f g:II):II:=f.filter fun v=>decide (v∈g)
theorem zq{f g:II}{v:Nat}:v∈Ul f g↔v∈f/\v∈g:=by simp[Ul]
section
variable{n:Nat}{r:Nat->II}{F:Cs}{f g:II}
theorem aaL.ndU(T:aaL n r F f g):(Ul f g).Nodup:=(T.O.nd f T.hf).sublist Tn
structure Wa (r:Nat->II) (f g:II) (A B:Nat->II):Prop where
 c:∀u∈Ul f g,Cyc (r u) ((A u++[pv g u])++(B u++[pv f u]))
 hA:∀u∈Ul f g,(A u++[pv g u]).headD 0=nx f u
 hB:∀u∈Ul f g,(B u++[pv f u]).headD 0=nx g u
theorem aaL.cutU(T:aaL n r F f g):∃A B,Wa r f g A B:=by
 have QI:∀u:Nat,∃p:II×II,u∈Ul f g->Cyc (r u) ((p.1++[pv g u])++(p.2++[pv f u]))/\(p.1++[pv g u]).headD 0=nx f u/\(p.2++[pv f u]).headD 0=nx g u:=fun u=>by
  by_cases h:u∈Ul f g
  .obtain⟨A,B,a,h2,h3⟩:=cut_ex T.R T.O T.hf T.hg T.ne (zq.1 h).1 (zq.1 h).2;exact⟨(A,B),hGr⟩
  simp_all
 have⟨P,hP⟩:=Q9 QI;exact⟨fun u=>(P u).1,fun u=>(P u).2,hGr,hGr,hGr⟩
variable{A B:Nat->II}
theorem aaL.sideU(T:aaL n r F f g)(C:Wa r f g A B)(h2:∀u∈Ul f g,nx (Ul f g) u≠u):∃X:Nat->Nat->Prop,∀u∈Ul f g,WM r f g u (nx (Ul f g) u) (A u) (B u) (B (nx (Ul f g) u)) (A (nx (Ul f g) u)) (X u):=by
 have QI:∀u:Nat,∃X:Nat->Prop,u∈Ul f g->WM r f g u (nx (Ul f g) u) (A u) (B u) (B (nx (Ul f g) u)) (A (nx (Ul f g) u)) X:=fun u=>by
  by_cases h:u∈Ul f g
  .have hw:=ZP h;have⟨X,a⟩:=sides T.R T.O T.fl T.hf T.hg T.ne hGr (zq.1 h).1 (zq.1 h).2 (zq.1 hw).1 (zq.1 hw).2 (C.c u h) (C.hA u h) (C.hB u h) (C.c _ hw).shift (C.hB _ hw) (C.hA _ hw);grind
  simp_all
 have⟨X,a⟩:=Q9 QI;exact⟨X,a⟩
theorem aaL.otherU(T:aaL n r F f g){X:Nat->Prop}{u:Nat}(x:u∈Ul f g)(l:nx (Ul f g) u≠u)(S:WM r f g u (nx (Ul f g) u) (A u) (B u) (B (nx (Ul f g) u)) (A (nx (Ul f g) u)) X){v:Nat}(D:v∈Ul f g)(L:v≠u)(h2:v≠nx (Ul f g) u):¬X v:=by
 have⟨c1,c2,k,M⟩:=nx_filter (T.O.nd f T.hf) (p:=fun v=>v∈g) (zq.1 x).1 (zq.1 x).2 l;have k:Cyc f (u::(c1++nx (Ul f g) u::c2)):=k;generalize nx (Ul f g) u=w at*;have E:=k.perm.nodup_iff.1 (T.O.nd f T.hf);rw[eR,ZT,eR,vZ,HV]at E;have G:v∈c2:=by have:=k.perm.mem_iff.1 (zq.1 D).1;grind[zq]
 have a:∀z∈c2,z≠u/\z≠w:=hGr;have d:Cyc f ((w::c2)++(u::c1)):=by grind[Cyc.shift]
 have H:∀z,z=w\/z∈c2->z∈f:=fun z b=>d.perm.mem_iff.2 hGr;have all:∀(i z:Nat),c2[i]?=Z z->¬X z:=fun i=>by
  induction i with
  |zero=>
   intro z b;have c:=BS b;have⟨m,C⟩:=a z c;have j:nx f w=z:=by
    rw[d.nx (T.O.nd f T.hf) hGr];cases c2 with
    |nil=>cases c
    |cons y c2=>injection b with b;subst b;exact Nu (p:=[]) Ma
   refine S.yb z ?_ m;grind[WM.sZ,BX]
  |succ i I=>
   intro z b;have c:=BS b;have⟨m,C⟩:=a z c;have N:=(Ny.1 b).1;have h:c2[i]?=Z (c2[i]'(by omega)):=Gc NH
   have J:=I _ h;have o:=BS h;generalize c2[i]'(by omega)=y at*
   have⟨y1,K⟩:=a y o;have j:nx f y=z:=by rw[d.nx (T.O.nd f T.hf) hGr];have⟨s,t,e⟩:=ZN h b;grind[Nu]
   have hd:=T.O.bz f T.hf y hGr;rw[j]at hd;exact fun q=>J ((S.Jp y z hd y1 K m C).2 q)
 grind[List.mem_iff_getElem?]
theorem aaL.lab(T:aaL n r F f g)(C:Wa r f g A B)(h2:∀u∈Ul f g,nx (Ul f g) u≠u){X:Nat->Nat->Prop}(S:∀u∈Ul f g,WM r f g u (nx (Ul f g) u) (A u) (B u) (B (nx (Ul f g) u)) (A (nx (Ul f g) u)) (X u)){j:Nat}(s:j∈Ul f g){v:Nat}(l:Cr r j v):v∉Ul f g->∃u∈Ul f g,X u v/\∀w∈Ul f g,X w v->w=u:=by
 have ndU:=T.ndU;have Wn:=fun{u}(h:u∈Ul f g){v}=>T.otherU (v:=v) h (h2 u h) (S u h)
 induction l with
 |refl=>grind
 |@step b v _ e t=>
  intro m;have a:∀w∈Ul f g,v≠w/\v≠nx (Ul f g) w:=fun w hw=>⟨hGr,(by grind[ZP])⟩;by_cases hb:b∈Ul f g
  .have o:=(C.c b hb).perm.mem_iff.1 e;rcases vZ.1 o with hA|hB
   .refine⟨b,hb,(by grind[WM.xa]),fun w hw i=>?_⟩;by_cases c1:b=w
    .exact c1.symm
    exfalso;by_cases c2:nx (Ul f g) w=b
    .grind[WM.yb]
    .exact Wn hw hb c1 (wI c2) (((S w hw).Jp b v e c1 (wI c2) (a w hw).1 (a w hw).2).2 i)
   .have p:=BJ hb;have q:=aa3 ndU hb;refine⟨pv (Ul f g) b,p,?_,fun w hw i=>?_⟩
    .grind[WM.xb]
    by_cases c1:b=w
    .grind[WM.ya]
    by_cases c2:nx (Ul f g) w=b
    .grind[C9]
    .exact absurd (((S w hw).Jp b v e c1 (wI c2) (a w hw).1 (a w hw).2).2 i) hGr
  .have d:∀w∈Ul f g,b≠w/\b≠nx (Ul f g) w:=fun w hw=>⟨hGr,(by grind[ZP])⟩;have k:∀w∈Ul f g,X w b↔X w v:=fun w hw=>(S w hw).Jp b v e (d w hw).1 (d w hw).2 (a w hw).1 (a w hw).2;grind
end
structure Lab (r:Nat->II) (f g:II) (A B:Nat->II) (le:Nat->Nat->Nat):Prop where
 sym:∀v w,w∈r v->le v w=le w v
 inU:∀v w,w∈r v->le v w∈Ul f g
 same:∀v,v∉Ul f g->∀w w',w∈r v->w'∈r v->le v w=le v w'
 out:∀u∈Ul f g,∀w∈A u++[pv g u],le u w=u
 inn:∀u∈Ul f g,∀w∈B u++[pv f u],le u w=pv (Ul f g) u
section
variable{n:Nat}{r:Nat->II}{F:Cs}{f g:II}{A B:Nat->II}
theorem Wa.TE(T:aaL n r F f g)(C:Wa r f g A B){u w:Nat}(a:u∈Ul f g)(b:w∈A u++[pv g u])(h2:w∈B u++[pv f u]):False:=by have:=(C.c u a).perm.nodup_iff.1 (T.R.nd u);grind
theorem aaL.labE(T:aaL n r F f g)(C:Wa r f g A B)(h2:∀u∈Ul f g,nx (Ul f g) u≠u){q:Nat}(E:q∈Ul f g):∃le,Lab r f g A B le:=by
 have⟨X,S⟩:=T.sideU C h2;have ndU:=T.ndU;have Wn:=fun{u}(d:u∈Ul f g){v}=>T.otherU (v:=v) d (h2 u d) (S u d);have t:r q≠[]:=fun e=>by have:=(C.c q E).perm.length_eq;grind
 have QI:∀v:Nat,∃u,v∉Ul f g->r v≠[]->u∈Ul f g/\X u v/\∀w∈Ul f g,X w v->w=u:=fun v=>by
  by_cases h:v∉Ul f g/\r v≠[]
  .obtain⟨u,h3,K,L⟩:=T.lab C h2 S E (T.bp q v t h.2) h.1;grind
  grind
 have⟨lab,m⟩:=Q9 QI;have a:∀{v w},w∈r v->r v≠[]:=hGr;have o:∀u∈Ul f g,∀w∈A u++[pv g u],w∉Ul f g->lab w=u:=fun u d w hw b=>by have l:w∈r u:=(C.c u d).perm.mem_iff.2 (bC _ hw);have⟨_,_,k⟩:=m w b (a (T.R.sy _ _ l));grind[WM.xa,ZP]
 have s:∀u∈Ul f g,∀w∈B u++[pv f u],w∉Ul f g->lab w=pv (Ul f g) u:=fun u d w hw b=>by have l:w∈r u:=(C.c u d).perm.mem_iff.2 (aho _ hw);have⟨_,_,k⟩:=m w b (a (T.R.sy _ _ l));have x:=BJ d;grind[WM.xb,aa3]
 have p:∀v w,w∈r v->v∉Ul f g->w∉Ul f g->lab v=lab w:=fun v w hw i b=>by have⟨k1,k2,_⟩:=m v i (a hw);have⟨_,_,H⟩:=m w b (a (T.R.sy _ _ hw));have j:∀z∉Ul f g,z≠lab v/\z≠nx (Ul f g) (lab v):=fun z M=>⟨hGr,(by grind[ZP])⟩;exact H _ k1 (((S _ k1).Jp v w hw (j v i).1 (j v i).2 (j w b).1 (j w b).2).1 k2)
 have y:∀v∈Ul f g,∀w∈Ul f g,w∈A v++[pv g v]->v∈B w++[pv f w]/\pv (Ul f g) w=v:=fun v i w hw hA=>by
  have l:w∈r v:=(C.c v i).perm.mem_iff.2 (bC _ hA);have D:w≠v:=fun e=>T.R.ir v (e▸l);have e:w=nx (Ul f g) v:=by grind[WM.xa]
  grind[WM.UQ,c7]
 have G:∀v∈Ul f g,∀w∈Ul f g,w∈B v++[pv f v]->v∈A w++[pv g w]/\pv (Ul f g) v=w:=fun v i w hw hB=>by
  have l:w∈r v:=(C.c v i).perm.mem_iff.2 (aho _ hB);have D:w≠v:=fun e=>T.R.ir v (e▸l);have x:=BJ i;have I:=(S _ x).xb;have J:=(S _ x).UQ;rw[aa3 ndU i]at I J;have e:w=pv (Ul f g) v:=by grind[aa3]
  grind
 refine⟨fun v w=>if v∉Ul f g then lab v else if w∉Ul f g then lab w else if w∈A v++[pv g v]then v else pv (Ul f g) v,fun v w hw=>?_,fun v w hw=>?_,fun v i w w' _ _=>?_,fun u d w hw=>?_,fun u d w hw=>?_⟩
 .by_cases c1:v∈Ul f g
  .by_cases c2:w∈Ul f g
   .by_cases hA:w∈A v++[pv g v]
    .grind[Wa.TE]
    .have hB:=(vZ.1 ((C.c v c1).perm.mem_iff.1 hw)).resolve_left hA;grind
   grind
  .all_goals grind
 .by_cases c1:v∈Ul f g
  .rw[WA hGr];by_cases c2:w∈Ul f g
   .all_goals grind[BJ]
   .rw[Sb c2];exact(m w c2 (a (T.R.sy _ _ hw))).1
  grind
 .grind
 .all_goals grind
 .all_goals grind[Wa.TE]
theorem Lab.EI(T:aaL n r F f g)(C:Wa r f g A B){le:Nat->Nat->Nat}(L:Lab r f g A B le){h:II}(hh:h∈F)(hf:h≠f)(hg:h≠g){z:Nat}(a:z∈h):le z (nx h z)=le (nx h z) (nx h (nx h z)):=by
 have hd:=T.O.bz h hh z a;have hs:=T.O.step h hh z a;have hw:=ZP a;have i:=T.O.bz h hh _ hw;rw[L.sym _ _ hd];have b:=T.R.sy _ _ hd;generalize j:nx h z=w at*;by_cases c:w∈Ul f g
 .obtain⟨c1,c2⟩:=zq.1 c;have⟨k,p,_⟩:=T.O.pv T.hf c1;have⟨l,q,_⟩:=T.O.pv T.hg c2;have s:z≠pv f w:=fun e=>hf (T.O.uniq h hh f T.hf z a (e▸k) hGr);have ng:z≠pv g w:=fun e=>hg (T.O.uniq h hh g T.hg z a (e▸l) hGr);have d:=C.c w c;have nd:=T.R.nd w;have t:=d.perm.nodup_iff.1 nd;have n3:((B w++[pv f w])++(A w++[pv g w])).Nodup:=by grind[List.Perm.nodup_iff]
  rcases vZ.1 (d.perm.mem_iff.1 b)with hA|hB
  .have m:nx (r w) z=nx (A w++[pv g w]) z:=by grind[Cyc.nx,oW]
   grind[ZP,Lab.out]
  .have m:nx (r w) z=nx (B w++[pv f w]) z:=by grind[Cyc.shift,Cyc.nx,oW]
   have o:nx h w∈B w++[pv f w]:=by grind[ZP]
   rw[L.inn w c z hB,L.inn w c _ o]
 grind[Lab.same]
def Lab.Jv(T:aaL n r F f g)(C:Wa r f g A B){le:Nat->Nat->Nat}(L:Lab r f g A B le){h:II}(hh:h∈F)(hf:h≠f)(hg:h≠g){z y:Nat}(a:z∈h)(c:y∈h):le z (nx h z)=le y (nx h y):=by
 obtain⟨k,rfl⟩:=JT (T.O.nd h hh) a c
 induction k with
 |zero=>rfl
 |succ k d=>have b:=(T.O.it hh a k).1;rw[d b];exact L.EI T C hh hf hg b
end
structure XY (n:Nat) (R:Nat->II) (U:II) (SE:Nat->Nat->Prop) (tl:Nat->Nat->Nat) (XL Q YL P:Nat->II):Prop where
 Rl:V7 n R
 nd:U.Nodup
 two:∀u∈U,nx U u≠u
 ssym:∀v w,SE v w->SE w v
 tsym:∀v w,w∈R v->tl v w=tl w v
 all:∀v,v∉U->(∀w∈R v,SE v w)\/((∀w∈R v,¬SE v w)/\∀w∈R v,∀w'∈R v,tl v w=tl v w')
 cyc:∀u∈U,Cyc (R u) (XL u++(Q u++(YL u++P u)))
 xl:∀u∈U,∀w∈XL u,¬SE u w/\tl u w=u
 yl:∀u∈U,∀w∈YL u,¬SE u w/\tl u w=pv U u
 q:∀u∈U,∀w∈Q u,SE u w
 p:∀u∈U,∀w∈P u,SE u w
 xne:∀u∈U,XL u≠[]
 yne:∀u∈U,YL u≠[]
noncomputable def tP(c:Prop)(l:II):II:=if c then l.reverse else l
theorem mem_revI{c:Prop}{l:II}{x:Nat}:x∈tP c l↔x∈l:=by grind[tP]
theorem ri(c:Prop)(l:II):(tP c l).Perm l:=by grind[tP]
theorem Me{c:Prop}{l:II}(h:l≠[]):tP c l≠[]:=fun e=>by have:=(ri c l).length_eq;grind
noncomputable def RJ(R:Nat->II)(U:II)(SE:Nat->Nat->Prop)(tl:Nat->Nat->Nat)(XL Q YL P:Nat->II)(J:Nat->Prop)(v:Nat):II:=
 if v∈U then tP (J v) (XL v)++(Q v++(tP (J (pv U v)) (YL v)++P v))
 else tP ((∃w∈R v,¬SE v w)/\J (tl v ((R v).headD 0))) (R v)
section
variable{n:Nat}{R:Nat->II}{U:II}{SE:Nat->Nat->Prop}{tl:Nat->Nat->Nat}{XL Q YL P:Nat->II}{J:Nat->Prop}
theorem XY.perm(B:XY n R U SE tl XL Q YL P)(J:Nat->Prop)(v:Nat):(RJ R U SE tl XL Q YL P J v).Perm (R v):=by
 unfold RJ;split
 .rename_i h;refine List.Perm.trans ?_ (B.cyc v h).perm.symm;grind[ri]
 grind[ri]
theorem XY.rotJ(B:XY n R U SE tl XL Q YL P)(J:Nat->Prop):V7 n (RJ R U SE tl XL Q YL P J):=by
 have a:∀{v w},w∈RJ R U SE tl XL Q YL P J v↔w∈R v:=by grind[XY.perm]
 exact⟨fun v=>(B.perm J v).nodup_iff.2 (B.Rl.nd v),fun v w h=>B.Rl.lt v w (a.1 h),fun v w h=>a.2 (B.Rl.sy v w (a.1 h)),fun v h=>B.Rl.ir v (a.1 h)⟩
def CN{l:II}(h:l≠[]):∃A x,l=A++[x]:=⟨l.dropLast,l.getLast h,(Ex h).symm⟩
theorem XY.step(B:XY n R U SE tl XL Q YL P){u:Nat}(d:u∈U)(G:¬J u):Flat n (RJ R U SE tl XL Q YL P (fun v=>J v\/v=u))↔Flat n (RJ R U SE tl XL Q YL P J):=by
 have hw:=ZP d;have f:=B.two u d;have k:pv U (nx U u)=u:=c7 B.nd d;have m:pv U u≠u:=by grind[aa3,XY.nd]
 have o:∀v∈U,v≠nx U u->pv U v≠u:=by grind[aa3,XY.nd]
 generalize nx U u=w at*;have H:∀{v z},z∈RJ R U SE tl XL Q YL P J v↔z∈R v:=by grind[XY.perm]
 have hR:∀v∈U,∀z,z∈R v↔z∈XL v\/z∈Q v\/z∈YL v\/z∈P v:=fun v r z=>by rw[(B.cyc v r).perm.mem_iff];grind
 have⟨A,x,I⟩:=CN (B.xne u d);have⟨C,y,K⟩:=CN (l:=Q u++(tP (J (pv U u)) (YL u)++P u)) (by grind[Me,XY.yne,append_eq_nil_iff]);have⟨s,x',t⟩:=CN (B.yne w hw);have⟨C',D,E⟩:=CN (l:=P w++(tP (J w) (XL w)++Q w)) (by grind[Me,XY.xne,append_eq_nil_iff]);have L:RJ R U SE tl XL Q YL P J u=XL u++(Q u++(tP (J (pv U u)) (YL u)++P u)):=by grind[RJ,tP]
 have F:Cyc (RJ R U SE tl XL Q YL P J w) (YL w++(P w++(tP (J w) (XL w)++Q w))):=by grind[RJ,tP,Cyc.refl,Cyc.shift]
 have T:Hh n (RJ R U SE tl XL Q YL P J) (fun a b=>b∈R a/\¬SE a b/\tl a b=u) u w A x C y s x' C' D:=by
  refine⟨B.rotJ J,fun a b h=>⟨B.Rl.sy _ _ h.1,fun q=>h.2.1 (B.ssym _ _ q),by rw[<-B.tsym a b h.1];exact h.2.2⟩,wI f,fun v M h2=>?_,?_,fun a ha=>?_,fun b hb=>?_,?_,fun a ha=>?_,fun b hb=>?_⟩
  .by_cases c:v∈U
   all_goals grind[XY.xl,XY.q,XY.yl,XY.p,XY.all]
  all_goals grind[Cyc.refl,XY.xl,XY.q,XY.yl,mem_revI,XY.p]
 rw[<-T.flip_flat];refine pP.flat (fun v=>?_) (B.rotJ _);unfold Qu;by_cases c1:v=u
 .grind[RJ,tP,Cyc.refl]
 by_cases c2:v=w
 .grind[RJ,tP,Cyc.refl,Cyc.shift]
 by_cases g:v∈U
 .grind[RJ,XY.xl,XY.q,XY.yl,XY.p,Cyc.refl]
 .by_cases i:∃a∈RJ R U SE tl XL Q YL P J v,a∈R v/\¬SE v a/\tl v a=u
  .rw[Sb i];have⟨z,_,N,hs,O⟩:=i;have j:tl v ((R v).headD 0)=u:=by grind[XY.all,Lt]
   have S:RJ R U SE tl XL Q YL P J v=R v:=by grind[RJ,tP]
   have V:RJ R U SE tl XL Q YL P (fun z=>J z\/z=u) v=(R v).reverse:=by unfold RJ tP;rw[WA g,Sb hGr]
   grind[Cyc.refl]
  .have e:RJ R U SE tl XL Q YL P (fun z=>J z\/z=u) v=RJ R U SE tl XL Q YL P J v:=by
    unfold RJ;rw[WA g,WA g];congr 1;grind[Lt,XY.all]
   grind[Cyc.refl]
theorem RJ_congr{J K:Nat->Prop}(h:∀v,J v↔K v):RJ R U SE tl XL Q YL P J=RJ R U SE tl XL Q YL P K:=by have:J=K:=hGr;rw[this]
theorem XY.flatJ(B:XY n R U SE tl XL Q YL P)(hf:Flat n R):∀L:II,L.Nodup->(∀u∈L,u∈U)->Flat n (RJ R U SE tl XL Q YL P fun v=>v∈L)
 |[],_,_=>by refine(pP.flat (fun v=>?_) (B.rotJ _)).2 hf;grind[RJ,tP,XY.cyc,Cyc.symm,Cyc.refl]
 |u::L,nd,a=>by rw[eR]at nd;have b:=B.flatJ hf L nd.2 (by grind[mem_cons_of_mem]);rw[RJ_congr (K:=fun v=>v∈L\/v=u) fun v=>by grind];grind[XY.step,mem_cons_self]
noncomputable def Vp(R:Nat->II)(U:II)(SE:Nat->Nat->Prop)(XL Q YL P:Nat->II)(v:Nat):II:=if v∈U then XL v++((P v).reverse++(YL v++(Q v).reverse))else if∃w∈R v,¬SE v w then R v else(R v).reverse
theorem XY.Vp(B:XY n R U SE tl XL Q YL P)(hf:Flat n R)(b:∀v,v∉U->∀w∈R v,¬SE v w->tl v w∈U):pP (qI (RJ R U SE tl XL Q YL P fun v=>v∈U)) (Vp R U SE XL Q YL P)/\Flat n (Go.Fw.Vp R U SE XL Q YL P)/\V7 n (Go.Fw.Vp R U SE XL Q YL P):=by
 have a:=B.rotJ fun v=>v∈U;have S:pP (qI (RJ R U SE tl XL Q YL P fun v=>v∈U)) (Go.Fw.Vp R U SE XL Q YL P):=fun v=>by
  unfold qI Go.Fw.Vp RJ;by_cases c:v∈U
  .grind[tP,BJ,Cyc.refl,Cyc.shift]
  .rw[WA c,WA c];by_cases d:∃w∈R v,¬SE v w
   all_goals grind[XY.all,tP,reverse_reverse,Cyc.refl]
 refine⟨S,?_,S.Rl (Xn a)⟩;rw[<-S.flat (Xn a),mir_flat a];grind[XY.flatJ,XY.nd]
end
def afi:II->Nat->Nat->II
 |[],_,_=>[]
 |z::l,x,y=>if z=x then z::y::l else z::afi l x y
theorem Ch{p q:II}{x y:Nat}(h:x∉p):afi (p++x::q) x y=p++x::y::q:=by
 induction p<;>grind[afi.eq_2]
theorem sM{l:II}{x y:Nat}(nd:l.Nodup)(g:x∈l)(h:y∉l):
  (afi l x y).Nodup/\(∀z,z∈afi l x y↔z=y\/z∈l)/\(afi l x y).erase y=l/\nx (afi l x y) x=y/\nx (afi l x y) y=nx l x/\(afi l x y).length=l.length+1:=by
 obtain⟨p,q,rfl,d⟩:=sC g;rw[Ch d];have c:(p++x::y::q).Perm (y::(p++x::q)):=hGr;refine⟨by grind[nodup_cons],fun z=>by rw[c.mem_iff,HV],?_,Nu d,?_,hGr⟩
 .grind
 .have e:p++x::y::q=(p++[x])++y::q:=by simp
  grind[ZL]
noncomputable def EO(r:Nat->II)(f:II)(a b:Nat)(inn:II):Nat->II:=fun x=>
 if x=a then afi (r a) (pv f a) ((inn++[b]).headD 0)
 else if x=b then afi (r b) (pv f b) ((inn.reverse++[a]).headD 0)
 else if x∈inn then[pv (nr a inn b) x,nx (nr a inn b) x]
 else r x
theorem pv_adj{p rest:II}{v z:Nat}(nd:(p++v::z::rest).Nodup):pv (p++v::z::rest) z=v:=by grind[c7,Nu]
theorem aZ{L:II}(nd:L.Nodup){i x y:Nat}(c:L[i]?=Z x)(h2:L[i+1]?=Z y):nx L x=y/\pv L y=x:=by grind[ZN,Nu,pv_adj]
theorem ajt{p q:Nat}(h:p≠q):nx [p,q] p=q/\nx [p,q] q=p:=by refine⟨Nu (p:=[]) Ma,?_⟩;exact vB (p:=[]) (x:=p) (v:=q) hGr
section
variable{n:Nat}{r:Nat->II}{F:Cs}{f:II}{a b:Nat}{inn:II}
structure UN (n:Nat) (r:Nat->II) (f:II) (a b:Nat) (inn:II):Prop where
 ab:a≠b
 af:a∈f
 bf:b∈f
 nd:inn.Nodup
 off:∀x∈inn,r x=[]
 lt:∀x∈inn,x<n
 chord:inn=[]->b∉r a
theorem UN.ra(C:UN n r f a b inn)(O:FO r F)(hf:f∈F):r a≠[]/\r b≠[]:=⟨(fun h=>by have:=O.bz f hf a C.af;grind),(fun h=>by have:=O.bz f hf b C.bf;grind)⟩
theorem UN.ndP(C:UN n r f a b inn)(O:FO r F)(hf:f∈F):(nr a inn b).Nodup:=by grind[UN.ra,nr.eq_1,UN.off,UN.ab,UN.nd]
def UN.s_new(C:UN n r f a b inn)(R:V7 n r):(inn++[b]).headD 0∉r a:=by
 cases inn with
 |nil=>exact C.chord rfl
 |cons x l=>intro h;have:=R.sy _ _ h;rw[C.off _ Ma]at this;cases this
theorem UN.t_new(C:UN n r f a b inn)(R:V7 n r):(inn.reverse++[a]).headD 0∉r b:=by
 cases c:inn.reverse with
 |nil=>
  have:inn=[]:=by simpa using c
  exact fun h=>C.chord this (R.sy _ _ h)
 |cons x l=>intro h;have:=R.sy _ _ h;rw[C.off _ hGr]at this;cases this
theorem UN.lay(C:UN n r f a b inn)(R:V7 n r)(O:FO r F)(hf:f∈F):Lay n r (EO r f a b inn) a b inn/\
  nx (EO r f a b inn a) (pv f a)=(inn++[b]).headD 0/\nx (EO r f a b inn b) (pv f b)=(inn.reverse++[a]).headD 0/\nx f a=nx (EO r f a b inn a) ((inn++[b]).headD 0)/\nx f b=nx (EO r f a b inn b) ((inn.reverse++[a]).headD 0):=by
 have nP:=C.ndP O hf;have⟨ra,rb⟩:=C.ra O hf;have hs:=C.s_new R;have D:=C.t_new R;have pa:=O.df R hf C.af;have pb:=O.df R hf C.bf;have ea:EO r f a b inn a=afi (r a) (pv f a) ((inn++[b]).headD 0):=Sb rfl;have eb:EO r f a b inn b=afi (r b) (pv f b) ((inn.reverse++[a]).headD 0):=by grind[EO,UN.ab]
 have ain:a∉inn:=by grind[UN.off]
 have bin:b∉inn:=by grind[UN.off]
 have E:∀x∈inn,EO r f a b inn x=[pv (nr a inn b) x,nx (nr a inn b) x]:=by grind[EO]
 have z:∀x,x≠a->x≠b->x∉inn->EO r f a b inn x=r x:=by grind[EO]
 have⟨J,K,L,M,N,_⟩:=sM (R.nd a) pa hs;have⟨P,G,Q,S,T,_⟩:=sM (R.nd b) pb D;have l:∀x∈inn,∃i p q:Nat,(nr a inn b)[i]?=Z p/\(nr a inn b)[i+1]?=Z x/\(nr a inn b)[i+2]?=Z q:=fun x s=>by
  have⟨i,p,d,h2⟩:=qm (a:=a) (b:=b) (.inr s);have hi:i+2<(nr a inn b).length:=by grind[Eo,Fg]
  grind
 have m:∀(i p x q:Nat),(nr a inn b)[i]?=Z p->(nr a inn b)[i+1]?=Z x->(nr a inn b)[i+2]?=Z q->x∈inn/\p≠q/\EO r f a b inn x=[p,q]:=fun i p x q d h2 h3=>by
  have s:x∈inn:=by have e:nr a inn b=a::(inn++[b]):=rfl;grind[mem_of_getElem?]
  refine⟨s,fun e=>?_,?_⟩
  .grind[X6]
  .rw[E x s,(aZ nP d h2).2,(aZ nP h2 h3).1]
 have g:∀(i p x q:Nat),(nr a inn b)[i]?=Z p->(nr a inn b)[i+1]?=Z x->(nr a inn b)[i+2]?=Z q->nx (EO r f a b inn x) p=q/\nx (EO r f a b inn x) q=p/\∀y,y∈EO r f a b inn x↔y=p\/y=q:=fun i p x q d h2 h3=>by have⟨_,k,e⟩:=m i p x q d h2 h3;rw[e];exact⟨(ajt k).1,(ajt k).2,fun y=>by simp⟩
 have u:∀(i x y:Nat),(nr a inn b)[i]?=Z x->(nr a inn b)[i+1]?=Z y->y∈EO r f a b inn x/\x∈EO r f a b inn y:=fun i x y d h2=>by
  have H:=(Ny.1 h2).1;constructor
  .cases i with
   |zero=>grind[yT]
   |succ i=>
    have I:(nr a inn b)[i]?=Z ((nr a inn b)[i]'(by omega)):=Gc NH
    exact((g i _ x y I d h2).2.2 y).2 (.inr rfl)
  .by_cases c:i+2<(nr a inn b).length
   .exact((g i x y _ d h2 (Gc c)).2.2 x).2 (.inl rfl)
   grind[Eo,Fg]
 have j:∀v w,w∈EO r f a b inn v->w∈r v\/∃i:Nat,((nr a inn b)[i]?=Z v/\(nr a inn b)[i+1]?=Z w)\/((nr a inn b)[i]?=Z w/\(nr a inn b)[i+1]?=Z v):=fun v w h=>by
  by_cases c1:v=a
  .grind[yT]
  by_cases c2:v=b
  .subst c2;rw[eb,G]at h;rcases h with h|h
   .obtain⟨U,V⟩:=Fg a v inn;grind
   grind
  by_cases o:v∈inn
  .obtain⟨i,p,q,d,h2,h3⟩:=l v o;rcases((g i p v q d h2 h3).2.2 w).1 h with e|e
   .exact .inr ⟨i,hGr⟩
   .exact .inr ⟨i+1,hGr⟩
  grind
 have A:∀v w,w∈r v->w∈EO r f a b inn v:=fun v w h=>by
  by_cases c1:v=a
  .grind
  by_cases c2:v=b
  .grind
  by_cases o:v∈inn
  .grind[UN.off]
  grind
 have B:∀(i x:Nat),(nr a inn b)[i]?=Z x->x<n:=fun i x h=>by
  have t:=BS h;rw[nr,HV,vZ,iy]at t;rcases t with rfl|t|rfl
  .exact R.lt _ _ pa
  .exact C.lt x t
  .exact R.lt _ _ pb
 have R':V7 n (EO r f a b inn):=by
  refine⟨fun v=>?_,fun v w h=>?_,fun v w h=>?_,fun v h=>?_⟩
  .by_cases c1:v=a
   .grind
   by_cases c2:v=b
   .grind
   by_cases o:v∈inn
   .obtain⟨i,p,q,d,h2,h3⟩:=l v o;have⟨_,k,e⟩:=m i p v q d h2 h3;rw[e];simp[k]
   .rw[z v c1 c2 o];exact R.nd v
  .rcases j v w h with h|⟨i,⟨d,_⟩|⟨_,h2⟩⟩
   .exact R.lt _ _ h
   .grind
   grind
  .rcases j v w h with h|⟨i,⟨d,h2⟩|⟨d,h2⟩⟩
   .grind[V7.sy]
   .grind
   grind
  .rcases j v v h with h|⟨i,⟨d,h2⟩|⟨d,h2⟩⟩
   .exact R.ir v h
   .grind[X6]
   grind[X6]
 refine⟨⟨R,R',C.ab,ra,rb,C.nd,C.off,z,hGr,hGr,hGr,hGr,g⟩,hGr,hGr,?_,?_⟩
 .grind[FO.pv,UN.af]
 grind[FO.pv,UN.bf]
end
def Vj(l:II)(x y:Nat):Prop:=∃i:Nat,l[i]?=Z x/\l[i+1]?=Z y
def Ay(a:Nat)(inn:II)(b:Nat)(x y:Nat):Prop:=Vj (nr a inn b) x y\/Vj (nr a inn b) y x
theorem R8{l:II}{x y:Nat}:Vj l.reverse x y↔Vj l y x:=by grind[Vj,reverse_reverse]
theorem Ef{a b:Nat}{inn:II}{x y:Nat}(h:Ay a inn b x y):Ay a inn b y x:=h.symm
theorem Ha{a b:Nat}{inn:II}{x y:Nat}:Ay b inn.reverse a x y↔Ay a inn b x y:=by grind[Ay,Ec,R8]
theorem Za{l:II}(nd:l.Nodup){p q:Nat->Prop}{s:Nat}(c:¬p s)(h:∀y∈l,q y↔p y\/y=s):(l.filter fun y=>decide (q y)).erase s=l.filter fun y=>decide (p y):=by rw[(nd.sublist Tn).erase_eq_filter,adE];grind[filter_congr]
structure Ka (R:Nat->II) (H:Nat->Nat->Prop) (a:Nat) (inn:II) (b:Nat):Prop where
 nd:(nr a inn b).Nodup
 UQ:∀(i x y:Nat),(nr a inn b)[i]?=Z x->(nr a inn b)[i+1]?=Z y->y∈R x/\¬H x y
 off:∀x∈inn,∀w∈R x,¬H x w
 ona:∃w∈R a,H a w
 onb:∃w∈R b,H b w
section
variable{n:Nat}{R:Nat->II}{H:Nat->Nat->Prop}{a b:Nat}{inn:II}
theorem Ka.rev(W:Ka R H a inn b)(e:V7 n R)(hs:∀v w,H v w->H w v):Ka R H b inn.reverse a:=by refine⟨by grind[Ec,Ka.nd],fun i x y f h2=>?_,(by grind[Ka.off]),W.onb,W.ona⟩;have:Vj (nr a inn b).reverse x y:=⟨i,by grind[Ec],by grind[Ec]⟩;have⟨j,c,d⟩:=R8.1 this;have⟨k1,k2⟩:=W.UQ j y x c d;grind[V7.sy]
theorem Ka.ab(W:Ka R H a inn b):a≠b:=fun e=>by have:=W.nd;grind[nr.eq_1]
theorem Ka.wE(W:Ka R H a inn b)(d:V7 n R)(hs:∀v w,H v w->H w v){x y:Nat}(h:Ay a inn b x y):y∈R x/\¬H x y:=by
 rcases h with⟨i,c,h2⟩|⟨i,c,h2⟩
 .grind[Ka.UQ]
 .obtain⟨k1,k2⟩:=W.UQ i y x c h2;grind[V7.sy]
theorem dC{x y:Nat}(h:Ay a inn b x y):x=a\/x=b\/x∈inn:=by
 have:x∈nr a inn b:=by
  rcases h with⟨i,c,_⟩|⟨i,_,h2⟩
  all_goals grind
 grind[nr.eq_1]
theorem Ka.Fp(W:Ka R H a inn b){y:Nat}:Ay a inn b a y↔y=(inn++[b]).headD 0:=by
 have⟨c,d⟩:=yT a b inn;constructor
 .rintro(⟨i,e,h2⟩|⟨i,e,h2⟩)
  all_goals grind[X6,Ka.nd]
 .rintro rfl;exact .inl ⟨0,c,d⟩
theorem Ka.wE_b(W:Ka R H a inn b)(c:V7 n R)(hs:∀v w,H v w->H w v){y:Nat}:Ay a inn b b y↔y=(inn.reverse++[a]).headD 0:=by rw[<-Ha];exact(W.rev c hs).Fp
theorem ZZ{l:II}{p q:Nat}(nd:l.Nodup)(c:p≠q)(h:∀y,y∈l↔y=p\/y=q):nx l p=q/\nx l q=p:=by
 have pm:l.Perm [p,q]:=by grind[yR]
 have d:=pm.length_eq
 match l,d with
 |[x,y],_=>grind[ajt]
noncomputable def Jt(R:Nat->II)(H:Nat->Nat->Prop)(a:Nat)(inn:II)(b:Nat):Nat->II:=Om (fun x y=>H x y\/Ay a inn b x y) R
theorem Ka.lay(W:Ka R H a inn b)(d:V7 n R)(hs:∀v w,H v w->H w v):Lay n (Om H R) (Jt R H a inn b) a b inn:=by
 have f:∀v w,(H v w\/Ay a inn b v w)->H w v\/Ay a inn b w v:=by grind[Ef]
 have c:∀{v:Nat},(∃w∈R v,H v w)->Om H R v≠[]:=fun{v} ⟨w,g,h2⟩ e=>by
  have:w∈Om H R v:=by grind[EM]
  grind
 have ends:∀{a b:Nat}{inn:II}(_:Ka R H a inn b),(Jt R H a inn b a).erase ((inn++[b]).headD 0)=Om H R a/\(inn++[b]).headD 0∈Jt R H a inn b a:=fun{a b inn} W=>by have⟨k1,k2⟩:=W.wE d hs (W.Fp.2 rfl);refine⟨Za (d.nd a) k2 (by grind[Ka.Fp]),?_⟩;exact EM.2 (by grind[Ka.Fp])
 have r:Jt R H b inn.reverse a=Jt R H a inn b:=by grind[Jt,Ha]
 have⟨a1,a2⟩:=ends W;have⟨k,l⟩:=ends (W.rev d hs);rw[r]at k l;refine⟨OG d hs,OG d f,W.ab,c W.ona,c W.onb,?_,fun x m=>?_,fun x g h2 h3=>?_,a1,a2,k,l,fun i p x q g h2 h3=>?_⟩
 .have:=W.nd;grind[nr.eq_1]
 .exact qL90.2 (by grind[Ka.off])
 .refine vY fun y _=>?_;grind[dC]
 .have m:x∈inn:=by grind[nr]
  have h:p≠q:=by grind[X6,Ka.nd]
  have o:∀y,y∈Jt R H a inn b x↔y=p\/y=q:=fun y=>by
   unfold Jt;rw[EM];constructor
   .rintro⟨k1,k2⟩;rcases k2.resolve_left (W.off x m y k1)with⟨j,s,t⟩|⟨j,s,t⟩
    all_goals grind[X6,Ka.nd]
   .rintro(rfl|rfl)
    .have:Ay a inn b x y:=.inr ⟨i,g,h2⟩;grind[Ka.wE]
    .have:Ay a inn b x y:=.inl ⟨i+1,h2,h3⟩;grind[Ka.wE]
  have⟨k1,k2⟩:=ZZ ((OG d f).nd x) h o;exact⟨k1,k2,o⟩
theorem Ka.Ui(W:Ka R H a inn b):Jt R H a inn b a=(R a).filter fun y=>decide (H a y\/y=(inn++[b]).headD 0):=by refine vY fun y _=>?_;grind[Ka.Fp]
end
structure Ctx (n:Nat) (R:Nat->II) (H:Nat->Nat->Prop) (F:Cs):Prop where
 Rl:V7 n R
 sym:∀v w,H v w->H w v
 fl:Flat n R
 O:FO (Om H R) F
 bp:∀v w,Om H R v≠[]->Om H R w≠[]->Cr (Om H R) v w
noncomputable def cl(R:Nat->II)(H:Nat->Nat->Prop)(u x:Nat):II:=(R u).filter fun w=>decide (H u w\/w=x)
noncomputable def cl2(R:Nat->II)(H:Nat->Nat->Prop)(u x y:Nat):II:=(R u).filter fun w=>decide ((H u w\/w=x)\/w=y)
structure WQ (R:Nat->II) (H:Nat->Nat->Prop) (g:II) (u x:Nat):Prop where
 ug:u∈g
 at_:nx (cl R H u x) (pv g u)=x
section
variable{n:Nat}{R:Nat->II}{H:Nat->Nat->Prop}{F:Cs}{a b:Nat}{inn:II}
theorem Ka.fst(W:Ka R H a inn b)(c:V7 n R)(hs:∀v w,H v w->H w v):(inn++[b]).headD 0∈R a/\¬H a ((inn++[b]).headD 0):=W.wE c hs (W.Fp.2 rfl)
theorem Ka.lst(W:Ka R H a inn b)(c:V7 n R)(hs:∀v w,H v w->H w v):(inn.reverse++[a]).headD 0∈R b/\¬H b ((inn.reverse++[a]).headD 0):=(W.rev c hs).fst c hs
theorem Ctx.drawn(C:Ctx n R H F)(W:Ka R H a inn b):∃f∈F,WQ R H f a ((inn++[b]).headD 0)/\WQ R H f b ((inn.reverse++[a]).headD 0)/\
  nx f a=nx (Jt R H a inn b a) ((inn++[b]).headD 0)/\nx f b=nx (Jt R H a inn b b) ((inn.reverse++[a]).headD 0):=by
 have L:=W.lay C.Rl C.sym;have c:Flat n (Jt R H a inn b):=C.fl.keep C.Rl fun v w h=>h.imp (C.sym v w) Ef;have⟨f,hf,d,h2,h3,i,e,g⟩:=L.EI C.O c (C.bp _ _ L.ra L.rb);have j:Jt R H a inn b b=cl R H b ((inn.reverse++[a]).headD 0):=by refine vY fun y _=>?_;rw[agN];exact or_congr Iff.rfl (W.wE_b C.Rl C.sym)
 exact⟨f,hf,⟨d,by grind[cl.eq_1,Ka.Ui]⟩,⟨h2,hGr⟩,e,g⟩
theorem Ctx.HT(C:Ctx n R H F){g:II}(hg:g∈F){u x:Nat}(c:u∈g):pv g u∈cl R H u x/\H u (pv g u):=by have:=C.O.df (OG C.Rl C.sym) hg c;grind[EM,cl]
theorem Ctx.YQ(C:Ctx n R H F){g d:II}(hg:g∈F)(c:d∈F){u x:Nat}(h:WQ R H g u x)(h':WQ R H d u x):g=d:=by have⟨f,j,_⟩:=C.O.pv hg h.ug;have⟨i,k,_⟩:=C.O.pv c h'.ug;have e:=C9 ((C.Rl.nd u).sublist Tn) (C.HT hg h.ug).1 (C.HT c h'.ug).1 (h.at_.trans h'.at_.symm);exact C.O.uniq g hg d c (pv g u) f (e▸i) hGr
theorem Ctx.nocross(C:Ctx n R H F){g:II}(hg:g∈F){u j k x y:Nat}{c d A B:II}(I:Ka R H u c j)(E:Ka R H u d k)(Q:(c++[j]).headD 0=x)(T:(d++[k]).headD 0=y)(TE:∀v∈c,v∉d)(U:x≠y)(V:WQ R H g u x)(o1:nx (cl2 R H u x y) x=y)(cy:Cyc g ((u::A)++(j::B))):k∈A\/k=j:=by
 have o:=C.Rl;have hs:=C.sym;have L1:=I.lay o hs;have⟨f,hf,c1,c2,d1,d2⟩:=C.drawn I;rw[Q]at c1;have:=C.YQ hf hg c1 V;subst this;have er:Jt R H u c j j=cl R H j ((c.reverse++[u]).headD 0):=by refine vY fun y _=>?_;grind[Ka.wE_b]
 have G:=L1.gY C.O hf cy (by rw[I.Ui,Q];exact c1.at_) (by grind[WQ.at_]) d1 d2;have r:∀v w,(H v w\/Ay u c j v w)->H w v\/Ay u c j w v:=by grind[Ef]
 have J:∀{v:Nat},(∃w∈R v,H v w)->v∉c/\v∉d:=by grind[Ka.off]
 have K:∀p q,Ay u c j p q->¬Ay u d k p q:=fun p q m h2=>by
  have n2:∀{p:Nat},p=u\/p=k\/p∈d->p∉c:=by grind[Ka.ona,Ka.onb]
  have m1:=(dC m);have m2:=(dC (Ef m));grind[dC,Ef,Ka.Fp,V7.ir,Ka.wE]
 have s:Ka R (fun v w=>H v w\/Ay u c j v w) u d k:=by
  refine⟨E.nd,fun i p q m h2=>⟨by grind[Ka.UQ],fun h=>h.elim (E.UQ i p q m h2).2 fun h=>K p q h (.inl ⟨i,m,h2⟩)⟩,fun v W w hw h=>h.elim (E.off v W w hw) fun h=>?_,?_,?_⟩
  all_goals grind[dC,Ka.ona,Ka.onb]
 have L2:=s.lay o r;have t:Flat n (Jt R (fun v w=>H v w\/Ay u c j v w) u d k):=C.fl.keep o (by grind[Ef]);have z:Cr (Om (fun v w=>H v w\/Ay u c j v w) R) u k:=by
  have h0:Cr (Om H R) u k:=by
   have⟨w,m,h2⟩:=E.onb;refine C.bp _ _ L1.ra fun e=>?_;have:w∈Om H R k:=by grind[EM]
   grind
  grind[Cr.mono,EM]
 have⟨L,D,S,e2,e3,_⟩:=L2.EI G t z;have M:Jt R (fun v w=>H v w\/Ay u c j v w) u d k u=cl2 R H u x y:=by rw[s.Ui];refine vY fun w _=>?_;grind[Ka.Fp]
 rw[M,T]at e3;have X:(cl2 R H u x y).Nodup:=(o.nd u).sublist Tn;have aa:x∈cl2 R H u x y:=by grind[cl2,Ka.fst]
 have ae:pv L u∈cl2 R H u x y:=by have:=G.df (OG o r) D S;grind[EM,cl2,Ka.Fp]
 have N:pv L u=x:=by grind[C9]
 have⟨p1,p2,_⟩:=G.pv D S;rw[N]at p1 p2;have ai:=G.nd _ (qH (a:=half u A j c));have P:x∈half u A j c/\nx (half u A j c) x=u:=by
  rcases Cj c.reverse with e|⟨l,q,e⟩
  .grind[half,vB]
  grind[half,vB]
 have ef:L=half u A j c:=by grind[FO.uniq,mem_cons_self]
 grind[half,Ka.ab,Ka.onb]
end
theorem uF{r:Nat->II}{a b:Nat}(h:Cr r a b):∃l:II,l.Nodup/\(∃t,l=a::t)/\(∃s,l=s++[b])/\(∀(i x y:Nat),l[i]?=Z x->l[i+1]?=Z y->y∈r x)/\∀v∈l,Cr r a v:=by
 induction h with
 |refl=>exact⟨[a],Ma,⟨[],rfl⟩,⟨[],rfl⟩,hGr,fun v d=>by rw[iy.1 d];exact .refl _⟩
 |@step b c hb f g=>
  have⟨l,nd,⟨t,u⟩,⟨s,es⟩,ch,cr⟩:=g;by_cases m:c∈l
  .obtain⟨p,q,e,w⟩:=sC m;have e':l=(p++[c])++q:=by rw[e];simp
   refine⟨p++[c],?_,?_,⟨p,rfl⟩,fun i x y j h2=>?_,hGr⟩
   .grind
   .cases p<;>grind
   .refine ch i x y ?_ ?_
    all_goals grind
  .refine⟨l++[c],?_,hGr,⟨l,rfl⟩,fun i x y j h2=>?_,fun v d=>?_⟩
   .grind
   .by_cases k:i+1<l.length
    .grind
    .have o:=(Ny.1 h2).1;rw[aaf,Bn]at o;have hi:i+1=l.length:=NH;rw[hi,jf (qL0 _)]at h2;grind
   .rcases vZ.1 d with h|h
    .exact cr v h
    .rw[iy.1 h];exact hb.step f
def off(R:Nat->II)(H:Nat->Nat->Prop)(v:Nat):Prop:=∀w∈R v,¬H v w
theorem Q7{R:Nat->II}{H:Nat->Nat->Prop}{v:Nat}(h:¬off R H v):∃w∈R v,H v w:=j9 fun q=>h fun w a h2=>q ⟨w,a,h2⟩
noncomputable def Mm(R:Nat->II)(H:Nat->Nat->Prop):Nat->II:=Om (fun v w=>off R H v/\off R H w) R
noncomputable def lo(R:Nat->II)(H:Nat->Nat->Prop)(v:Nat):Nat:=Classical.epsilon fun w=>Cr (Mm R H) v w
noncomputable def QI(R:Nat->II)(H:Nat->Nat->Prop)(v w:Nat):Nat×Nat×Nat:=if off R H v then(0,lo R H v,0)else if off R H w then(0,lo R H w,0)else(1,min v w,max v w)
section
variable{n:Nat}{R:Nat->II}{H:Nat->Nat->Prop}
theorem QM(a:V7 n R):V7 n (Mm R H):=OG a hGr
def yc(v:Nat):Cr (Mm R H) v (lo R H v):=Classical.epsilon_spec (p:=fun w=>Cr (Mm R H) v w) ⟨v,.refl _⟩
theorem fX(a:V7 n R){v w:Nat}:lo R H v=lo R H w↔Cr (Mm R H) v w:=by
 constructor
 .intro e;have b:=yc (R:=R) (H:=H) v;have h2:=yc (R:=R) (H:=H) w;rw[e]at b;exact b.trans (h2.symm (QM a))
 .intro h;unfold lo;congr 1;funext z;exact propext ⟨fun q=>(h.symm (QM a)).trans q,fun q=>h.trans q⟩
theorem M6{v w:Nat}(h:off R H v):QI R H v w=(0,lo R H v,0):=Sb h
theorem Jn{v w:Nat}(h:¬off R H v)(h2:off R H w):QI R H v w=(0,lo R H w,0):=by grind[QI]
theorem rj{v w:Nat}(h:¬off R H v)(h2:¬off R H w):QI R H v w=(1,min v w,max v w):=by grind[QI]
theorem RX(a:V7 n R){v w:Nat}(hw:w∈R v):QI R H v w=QI R H w v:=by
 by_cases c1:off R H v
 .by_cases c2:off R H w
  .rw[M6 c1,M6 c2,(fX a).2];exact(Cr.refl _).step (EM.2 ⟨hw,c1,c2⟩)
  grind[M6,Jn]
 grind[off,M6,Jn,rj]
theorem ZW(B:V7 n R)(hs:∀v w,H v w->H w v){u x z y:Nat}(d:¬off R H u)(f:¬off R H z)(h:u≠z)(C:x∈R u)(j:¬H u x)(D:y∈R z)(ny:¬H z y)(b:QI R H u x=QI R H z y):
  ∃inn,Ka R H u inn z/\(inn++[z]).headD 0=x/\(inn.reverse++[u]).headD 0=y/\∀v∈inn,off R H v/\QI R H u x=(0,lo R H v,0):=by
 by_cases c1:off R H x
 .rw[Jn d c1]at b;have c2:off R H y:=by grind[rj]
  rw[Jn f c2]at b;have m:Cr (Mm R H) x y:=by grind[fX]
  have⟨l,nd,⟨t,o⟩,⟨s,es⟩,ch,cr⟩:=uF m;have a:∀v∈l,off R H v:=fun v g=>by
   cases cr v g with
   |refl=>exact c1
   |step _ hw=>exact(EM.1 hw).2.2
  refine⟨l,⟨?_,fun i p q c h2=>?_,fun v g=>a v g,Q7 d,Q7 f⟩,by rw[o];rfl,by rw[es];simp,(by grind[Jn,fX])⟩
  .grind[nr.eq_1]
  .have r:=(Ny.1 h2).1;rw[Eo]at r;cases i with
   |zero=>grind[yT]
   |succ i=>
    have e:nr u l z=u::(l++[z]):=rfl;rw[e,ah7]at c h2;rw[EP NH]at c;have A:=a p (BS c);by_cases k:i+1<l.length
    .rw[EP k]at h2;have:=EM.1 (ch i p q c h2);exact⟨this.1,A q this.1⟩
    .grind[length_append,V7.sy]
 .rw[rj d c1]at b;have c2:¬off R H y:=by grind[Jn]
  rw[rj f c2]at b;injection b with _ b;injection b with c h2;have:z=x/\y=u:=NH;obtain⟨rfl,rfl⟩:=this;refine⟨[],⟨by grind[nr],fun i p q c h2=>?_,hGr,Q7 d,Q7 f⟩,rfl,rfl,hGr⟩;grind[Eo,yT]
end
end
end Go.Fw
