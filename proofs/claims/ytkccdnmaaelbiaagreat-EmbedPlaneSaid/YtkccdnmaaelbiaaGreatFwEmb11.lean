/- A text. -/
import Derived.Test.YtkccdnmaaelbiaaGreatFwCyc
set_option linter.all false
set_option maxRecDepth 99999
set_option maxHeartbeats 9999999
namespace Go.Fw
attribute [local instance] Classical.propDecidable
def fu {l:wi} (nd:l.Nodup) {p:Nat->Prop} [DecidablePred p] {u:Nat} (o:u∈l) (q:p u) (j:nx (l.filter fun v=>decide (p v)) u≠u):
  ∃c1 c2,Cyc l (u::(c1++nx (l.filter fun v=>decide (p v)) u::c2))/\∀v∈c1,¬p v:=by
 obtain⟨c,k⟩:=Cyc.front o;have b:=k.filter fun v=>decide (p v);have s:(u::c).filter (fun v=>decide (p v))=u::c.filter fun v=>decide (p v):=by rw[UR,if_pos (by simpa using q)]
 rw[s]at b;have t:u∈l.filter fun v=>decide (p v):=sX.2 ⟨o,by simpa using q⟩;have d:=b.nx (nd.sublist F5) t;rw[TP]at d;have hex:∃c1 w c2,c=c1++w::c2/\(∀v∈c1,¬p v)/\p w:=by
  have a:c.filter (fun v=>decide (p v))≠[]:=fun h=>by rw[h]at d;exact j d
  clear k b s d
  induction c with
  |nil=>exact absurd rfl a
  |cons z c x=>
   by_cases m:p z
   .exact⟨[],z,c,rfl,YX,m⟩
   .rw [UR, if_neg (by simpa using m)] at a
    obtain⟨c1,w,c2,rfl,i,h2⟩:=x a;exact⟨z::c1,w,c2,rfl,fun v e=>by rcases aH.1 e with rfl|e;exact m;exact i v e,h2⟩
 obtain⟨c1,w,c2,rfl,i,h2⟩:=hex;have y:(c1++w::c2).filter (fun v=>decide (p v))=w::c2.filter fun v=>decide (p v):=by
  rw[zQ,Iw.2 fun v e=>by simpa using i v e,IT,UR,if_pos (by simpa using h2)]
 rw[y,E9,OR]at d;rw[d];exact⟨c1,c2,k,i⟩
structure ji (n:Nat) (r:Nat->wi) (F:ai) (f g:wi):Prop where
 R:ZJ n r
 O:FO r F
 fl:Flat n r
 hf:f∈F
 hg:g∈F
 ne:f≠g
 je:∀v w,r v≠[]->r w≠[]->Cr r v w
def Ul (f g:wi):wi:=f.filter fun v=>decide (v∈g)
def Wa {f g:wi} {v:Nat}:v∈Ul f g↔v∈f/\v∈g:=by simp[Ul]
section
variable {n : Nat} {r : Nat → List Nat} {F : List (List Nat)} {f g : List Nat}
def ji.uz (T:ji n r F f g):(Ul f g).Nodup:=(T.O.nd f T.hf).sublist F5
structure RM (r:Nat->wi) (f g:wi) (A B:Nat->wi):Prop where
 c:∀u∈Ul f g,Cyc (r u) ((A u++[pv g u])++(B u++[pv f u]))
 hA:∀u∈Ul f g,(A u++[pv g u]).headD 0=nx f u
 hB:∀u∈Ul f g,(B u++[pv f u]).headD 0=nx g u
def ji.cutU (T:ji n r F f g):∃A B,RM r f g A B:=by
 have Jc:∀u:Nat,∃p:wi×wi,u∈Ul f g->Cyc (r u) ((p.1++[pv g u])++(p.2++[pv f u]))/\(p.1++[pv g u]).headD 0=nx f u/\(p.2++[pv f u]).headD 0=nx g u:=fun u=>by
  by_cases h:u∈Ul f g
  .obtain ⟨A, B, c, h2, h3⟩ := cut_ex T.R T.O T.hf T.hg T.ne (Wa.1 h).1 (Wa.1 h).2
   exact⟨(A,B),fun _=>⟨c,h2,h3⟩⟩
  .exact⟨([],[]),fun q=>absurd q h⟩
 obtain⟨P,b⟩:=OT Jc;exact⟨fun u=>(P u).1,fun u=>(P u).2,fun u a=>(b u a).1,fun u a=>(b u a).2.1,fun u a=>(b u a).2.2⟩
variable {A B : Nat → List Nat}
def ji.sideU (T:ji n r F f g) (C:RM r f g A B) (h2:∀u∈Ul f g,nx (Ul f g) u≠u):∃X:Nat->Nat->Prop,∀u∈Ul f g,uu r f g u (nx (Ul f g) u) (A u) (B u) (B (nx (Ul f g) u)) (A (nx (Ul f g) u)) (X u):=by
 have Jc:∀u:Nat,∃X:Nat->Prop,u∈Ul f g->uu r f g u (nx (Ul f g) u) (A u) (B u) (B (nx (Ul f g) u)) (A (nx (Ul f g) u)) X:=fun u=>by
  by_cases h:u∈Ul f g
  .have hw := zc h
   obtain⟨X,a⟩:=sides T.R T.O T.fl T.hf T.hg T.ne (Hn (h2 u h)) (Wa.1 h).1 (Wa.1 h).2 (Wa.1 hw).1 (Wa.1 hw).2 (C.c u h) (C.hA u h) (C.hB u h) (C.c _ hw).shift (C.hB _ hw) (C.hA _ hw);exact⟨X,fun _=>a⟩
  .exact⟨fun _=>True,fun q=>absurd q h⟩
 obtain⟨X,a⟩:=OT Jc;exact⟨X,a⟩
def ji.G9 (T:ji n r F f g) {X:Nat->Prop} {u:Nat} (H:u∈Ul f g) (C:nx (Ul f g) u≠u) (S:uu r f g u (nx (Ul f g) u) (A u) (B u) (B (nx (Ul f g) u)) (A (nx (Ul f g) u)) X) {v:Nat} (I:v∈Ul f g) (L:v≠u) (h2:v≠nx (Ul f g) u):¬X v:=by
 obtain⟨c1,c2,o,M⟩:=fu (T.O.nd f T.hf) (p:=fun v=>v∈g) (Wa.1 H).1 (Wa.1 H).2 C;have o:Cyc f (u::(c1++nx (Ul f g) u::c2)):=o;have S:=S;generalize nx (Ul f g) u=w at*;have D:=o.perm.nodup_iff.1 (T.O.nd f T.hf);rw[tS,KM,tS,uK,aH]at D;have E:v∈c2:=by
  have:=o.perm.mem_iff.1 (Wa.1 I).1;rw[aH,uK,aH]at this;rcases this with h|h|h|h
  .exact absurd h L
  .exact absurd (Wa.1 I).2 (M v h)
  .exact absurd h h2
  .exact h
 have b:∀z∈c2,z≠u/\z≠w:=fun z a=>⟨fun e=>D.1 (.inr (.inr (e▸a))),fun e=>D.2.2.1.1 (e▸a)⟩;have c:Cyc f ((w::c2)++(u::c1)):=by
  have:Cyc f ((u::c1)++(w::c2)):=by simpa using o
  exact this.shift
 have x:=c.perm.nodup_iff.1 (T.O.nd f T.hf);have j:∀z,z=w\/z∈c2->z∈f:=fun z a=>c.perm.mem_iff.2 (KF _ (aH.2 a));have all:∀(i z:Nat),c2[i]?=some z->¬X z:=fun i=>by
  induction i with
  |zero=>
   intro z a;have d:=Jb a;obtain⟨G,J⟩:=b z d;have k:nx f w=z:=by
    rw[c.nx (T.O.nd f T.hf) (j w (.inl rfl))];cases c2 with
    |nil=>cases d
    |cons y c2=>
     injection a with a;subst a;exact nj (p:=[]) YX
   refine S.yb z ?_ G;rw[<-k,<-S.AD];exact zx
  |succ i N=>
   intro z a;have d:=Jb a;obtain⟨G,J⟩:=b z d;have U:=(bH.1 a).1;have l:c2[i]?=some (c2[i]'(by omega)):=dR QT
   have P:=N _ l;have m:=Jb l;generalize c2[i]'(by omega)=y at*
   obtain⟨y1,Q⟩:=b y m;have k:nx f y=z:=by
    rw[c.nx (T.O.nd f T.hf) (j y (.inr m))];obtain⟨s,t,e⟩:=ZD l a;have R:(w::c2)++(u::c1)=(w::s)++y::z::(t++(u::c1)):=by rw[e];simp
    rw[R]at x ⊢;exact nj fun h=>(KM.1 x).2.2 y h y YX rfl
   have K:=T.O.cG f T.hf y (j y (.inr m));rw[k]at K;exact fun q=>P ((S.xA y z K y1 Q G J).2 q)
 obtain⟨i,hi⟩:=OH.1 E;exact all i v hi
def ji.NH (T:ji n r F f g) (C:RM r f g A B) (h2:∀u∈Ul f g,nx (Ul f g) u≠u) {X:Nat->Nat->Prop} (S:∀u∈Ul f g,uu r f g u (nx (Ul f g) u) (A u) (B u) (B (nx (Ul f g) u)) (A (nx (Ul f g) u)) (X u))
  {t:Nat} (z:t∈Ul f g) {v:Nat} (D:Cr r t v):v∉Ul f g->∃u∈Ul f g,X u v/\∀w∈Ul f g,X w v->w=u:=by
 have uz:=T.uz;have UZ:=fun{u} (k:u∈Ul f g) {v}=>T.G9 (v:=v) k (h2 u k) (S u k)
 induction D with
 |refl=>exact fun h=>absurd z h
 |@step b v _ o E=>
  intro l;have a:∀w∈Ul f g,v≠w/\v≠nx (Ul f g) w:=fun w hw=>⟨fun e=>l (e▸hw),fun e=>l (e▸zc hw)⟩;by_cases hb:b∈Ul f g
  .have G := (C.c b hb).perm.mem_iff.1 o
   rcases uK.1 G with hA|hB
   .refine ⟨b, hb, (S b hb).xa v hA (a b hb).2, fun w hw j => ?_⟩
    by_cases c1:b=w
    .exact c1.symm
    exfalso;by_cases c2:nx (Ul f g) w=b
    .have x := (S w hw).yb
     rw[c2]at x;exact x v hA (a w hw).1 j
    .exact UZ hw hb c1 (Hn c2) (((S w hw).xA b v o c1 (Hn c2) (a w hw).1 (a w hw).2).2 j)
   .have p := j8 hb
    have m:=mz uz hb;refine⟨pv (Ul f g) b,p,?_,fun w hw j=>?_⟩
    .have y := (S _ p).xb
     rw[m]at y;exact y v hB (a _ p).1
    by_cases c1:b=w
    .subst c1
     exact absurd j ((S b hb).ya v hB (a b hb).2)
    by_cases c2:nx (Ul f g) w=b
    .exact M6 uz hw p (c2.trans m.symm)
    .exact absurd (((S w hw).xA b v o c1 (Hn c2) (a w hw).1 (a w hw).2).2 j) (UZ hw hb c1 (Hn c2))
  .obtain ⟨u, k, j, s⟩ := E hb
   have d:∀w∈Ul f g,b≠w/\b≠nx (Ul f g) w:=fun w hw=>⟨fun e=>hb (e▸hw),fun e=>hb (e▸zc hw)⟩;have i:∀w∈Ul f g,X w b↔X w v:=fun w hw=>(S w hw).xA b v o (d w hw).1 (d w hw).2 (a w hw).1 (a w hw).2;exact⟨u,k,(i u k).1 j,fun w hw q=>s w hw ((i w hw).2 q)⟩
end
end Go.Fw
namespace Go.Fw
attribute [local instance] Classical.propDecidable
structure kg (r:Nat->wi) (f g:wi) (A B:Nat->wi) (le:Nat->Nat->Nat):Prop where
 sym:∀v w,w∈r v->le v w=le w v
 inU:∀v w,w∈r v->le v w∈Ul f g
 same:∀v,v∉Ul f g->∀w w',w∈r v->w'∈r v->le v w=le v w'
 out:∀u∈Ul f g,∀w∈A u++[pv g u],le u w=u
 inn:∀u∈Ul f g,∀w∈B u++[pv f u],le u w=pv (Ul f g) u
section
variable {n : Nat} {r : Nat → List Nat} {F : List (List Nat)} {f g : List Nat} {A B : Nat → List Nat}
def RM.eX (T:ji n r F f g) (C:RM r f g A B) {u w:Nat} (a:u∈Ul f g) (b:w∈A u++[pv g u]) (h2:w∈B u++[pv f u]):False:=by
 have:=(C.c u a).perm.nodup_iff.1 (T.R.nd u);exact(KM.1 this).2.2 w b w h2 rfl
def ji.labE (T:ji n r F f g) (C:RM r f g A B) (h2:∀u∈Ul f g,nx (Ul f g) u≠u) {G:Nat} (J:G∈Ul f g):∃le,kg r f g A B le:=by
 obtain⟨X,S⟩:=T.sideU C h2;have uz:=T.uz;have UZ:=fun{u} (b:u∈Ul f g) {v}=>T.G9 (v:=v) b (h2 u b) (S u b);have H:r G≠[]:=fun e=>by
  have:=(C.c G J).perm.length_eq;rw[e]at this;simp at this
 have Jc:∀v:Nat,∃u,v∉Ul f g->r v≠[]->u∈Ul f g/\X u v/\∀w∈Ul f g,X w v->w=u:=fun v=>by
  by_cases h:v∉Ul f g/\r v≠[]
  .obtain ⟨u, h3, I, M⟩ := T.NH C h2 S J (T.je G v H h.2) h.1
   exact⟨u,fun _ _=>⟨h3,I,M⟩⟩
  .exact⟨0,fun h3 I=>absurd ⟨h3,I⟩ h⟩
 obtain⟨NH,y⟩:=OT Jc;have a:∀{v w},w∈r v->r v≠[]:=fun h e=>by rw[e]at h;cases h
 have j:∀u∈Ul f g,∀w∈A u++[pv g u],w∉Ul f g->NH w=u:=fun u b w hw d=>by
  have p:w∈r u:=(C.c u b).perm.mem_iff.2 (KF _ hw);obtain⟨_,_,k⟩:=y w d (a (T.R.sy _ _ p));exact(k u b ((S u b).xa w hw fun e=>d (e▸zc b))).symm
 have m:∀u∈Ul f g,∀w∈B u++[pv f u],w∉Ul f g->NH w=pv (Ul f g) u:=fun u b w hw d=>by
  have p:w∈r u:=(C.c u b).perm.mem_iff.2 (KQ _ hw);obtain⟨_,_,k⟩:=y w d (a (T.R.sy _ _ p));have s:=j8 b;have D:=(S _ s).xb;rw[mz uz b]at D;exact(k _ s (D w hw fun e=>d (e▸s))).symm
 have l:∀v w,w∈r v->v∉Ul f g->w∉Ul f g->NH v=NH w:=fun v w hw i d=>by
  obtain⟨k1,k2,_⟩:=y v i (a hw);obtain⟨_,_,N⟩:=y w d (a (T.R.sy _ _ hw));have o:∀z∉Ul f g,z≠NH v/\z≠nx (Ul f g) (NH v):=fun z K=>⟨fun e=>K (e▸k1),fun e=>K (e▸zc k1)⟩;exact N _ k1 (((S _ k1).xA v w hw (o v i).1 (o v i).2 (o w d).1 (o w d).2).1 k2)
 have t:∀v∈Ul f g,∀w∈Ul f g,w∈A v++[pv g v]->v∈B w++[pv f w]/\pv (Ul f g) w=v:=fun v i w hw hA=>by
  have p:w∈r v:=(C.c v i).perm.mem_iff.2 (KF _ hA);have x:w≠v:=fun e=>T.R.ir v (e▸p);have e:w=nx (Ul f g) v:=mS fun h=>UZ i hw x h ((S v i).xa w hA h);subst e;exact⟨(S v i).fj.1 hA,Zt uz i⟩
 have E:∀v∈Ul f g,∀w∈Ul f g,w∈B v++[pv f v]->v∈A w++[pv g w]/\pv (Ul f g) v=w:=fun v i w hw hB=>by
  have p:w∈r v:=(C.c v i).perm.mem_iff.2 (KQ _ hB);have x:w≠v:=fun e=>T.R.ir v (e▸p);have s:=j8 i;have D:=(S _ s).xb;have L:=(S _ s).fj;rw[mz uz i]at D L;have e:w=pv (Ul f g) v:=mS fun h=>UZ s hw h (by rw[mz uz i];exact x) (D w hB h);subst e;exact⟨L.2 hB,rfl⟩
 refine⟨fun v w=>if v∉Ul f g then NH v else if w∉Ul f g then NH w else if w∈A v++[pv g v]then v else pv (Ul f g) v,fun v w hw=>?_,fun v w hw=>?_,fun v i w w' _ _=>?_,fun u b w hw=>?_,fun u b w hw=>?_⟩
 .show (if v ∉ Ul f g then NH v else if w ∉ Ul f g then NH w else if w ∈ A v ++ [pv g v] then v else pv (Ul f g) v) = if w ∉ Ul f g then NH w else if v ∉ Ul f g then NH v else if v ∈ A w ++ [pv g w] then w else pv (Ul f g) w
  by_cases c1:v∈Ul f g
  .rw [if_neg (not_not_intro c1)]
   by_cases c2:w∈Ul f g
   .rw [if_neg (not_not_intro c2), if_neg (not_not_intro c2), if_neg (not_not_intro c1)]
    by_cases hA:w∈A v++[pv g v]
    .obtain ⟨k1, k2⟩ := t v c1 w c2 hA
     rw[if_pos hA,if_neg fun q=>C.eX T c2 q k1,k2]
    .have hB := (uK.1 ((C.c v c1).perm.mem_iff.1 hw)).resolve_left hA
     obtain⟨k1,k2⟩:=E v c1 w c2 hB;rw[if_neg hA,if_pos k1,k2]
   .rw[if_pos c2,if_pos c2]
  .rw [if_pos c1]
   by_cases c2:w∈Ul f g
   .rw[if_neg (not_not_intro c2),if_pos c1]
   .rw[if_pos c2];exact l v w hw c1 c2
 .show (if v ∉ Ul f g then NH v else if w ∉ Ul f g then NH w else if w ∈ A v ++ [pv g v] then v else pv (Ul f g) v) ∈ Ul f g
  by_cases c1:v∈Ul f g
  .rw [if_neg (not_not_intro c1)]
   by_cases c2:w∈Ul f g
   .rw [if_neg (not_not_intro c2)]
    split
    .exact c1
    .exact j8 c1
   .rw[if_pos c2];exact(y w c2 (a (T.R.sy _ _ hw))).1
  .rw[if_pos c1];exact(y v c1 (a hw)).1
 .show (if v ∉ Ul f g then NH v else _) = if v ∉ Ul f g then NH v else _
  rw[if_pos i,if_pos i]
 .show (if u ∉ Ul f g then NH u else if w ∉ Ul f g then NH w else if w ∈ A u ++ [pv g u] then u else pv (Ul f g) u) = u
  rw[if_neg (not_not_intro b)];by_cases c2:w∈Ul f g
  .rw[if_neg (not_not_intro c2),if_pos hw]
  .rw[if_pos c2];exact j u b w hw c2
 .show (if u ∉ Ul f g then NH u else if w ∉ Ul f g then NH w else if w ∈ A u ++ [pv g u] then u else pv (Ul f g) u) = pv (Ul f g) u
  rw[if_neg (not_not_intro b)];by_cases c2:w∈Ul f g
  .rw[if_neg (not_not_intro c2),if_neg fun q=>C.eX T b q hw]
  .rw[if_pos c2];exact m u b w hw c2
def kg.qZ (T:ji n r F f g) (C:RM r f g A B) {le:Nat->Nat->Nat} (L:kg r f g A B le) {h:wi} (hh:h∈F) (hf:h≠f) (hg:h≠g) {z:Nat} (b:z∈h):le z (nx h z)=le (nx h z) (nx h (nx h z)):=by
 have p:=T.O.cG h hh z b;have hs:=T.O.step h hh z b;have hw:=zc b;have j:=T.O.cG h hh _ hw;rw[L.sym _ _ p];have a:=T.R.sy _ _ p;generalize d:nx h z=w at*;by_cases c:w∈Ul f g
 .obtain ⟨c1, c2⟩ := Wa.1 c
  obtain⟨t,u,_⟩:=T.O.pv T.hf c1;obtain⟨v,x,_⟩:=T.O.pv T.hg c2;have y:z≠pv f w:=fun e=>hf (T.O.uniq h hh f T.hf z b (e▸t) (by rw[d,e,u]));have D:z≠pv g w:=fun e=>hg (T.O.uniq h hh g T.hg z b (e▸v) (by rw[d,e,x]));have i:=C.c w c;have nd:=T.R.nd w;have s:=i.perm.nodup_iff.1 nd;have n3:((B w++[pv f w])++(A w++[pv g w])).Nodup:=FV.nodup_iff.1 s;rcases uK.1 (i.perm.mem_iff.1 a)with hA|hB
  .have k : z ∈ A w := (uK.1 hA).resolve_right fun q => D (Rb.1 q)
   have l:nx (r w) z=nx (A w++[pv g w]) z:=by rw[i.nx nd a,(Rj s).1 z k]
   have m:nx h w∈A w++[pv g w]:=by rw[<-hs,l];exact zc hA
   rw[L.out w c z hA,L.out w c _ m]
  .have o : z ∈ B w := (uK.1 hB).resolve_right fun q => y (Rb.1 q)
   have l:nx (r w) z=nx (B w++[pv f w]) z:=by rw[i.shift.nx nd a,(Rj n3).1 z o]
   have m:nx h w∈B w++[pv f w]:=by rw[<-hs,l];exact zc hB
   rw[L.inn w c z hB,L.inn w c _ m]
 .exact L.same w c z _ a j
def kg.K8 (T:ji n r F f g) (C:RM r f g A B) {le:Nat->Nat->Nat} (L:kg r f g A B le) {h:wi} (hh:h∈F) (hf:h≠f) (hg:h≠g) {z y:Nat} (a:z∈h) (c:y∈h):le z (nx h z)=le y (nx h y):=by
 obtain⟨k,rfl⟩:=Ma (T.O.nd h hh) a c
 induction k with
 |zero=>rfl
 |succ k d=>
  have b:=(T.O.it hh a k).1;rw[d b];exact L.qZ T C hh hf hg b
end
end Go.Fw
namespace Go.Fw
attribute [local instance] Classical.propDecidable
structure x5 (n:Nat) (R:Nat->wi) (U:wi) (SE:Nat->Nat->Prop) (tl:Nat->Nat->Nat) (XL Q YL P:Nat->wi):Prop where
 Pc:ZJ n R
 nd:U.Nodup
 two:∀u∈U,nx U u≠u
 ssym:∀v w,SE v w->SE w v
 tsym:∀v w,w∈R v->tl v w=tl w v
 all:∀v,v∉U->(∀w∈R v,SE v w)\/((∀w∈R v,¬SE v w)/\∀w∈R v,∀w'∈R v,tl v w=tl v w')
 bK:∀u∈U,Cyc (R u) (XL u++(Q u++(YL u++P u)))
 xl:∀u∈U,∀w∈XL u,¬SE u w/\tl u w=u
 yl:∀u∈U,∀w∈YL u,¬SE u w/\tl u w=pv U u
 q:∀u∈U,∀w∈Q u,SE u w
 p:∀u∈U,∀w∈P u,SE u w
 xne:∀u∈U,XL u≠[]
 yne:∀u∈U,YL u≠[]
noncomputable def eP (c:Prop) (l:wi):wi:=if c then l.reverse else l
def Hc {c:Prop} {l:wi} {x:Nat}:x∈eP c l↔x∈l:=by
 unfold eP;split
 .exact PT
 .rfl
def yE (c:Prop) (l:wi):(eP c l).Perm l:=by
 unfold eP;split
 .exact fw l
 .exact .refl l
def ur {c:Prop} {l:wi} (h:l≠[]):eP c l≠[]:=fun e=>by
 have:=(yE c l).length_eq;rw[e]at this;exact h (b7 this.symm)
noncomputable def RJ (R:Nat->wi) (U:wi) (SE:Nat->Nat->Prop) (tl:Nat->Nat->Nat) (XL Q YL P:Nat->wi) (J:Nat->Prop) (v:Nat):wi:=
 if v∈U then eP (J v) (XL v)++(Q v++(eP (J (pv U v)) (YL v)++P v))
 else eP ((∃w∈R v,¬SE v w)/\J (tl v ((R v).headD 0))) (R v)
section
variable {n : Nat} {R : Nat → List Nat} {U : List Nat} {SE : Nat → Nat → Prop} {tl : Nat → Nat → Nat} {XL Q YL P : Nat → List Nat} {J : Nat → Prop}
def x5.perm (B:x5 n R U SE tl XL Q YL P) (J:Nat->Prop) (v:Nat):(RJ R U SE tl XL Q YL P J v).Perm (R v):=by
 unfold RJ;split
 .rename_i h
  refine List.Perm.trans ?_ (B.bK v h).perm.symm;exact(yE _ _).append ((List.Perm.refl _).append ((yE _ _).append (.refl _)))
 .exact yE _ _
def x5.aaI (B:x5 n R U SE tl XL Q YL P) (J:Nat->Prop):ZJ n (RJ R U SE tl XL Q YL P J):=by
 have a:∀{v w},w∈RJ R U SE tl XL Q YL P J v↔w∈R v:=fun{v w}=>(B.perm J v).mem_iff;exact⟨fun v=>(B.perm J v).nodup_iff.2 (B.Pc.nd v),fun v w h=>B.Pc.lt v w (a.1 h),fun v w h=>a.2 (B.Pc.sy v w (a.1 h)),fun v h=>B.Pc.ir v (a.1 h)⟩
def Xe {l:wi} (h:l≠[]):∃A x,l=A++[x]:=⟨l.dropLast,l.getLast h,(aa h).symm⟩
def x5.step (B:x5 n R U SE tl XL Q YL P) {u:Nat} (i:u∈U) (K:¬J u):Flat n (RJ R U SE tl XL Q YL P (fun v=>J v\/v=u))↔Flat n (RJ R U SE tl XL Q YL P J):=by
 have hw:=zc i;have m:=B.two u i;have o:pv U (nx U u)=u:=Zt B.nd i;have G:pv U u≠u:=fun e=>m (by have:=mz B.nd i;rw[e]at this;exact this);have r:∀v∈U,v≠nx U u->pv U v≠u:=fun v L h e=>h (by rw[<-e,mz B.nd L]);generalize nx U u=w at*;have F:∀{v z},z∈RJ R U SE tl XL Q YL P J v↔z∈R v:=fun{v z}=>(B.perm J v).mem_iff;have hR:∀v∈U,∀z,z∈R v↔z∈XL v\/z∈Q v\/z∈YL v\/z∈P v:=fun v L z=>by
  rw[(B.bK v L).perm.mem_iff];simp only[uK]
 obtain⟨A,x,M⟩:=Xe (B.xne u i);obtain⟨C,y,N⟩:=Xe (l:=Q u++(eP (J (pv U u)) (YL u)++P u)) (fun e=>ur (B.yne u i) (Zf.1 (Zf.1 e).2).1);obtain⟨W,x',s⟩:=Xe (B.yne w hw);obtain⟨C',X,t⟩:=Xe (l:=P w++(eP (J w) (XL w)++Q w)) (fun e=>ur (B.xne w hw) (Zf.1 (Zf.1 e).2).1);have Y:RJ R U SE tl XL Q YL P J u=XL u++(Q u++(eP (J (pv U u)) (YL u)++P u)):=by
  unfold RJ;rw[if_pos i];congr 1;unfold eP;rw[if_neg K]
 have O:Cyc (RJ R U SE tl XL Q YL P J w) (YL w++(P w++(eP (J w) (XL w)++Q w))):=by
  have e:RJ R U SE tl XL Q YL P J w=(eP (J w) (XL w)++Q w)++(YL w++P w):=by
   unfold RJ;rw[if_pos hw,o];have:eP (J u) (YL w)=YL w:=by unfold eP;rw[if_neg K]
   rw[this];simp
  have H:Cyc (RJ R U SE tl XL Q YL P J w) ((eP (J w) (XL w)++Q w)++(YL w++P w)):=by rw[e];exact Cyc.refl _
  have h2:=H.shift;simpa using h2
 have T:DL n (RJ R U SE tl XL Q YL P J) (fun a b=>b∈R a/\¬SE a b/\tl a b=u) u w A x C y W x' C' X:=by
  refine⟨B.aaI J,fun a b h=>⟨B.Pc.sy _ _ h.1,fun q=>h.2.1 (B.ssym _ _ q),by rw[<-B.tsym a b h.1];exact h.2.2⟩,Hn m,fun v H h2=>?_,?_,fun a ha=>?_,fun b hb=>?_,?_,fun a ha=>?_,fun b hb=>?_⟩
  .by_cases c : v ∈ U
   .right
    intro z f h;rcases(hR v c z).1 (F.1 f)with q|q|q|q
    .exact H ((B.xl v c z q).2.symm.trans h.2.2)
    .exact h.2.1 (B.q v c z q)
    .exact r v c h2 ((B.yl v c z q).2.symm.trans h.2.2)
    .exact h.2.1 (B.p v c z q)
   .rcases B.all v c with q | ⟨Z, q2⟩
    .exact .inr fun z f h=>h.2.1 (q z (F.1 f))
    .by_cases d : ∃ z ∈ R v, tl v z = u
     .obtain ⟨z0, S, e0⟩ := d
      exact .inl fun z f=>⟨F.1 f,Z z (F.1 f),(q2 z (F.1 f) z0 S).trans e0⟩
     .exact .inr fun z f h=>d ⟨z,h.1,h.2.2⟩
  .rw[<-M,<-N,Y];exact Cyc.refl _
  .rw [<- M] at ha
   exact⟨(hR u i a).2 (.inl ha),(B.xl u i a ha).1,(B.xl u i a ha).2⟩
  .rw [<- N] at hb
   intro h;rcases uK.1 hb with q|q
   .exact h.2.1 (B.q u i b q)
   rcases uK.1 q with q|q
   .exact G ((B.yl u i b (Hc.1 q)).2.symm.trans h.2.2)
   .exact h.2.1 (B.p u i b q)
  .rw[<-s,<-t];exact O
  .rw [<- s] at ha
   exact⟨(hR w hw a).2 (.inr (.inr (.inl ha))),(B.yl w hw a ha).1,by rw[(B.yl w hw a ha).2,o]⟩
  .rw [<- t] at hb
   intro h;rcases uK.1 hb with q|q
   .exact h.2.1 (B.p w hw b q)
   rcases uK.1 q with q|q
   .exact m ((B.xl w hw b (Hc.1 q)).2.symm.trans h.2.2)
   .exact h.2.1 (B.q w hw b q)
 rw[<-T.PM];refine qD.flat (fun v=>?_) (B.aaI _);rw[<-M,<-N,<-s,<-t];unfold kW;by_cases c1:v=u
 .subst c1
  rw[if_pos rfl];have e:RJ R U SE tl XL Q YL P (fun z=>J z\/z=v) v=(XL v).reverse++(Q v++(eP (J (pv U v)) (YL v)++P v)):=by
   unfold RJ;rw[if_pos i];have D:eP (J v\/v=v) (XL v)=(XL v).reverse:=by unfold eP;rw[if_pos (.inr rfl)]
   have E:eP (J (pv U v)\/pv U v=v) (YL v)=eP (J (pv U v)) (YL v):=by
    have:(J (pv U v)\/pv U v=v)=J (pv U v):=propext ⟨fun h=>h.resolve_right G,.inl⟩;rw[this]
   rw[D,E]
  rw[e];exact Cyc.refl _
 rw[if_neg c1];by_cases c2:v=w
 .subst c2
  rw[if_pos rfl];have e:RJ R U SE tl XL Q YL P (fun z=>J z\/z=u) v=(eP (J v) (XL v)++Q v)++((YL v).reverse++P v):=by
   unfold RJ;rw[if_pos hw,o];have D:eP (J v\/v=u) (XL v)=eP (J v) (XL v):=by
    have:(J v\/v=u)=J v:=propext ⟨fun h=>h.resolve_right c1,.inl⟩;rw[this]
   have E:eP (J u\/u=u) (YL v)=(YL v).reverse:=by unfold eP;rw[if_pos (.inr rfl)]
   rw[D,E];simp
  have H:Cyc (RJ R U SE tl XL Q YL P (fun z=>J z\/z=u) v) ((eP (J v) (XL v)++Q v)++((YL v).reverse++P v)):=by rw[e];exact Cyc.refl _
  simpa using H.shift
 rw[if_neg c2];by_cases g:v∈U
 .have V:¬∃a∈RJ R U SE tl XL Q YL P J v,a∈R v/\¬SE v a/\tl v a=u:=fun⟨z,f,h⟩=>by
   rcases(hR v g z).1 h.1 with q|q|q|q
   .exact c1 ((B.xl v g z q).2.symm.trans h.2.2)
   .exact h.2.1 (B.q v g z q)
   .exact r v g c2 ((B.yl v g z q).2.symm.trans h.2.2)
   .exact h.2.1 (B.p v g z q)
  rw[if_neg V];have e:RJ R U SE tl XL Q YL P (fun z=>J z\/z=u) v=RJ R U SE tl XL Q YL P J v:=by
   unfold RJ;rw[if_pos g,if_pos g];have D:(J v\/v=u)=J v:=propext ⟨fun h=>h.resolve_right c1,.inl⟩;have E:(J (pv U v)\/pv U v=u)=J (pv U v):=propext ⟨fun h=>h.resolve_right (r v g c2),.inl⟩;simp only[D,E]
  rw[e];exact Cyc.refl _
 .by_cases I : ∃ a ∈ RJ R U SE tl XL Q YL P J v, a ∈ R v /\ ¬ SE v a /\ tl v a = u
  .rw [if_pos I]
   obtain⟨z,_,f,hs,ht⟩:=I;have j:R v≠[]:=fun e=>by rw[e]at f;cases f
   have k:tl v ((R v).headD 0)=u:=by
    rcases B.all v g with q|⟨_,q⟩
    .exact absurd (q z f) hs
    .exact(q _ (Iu j) z f).trans ht
   have D:RJ R U SE tl XL Q YL P J v=R v:=by
    unfold RJ eP;rw[if_neg g,if_neg fun h=>K (k▸h.2)]
   have E:RJ R U SE tl XL Q YL P (fun z=>J z\/z=u) v=(R v).reverse:=by
    unfold RJ eP;rw[if_neg g,if_pos ⟨⟨z,f,hs⟩,.inr k⟩]
   rw[D,E];exact Cyc.refl _
  .rw [if_neg I]
   have e:RJ R U SE tl XL Q YL P (fun z=>J z\/z=u) v=RJ R U SE tl XL Q YL P J v:=by
    unfold RJ;rw[if_neg g,if_neg g];congr 1;refine propext ⟨fun h=>⟨h.1,h.2.resolve_right fun e=>?_⟩,fun h=>⟨h.1,.inl h.2⟩⟩;obtain⟨z,f,hs⟩:=h.1;have j:R v≠[]:=fun e=>by rw[e]at f;cases f
    refine I ⟨_,F.2 (Iu j),Iu j,?_,e⟩;rcases B.all v g with q|⟨q,_⟩
    .exact absurd (q z f) hs
    .exact q _ (Iu j)
   rw[e];exact Cyc.refl _
def aN {J K:Nat->Prop} (h:∀v,J v↔K v):RJ R U SE tl XL Q YL P J=RJ R U SE tl XL Q YL P K:=by
 have:J=K:=funext fun v=>propext (h v);rw[this]
def x5.flatJ (B:x5 n R U SE tl XL Q YL P) (hf:Flat n R):∀L:wi,L.Nodup->(∀u∈L,u∈U)->Flat n (RJ R U SE tl XL Q YL P fun v=>v∈L)
 |[],_,_=>by
  refine(qD.flat (fun v=>?_) (B.aaI _)).2 hf;unfold RJ eP;split
  .rename_i h
   simpa using(B.bK v h).symm
  .simp only[RF,and_false,if_false];exact Cyc.refl _
 |u::L,nd,a=>by
  rw[tS]at nd;have b:=B.flatJ hf L nd.2 fun v c=>a v (Gs _ c);rw[aN (K:=fun v=>v∈L\/v=u) fun v=>by rw[aH,or_comm]];exact(B.step (a u jR) nd.1).2 b
noncomputable def JP (R:Nat->wi) (U:wi) (SE:Nat->Nat->Prop) (XL Q YL P:Nat->wi) (v:Nat):wi:=
 if v∈U then XL v++((P v).reverse++(YL v++(Q v).reverse))else if∃w∈R v,¬SE v w then R v else(R v).reverse
def x5.JP (B:x5 n R U SE tl XL Q YL P) (hf:Flat n R) (a:∀v,v∉U->∀w∈R v,¬SE v w->tl v w∈U):qD (qH (RJ R U SE tl XL Q YL P fun v=>v∈U)) (JP R U SE XL Q YL P)/\Flat n (Go.Fw.JP R U SE XL Q YL P)/\ZJ n (Go.Fw.JP R U SE XL Q YL P):=by
 have g:=B.aaI fun v=>v∈U;have S:qD (qH (RJ R U SE tl XL Q YL P fun v=>v∈U)) (Go.Fw.JP R U SE XL Q YL P):=fun v=>by
  unfold qH Go.Fw.JP RJ;by_cases c:v∈U
  .rw [if_pos c, if_pos c]
   have j:eP (v∈U) (XL v)=(XL v).reverse:=by unfold eP;rw[if_pos c]
   have k:eP (pv U v∈U) (YL v)=(YL v).reverse:=by unfold eP;rw[if_pos (j8 c)]
   rw[j,k];have:((XL v).reverse++(Q v++((YL v).reverse++P v))).reverse=((P v).reverse++(YL v++(Q v).reverse))++XL v:=by simp
   rw[this];have h:Cyc (((P v).reverse++(YL v++(Q v).reverse))++XL v) (((P v).reverse++(YL v++(Q v).reverse))++XL v):=Cyc.refl _;exact h.shift
  .rw [if_neg c, if_neg c]
   by_cases d:∃w∈R v,¬SE v w
   .rw [if_pos d]
    obtain⟨z,f,hs⟩:=d;have b:R v≠[]:=fun e=>by rw[e]at f;cases f
    have i:∀w∈R v,¬SE v w:=by
     rcases B.all v c with q|⟨q,_⟩
     .exact absurd (q z f) hs
     .exact q
    have:eP ((∃w∈R v,¬SE v w)/\tl v ((R v).headD 0)∈U) (R v)=(R v).reverse:=by
     unfold eP;rw[if_pos ⟨⟨z,f,hs⟩,a v c _ (Iu b) (i _ (Iu b))⟩]
    rw[this,Ny];exact Cyc.refl _
   .rw [if_neg d]
    have:eP ((∃w∈R v,¬SE v w)/\tl v ((R v).headD 0)∈U) (R v)=R v:=by
     unfold eP;rw[if_neg fun h=>d h.1]
    rw[this];exact Cyc.refl _
 refine⟨S,?_,S.Pc (cH g)⟩;rw[<-S.flat (cH g),Kl g];exact B.flatJ hf U B.nd fun u l=>l
end
end Go.Fw
namespace Go.Fw
attribute [local instance] Classical.propDecidable
def insA:wi->Nat->Nat->wi
 |[],_,_=>[]
 |z::l,x,y=>if z=x then z::y::l else z::insA l x y
def mP {p q:wi} {x y:Nat} (h:x∉p):insA (p++x::q) x y=p++x::y::q:=by
 induction p with
 |nil=>simp[insA]
 |cons z p c=>
  rw[E9,insA,if_neg fun e=>h (by simp[e]),c fun h'=>h (Gs _ h')];rfl
def wC {l:wi} {x y:Nat} (nd:l.Nodup) (j:x∈l) (g:y∉l):
  (insA l x y).Nodup/\(∀z,z∈insA l x y↔z=y\/z∈l)/\(insA l x y).erase y=l/\nx (insA l x y) x=y/\nx (insA l x y) y=nx l x/\(insA l x y).length=l.length+1:=by
 obtain⟨p,q,rfl,i⟩:=PH j;rw[mP i];have hyp:y∉p:=fun h=>g (by simp[h]);have d:y≠x:=fun e=>g (by simp[e]);have c:(p++x::y::q).Perm (y::(p++x::q)):=by
  have:(p++x::y::q)=(p++[x])++y::q:=by simp
  rw[this];refine List.perm_middle.trans ?_;simp
 refine⟨c.nodup_iff.2 (tS.2 ⟨g,nd⟩),fun z=>by rw[c.mem_iff,aH],?_,nj i,?_,by have:=c.length_eq;simpa using this⟩
 .rw[Z3 _ hyp,List.erase_cons_tail (by simpa using Ne.symm d),Zd]
 .have e : p ++ x :: y :: q = (p ++ [x]) ++ y :: q := by simp
  rw[e,BR (by simp[hyp,d]),BR i];cases q with
  |cons z q=>rfl
  |nil=>cases p<;>rfl
noncomputable def SZ (r:Nat->wi) (f:wi) (a b:Nat) (inn:wi):Nat->wi:=fun x=>
 if x=a then insA (r a) (pv f a) ((inn++[b]).headD 0)
 else if x=b then insA (r b) (pv f b) ((inn.reverse++[a]).headD 0)
 else if x∈inn then[pv (ZR a inn b) x,nx (ZR a inn b) x]
 else r x
def pv_adj {p rest:wi} {v z:Nat} (nd:(p++v::z::rest).Nodup):pv (p++v::z::rest) z=v:=by
 have c:v∉p:=fun h=>by rw[KM]at nd;exact nd.2.2 v h v YX rfl
 have:=Zt nd (y:=v) YX;rwa[nj c]at this
def Fp {L:wi} (nd:L.Nodup) {i x y:Nat} (c:L[i]?=some x) (h2:L[i+1]?=some y):nx L x=y/\pv L y=x:=by
 obtain⟨u,v,rfl⟩:=ZD c h2;refine⟨nj fun h=>?_,pv_adj nd⟩;rw[KM]at nd;exact nd.2.2 x h x YX rfl
def xx {p q:Nat} (h:p≠q):nx [p,q] p=q/\nx [p,q] q=p:=by
 refine⟨nj (p:=[]) YX,?_⟩;exact C2 (p:=[]) (x:=p) (v:=q) (by simp[Hn h])
section
variable {n : Nat} {r : Nat → List Nat} {F : List (List Nat)} {f : List Nat} {a b : Nat} {inn : List Nat}
structure BA (n:Nat) (r:Nat->wi) (f:wi) (a b:Nat) (inn:wi):Prop where
 ab:a≠b
 af:a∈f
 bf:b∈f
 nd:inn.Nodup
 off:∀x∈inn,r x=[]
 lt:∀x∈inn,x<n
 chord:inn=[]->b∉r a
def BA.ra (C:BA n r f a b inn) (O:FO r F) (hf:f∈F):r a≠[]/\r b≠[]:=
 ⟨(fun h=>by have:=O.cG f hf a C.af;rw[h]at this;cases this),(fun h=>by have:=O.cG f hf b C.bf;rw[h]at this;cases this)⟩
def BA.mf (C:BA n r f a b inn) (O:FO r F) (hf:f∈F):(ZR a inn b).Nodup:=by
 obtain⟨d,h2⟩:=C.ra O hf;rw[ZR,tS,uK,Rb,KM];refine⟨fun h=>h.elim (fun h=>d (C.off a h)) C.ab,C.nd,YX,fun x g y c e=>?_⟩;rw[Rb]at c;subst c e;exact h2 (C.off _ g)
def BA.s_new (C:BA n r f a b inn) (R:ZJ n r):(inn++[b]).headD 0∉r a:=by
 cases inn with
 |nil=>exact C.chord rfl
 |cons x l=>
  intro h;have:=R.sy _ _ h;rw[C.off _ YX]at this;cases this
def BA.t_new (C:BA n r f a b inn) (R:ZJ n r):(inn.reverse++[a]).headD 0∉r b:=by
 cases c:inn.reverse with
 |nil=>
  have:inn=[]:=by simpa using c
  exact fun h=>C.chord this (R.sy _ _ h)
 |cons x l=>
  intro h;have:=R.sy _ _ h;rw[C.off _ (PT.1 (by rw[c];simp))]at this;cases this
def BA.lay (C:BA n r f a b inn) (R:ZJ n r) (O:FO r F) (hf:f∈F):Lay n r (SZ r f a b inn) a b inn/\
  nx (SZ r f a b inn a) (pv f a)=(inn++[b]).headD 0/\nx (SZ r f a b inn b) (pv f b)=(inn.reverse++[a]).headD 0/\nx f a=nx (SZ r f a b inn a) ((inn++[b]).headD 0)/\nx f b=nx (SZ r f a b inn b) ((inn.reverse++[a]).headD 0):=by
 have nP:=C.mf O hf;obtain⟨ra,rb⟩:=C.ra O hf;have hs:=C.s_new R;have M:=C.t_new R;have pa:=O.Zy R hf C.af;have pb:=O.Zy R hf C.bf;have ea:SZ r f a b inn a=insA (r a) (pv f a) ((inn++[b]).headD 0):=if_pos rfl;have eb:SZ r f a b inn b=insA (r b) (pv f b) ((inn.reverse++[a]).headD 0):=by unfold SZ;rw[if_neg (Hn C.ab),if_pos rfl]
 have ain:a∉inn:=fun h=>ra (C.off a h);have bin:b∉inn:=fun h=>rb (C.off b h);have N:∀x∈inn,SZ r f a b inn x=[pv (ZR a inn b) x,nx (ZR a inn b) x]:=fun x l=>by
  have d:x≠a:=fun e=>ain (e▸l);have h2:x≠b:=fun e=>bin (e▸l);unfold SZ;rw[if_neg d,if_neg h2,if_pos l]
 have E:∀x,x≠a->x≠b->x∉inn->SZ r f a b inn x=r x:=fun x d h2 h3=>by
  unfold SZ;rw[if_neg d,if_neg h2,if_neg h3]
 obtain⟨P,G,Q,S,T,_⟩:=wC (R.nd a) pa hs;obtain⟨U,H,V,W,X,_⟩:=wC (R.nd b) pb M;have o:∀x∈inn,∃i p q:Nat,(ZR a inn b)[i]?=some p/\(ZR a inn b)[i+1]?=some x/\(ZR a inn b)[i+2]?=some q:=fun x l=>by
  obtain⟨i,p,d,h2⟩:=xD (a:=a) (b:=b) (.inr l);have u:=(bH.1 h2).1;have hi:i+2<(ZR a inn b).length:=by
   refine Jp u fun e=>?_;rw[OQ]at e;have:i=inn.length:=QT;subst this;rw[(YS a b inn).1]at h2;injection h2 with h2;exact bin (h2▸l)
  exact⟨i,p,_,d,h2,dR hi⟩
 have B:∀(i p x q:Nat),(ZR a inn b)[i]?=some p->(ZR a inn b)[i+1]?=some x->(ZR a inn b)[i+2]?=some q->x∈inn/\p≠q/\SZ r f a b inn x=[p,q]:=fun i p x q d h2 h3=>by
  have l:x∈inn:=by
   have J:=(bH.1 h3).1;rw[OQ]at J;have e:ZR a inn b=a::(inn++[b]):=rfl;rw[e,pF,US QT]at h2;exact Jb h2
  refine⟨l,fun e=>?_,?_⟩
  .have:=yQ nP d (by rw[h3,e]);omega
  .rw[N x l,(Fp nP d h2).2,(Fp nP h2 h3).1]
 have g:∀(i p x q:Nat),(ZR a inn b)[i]?=some p->(ZR a inn b)[i+1]?=some x->(ZR a inn b)[i+2]?=some q->nx (SZ r f a b inn x) p=q/\nx (SZ r f a b inn x) q=p/\∀y,y∈SZ r f a b inn x↔y=p\/y=q:=fun i p x q d h2 h3=>by
  obtain⟨_,m,e⟩:=B i p x q d h2 h3;rw[e];exact⟨(xx m).1,(xx m).2,fun y=>by simp⟩
 have j:∀(i x y:Nat),(ZR a inn b)[i]?=some x->(ZR a inn b)[i+1]?=some y->y∈SZ r f a b inn x/\x∈SZ r f a b inn y:=fun i x y d h2=>by
  have u:=(bH.1 h2).1;constructor
  .cases i with
   |zero=>
    obtain⟨z,A⟩:=W3 a b inn;have K:=d.symm.trans z;have L:=h2.symm.trans A;injection K with K;injection L with L;subst K L;rw[ea,G];exact .inl rfl
   |succ i=>
    have Y:(ZR a inn b)[i]?=some ((ZR a inn b)[i]'(by omega)):=dR QT
    exact((g i _ x y Y d h2).2.2 y).2 (.inr rfl)
  .by_cases c : i + 2 < (ZR a inn b).length
   .exact((g i x y _ d h2 (dR c)).2.2 x).2 (.inl rfl)
   .rw [OQ] at c u
    have:i=inn.length:=QT;subst this;obtain⟨z,A⟩:=YS a b inn;rw[z]at h2;rw[A]at d;injection d with d;injection h2 with h2;subst d h2;rw[eb,H];exact .inl rfl
 have k:∀v w,w∈SZ r f a b inn v->w∈r v\/∃i:Nat,((ZR a inn b)[i]?=some v/\(ZR a inn b)[i+1]?=some w)\/((ZR a inn b)[i]?=some w/\(ZR a inn b)[i+1]?=some v):=fun v w h=>by
  by_cases c1:v=a
  .subst c1
   rw[ea,G]at h;rcases h with h|h
   .obtain ⟨z, A⟩ := W3 v b inn
    exact .inr ⟨0,.inl ⟨z,by rw[h];exact A⟩⟩
   .exact .inl h
  by_cases c2:v=b
  .subst c2
   rw[eb,H]at h;rcases h with h|h
   .obtain ⟨z, A⟩ := YS a v inn
    exact .inr ⟨inn.length,.inr ⟨by rw[h];exact A,z⟩⟩
   .exact .inl h
  by_cases s:v∈inn
  .obtain ⟨i, p, q, d, h2, h3⟩ := o v s
   rcases((g i p v q d h2 h3).2.2 w).1 h with e|e
   .exact .inr ⟨i,.inr ⟨by rw[e];exact d,h2⟩⟩
   .exact .inr ⟨i+1,.inl ⟨h2,by rw[e];exact h3⟩⟩
  .rw[E v c1 c2 s]at h;exact .inl h
 have D:∀v w,w∈r v->w∈SZ r f a b inn v:=fun v w h=>by
  by_cases c1:v=a
  .subst c1;rw[ea,G];exact .inr h
  by_cases c2:v=b
  .subst c2;rw[eb,H];exact .inr h
  by_cases s:v∈inn
  .rw[C.off v s]at h;cases h
  .rw[E v c1 c2 s];exact h
 have t:∀(i x:Nat),(ZR a inn b)[i]?=some x->x<n:=fun i x h=>by
  have I:=Jb h;rw[ZR,aH,uK,Rb]at I;rcases I with rfl|I|rfl
  .exact R.lt _ _ pa
  .exact C.lt x I
  .exact R.lt _ _ pb
 have R':ZJ n (SZ r f a b inn):=by
  refine⟨fun v=>?_,fun v w h=>?_,fun v w h=>?_,fun v h=>?_⟩
  .by_cases c1 : v = a
   .subst c1;rw[ea];exact P
   by_cases c2:v=b
   .subst c2;rw[eb];exact U
   by_cases s:v∈inn
   .obtain ⟨i, p, q, d, h2, h3⟩ := o v s
    obtain⟨_,m,e⟩:=B i p v q d h2 h3;rw[e];simp[m]
   .rw[E v c1 c2 s];exact R.nd v
  .rcases k v w h with h | ⟨i, ⟨d, _⟩ | ⟨_, h2⟩⟩
   .exact R.lt _ _ h
   .exact t _ _ d
   .exact t _ _ h2
  .rcases k v w h with h | ⟨i, ⟨d, h2⟩ | ⟨d, h2⟩⟩
   .exact D _ _ (R.sy _ _ h)
   .exact(j i v w d h2).2
   .exact(j i w v d h2).1
  .rcases k v v h with h | ⟨i, ⟨d, h2⟩ | ⟨d, h2⟩⟩
   .exact R.ir v h
   .have:=yQ nP d h2;omega
   .have:=yQ nP d h2;omega
 refine⟨⟨R,R',C.ab,ra,rb,C.nd,C.off,E,by rw[ea];exact Q,by rw[ea,G];exact .inl rfl,by rw[eb];exact V,by rw[eb,H];exact .inl rfl,g⟩,by rw[ea];exact S,by rw[eb];exact W,?_,?_⟩
 .rw[ea,T];exact(O.pv hf C.af).2.2.symm
 .rw[eb,X];exact(O.pv hf C.bf).2.2.symm
end
end Go.Fw
namespace Go.Fw
attribute [local instance] Classical.propDecidable
def mW (l:wi) (x y:Nat):Prop:=∃i:Nat,l[i]?=some x/\l[i+1]?=some y
def iU (a:Nat) (inn:wi) (b:Nat) (x y:Nat):Prop:=mW (ZR a inn b) x y\/mW (ZR a inn b) y x
def xX {l:wi} {x y:Nat}:mW l.reverse x y↔mW l y x:=by
 have Jc:∀{l:wi} {x y:Nat},mW l x y->mW l.reverse y x:=fun{l x y} h=>by
  obtain⟨i,c,h2⟩:=h;have d:=(bH.1 h2).1;refine⟨l.length-2-i,?_,?_⟩
  .rw[kH QT,<-h2];congr 1;omega
  .rw[kH QT,<-c];congr 1;omega
 refine⟨fun h=>?_,Jc⟩;have:=Jc h;rwa[Ny]at this
def Zs {a b:Nat} {inn:wi} {x y:Nat} (h:iU a inn b x y):iU a inn b y x:=h.symm
def Ka {a b:Nat} {inn:wi} {x y:Nat}:iU b inn.reverse a x y↔iU a inn b x y:=by
 unfold iU;rw[<-vm,xX,xX,or_comm]
def KP {l:wi} (nd:l.Nodup) {p q:Nat->Prop} {s:Nat} (d:¬p s) (h:∀y∈l,q y↔p y\/y=s):(l.filter fun y=>decide (q y)).erase s=l.filter fun y=>decide (p y):=by
 rw[(nd.sublist F5).erase_eq_filter,Lm];refine SD fun y e=>?_;have:=h y e;by_cases c:y=s
 .subst c;simp[d]
 .simp[c,this]
structure yR (R:Nat->wi) (H:Nat->Nat->Prop) (a:Nat) (inn:wi) (b:Nat):Prop where
 nd:(ZR a inn b).Nodup
 fj:∀(i x y:Nat),(ZR a inn b)[i]?=some x->(ZR a inn b)[i+1]?=some y->y∈R x/\¬H x y
 off:∀x∈inn,∀w∈R x,¬H x w
 de:∃w∈R a,H a w
 fJ:∃w∈R b,H b w
section
variable {n : Nat} {R : Nat → List Nat} {H : Nat → Nat → Prop} {a b : Nat} {inn : List Nat}
def yR.rev (W:yR R H a inn b) (c:ZJ n R) (hs:∀v w,H v w->H w v):yR R H b inn.reverse a:=by
 refine⟨by rw[<-vm];exact Nc W.nd,fun i x y d h2=>?_,fun x e=>W.off x (PT.1 e),W.fJ,W.de⟩;have:mW (ZR a inn b).reverse x y:=⟨i,by rw[vm];exact d,by rw[vm];exact h2⟩;obtain⟨j,f,g⟩:=xX.1 this;obtain⟨k1,k2⟩:=W.fj j y x f g;exact⟨c.sy _ _ k1,fun q=>k2 (hs _ _ q)⟩
def yR.ab (W:yR R H a inn b):a≠b:=fun e=>by
 have:=W.nd;rw[ZR,tS]at this;exact this.1 (by simp[e])
def yR.wE (W:yR R H a inn b) (d:ZJ n R) (hs:∀v w,H v w->H w v) {x y:Nat} (h:iU a inn b x y):y∈R x/\¬H x y:=by
 rcases h with⟨i,c,h2⟩|⟨i,c,h2⟩
 .exact W.fj i x y c h2
 .obtain ⟨k1, k2⟩ := W.fj i y x c h2
  exact⟨d.sy _ _ k1,fun q=>k2 (hs _ _ q)⟩
def Ut {x y:Nat} (h:iU a inn b x y):x=a\/x=b\/x∈inn:=by
 have:x∈ZR a inn b:=by
  rcases h with⟨i,c,_⟩|⟨i,_,h2⟩
  .exact Jb c
  .exact Jb h2
 rw[ZR,aH,uK,Rb]at this;rcases this with h|h|h
 .exact .inl h
 .exact .inr (.inr h)
 .exact .inr (.inl h)
def yR.F3 (W:yR R H a inn b) {y:Nat}:iU a inn b a y↔y=(inn++[b]).headD 0:=by
 obtain⟨c,d⟩:=W3 a b inn;constructor
 .rintro (⟨i, e, h2⟩ | ⟨i, e, h2⟩)
  .have := yQ W.nd e c
   subst this;have:=h2.symm.trans d;injection this
  .have := yQ W.nd h2 c
   omega
 .rintro rfl
  exact .inl ⟨0,c,d⟩
def yR.x6 (W:yR R H a inn b) (c:ZJ n R) (hs:∀v w,H v w->H w v) {y:Nat}:iU a inn b b y↔y=(inn.reverse++[a]).headD 0:=by
 rw[<-Ka];exact(W.rev c hs).F3
def mC {l:wi} {p q:Nat} (nd:l.Nodup) (d:p≠q) (h:∀y,y∈l↔y=p\/y=q):nx l p=q/\nx l q=p:=by
 have pm:l.Perm [p,q]:=wI nd (by simp[d]) fun y=>by rw[h];simp
 have f:=pm.length_eq
 match l,f with
 |[x,y],_=>
  have g:=(h x).1 YX;have e:=(h y).1 YX;have c:x≠y:=by simpa using nd
  rcases g with rfl|rfl
  .rcases e with rfl | rfl
   .exact absurd rfl c
   .exact xx c
  .rcases e with rfl | rfl
   .exact(xx c).symm
   .exact absurd rfl c
noncomputable def r8 (R:Nat->wi) (H:Nat->Nat->Prop) (a:Nat) (inn:wi) (b:Nat):Nat->wi:=Ps (fun x y=>H x y\/iU a inn b x y) R
def yR.lay (W:yR R H a inn b) (c:ZJ n R) (hs:∀v w,H v w->H w v):Lay n (Ps H R) (r8 R H a inn b) a b inn:=by
 have g:∀v w,(H v w\/iU a inn b v w)->H w v\/iU a inn b w v:=fun v w h=>h.imp (hs v w) Zs;have d:∀{v:Nat},(∃w∈R v,H v w)->Ps H R v≠[]:=fun{v} ⟨w,f,h2⟩ e=>by
  have:w∈Ps H R v:=Bk.2 ⟨f,h2⟩;rw[e]at this;cases this
 have ends:∀{a b:Nat} {inn:wi} (_:yR R H a inn b),(r8 R H a inn b a).erase ((inn++[b]).headD 0)=Ps H R a/\(inn++[b]).headD 0∈r8 R H a inn b a:=fun{a b inn} W=>by
  obtain⟨k1,k2⟩:=W.wE c hs (W.F3.2 rfl);refine⟨KP (c.nd a) k2 fun y _=>or_congr yJ W.F3,?_⟩;exact Bk.2 ⟨k1,.inr (W.F3.2 rfl)⟩
 have z:r8 R H b inn.reverse a=r8 R H a inn b:=by
  unfold r8;have:(fun x y=>H x y\/iU b inn.reverse a x y)=fun x y=>H x y\/iU a inn b x y:=by
   funext x y;rw[Ka]
  rw[this]
 obtain⟨A,B⟩:=ends W;obtain⟨s,t⟩:=ends (W.rev c hs);rw[z]at s t;refine⟨Jt c hs,Jt c g,W.ab,d W.de,d W.fJ,?_,fun x k=>?_,fun x f h2 h3=>?_,A,B,s,t,fun i p x q f h2 h3=>?_⟩
 .have := W.nd
  rw[ZR,tS,KM]at this;exact this.2.1
 .exact Iw.2 fun w hw=>by simpa using W.off x k w hw
 .refine SD fun y _ => ?_
  have:¬iU a inn b x y:=fun h=>by
   rcases Ut h with h|h|h
   .exact f h
   .exact h2 h
   .exact h3 h
  simp[this]
 .have k:x∈inn:=by
   have l:=(bH.1 h3).1;rw[OQ]at l;have e:ZR a inn b=a::(inn++[b]):=rfl;rw[e,pF,US QT]at h2;exact Jb h2
  have m:p≠q:=fun e=>by
   subst e;have:=yQ W.nd f h3;omega
  have u:∀y,y∈r8 R H a inn b x↔y=p\/y=q:=fun y=>by
   unfold r8;rw[Bk];constructor
   .rintro ⟨k1, k2⟩
    rcases k2.resolve_left (W.off x k y k1)with⟨j,o,r⟩|⟨j,o,r⟩
    .have := yQ W.nd o h2
     subst this;exact .inr (by have:=r.symm.trans h3;injection this)
    .have := yQ W.nd r h2
     have:j=i:=QT;subst this;exact .inl (by have:=o.symm.trans f;injection this)
   .rintro (rfl | rfl)
    .have : iU a inn b x y := .inr ⟨i, f, h2⟩
     exact⟨(W.wE c hs this).1,.inr this⟩
    .have : iU a inn b x y := .inl ⟨i + 1, h2, h3⟩
     exact⟨(W.wE c hs this).1,.inr this⟩
  obtain⟨k1,k2⟩:=mC ((Jt c g).nd x) m u;exact⟨k1,k2,u⟩
def yR.aaJ (W:yR R H a inn b):r8 R H a inn b a=(R a).filter fun y=>decide (H a y\/y=(inn++[b]).headD 0):=by
 refine SD fun y _=>?_;rw[decide_eq_decide];exact or_congr yJ W.F3
end
end Go.Fw
namespace Go.Fw
attribute [local instance] Classical.propDecidable
structure Ctx (n:Nat) (R:Nat->wi) (H:Nat->Nat->Prop) (F:ai):Prop where
 Pc:ZJ n R
 sym:∀v w,H v w->H w v
 fl:Flat n R
 O:FO (Ps H R) F
 je:∀v w,Ps H R v≠[]->Ps H R w≠[]->Cr (Ps H R) v w
noncomputable def cl (R:Nat->wi) (H:Nat->Nat->Prop) (u x:Nat):wi:=(R u).filter fun w=>decide (H u w\/w=x)
noncomputable def V7 (R:Nat->wi) (H:Nat->Nat->Prop) (u x y:Nat):wi:=(R u).filter fun w=>decide ((H u w\/w=x)\/w=y)
structure uN (R:Nat->wi) (H:Nat->Nat->Prop) (g:wi) (u x:Nat):Prop where
 ug:u∈g
 at_:nx (cl R H u x) (pv g u)=x
section
variable {n : Nat} {R : Nat → List Nat} {H : Nat → Nat → Prop} {F : List (List Nat)} {a b : Nat} {inn : List Nat}
def yR.fst (W:yR R H a inn b) (c:ZJ n R) (hs:∀v w,H v w->H w v):(inn++[b]).headD 0∈R a/\¬H a ((inn++[b]).headD 0):=W.wE c hs (W.F3.2 rfl)
def yR.lst (W:yR R H a inn b) (c:ZJ n R) (hs:∀v w,H v w->H w v):(inn.reverse++[a]).headD 0∈R b/\¬H b ((inn.reverse++[a]).headD 0):=(W.rev c hs).fst c hs
def Ctx.drawn (C:Ctx n R H F) (W:yR R H a inn b):∃f∈F,uN R H f a ((inn++[b]).headD 0)/\uN R H f b ((inn.reverse++[a]).headD 0)/\
  nx f a=nx (r8 R H a inn b a) ((inn++[b]).headD 0)/\nx f b=nx (r8 R H a inn b b) ((inn.reverse++[a]).headD 0):=by
 have L:=W.lay C.Pc C.sym;have c:Flat n (r8 R H a inn b):=C.fl.keep C.Pc fun v w h=>h.imp (C.sym v w) Zs;obtain⟨f,hf,d,h2,h3,e,g,i⟩:=L.qZ C.O c (C.je _ _ L.ra L.rb);have j:r8 R H a inn b b=cl R H b ((inn.reverse++[a]).headD 0):=by
  refine SD fun y _=>?_;rw[decide_eq_decide];exact or_congr yJ (W.x6 C.Pc C.sym)
 exact⟨f,hf,⟨d,by rw[cl,<-W.aaJ];exact h3⟩,⟨h2,by rw[<-j];exact e⟩,g,i⟩
def Ctx.cS (C:Ctx n R H F) {g:wi} (hg:g∈F) {u x:Nat} (c:u∈g):pv g u∈cl R H u x/\H u (pv g u):=by
 have:=C.O.Zy (Jt C.Pc C.sym) hg c;obtain⟨d,h2⟩:=Bk.1 this;exact⟨by unfold cl;rw[sX];exact⟨d,by simp[h2]⟩,h2⟩
def Ctx.pn (C:Ctx n R H F) {g d:wi} (hg:g∈F) (c:d∈F) {u x:Nat} (h:uN R H g u x) (h':uN R H d u x):g=d:=by
 obtain⟨f,i,_⟩:=C.O.pv hg h.ug;obtain⟨j,k,_⟩:=C.O.pv c h'.ug;have e:=M6 ((C.Pc.nd u).sublist F5) (C.cS hg h.ug).1 (C.cS c h'.ug).1 (h.at_.trans h'.at_.symm);exact C.O.uniq g hg d c (pv g u) f (e▸j) (by rw[i,e,k])
def Ctx.aaK (C:Ctx n R H F) {g:wi} (hg:g∈F) {u j s x y:Nat} {c d A B:wi} (o:yR R H u c j) (t:yR R H u d s)
  (G:(c++[j]).headD 0=x) (U:(d++[s]).headD 0=y) (eX:∀v∈c,v∉d) (V:x≠y) (hc:uN R H g u x)
  (o1:nx (V7 R H u x y) x=y) (cy:Cyc g ((u::A)++(j::B))):s∈A\/s=j:=by
 have z:=C.Pc;have hs:=C.sym;have L1:=o.lay z hs;obtain⟨f,hf,c1,c2,d1,d2⟩:=C.drawn o;rw[G]at c1;have:=C.pn hf hg c1 hc;subst this;have er:r8 R H u c j j=cl R H j ((c.reverse++[u]).headD 0):=by
  refine SD fun y _=>?_;rw[decide_eq_decide];exact or_congr yJ (o.x6 z hs)
 have L:=L1.xy C.O hf cy (by rw[o.aaJ,G];exact c1.at_) (by rw[er];exact c2.at_) d1 d2;have I:∀v w,(H v w\/iU u c j v w)->H w v\/iU u c j w v:=fun v w h=>h.imp (hs v w) Zs;have k:∀{v:Nat},(∃w∈R v,H v w)->v∉c/\v∉d:=fun{v} ⟨w,m,h2⟩=>⟨fun q=>o.off v q w m h2,fun q=>t.off v q w m h2⟩;have W:∀p q,iU u c j p q->¬iU u d s p q:=fun p q m h2=>by
  have n2:∀{p:Nat},p=u\/p=s\/p∈d->p∉c:=fun{p} h X=>by
   rcases h with rfl|rfl|h
   .exact(k o.de).1 X
   .exact(k t.fJ).1 X
   .exact eX p X h
  have m1:=(Ut m);have m2:=(Ut (Zs m));have k1:=n2 (Ut h2);have k2:=n2 (Ut (Zs h2));have Jc:iU u c j u j->iU u d s u j->False:=fun g1 g2=>by
   have Q:=o.F3.1 g1;have K:=t.F3.1 g2;exact V (by rw[<-G,<-U,<-Q,<-K])
  rcases m1 with rfl|rfl|m1
  .rcases m2 with rfl | rfl | m2
   .exact z.ir _ (o.wE z hs m).1
   .exact Jc m h2
   .exact k2 m2
  .rcases m2 with rfl | rfl | m2
   .exact Jc (Zs m) (Zs h2)
   .exact z.ir _ (o.wE z hs m).1
   .exact k2 m2
  .exact k1 m1
 have M:yR R (fun v w=>H v w\/iU u c j v w) u d s:=by
  refine⟨t.nd,fun i p q m h2=>⟨(t.fj i p q m h2).1,fun h=>h.elim (t.fj i p q m h2).2 fun h=>W p q h (.inl ⟨i,m,h2⟩)⟩,fun v S w hw h=>h.elim (t.off v S w hw) fun h=>?_,?_,?_⟩
  .rcases Ut h with rfl | rfl | h
   .exact(k o.de).2 S
   .exact(k o.fJ).2 S
   .exact eX v h S
  .obtain⟨w,m,h2⟩:=t.de;exact⟨w,m,.inl h2⟩
  .obtain⟨w,m,h2⟩:=t.fJ;exact⟨w,m,.inl h2⟩
 have L2:=M.lay z I;have N:Flat n (r8 R (fun v w=>H v w\/iU u c j v w) u d s):=C.fl.keep z fun v w h=>h.imp (I v w) Zs;have P:Cr (Ps (fun v w=>H v w\/iU u c j v w) R) u s:=by
  have h0:Cr (Ps H R) u s:=by
   obtain⟨w,m,h2⟩:=t.fJ;refine C.je _ _ L1.ra fun e=>?_;have:w∈Ps H R s:=Bk.2 ⟨m,h2⟩;rw[e]at this;cases this
  refine h0.mono fun v w h=>?_;rw[Bk]at h ⊢;exact⟨h.1,.inl h.2⟩
 obtain⟨T,J,Q,K,e3,_⟩:=L2.qZ L N P;have Y:r8 R (fun v w=>H v w\/iU u c j v w) u d s u=V7 R H u x y:=by
  rw[M.aaJ];refine SD fun w _=>?_;rw[decide_eq_decide,U];exact or_congr (or_congr yJ (by rw[<-G];exact o.F3)) yJ
 rw[Y,U]at e3;have Z:(V7 R H u x y).Nodup:=(z.nd u).sublist F5;have ad:x∈V7 R H u x y:=by
  unfold V7;rw[sX];exact⟨G▸(o.fst z hs).1,YX⟩
 have ag:pv T u∈V7 R H u x y:=by
  have:=L.Zy (Jt z I) J Q;unfold r8 at this;rw[Bk]at this;unfold V7;rw[sX,decide_eq_true_eq];refine⟨this.1,.inl ?_⟩;rcases this.2 with h|h
  .exact .inl h
  .exact .inr (by rw[<-G];exact o.F3.1 h)
 have ah:pv T u=x:=M6 Z ag ad (e3.trans o1.symm);obtain⟨p1,p2,_⟩:=L.pv J Q;rw[ah]at p1 p2;have E:=L.nd _ (jR (a:=half u A j c));have D:x∈half u A j c/\nx (half u A j c) x=u:=by
  rcases iS c.reverse with e|⟨l,q,e⟩
  .have : c = [] := by simpa using e
   subst this;have ex:j=x:=G;unfold half;rw[e,<-ex];have r:=E;unfold half at r;rw[e]at r;refine⟨YX,C2 fun h=>?_⟩;have e':u::(A++[j])=(u::A)++[j]:=by simp
   rw[e',KM]at r;exact r.2.2 j h j YX rfl
  .have eq:q=x:=by
    have:=congrArg List.reverse e;rw[Ny]at this;rw[<-G,this];simp
   subst eq;have eh:half u A j c=u::((A++j::l)++[q]):=by unfold half;rw[e];simp
   rw[eh]at E ⊢;refine⟨YX,C2 fun h=>?_⟩;have e':u::((A++j::l)++[q])=(u::(A++j::l))++[q]:=by simp
   rw[e',KM]at E;exact E.2.2 q h q YX rfl
 have ef:T=half u A j c:=L.uniq T J _ jR x p1 D.1 (p2.trans D.2.symm);rw[ef]at K;unfold half at K;rw[aH,uK,aH,PT]at K;rcases K with h|h|h|h
 .exact absurd h.symm t.ab
 .exact .inl h
 .exact .inr h
 .exact absurd h (k t.fJ).1
end
end Go.Fw
namespace Go.Fw
attribute [local instance] Classical.propDecidable
def aaL {r:Nat->wi} {a b:Nat} (h:Cr r a b):∃l:wi,l.Nodup/\(∃t,l=a::t)/\(∃s,l=s++[b])/\(∀(i x y:Nat),l[i]?=some x->l[i+1]?=some y->y∈r x)/\∀v∈l,Cr r a v:=by
 induction h with
 |refl=>exact⟨[a],YX,⟨[],rfl⟩,⟨[],rfl⟩,fun i x y _ h2=>by simp at h2,fun v f=>by rw[Rb.1 f];exact .refl _⟩
 |@step b c hb o w=>
  obtain⟨l,nd,⟨t,g⟩,⟨s,es⟩,ch,u⟩:=w;by_cases m:c∈l
  .obtain ⟨p, q, e, E⟩ := PH m
   have e':l=(p++[c])++q:=by rw[e];simp
   refine⟨p++[c],?_,?_,⟨p,rfl⟩,fun i x y d h2=>?_,fun v f=>u v (by rw[e'];exact KF _ f)⟩
   .rw[e']at nd;exact(KM.1 nd).1
   .cases p with
    |nil=>
     rw[g]at e;injection e with j A;exact⟨[],by rw[j];rfl⟩
    |cons z p=>
     rw[g]at e;injection e with j A;exact⟨p++[c],by rw[j];rfl⟩
   .have k2 := (bH.1 h2).1
    refine ch i x y ?_ ?_
    .rw[e',US QT];exact d
    .rw[e',US k2];exact h2
  .refine ⟨l ++ [c], ?_, ⟨t ++ [c], by rw [g]; rfl⟩, ⟨l, rfl⟩, fun i x y d h2 => ?_, fun v f => ?_⟩
   .rw [KM]
    refine⟨nd,YX,fun x B y C e=>m ?_⟩;rw[<-Rb.1 C,<-e];exact B
   .by_cases k : i + 1 < l.length
    .rw [US QT] at d
     rw[US k]at h2;exact ch i x y d h2
    .have D := (bH.1 h2).1
     rw[Vw,SB]at D;have hi:i+1=l.length:=QT;rw[hi,kc (J4 _)]at h2;simp at h2;rw[US QT,es]at d;have:i=s.length:=by
      have:=congrArg List.length es;rw[Vw,SB]at this;omega
     rw[this,kc (J4 _)]at d;simp at d;rw[<-d,<-h2];exact o
   .rcases uK.1 f with h | h
    .exact u v h
    .rw[Rb.1 h];exact hb.step o
def off (R:Nat->wi) (H:Nat->Nat->Prop) (v:Nat):Prop:=∀w∈R v,¬H v w
def E2 {R:Nat->wi} {H:Nat->Nat->Prop} {v:Nat} (h:¬off R H v):∃w∈R v,H v w:=
 mS fun q=>h fun w a h2=>q ⟨w,a,h2⟩
noncomputable def Dt (R:Nat->wi) (H:Nat->Nat->Prop):Nat->wi:=Ps (fun v w=>off R H v/\off R H w) R
noncomputable def lo (R:Nat->wi) (H:Nat->Nat->Prop) (v:Nat):Nat:=Classical.epsilon fun w=>Cr (Dt R H) v w
noncomputable def Jc (R:Nat->wi) (H:Nat->Nat->Prop) (v w:Nat):Nat×Nat×Nat:=
 if off R H v then(0,lo R H v,0)else if off R H w then(0,lo R H w,0)else(1,min v w,max v w)
section
variable {n : Nat} {R : Nat → List Nat} {H : Nat → Nat → Prop}
def yp (a:ZJ n R):ZJ n (Dt R H):=Jt a fun _ _ h=>⟨h.2,h.1⟩
def Uu (v:Nat):Cr (Dt R H) v (lo R H v):=Classical.epsilon_spec (p:=fun w=>Cr (Dt R H) v w) ⟨v,.refl _⟩
def uB (a:ZJ n R) {v w:Nat}:lo R H v=lo R H w↔Cr (Dt R H) v w:=by
 constructor
 .intro e
  have b:=Uu (R:=R) (H:=H) v;have h2:=Uu (R:=R) (H:=H) w;rw[e]at b;exact b.trans (h2.symm (yp a))
 .intro h
  unfold lo;congr 1;funext z;exact propext ⟨fun q=>(h.symm (yp a)).trans q,fun q=>h.trans q⟩
def vd {v w:Nat} (h:off R H v):Jc R H v w=(0,lo R H v,0):=if_pos h
def ML {v w:Nat} (h:¬off R H v) (h2:off R H w):Jc R H v w=(0,lo R H w,0):=by unfold Jc;rw[if_neg h,if_pos h2]
def jT {v w:Nat} (h:¬off R H v) (h2:¬off R H w):Jc R H v w=(1,min v w,max v w):=by unfold Jc;rw[if_neg h,if_neg h2]
def uU (a:ZJ n R) {v w:Nat} (hw:w∈R v):Jc R H v w=Jc R H w v:=by
 by_cases c1:off R H v
 .by_cases c2 : off R H w
  .rw [vd c1, vd c2, (uB a).2]
   exact(Cr.refl _).step (Bk.2 ⟨hw,c1,c2⟩)
  .rw[vd c1,ML c2 c1]
 .by_cases c2 : off R H w
  .rw[vd c2,ML c1 c2]
  .rw[jT c1 c2,jT c2 c1,Nat.min_comm,Nat.max_comm]
def WG (A:ZJ n R) (hs:∀v w,H v w->H w v) {u x z y:Nat} (g:¬off R H u) (f:¬off R H z) (j:u≠z) (C:x∈R u) (m:¬H u x) (F:y∈R z) (ny:¬H z y) (b:Jc R H u x=Jc R H z y):
  ∃inn,yR R H u inn z/\(inn++[z]).headD 0=x/\(inn.reverse++[u]).headD 0=y/\∀v∈inn,off R H v/\Jc R H u x=(0,lo R H v,0):=by
 by_cases c1:off R H x
 .rw [ML g c1] at b
  have c2:off R H y:=mS fun q=>by
   rw[jT f q]at b;have:=congrArg Prod.fst b;simp at this
  rw[ML f c2]at b;have G:Cr (Dt R H) x y:=(uB A).1 (by injection b with _ b;injection b);obtain⟨l,nd,⟨t,D⟩,⟨s,es⟩,ch,E⟩:=aaL G;have a:∀v∈l,off R H v:=fun v d=>by
   cases E v d with
   |refl=>exact c1
   |step _ hw=>exact(Bk.1 hw).2.2
  refine⟨l,⟨?_,fun i p q c h2=>?_,fun v d=>a v d,E2 g,E2 f⟩,by rw[D];rfl,by rw[es];simp,fun v d=>⟨a v d,by rw[ML g c1,(uB A).2 (E v d)]⟩⟩
  .rw [ZR, tS, uK, Rb, KM]
   refine⟨fun h=>h.elim (fun h=>g (a u h)) j,nd,YX,fun p o q I e=>f ?_⟩;rw[<-Rb.1 I,<-e];exact a p o
  .have r := (bH.1 h2).1
   rw[OQ]at r;cases i with
   |zero=>
    have J:=(W3 u z l).1;have K:=(W3 u z l).2;have k1:=c.symm.trans J;have k2:=h2.symm.trans K;injection k1 with k1;injection k2 with k2;rw[k1,k2,D];exact⟨C,m⟩
   |succ i=>
    have e:ZR u l z=u::(l++[z]):=rfl;rw[e,pF]at c h2;rw[US QT]at c;have o:=a p (Jb c);by_cases k:i+1<l.length
    .rw [US k] at h2
     have:=Bk.1 (ch i p q c h2);exact⟨this.1,o q this.1⟩
    .have hi : i + 1 = l.length := QT
     rw[hi,kc (J4 _)]at h2;simp at h2;have B:i=s.length:=by
      have:=congrArg List.length es;rw[Vw,SB]at this;omega
     rw[es,B,kc (J4 _)]at c;simp at c;subst c h2;have:=A.sy _ _ F;exact⟨this,o _ this⟩
 .rw [jT g c1] at b
  have c2:¬off R H y:=fun q=>by
   rw[ML f q]at b;have:=congrArg Prod.fst b;simp at this
  rw[jT f c2]at b;injection b with _ b;injection b with c h2;have:z=x/\y=u:=QT;obtain⟨rfl,rfl⟩:=this;refine⟨[],⟨by simp[ZR,j],fun i p q c h2=>?_,fun v d=>absurd d RF,E2 g,E2 f⟩,rfl,rfl,fun v d=>absurd d RF⟩;have r:=(bH.1 h2).1;rw[OQ]at r;have:i=0:=by simp at r;omega
  subst this;have k1:=c.symm.trans (W3 y z []).1;have k2:=h2.symm.trans (W3 y z []).2;injection k1 with k1;injection k2 with k2;rw[k1,k2];exact⟨C,m⟩
end
end Go.Fw
namespace Go.Fw
attribute [local instance] Classical.propDecidable
def filter_none {l:wi} {p:Nat->Bool} (h:∀z∈l,¬p z=true):l.filter p=[]:=Iw.2 h
def filter_one {x:Nat} {p:Nat->Bool} (h:p x=true) {l:wi}:(x::l).filter p=x::l.filter p:=fC h
def sort3 {kd:Nat->Nat}:∀{c:wi},(∀x∈c,kd x<=2)->c.Pairwise (fun x y=>kd x<=kd y)->c=(c.filter fun x=>decide (kd x=0))++((c.filter fun x=>decide (kd x=1))++(c.filter fun x=>decide (kd x=2)))
 |[],_,_=>rfl
 |x::c,h,d=>by
  rw[jO]at d;have a:=sort3 (fun y b=>h y (Gs _ b)) d.2;have j:=h x jR;have f:0<kd x->(c.filter fun y=>decide (kd y=0))=[]:=fun q=>filter_none fun y b e=>by have:=d.1 y b;have:=of_decide_eq_true e;omega
  have i:1<kd x->(c.filter fun y=>decide (kd y=1))=[]:=fun q=>filter_none fun y b e=>by have:=d.1 y b;have:=of_decide_eq_true e;omega
  have cs:kd x=0\/kd x=1\/kd x=2:=QT;rcases cs with e|e|e
  .simp only [UR, e, decide_true, if_true, E9]
   simp[<-a]
  .rw [f QT] at a
   simp only[UR,e];rw[f QT];simpa using a
  .rw [f QT, i QT] at a
   simp only[UR,e];rw[f QT,i QT];simpa using a
structure FarP (R:Nat->wi) (H:Nat->Nat->Prop) (U:Nat->Prop) (g:wi) (u:Nat) (kd:Nat->Nat) (x z y:Nat):Prop where
 on:¬off R H z
 ne:u≠z
 zg:z∈g
 yz:y∈R z
 ny:¬H z y
 Jc:Jc R H u x=Jc R H z y
 k0:kd x=0->¬U z/\∀A B,Cyc g ((u::A)++(z::B))->∀v∈B,¬U v
 k1:kd x=1->U z
 k2:kd x=2->¬U z/\∀A B,Cyc g ((u::A)++(z::B))->∀v∈A,¬U v
section
variable {n : Nat} {R : Nat → List Nat} {H : Nat → Nat → Prop} {F : List (List Nat)} {g : List Nat} {u : Nat} {U : Nat → Prop} {kd : Nat → Nat}
def Ctx.Km (C:Ctx n R H F) (d:u∈g) {p q m:wi} {x:Nat} (cy:Cyc (R u) ((p++x::q)++(m++[pv g u]))) (k:∀z∈p++x::q,¬H u z) (f:H u (pv g u)):uN R H g u x:=by
 refine⟨d,?_⟩;have nd:=cy.perm.nodup_iff.1 (C.Pc.nd u);have n1:=(KM.1 nd).1;have i:x∉p:=fun h=>(KM.1 n1).2.2 x h x jR rfl;have j:x∉q:=(tS.1 (KM.1 n1).2.1).1;have e:Cyc (cl R H u x) (x::((m.filter fun w=>decide (H u w\/w=x))++[pv g u])):=by
  have:=cy.filter fun w=>decide (H u w\/w=x);have o:∀l:wi,(∀z∈l,¬H u z)->x∉l->l.filter (fun w=>decide (H u w\/w=x))=[]:=fun l r h2=>filter_none fun z b h=>(of_decide_eq_true h).elim (r z b) fun e=>h2 (e▸b);rw[zQ,zQ,zQ,o p (fun z b=>k z (by simp[b])) i,filter_one (decide_eq_true (.inr rfl)),o q (fun z b=>k z (by simp[b])) j,filter_one (decide_eq_true (.inl f))]at this;simpa[cl]using this
 have c:(cl R H u x).Nodup:=(C.Pc.nd u).sublist F5;have a:=e.perm.nodup_iff.1 c;have s:pv g u∈cl R H u x:=e.perm.mem_iff.2 YX;rw[e.nx c s];refine C2 fun h=>?_;have e':x::((m.filter fun w=>decide (H u w\/w=x))++[pv g u])=(x::(m.filter fun w=>decide (H u w\/w=x)))++[pv g u]:=by simp
 rw[e',KM]at a;exact a.2.2 _ h _ YX rfl
def Ctx.pairK (C:Ctx n R H F) (hg:g∈F) (d:u∈g) {p q s m:wi} {x y:Nat} (cy:Cyc (R u) ((p++x::(q++y::s))++(m++[pv g u]))) (t:∀z∈p++x::(q++y::s),¬H u z)
  {D y1 Q y2:Nat} (b:FarP R H U g u kd x D y1) (f:FarP R H U g u kd y Q y2) (hw:∃w∈g,U w/\w≠u) (hk:kd x≠kd y->Jc R H u x≠Jc R H u y) (b1:kd x<=2):kd x<=kd y:=by
 obtain⟨_,E⟩:=C.cS hg d (x:=x);have G:¬off R H u:=fun h=>h _ (Bk.1 (C.O.Zy (Jt C.Pc C.sym) hg d)).1 E;have nd:=cy.perm.nodup_iff.1 (C.Pc.nd u);have n1:=(KM.1 nd).1;have S:=(KM.1 n1).2.1;rw[tS,uK,aH]at S;have n3:=(KM.1 S.2);have V:x≠y:=fun e=>S.1 (.inr (.inl e));have W:x∉p:=fun h=>(KM.1 n1).2.2 x h x jR rfl;have hyp:y∉p:=fun h=>(KM.1 n1).2.2 y h y YX rfl;have X:x∉q:=fun h=>S.1 (.inl h);have Y:y∉q:=fun h=>n3.2.2 y h y YX rfl;refine aai fun ah=>?_;have I:=hk QT;have mx:x∈R u:=cy.perm.mem_iff.2 YX;have my:y∈R u:=cy.perm.mem_iff.2 YX;obtain⟨i1,W1,e1,_,o1⟩:=WG C.Pc C.sym G b.on b.ne mx (t x YX) b.yz b.ny b.Jc;obtain⟨i2,W2,e2,_,o2⟩:=WG C.Pc C.sym G f.on f.ne my (t y YX) f.yz f.ny f.Jc;have eX:∀v∈i1,v∉i2:=fun v Z h2=>I ((o1 v Z).2.trans (o2 v h2).2.symm);have J:uN R H g u x:=C.Km d cy t E;have o:nx (V7 R H u x y) x=y:=by
  have e:Cyc (V7 R H u x y) (x::y::((s.filter fun w=>decide ((H u w\/w=x)\/w=y))++((m++[pv g u]).filter fun w=>decide ((H u w\/w=x)\/w=y)))):=by
   have:=cy.filter fun w=>decide ((H u w\/w=x)\/w=y);have hN:∀l:wi,(∀z∈l,¬H u z)->x∉l->y∉l->l.filter (fun w=>decide ((H u w\/w=x)\/w=y))=[]:=fun l Z h2 h3=>filter_none fun z k h=>(of_decide_eq_true h).elim (fun h=>h.elim (Z z k) fun e=>h2 (e▸k)) fun e=>h3 (e▸k);rw[zQ,zQ,hN p (fun z k=>t z (by simp[k])) W hyp,filter_one (decide_eq_true (.inl (.inr rfl))),zQ,hN q (fun z k=>t z (by simp[k])) X Y,filter_one (decide_eq_true (.inr rfl))]at this;simpa[V7]using this
  have ad:(V7 R H u x y).Nodup:=(C.Pc.nd u).sublist F5;rw[e.nx ad (e.perm.mem_iff.2 YX)];exact nj (p:=[]) YX
 obtain⟨c,hc⟩:=Cyc.front d;have ag:D∈c:=by
  have:=hc.perm.mem_iff.1 b.zg;rw[aH]at this;exact this.resolve_left (Hn b.ne)
 obtain⟨A,B,rfl,_⟩:=PH ag;have a:Cyc g ((u::A)++(D::B)):=by simpa using hc
 have nc:=C.aaK hg W1 W2 e1 e2 eX V J o a;have i:Q∈A->∃K L,Cyc g ((u::K)++(Q::(L++D::B))):=fun h=>by
  obtain⟨K,L,rfl,_⟩:=PH h;exact⟨K,L,by simpa using a⟩
 have r:(kd x=1/\kd y=0)\/(kd x=2/\kd y=1)\/(kd x=2/\kd y=0):=QT;rcases r with⟨M,N⟩|⟨M,N⟩|⟨M,N⟩
 .have u1 := b.k1 M
  have j:=f.k0 N;rcases nc with h|h
  .obtain ⟨K, L, c2⟩ := i h
   exact j.2 _ _ c2 D YX u1
  .exact j.1 (h▸u1)
 .have u1 := b.k2 M
  have j:=f.k1 N;rcases nc with h|h
  .exact u1.2 _ _ a Q h j
  .exact u1.1 (h▸j)
 .have u1 := b.k2 M
  have j:=f.k0 N;obtain⟨w,w1,T,w3⟩:=hw;have P:w∈B:=by
   have:=a.perm.mem_iff.1 w1;rw[uK,aH,aH]at this;rcases this with(h|h)|h|h
   .exact absurd h w3
   .exact absurd T (u1.2 _ _ a w h)
   .exact absurd T (h▸u1.1)
   .exact h
  rcases nc with h|h
  .obtain ⟨K, L, c2⟩ := i h
   exact j.2 _ _ c2 w (by simp[P]) T
  .subst h
   exact j.2 _ _ a w P T
def Ctx.sorted (C:Ctx n R H F) (hg:g∈F) (d:u∈g) {m:wi} (hw:∃w∈g,U w/\w≠u):∀(c p:wi),Cyc (R u) ((p++c)++(m++[pv g u]))->(∀z∈p++c,¬H u z)->
  (∀x∈c,∃z y,FarP R H U g u kd x z y)->(∀x∈c,∀y∈c,kd x≠kd y->Jc R H u x≠Jc R H u y)->(∀x∈c,kd x<=2)->c.Pairwise fun x y=>kd x<=kd y
 |[],_,_,_,_,_,_=>List.Pairwise.nil
 |x::c,p,cy,h,e,i,hb=>by
  rw[jO];constructor
  .intro y j
   obtain⟨q,s,rfl,_⟩:=PH j;obtain⟨o,y1,k⟩:=e x jR;obtain⟨r,t,l⟩:=e y YX;exact C.pairK hg d cy h k l hw (i x jR y YX) (hb x jR)
  .refine C.sorted hg d (m:=m) hw c (p++[x]) (by simpa using cy) (by simpa using h) (fun z f=>e z (Gs _ f)) (fun a ha b hb=>i a (Gs _ ha) b (Gs _ hb)) fun z f=>hb z (Gs _ f)
end
end Go.Fw
namespace Go.Fw
attribute [local instance] Classical.propDecidable
def Sc {U:Nat->Prop}:∀{l:wi},(∃v∈l,U v)->∃s w t,l=s++w::t/\U w/\∀v∈s,¬U v
 |[],h=>by obtain⟨v,a,_⟩:=h;cases a
 |x::l,h=>by
  by_cases c:U x
  .exact⟨[],x,l,rfl,c,fun v a=>absurd a RF⟩
  .obtain ⟨v, a, d⟩ := h
   rcases aH.1 a with rfl|a
   .exact absurd d c
   .obtain ⟨s, w, t, rfl, e, h2⟩ := Sc ⟨v, a, d⟩
    refine⟨x::s,w,t,rfl,e,fun z b=>?_⟩;rcases aH.1 b with rfl|b
    .exact c
    .exact h2 z b
def aaM {U:Nat->Prop} {l:wi} (h:∃v∈l,U v):∃s w t,l=s++w::t/\U w/\∀v∈t,¬U v:=by
 obtain⟨v,a,b⟩:=h;obtain⟨s,w,t,e,c,h2⟩:=Sc (l:=l.reverse) ⟨v,PT.2 a,b⟩;refine⟨t.reverse,w,s.reverse,?_,c,fun z d=>h2 z (PT.1 d)⟩;have:=congrArg List.reverse e;rw[Ny]at this;rw[this];simp
def Rx {y:Nat}:∀{a b a' c:wi},a++y::b=a'++y::c->y∉a->y∉a'->a=a'/\b=c
 |[],b,[],c,h,_,_=>by simp at h;exact⟨rfl,h⟩
 |[],b,x::a',c,h,_,h2=>by
  simp at h;exact absurd (by simp[h.1]) h2
 |x::a,b,[],c,h,d,_=>by
  simp at h;exact absurd (by simp[h.1]) d
 |x::a,b,x'::a',c,h,d,h2=>by
  simp at h;obtain⟨e,h⟩:=h;obtain⟨k1,k2⟩:=Rx h (fun q=>d (Gs _ q)) (fun q=>h2 (Gs _ q));exact⟨by rw[e,k1],k2⟩
def Pn (p:Nat->Prop):∀m:wi,∃c b,m=c++b/\(∀z∈c,¬p z)/\(∀z t,b=z::t->p z)
 |[]=>⟨[],[],rfl,fun z d=>absurd d RF,fun z t h=>by cases h⟩
 |x::m=>by
  by_cases c:p x
  .exact⟨[],x::m,rfl,fun z d=>absurd d RF,fun z t h=>by injection h with h _;exact h▸c⟩
  .obtain ⟨a, b, rfl, e, h2⟩ := Pn p m
   refine⟨x::a,b,rfl,fun z d=>?_,h2⟩;rcases aH.1 d with rfl|d
   .exact c
   .exact e z d
def aaN {l s t:wi} {x:Nat} (nd:l.Nodup) (e:Cyc l (s++[x])) (h2:Cyc l (t++[x])):s=t:=by
 obtain⟨u,v,c,d⟩:=e.symm.trans h2;have n1:=e.perm.nodup_iff.1 nd;rcases iS u with rfl|⟨u',a,rfl⟩
 .rw [IT] at c
  rw[C7]at d;exact(qL247 (c.trans d.symm) rfl)
 .rcases iS v with rfl | ⟨v', b, rfl⟩
  .rw [C7] at c
   rw[IT]at d;exact(qL247 (c.trans d.symm) rfl)
  .exfalso
   rw[qL248,qL248,<-Nd]at c d;have ha:=qL242 c rfl;have hb:=qL242 d rfl;injection ha with ha;injection hb with hb;rw[c,<-ha,<-hb]at n1;exact(KM.1 n1).2.2 x YX x YX rfl
def decomp {l A B:wi} {x y:Nat} {p:Nat->Prop} (nd:l.Nodup) (h:Cyc (l.filter fun z=>decide (p z)) ((A++[x])++(B++[y]))):
  ∃c1 b c2 d,Cyc l ((c1++(b++[y]))++(c2++(d++[x])))/\(∀z∈c1,¬p z)/\(∀z∈c2,¬p z)/\(b.filter fun z=>decide (p z))=B/\(d.filter fun z=>decide (p z))=A/\(∀z t,b=z::t->p z)/\(∀z t,d=z::t->p z)/\p x/\p y:=by
 have o:x∈l.filter fun z=>decide (p z):=h.perm.mem_iff.2 YX;have s:y∈l.filter fun z=>decide (p z):=h.perm.mem_iff.2 YX;rw[sX]at o s;have C:=of_decide_eq_true o.2;have D:=of_decide_eq_true s.2;have i:(l.filter fun z=>decide (p z)).Nodup:=nd.sublist F5;have j:=h.perm.nodup_iff.1 i;have u:x≠y:=fun e=>(KM.1 j).2.2 x YX y YX e;obtain⟨m,J⟩:=Cyc.front o.1;have a:Cyc l (m++[x]):=Cyc.shift (x:=[x]) J;have hf:=a.filter fun z=>decide (p z);rw[zQ,filter_one (decide_eq_true C)]at hf;have h2:Cyc (l.filter fun z=>decide (p z)) ((B++y::A)++[x]):=by simpa using h.shift
 have e:=aaN i hf h2;have v:y∈m:=by
  have:=a.perm.mem_iff.1 s.1;rw[uK,Rb]at this;exact this.resolve_right (Hn u)
 obtain⟨m1,m2,rfl,K⟩:=PH v;rw[zQ,filter_one (decide_eq_true D)]at e;have w:y∉B:=fun q=>by
  have:=(KM.1 (KM.1 j).2.1).2.2 y q y YX;exact this rfl
 obtain⟨E,G⟩:=Rx e (fun q=>K (sX.1 q).1) w;obtain⟨c1,b,rfl,H,L⟩:=Pn p m1;obtain⟨c2,d,rfl,I,M⟩:=Pn p m2;have k:∀{c:wi},(∀z∈c,¬p z)->c.filter (fun z=>decide (p z))=[]:=fun{c} h=>filter_none fun z N q=>h z N (of_decide_eq_true q);rw[zQ,k H]at E;rw[zQ,k I]at G;exact⟨c1,b,c2,d,by simpa using a,H,I,by simpa using E,by simpa using G,L,M,C,D⟩
section
variable {n : Nat} {r : Nat → List Nat} {F : List (List Nat)} {f g : List Nat} {A B : Nat → List Nat} {le : Nat → Nat → Nat}
def ji.walk (T:ji n r F f g) (L:kg r f g A B le) {h:wi} (hh:h∈F) {l w:Nat} {t:wi}:∀(s X:wi) (z:Nat),Cyc h (X++z::(s++w::t))->(∀v∈s,v∉Ul f g)->le z (nx h z)=l->le w (pv h w)=l
 |[],X,z,cy,_,e=>by
  have nd:=T.O.nd h hh;have a:=cy.perm.nodup_iff.1 nd;have b:z∈h:=cy.perm.mem_iff.2 YX;have c:nx h z=w:=by
   rw[cy.nx nd b];exact nj fun q=>(KM.1 a).2.2 z q z YX rfl
  have i:pv h w=z:=by rw[<-c];exact Zt nd b
  rw[i,L.sym w z,<-c]
  .exact e
  .have := T.R.sy _ _ (T.O.cG h hh z b)
   rwa[c]at this
 |v::s,X,z,cy,hs,e=>by
  have nd:=T.O.nd h hh;have a:=cy.perm.nodup_iff.1 nd;have b:z∈h:=cy.perm.mem_iff.2 YX;have j:v∈h:=cy.perm.mem_iff.2 YX;have c:nx h z=v:=by
   rw[cy.nx nd b];exact nj fun q=>(KM.1 a).2.2 z q z YX rfl
  have d:=T.O.cG h hh z b;rw[c]at d e;refine T.walk L hh s (X++[z]) v (by simpa using cy) (fun u k=>hs u (Gs _ k)) ?_;rw[L.same v (hs v jR) (nx h v) z (T.O.cG h hh v j) (T.R.sy _ _ d),<-L.sym z v d];exact e
structure RU (f g:wi) (le:Nat->Nat->Nat) (h:wi) (al be:Nat->Nat):Prop where
 outL:∀w∈Ul f g,le w (nx h w)=al w
 inL:∀w∈Ul f g,le w (pv h w)=be w
 ia:∀v∈Ul f g,∀w∈Ul f g,al v=al w->v=w
 ib:∀v∈Ul f g,∀w∈Ul f g,be v=be w->v=w
def ji.U5 (T:ji n r F f g):∀v∈Ul f g,∀w∈Ul f g,pv (Ul f g) v=pv (Ul f g) w->v=w:=fun v a w hw e=>by
 rw[<-mz T.uz a,e,mz T.uz hw]
def ji.faceLg (T:ji n r F f g) (C:RM r f g A B) (L:kg r f g A B le):RU f g le g (fun w=>pv (Ul f g) w) fun w=>w:=by
 refine⟨fun w hw=>L.inn w hw _ ?_,fun w hw=>L.out w hw _ YX,T.U5,fun v _ w _ e=>e⟩;rw[<-C.hB w hw];exact zx
def ji.faceLf (T:ji n r F f g) (C:RM r f g A B) (L:kg r f g A B le):RU f g le f (fun w=>w) fun w=>pv (Ul f g) w:=by
 refine⟨fun w hw=>L.out w hw _ ?_,fun w hw=>L.inn w hw _ YX,fun v _ w _ e=>e,T.U5⟩;rw[<-C.hA w hw];exact zx
def ji.aft (T:ji n r F f g) (L:kg r f g A B le) {h:wi} (hh:h∈F) {i be:Nat->Nat} (D:RU f g le h i be) {u z:Nat} (j:u∈Ul f g) (k:le z (nx h z)=be u):∀a b,Cyc h ((u::a)++(z::b))->∀v∈b,v∉Ul f g:=fun a b cy v l c=>by
 obtain⟨s,w,t,rfl,d,h2⟩:=Sc (U:=fun v=>v∈Ul f g) ⟨v,l,c⟩;have e:=T.walk L hh s (u::a) z cy h2 k;rw[D.inL w d]at e;have:=D.ib w d u j e;subst this;have nd:=cy.perm.nodup_iff.1 (T.O.nd h hh);exact(KM.1 nd).2.2 w YX w YX rfl
def ji.bef (T:ji n r F f g) (L:kg r f g A B le) {h:wi} (hh:h∈F) {b be:Nat->Nat} (D:RU f g le h b be) {u z:Nat} (m:u∈Ul f g) (c:z∉Ul f g) (o:le z (nx h z)=b u):∀d j,Cyc h ((u::d)++(z::j))->∀v∈d,v∉Ul f g:=fun d j cy v p i=>by
 obtain⟨s,w,t,rfl,k,h2⟩:=aaM (U:=fun v=>v∈Ul f g) ⟨v,p,i⟩;have a:z∈h:=cy.perm.mem_iff.2 YX;have e:=T.walk L hh (l:=b w) t (u::s) w (by simpa using cy) h2 (D.outL w k);have q:=T.O.Zy T.R hh a;rw[L.same z c _ (nx h z) q (T.O.cG h hh z a),o]at e;have:=D.ia u m w k e;subst this;have nd:=cy.perm.nodup_iff.1 (T.O.nd h hh);have n1:=(KM.1 nd).1;rw[tS]at n1;exact n1.1 YX
end
end Go.Fw
namespace Go.Fw
attribute [local instance] Classical.propDecidable
structure cK (R:Nat->wi) (H:Nat->Nat->Prop) (u x:Nat):Prop where
 on:¬off R H u
 mem:x∈R u
 nh:¬H u x
def Fits (R:Nat->wi) (H:Nat->Nat->Prop) (k:Nat×Nat×Nat) (h:wi):Prop:=∀u x,cK R H u x->Jc R H u x=k->u∈h
structure Uq (n:Nat) (R:Nat->wi) (H:Nat->Nat->Prop) (F:ai):Prop where
 C:Ctx n R H F
 two:∀u x,cK R H u x->∃z y,cK R H z y/\u≠z/\Jc R H u x=Jc R H z y
 one:∀v w,w∈R v->¬H v w->∃u x,cK R H u x/\Jc R H v w=Jc R H u x
def SK (R:Nat->wi) (H:Nat->Nat->Prop) (f g:wi) (k:Nat×Nat×Nat):Prop:=
 Fits R H k f/\Fits R H k g/\∃u x,cK R H u x/\Jc R H u x=k/\(uN R H f u x\/uN R H g u x)
noncomputable def jx (R:Nat->wi) (H:Nat->Nat->Prop) (le:Nat->Nat->Nat) (hm:Nat×Nat×Nat->wi) (v w:Nat):Nat:=
 if H v w then le v w else le ((hm (Jc R H v w)).headD 0) (nx (hm (Jc R H v w)) ((hm (Jc R H v w)).headD 0))
structure Mv (n:Nat) (R:Nat->wi) (H:Nat->Nat->Prop) (F:ai) (f g:wi) (A B:Nat->wi) (le:Nat->Nat->Nat) (hm:Nat×Nat×Nat->wi):Prop where
 P:Uq n R H F
 T:ji n (Ps H R) F f g
 C:RM (Ps H R) f g A B
 L:kg (Ps H R) f g A B le
 h2:∀u∈Ul f g,nx (Ul f g) u≠u
 home:∀u x,cK R H u x->¬SK R H f g (Jc R H u x)->hm (Jc R H u x)∈F/\hm (Jc R H u x)≠f/\hm (Jc R H u x)≠g/\Fits R H (Jc R H u x) (hm (Jc R H u x))/\∀h'∈F,uN R H h' u x->h'≠f->h'≠g->h'=hm (Jc R H u x)
section
variable {n : Nat} {R : Nat → List Nat} {H : Nat → Nat → Prop} {F : List (List Nat)}
def Uq.qZ (P:Uq n R H F) {u x:Nat} (j:cK R H u x):∃h∈F,∀z y,cK R H z y->Jc R H z y=Jc R H u x->uN R H h z y:=by
 have C:=P.C;have two:∀{u x z y:Nat},cK R H u x->cK R H z y->u≠z->Jc R H u x=Jc R H z y->∃h∈F,uN R H h u x/\uN R H h z y:=fun{u x z y} k h2 a i=>by
  obtain⟨inn,W,m,o,_⟩:=WG C.Pc C.sym k.on h2.on a k.mem k.nh h2.mem h2.nh i;obtain⟨h,hh,c1,c2,_⟩:=C.drawn W;rw[m]at c1;rw[o]at c2;exact⟨h,hh,c1,c2⟩
 obtain⟨z,y,l,a,i⟩:=P.two u x j;obtain⟨h,hh,c1,c2⟩:=two j l a i;refine⟨h,hh,fun z' p d e=>?_⟩;by_cases c:u=z'
 .subst c
  obtain⟨h',b,d1,d2⟩:=two l d (Hn a) (i.symm.trans e.symm);rw[C.pn hh b c2 d1];exact d2
 .obtain ⟨h', b, d1, d2⟩ := two j d c e.symm
  rw[C.pn hh b c1 d1];exact d2
def Ctx.vU (C:Ctx n R H F) {h:wi} (hh:h∈F) {u:Nat} (a:u∈h):¬off R H u:=fun q=>by
 obtain⟨b,h2⟩:=Bk.1 (C.O.Zy (Jt C.Pc C.sym) hh a);exact q _ b h2
def Ctx.aaO (C:Ctx n R H F) {h:wi} (hh:h∈F) {u z e:Nat} {q s m q':wi} (i:uN R H h u z) (cy:Cyc (R u) ((q++z::s)++m)) (r:¬H u z) (l:(q.filter fun w=>decide (H u w))=q'++[e]):pv h u=e:=by
 have nd:=cy.perm.nodup_iff.1 (C.Pc.nd u);have n1:=(KM.1 nd).1;have d:z∉q:=fun k=>(KM.1 n1).2.2 z k z jR rfl;have c:=cy.filter fun w=>decide (H u w\/w=z);have o:q.filter (fun w=>decide (H u w\/w=z))=q'++[e]:=by
  rw[<-l];refine SD fun w hw=>?_;rw[decide_eq_decide];exact⟨fun k=>k.resolve_right fun e=>d (e▸hw),.inl⟩
 rw[zQ,zQ,o,filter_one (decide_eq_true (.inr rfl))]at c;have b:(cl R H u z).Nodup:=(C.Pc.nd u).sublist F5;have a:Cyc (cl R H u z) (q'++e::z::((s.filter fun w=>decide (H u w\/w=z))++(m.filter fun w=>decide (H u w\/w=z)))):=by simpa[cl]using c
 have j:e∈cl R H u z:=a.perm.mem_iff.2 YX;have p:nx (cl R H u z) e=z:=by
  rw[a.nx b j];exact nj fun k=>(KM.1 (a.perm.nodup_iff.1 b)).2.2 e k e YX rfl
 exact M6 b (C.cS hh i.ug).1 j (i.at_.trans p.symm)
variable {f g : List Nat} {A B : Nat → List Nat} {le : Nat → Nat → Nat} {hm : Nat × Nat × Nat → List Nat}
def Mv.S_cor (M:Mv n R H F f g A B le hm) {u x:Nat} (c:cK R H u x) (d:SK R H f g (Jc R H u x)):uN R H f u x\/uN R H g u x:=by
 obtain⟨_,_,z,y,e,i,b⟩:=d;obtain⟨h,hh,a⟩:=M.P.qZ c;have k1:=a z y e i;have k2:=a u x c rfl;rcases b with b|b
 .exact .inl (M.P.C.pn M.T.hf hh b k1▸k2)
 .exact .inr (M.P.C.pn M.T.hg hh b k1▸k2)
def Mv.HO (M:Mv n R H F f g A B le hm) {u x:Nat} (a:cK R H u x) (c:¬SK R H f g (Jc R H u x)) {z:Nat} (d:z∈hm (Jc R H u x)):jx R H le hm u x=le z (nx (hm (Jc R H u x)) z):=by
 obtain⟨b,h2,h3,_⟩:=M.home u x a c;unfold jx;rw[if_neg a.nh];exact M.L.K8 M.T M.C b h2 h3 (Iu (M.T.O.ne _ b)) d
def Mv.tl_at (M:Mv n R H F f g A B le hm) {u x:Nat} (c:cK R H u x) (d:¬SK R H f g (Jc R H u x)) {z y:Nat} (e:cK R H z y) (h:Jc R H u x=Jc R H z y) (b:z∉Ul f g) {w:Nat} (hw:w∈Ps H R z):jx R H le hm u x=le z w:=by
 obtain⟨i,h2,h3,j,_⟩:=M.home u x c d;have a:=j z y e h.symm;rw[M.HO c d a];exact M.L.same z b _ _ (M.T.O.cG _ i z a) hw
def Mv.tl_or (M:Mv n R H F f g A B le hm) {u x:Nat} (b:cK R H u x) (e:¬SK R H f g (Jc R H u x)) (d:u∈Ul f g):jx R H le hm u x=u\/jx R H le hm u x=pv (Ul f g) u:=by
 obtain⟨i,h2,h3,j,_⟩:=M.home u x b e;have a:=j u x b rfl;rw[M.HO b e a];have k:=M.T.O.cG _ i u a;rcases uK.1 ((M.C.c u d).perm.mem_iff.1 k)with h|h
 .exact .inl (M.L.out u d _ h)
 .exact .inr (M.L.inn u d _ h)
noncomputable def dS (R:Nat->wi) (H:Nat->Nat->Prop) (f g:wi) (le:Nat->Nat->Nat) (hm:Nat×Nat×Nat->wi) (be:Nat->Nat) (u x:Nat):Nat:=
 if SK R H f g (Jc R H u x)then 1 else if jx R H le hm u x=be u then 0 else 2
def Mv.Ah (M:Mv n R H F f g A B le hm) {h o:wi} (G:(h=f/\o=g)\/(h=g/\o=f)) {Y be:Nat->Nat} (D:RU f g le h Y be) {u:Nat} (w:u∈Ul f g) (V:∀v,v=u\/v=pv (Ul f g) u->v=Y u\/v=be u)
  {c m:wi} (cy:Cyc (R u) (c++(m++[pv h u]))) (K:∀z∈c,¬H u z):
  c=(c.filter fun x=>decide (dS R H f g le hm be u x=0))++((c.filter fun x=>decide (dS R H f g le hm be u x=1))++(c.filter fun x=>decide (dS R H f g le hm be u x=2))):=by
 have Cx:=M.P.C;have hh:h∈F:=G.elim (fun q=>q.1▸M.T.hf) fun q=>q.1▸M.T.hg;have j:∀v,v∈Ul f g↔v∈h/\v∈o:=fun v=>by
  rw[Wa];rcases G with⟨e,e'⟩|⟨e,e'⟩
  .rw[e,e']
  .rw[e,e'];exact and_comm
 have d:=((j u).1 w).1;have hb:∀x∈c,dS R H f g le hm be u x<=2:=fun x _=>by
  unfold dS;split
  .omega
  .split<;>omega
 refine sort3 hb (Cx.sorted (U:=fun v=>v∈Ul f g) hh d (m:=m) ⟨nx (Ul f g) u,((j _).1 (zc w)).1,zc w,M.h2 u w⟩ c [] (by simpa using cy) (by simpa using K) (fun x J=>?_) (fun x J y Z l i=>l ?_) hb)
 .have I : cK R H u x := ⟨Cx.vU hh d, cy.perm.mem_iff.2 (by simp [J]), K x J⟩
  have r:uN R H h u x:=by
   obtain⟨p,q,rfl,_⟩:=PH J;exact Cx.Km d cy K (Cx.cS hh d (x:=x)).2
  by_cases t:SK R H f g (Jc R H u x)
  .obtain ⟨z, y, a, l, i⟩ := M.P.two u x I
   have b:z∈Ul f g:=Wa.2 ⟨t.1 z y a i.symm,t.2.1 z y a i.symm⟩;have k:dS R H f g le hm be u x=1:=by unfold dS;rw[if_pos t]
   exact⟨z,y,a.on,l,((j z).1 b).1,a.mem,a.nh,i,(fun e=>by rw[k]at e;omega),(fun _=>b),fun e=>by rw[k]at e;omega⟩
  .obtain ⟨h', W, E⟩ := M.P.qZ I
   have e':=Cx.pn W hh (E u x I rfl) r;subst e';have s:Fits R H (Jc R H u x) h':=fun z y a i=>(E z y a i).ug;have X:¬Fits R H (Jc R H u x) o:=fun q=>by
    rcases G with⟨e,e'⟩|⟨e,e'⟩
    .subst e e';exact t ⟨s,q,u,x,I,rfl,.inl r⟩
    .subst e e';exact t ⟨q,s,u,x,I,rfl,.inr r⟩
   have:∃z y,cK R H z y/\Jc R H z y=Jc R H u x/\z∉o:=mS fun q=>X fun z y a i=>mS fun q'=>q ⟨z,y,a,i,q'⟩;obtain⟨z,y,a,i,N⟩:=this;have Q:=s z y a i;have b:z∉Ul f g:=fun q=>N ((j z).1 q).2;have l:u≠z:=fun e=>N (e▸((j u).1 w).2);have S:jx R H le hm u x=le z (nx h' z):=M.tl_at I t a i.symm b (M.T.O.cG h' hh z Q);refine⟨z,y,a.on,l,Q,a.mem,a.nh,i.symm,fun e=>⟨b,?_⟩,(fun e=>?_),fun e=>⟨b,?_⟩⟩
   .have:jx R H le hm u x=be u:=by
     unfold dS at e;rw[if_neg t]at e;exact mS fun q=>by rw[if_neg q]at e;omega
    exact M.T.aft M.L hh D w (S.symm.trans this)
   .unfold dS at e;rw[if_neg t]at e;split at e<;>omega
   .have : jx R H le hm u x ≠ be u := fun q => by unfold dS at e; rw [if_neg t, if_pos q] at e; omega
    have:=(V _ (M.tl_or I t w)).resolve_right this;exact M.T.bef M.L hh D w b (S.symm.trans this)
 .have fx : cK R H u x := ⟨Cx.vU hh d, cy.perm.mem_iff.2 (by simp [J]), K x J⟩
  have fy:cK R H u y:=⟨Cx.vU hh d,cy.perm.mem_iff.2 (by simp[Z]),K y Z⟩;unfold dS jx;rw[if_neg fx.nh,if_neg fy.nh,i]
def Mv.amid (M:Mv n R H F f g A B le hm) {u:Nat} (W:u∈Ul f g) {c b b0 m:wi} {ℓ:Nat} (cy:Cyc (R u) ((c++b)++m)) (X:∀z∈c,¬H u z) (hb:∀z t,b=z::t->H u z) (p:(b.filter fun w=>decide (H u w))=b0)
  (Q:∀e∈b0,le u e=ℓ) (S:pv f u∉b0) (U:pv g u∉b0):∀z∈b,(z∈R u/\¬(¬H u z/\SK R H f g (Jc R H u z)))/\jx R H le hm u z=ℓ:=fun z r=>by
 have Cx:=M.P.C;have j:z∈R u:=cy.perm.mem_iff.2 (by simp[r]);by_cases o:H u z
 .refine ⟨⟨j, fun q => q.1 o⟩, ?_⟩
  unfold jx;rw[if_pos o];exact Q z (by rw[<-p,sX];exact⟨r,decide_eq_true o⟩)
 .obtain ⟨q, s, rfl, _⟩ := PH r
  have v:cK R H u z:=⟨Cx.vU M.T.hf (Wa.1 W).1,j,o⟩;have x:(q.filter fun w=>decide (H u w))≠[]:=fun e=>by
   cases q with
   |nil=>exact o (hb z s rfl)
   |cons a q=>
    rw[filter_one (decide_eq_true (hb a _ rfl))]at e;cases e
  obtain⟨q',e,eq⟩:=Xe x;have y:e∈b0:=by
   rw[<-p,zQ,eq];simp
  have pre:∀{h:wi},h∈F->uN R H h u z->pv h u=e:=fun{h} hh d=>by
   refine Cx.aaO hh (q:=c++q) (s:=s) (m:=m) (q':=q') d (by simpa using cy) o ?_;rw[zQ,filter_none (l:=c) fun z r k=>X z r (of_decide_eq_true k),eq];rfl
  have D:¬SK R H f g (Jc R H u z):=fun D=>by
   rcases M.S_cor v D with k|k
   .exact S (pre M.T.hf k▸y)
   .exact U (pre M.T.hg k▸y)
  refine⟨⟨j,fun q=>D q.2⟩,?_⟩;obtain⟨h',i,E⟩:=M.P.qZ v;have d:=E u z v rfl;have G:=pre i d;have I:h'≠f:=fun k=>S (by rw[<-k,G];exact y);have J:h'≠g:=fun k=>U (by rw[<-k,G];exact y);obtain⟨_,_,_,_,Y⟩:=M.home u z v D;have V:=Y h' i d I J;obtain⟨K,N,_⟩:=M.T.O.pv i d.ug;rw[M.HO v D (z:=e) (by rw[<-V,<-G];exact K),<-V];rw[G]at K N;rw[N,M.L.sym e u (by have:=M.T.O.cG h' i e K;rwa[N]at this)];exact Q e y
end
end Go.Fw
namespace Go.Fw
attribute [local instance] Classical.propDecidable
section
variable {n : Nat} {R : Nat → List Nat} {H : Nat → Nat → Prop} {F : List (List Nat)} {f g : List Nat} {A B : Nat → List Nat} {le : Nat → Nat → Nat} {hm : Nat × Nat × Nat → List Nat}
def J6 (R:Nat->wi) (H:Nat->Nat->Prop) (f g:wi) (v w:Nat):Prop:=w∈R v/\¬H v w/\SK R H f g (Jc R H v w)
structure AtU (R:Nat->wi) (H:Nat->Nat->Prop) (f g:wi) (A B:Nat->wi) (le:Nat->Nat->Nat) (hm:Nat×Nat×Nat->wi) (u:Nat) (XL Q YL P:wi):Prop where
 bK:Cyc (R u) (XL++(Q++(YL++P)))
 xl:∀w∈XL,¬J6 R H f g u w/\jx R H le hm u w=u
 yl:∀w∈YL,¬J6 R H f g u w/\jx R H le hm u w=pv (Ul f g) u
 q:∀w∈Q,J6 R H f g u w
 p:∀w∈P,J6 R H f g u w
 xh:(XL.filter fun w=>decide (H u w))=A u++[pv g u]
 yh:(YL.filter fun w=>decide (H u w))=B u++[pv f u]
 pf:∀w∈P,uN R H f u w
def IZ {u:Nat} {l:wi} (h:∀z∈l,¬H u z):l.filter (fun w=>decide (H u w))=[]:=filter_none fun z a k=>h z a (of_decide_eq_true k)
def Mv.atU (M:Mv n R H F f g A B le hm) {u:Nat} (d:u∈Ul f g):∃XL Q YL P,AtU R H f g A B le hm u XL Q YL P:=by
 have Cx:=M.P.C;have nd:=Cx.Pc.nd u;have l:=M.C.c u d;have k:=l.perm.nodup_iff.1 (M.T.R.nd u);obtain⟨c1,i,c2,j,cy,n1,Z,fb,fa,hb,ha,px,py⟩:=decomp nd l;have r:Cyc (R u) ((c2++(j++[pv g u]))++(c1++(i++[pv f u]))):=cy.shift;have s1:=M.Ah (h:=g) (o:=f) (.inr ⟨rfl,rfl⟩) (M.T.faceLg M.C M.L) d (fun v h=>h.symm) (c:=c1) (m:=(i++[pv f u])++(c2++j)) (by simpa using cy) n1;have s2:=M.Ah (h:=f) (o:=g) (.inl ⟨rfl,rfl⟩) (M.T.faceLf M.C M.L) d (fun v h=>h) (c:=c2) (m:=(j++[pv g u])++(c1++i)) (by simpa using r) Z;have J:=(Wa.1 d);have K:=Cx.vU M.T.hf J.1;have s:∀x∈c1,cK R H u x:=fun x a=>⟨K,cy.perm.mem_iff.2 (by simp[a]),n1 x a⟩;have t:∀x∈c2,cK R H u x:=fun x a=>⟨K,cy.perm.mem_iff.2 (by simp[a]),Z x a⟩;have N:∀{be:Nat->Nat} {x},cK R H u x->dS R H f g le hm be u x=1->J6 R H f g u x:=fun{be x} O e=>by
  refine⟨O.mem,O.nh,mS fun q=>?_⟩;unfold dS at e;rw[if_neg q]at e;split at e<;>omega
 have S:∀{be:Nat->Nat} {x},cK R H u x->dS R H f g le hm be u x=0->¬J6 R H f g u x/\jx R H le hm u x=be u:=fun{be x} O e=>by
  have I:¬SK R H f g (Jc R H u x):=fun q=>by unfold dS at e;rw[if_pos q]at e;omega
  refine⟨fun q=>I q.2.2,mS fun q=>?_⟩;unfold dS at e;rw[if_neg I,if_neg q]at e;omega
 have U:∀{be:Nat->Nat} {x},cK R H u x->dS R H f g le hm be u x=2->¬J6 R H f g u x/\jx R H le hm u x≠be u/\(jx R H le hm u x=u\/jx R H le hm u x=pv (Ul f g) u):=fun{be x} O e=>by
  have I:¬SK R H f g (Jc R H u x):=fun q=>by unfold dS at e;rw[if_pos q]at e;omega
  refine⟨fun q=>I q.2.2,fun q=>?_,M.tl_or O I d⟩;unfold dS at e;rw[if_neg I,if_pos q]at e;omega
 have ad:=M.amid d (c:=c1) (b:=i++[pv f u]) (b0:=B u++[pv f u]) (m:=c2++(j++[pv g u])) (ℓ:=pv (Ul f g) u);have ag:pv f u∉B u:=fun q=>(KM.1 (KM.1 k).2.1).2.2 _ q _ YX rfl;have ah:pv g u∉B u:=fun q=>(KM.1 k).2.2 (pv g u) YX (pv g u) (by simp[q]) rfl;have aj:pv g u∉A u:=fun q=>(KM.1 (KM.1 k).1).2.2 _ q _ YX rfl;have ak:pv f u∉A u:=fun q=>(KM.1 k).2.2 (pv f u) (by simp[q]) (pv f u) YX rfl;have mb:=M.amid d (c:=c1) (b:=i) (b0:=B u) (m:=[pv f u]++(c2++(j++[pv g u]))) (ℓ:=pv (Ul f g) u) (by simpa using cy) n1 hb fb (fun e he=>M.L.inn u d e (by simp[he])) ag ah;have ma:=M.amid d (c:=c2) (b:=j) (b0:=A u) (m:=[pv g u]++(c1++(i++[pv f u]))) (ℓ:=u) (by simpa using r) Z ha fa (fun e he=>M.L.out u d e (by simp[he])) ak aj;have al:¬J6 R H f g u (pv f u)/\jx R H le hm u (pv f u)=pv (Ul f g) u:=⟨fun q=>q.2.1 py,by unfold jx;rw[if_pos py];exact M.L.inn u d _ YX⟩;have aq:¬J6 R H f g u (pv g u)/\jx R H le hm u (pv g u)=u:=⟨fun q=>q.2.1 px,by unfold jx;rw[if_pos px];exact M.L.out u d _ YX⟩;have toSE:∀{z},¬(¬H u z/\SK R H f g (Jc R H u z))->¬J6 R H f g u z:=fun h q=>h q.2;have V:∀w∈c2,uN R H f u w:=fun w hw=>by
  obtain⟨p,q,rfl,_⟩:=PH hw;exact Cx.Km J.1 (m:=(j++[pv g u])++(c1++i)) (by simpa using r) Z py
 clear ad;generalize ar:c1.filter (fun x=>decide (dS R H f g le hm (fun w=>w) u x=0))=k0 at s1;generalize av:c1.filter (fun x=>decide (dS R H f g le hm (fun w=>w) u x=1))=k1 at s1;generalize ay:c1.filter (fun x=>decide (dS R H f g le hm (fun w=>w) u x=2))=k2 at s1;generalize aB:c2.filter (fun x=>decide (dS R H f g le hm (fun w=>pv (Ul f g) w) u x=0))=j0 at s2;generalize aE:c2.filter (fun x=>decide (dS R H f g le hm (fun w=>pv (Ul f g) w) u x=1))=j1 at s2;generalize aK:c2.filter (fun x=>decide (dS R H f g le hm (fun w=>pv (Ul f g) w) u x=2))=j2 at s2;have W:∀x∈k0,cK R H u x/\dS R H f g le hm (fun w=>w) u x=0:=fun x a=>by
  rw[<-ar,sX]at a;exact⟨s x a.1,of_decide_eq_true a.2⟩
 have Vb:∀x∈k1,cK R H u x/\dS R H f g le hm (fun w=>w) u x=1:=fun x a=>by
  rw[<-av,sX]at a;exact⟨s x a.1,of_decide_eq_true a.2⟩
 have bt:∀x∈k2,cK R H u x/\dS R H f g le hm (fun w=>w) u x=2:=fun x a=>by
  rw[<-ay,sX]at a;exact⟨s x a.1,of_decide_eq_true a.2⟩
 have X:∀x∈j0,cK R H u x/\dS R H f g le hm (fun w=>pv (Ul f g) w) u x=0:=fun x a=>by
  rw[<-aB,sX]at a;exact⟨t x a.1,of_decide_eq_true a.2⟩
 have y:∀x∈j1,x∈c2/\cK R H u x/\dS R H f g le hm (fun w=>pv (Ul f g) w) u x=1:=fun x a=>by
  rw[<-aE,sX]at a;exact⟨a.1,t x a.1,of_decide_eq_true a.2⟩
 have Y:∀x∈j2,cK R H u x/\dS R H f g le hm (fun w=>pv (Ul f g) w) u x=2:=fun x a=>by
  rw[<-aK,sX]at a;exact⟨t x a.1,of_decide_eq_true a.2⟩
 refine⟨j2++((j++[pv g u])++k0),k1,k2++((i++[pv f u])++j0),j1,?_,fun w hw=>?_,fun w hw=>?_,fun w hw=>N (Vb w hw).1 (Vb w hw).2,fun w hw=>N (y w hw).2.1 (y w hw).2.2,?_,?_,fun w hw=>V w (y w hw).1⟩
 .rw [s1, s2] at cy
  have e:((k0++(k1++k2))++(i++[pv f u]))++((j0++(j1++j2))++(j++[pv g u]))=((k0++(k1++k2))++(i++[pv f u])++j0++j1)++(j2++(j++[pv g u])):=by simp
  rw[e]at cy;have:=cy.shift;simpa using this
 .rcases uK.1 hw with h | h
  .obtain ⟨D, E⟩ := Y w h
   obtain⟨r1,r2,r3⟩:=U D E;exact⟨r1,r3.resolve_right r2⟩
  rcases uK.1 h with h|h
  .rcases uK.1 h with h | h
   .obtain ⟨⟨_, r1⟩, r2⟩ := ma w h
    exact⟨toSE r1,r2⟩
   .rw[Rb.1 h];exact aq
  .obtain ⟨D, E⟩ := W w h
   exact S D E
 .rcases uK.1 hw with h | h
  .obtain ⟨D, E⟩ := bt w h
   obtain⟨r1,r2,r3⟩:=U D E;exact⟨r1,r3.resolve_left r2⟩
  rcases uK.1 h with h|h
  .rcases uK.1 h with h | h
   .obtain ⟨⟨_, r1⟩, r2⟩ := mb w h
    exact⟨toSE r1,r2⟩
   .rw[Rb.1 h];exact al
  .obtain ⟨D, E⟩ := X w h
   exact S D E
 .rw [zQ, zQ, zQ, IZ fun z G => (Y z G).1.nh, IZ fun z G => (W z G).1.nh, fa, filter_one (decide_eq_true px)]
  simp
 .rw [zQ, zQ, zQ, IZ fun z G => (bt z G).1.nh, IZ fun z G => (X z G).1.nh, fb, filter_one (decide_eq_true py)]
  simp
end
end Go.Fw
namespace Go.Fw
attribute [local instance] Classical.propDecidable
section
variable {n : Nat} {R : Nat → List Nat} {H : Nat → Nat → Prop} {F : List (List Nat)} {f g : List Nat} {A B : Nat → List Nat} {le : Nat → Nat → Nat} {hm : Nat × Nat × Nat → List Nat}
def Mv.blobs (M:Mv n R H F f g A B le hm):∃o Q r P:Nat->wi,x5 n R (Ul f g) (J6 R H f g) (jx R H le hm) o Q r P/\(∀u∈Ul f g,AtU R H f g A B le hm u (o u) (Q u) (r u) (P u))/\∀v,v∉Ul f g->∀w∈R v,¬J6 R H f g v w->jx R H le hm v w∈Ul f g:=by
 have Cx:=M.P.C;have l:∀u:Nat,∃q:wi×wi×wi×wi,u∈Ul f g->AtU R H f g A B le hm u q.1 q.2.1 q.2.2.1 q.2.2.2:=fun u=>by
  by_cases h:u∈Ul f g
  .obtain ⟨o, Q, r, P, k⟩ := M.atU h
   exact⟨(o,Q,r,P),fun _=>k⟩
  .exact⟨([],[],[],[]),fun q=>absurd q h⟩
 obtain⟨W,i⟩:=OT l;have b:∀v w,w∈R v->¬H v w->¬SK R H f g (Jc R H v w)->jx R H le hm v w∈Ul f g:=fun v w hw D y=>by
  obtain⟨u,x,s,m⟩:=M.P.one v w hw D;obtain⟨E,_,_,_,_⟩:=M.home u x s (m▸y);unfold jx;rw[if_neg D,m];exact M.L.inU _ _ (M.T.O.cG _ E _ (Iu (M.T.O.ne _ E)))
 refine⟨fun u=>(W u).1,fun u=>(W u).2.1,fun u=>(W u).2.2.1,fun u=>(W u).2.2.2,⟨Cx.Pc,M.T.uz,M.h2,fun v w h=>?_,fun v w hw=>?_,fun v t=>?_,fun u a=>(i u a).bK,fun u a=>(i u a).xl,fun u a=>(i u a).yl,fun u a=>(i u a).q,fun u a=>(i u a).p,fun u a e=>?_,fun u a e=>?_⟩,i,fun v t w hw y=>?_⟩
 .exact⟨Cx.Pc.sy _ _ h.1,fun q=>h.2.1 (Cx.sym _ _ q),by rw[<-uU Cx.Pc h.1];exact h.2.2⟩
 .unfold jx
  by_cases c:H v w
  .rw [if_pos c, if_pos (Cx.sym _ _ c)]
   exact M.L.sym v w (Bk.2 ⟨hw,c⟩)
  .rw[if_neg c,if_neg fun q=>c (Cx.sym _ _ q),uU Cx.Pc hw]
 .by_cases c : off R H v
  .by_cases d : SK R H f g (0, lo R H v, 0)
   .exact .inl fun w hw=>⟨hw,c w hw,by rw[vd c];exact d⟩
   .refine .inr ⟨fun w hw q => d (by have := q.2.2; rwa [vd c] at this), fun w hw w' j => ?_⟩
    unfold jx;rw[if_neg (c w hw),if_neg (c w' j),vd c,vd c]
  .have nS : ∀ w ∈ R v, ¬ J6 R H f g v w := fun w hw q => t (Wa.2 ⟨q.2.2.1 v w ⟨c, hw, q.2.1⟩ rfl, q.2.2.2.1 v w ⟨c, hw, q.2.1⟩ rfl⟩)
   obtain⟨z,k1,k2⟩:=E2 c;have m:z∈Ps H R v:=Bk.2 ⟨k1,k2⟩;have all:∀w∈R v,jx R H le hm v w=le v z:=fun w hw=>by
    by_cases d:H v w
    .unfold jx; rw [if_pos d]
     exact M.L.same v t w z (Bk.2 ⟨hw,d⟩) m
    .have s : cK R H v w := ⟨c, hw, d⟩
     exact M.tl_at s (fun q=>nS w hw ⟨hw,d,q⟩) s rfl t m
   exact .inr ⟨nS,fun w hw w' j=>(all w hw).trans (all w' j).symm⟩
 .have := (i u a).xh
  have e:(W u).1=[]:=e;rw[e]at this;simp at this
 .have := (i u a).yh
  have e:(W u).2.2.1=[]:=e;rw[e]at this;simp at this
 .by_cases d : H v w
  .unfold jx; rw [if_pos d]
   exact M.L.inU v w (Bk.2 ⟨hw,d⟩)
  .exact b v w hw d fun q=>y ⟨hw,d,q⟩
def Uq.move (P:Uq n R H F) (alt:∀u x,cK R H u x->∃G∈F,∃h2∈F,G≠h2/\Fits R H (Jc R H u x) G/\Fits R H (Jc R H u x) h2)
  (hf:f∈F) (hg:g∈F) (N:f≠g) {b x0:Nat} (E:cK R H b x0) (c0:uN R H g b x0) (fit:Fits R H (Jc R H b x0) f):
  ∃R',ZJ n R'/\Flat n R'/\(∀v w,w∈R' v↔w∈R v)/\qD (Ps H R') (Ps H R)/\uN R' H f b x0:=by
 have Cx:=P.C;have T:ji n (Ps H R) F f g:=⟨Jt Cx.Pc Cx.sym,Cx.O,Cx.fl.keep Cx.Pc Cx.sym,hf,hg,N,Cx.je⟩;have t:Fits R H (Jc R H b x0) g:=by
  obtain⟨h,hh,j⟩:=P.qZ E;have e:=Cx.pn hh hg (j b x0 E rfl) c0;subst e;exact fun z y i I=>(j z y i I).ug
 have m:b∈Ul f g:=Wa.2 ⟨fit b x0 E rfl,t b x0 E rfl⟩;obtain⟨z,y,i,ar,I⟩:=P.two b x0 E;have X:z∈Ul f g:=Wa.2 ⟨fit z y i I.symm,t z y i I.symm⟩;have h2:∀u∈Ul f g,nx (Ul f g) u≠u:=fun u hu e=>by
  have:=(Zc T.uz hu).1 e;rw[this,Rb]at m X;exact ar (m.trans X.symm)
 obtain⟨A,B,C⟩:=T.cutU;obtain⟨le,L⟩:=T.labE C h2 m;have key1:∀k:Nat×Nat×Nat,∃h:wi,∀u x,cK R H u x->Jc R H u x=k->¬SK R H f g k->h∈F/\h≠f/\h≠g/\Fits R H k h/\∀h'∈F,uN R H h' u x->h'≠f->h'≠g->h'=h:=fun k=>by
  by_cases c:∃u x,cK R H u x/\Jc R H u x=k/\¬SK R H f g k
  .obtain ⟨u, x, J, rfl, D⟩ := c
   obtain⟨h,hh,j⟩:=P.qZ J;have Y:Fits R H (Jc R H u x) h:=fun z y i I=>(j z y i I).ug;by_cases d:h≠f/\h≠g
   .exact⟨h,fun u' x' S U _=>⟨hh,d.1,d.2,Y,fun h' V W _ _=>Cx.pn V hh W (j u' x' S U)⟩⟩
   .have Z : h = f \/ h = g := mS fun q => d ⟨fun e => q (.inl e), fun e => q (.inr e)⟩
    have ad:=j u x J rfl;have nb:¬(Fits R H (Jc R H u x) f/\Fits R H (Jc R H u x) g):=fun q=>D ⟨q.1,q.2,u,x,J,rfl,Z.elim (fun e=>.inl (by rw[<-e];exact ad)) fun e=>.inr (by rw[<-e];exact ad)⟩;obtain⟨G,m1,ag,m2,K,f1,f2⟩:=alt u x J;have ex:∃h3∈F,h3≠f/\h3≠g/\Fits R H (Jc R H u x) h3:=by
     by_cases a1:G=f
     .subst a1
      exact⟨ag,m2,Hn K,fun e=>nb ⟨f1,e▸f2⟩,f2⟩
     .by_cases a2 : G = g
      .subst a2
       exact⟨ag,m2,fun e=>nb ⟨e▸f2,f1⟩,Hn K,f2⟩
      .exact⟨G,m1,a1,a2,f1⟩
    obtain⟨h3,m3,a1,a2,f3⟩:=ex;refine⟨h3,fun u' x' S U _=>⟨m3,a1,a2,f3,fun h' V W b1 b2=>?_⟩⟩;have:=Cx.pn V hh W (j u' x' S U);rcases Z with e|e
    .exact absurd (this.trans e) b1
    .exact absurd (this.trans e) b2
  .exact⟨[],fun u x J I D=>absurd ⟨u,x,J,I,D⟩ c⟩
 obtain⟨hm,av⟩:=OT key1;have M:Mv n R H F f g A B le hm:=⟨P,T,C,L,h2,fun u x J D=>av _ u x J rfl D⟩;obtain⟨o,Q,r,s,Bl,ah,aj⟩:=M.blobs;obtain⟨_,ay,rot'⟩:=Bl.JP Cx.fl aj;have eU:∀{v},v∈Ul f g->JP R (Ul f g) (J6 R H f g) o Q r s v=o v++((s v).reverse++(r v++(Q v).reverse)):=fun h=>if_pos h;have ak:∀v w,w∈JP R (Ul f g) (J6 R H f g) o Q r s v↔w∈R v:=fun v w=>by
  by_cases c:v∈Ul f g
  .rw [eU c, (Bl.bK v c).perm.mem_iff]
   simp only[uK,PT];constructor
   .rintro (h | h | h | h)
    .exact .inl h
    .exact .inr (.inr (.inr h))
    .exact .inr (.inr (.inl h))
    .exact .inr (.inl h)
   .rintro (h | h | h | h)
    .exact .inl h
    .exact .inr (.inr (.inr h))
    .exact .inr (.inr (.inl h))
    .exact .inr (.inl h)
  .unfold JP
   rw[if_neg c];split
   .rfl
   .rw[PT]
 refine⟨_,rot',ay,ak,fun v=>?_,?_,?_⟩
 .by_cases c : v ∈ Ul f g
  .have a := ah v c
   have e:Ps H (JP R (Ul f g) (J6 R H f g) o Q r s) v=(A v++[pv g v])++(B v++[pv f v]):=by
    show(JP R (Ul f g) (J6 R H f g) o Q r s v).filter _=_;rw[eU c,zQ,zQ,zQ,a.xh,a.yh,IZ fun z i=>(a.p z (PT.1 i)).2.1,IZ fun z i=>(a.q z (PT.1 i)).2.1];simp
   rw[e];exact(C.c v c).symm
  .have e : JP R (Ul f g) (J6 R H f g) o Q r s v = if ∃ w ∈ R v, ¬ J6 R H f g v w then R v else (R v).reverse := if_neg c
   by_cases d:∃w∈R v,¬J6 R H f g v w
   .rw [if_pos d] at e
    show Cyc ((JP R (Ul f g) (J6 R H f g) o Q r s v).filter _) _;rw[e];exact Cyc.refl _
   .rw [if_neg d] at e
    have hn:∀z∈R v,¬H v z:=fun z i q=>d ⟨z,i,fun k=>k.2.1 q⟩;show Cyc ((JP R (Ul f g) (J6 R H f g) o Q r s v).filter _) ((R v).filter _);rw[e,IZ fun z i=>hn z (PT.1 i),IZ hn];exact Cyc.refl _
 .exact(Wa.1 m).1
 .have a := ah b m
  have D:J6 R H f g b x0:=⟨E.mem,E.nh,fit,t,b,x0,E,rfl,.inr c0⟩;have aB:x0∈Q b:=by
   have:=(Bl.bK b m).perm.mem_iff.1 E.mem;simp only[uK]at this;rcases this with h|h|h|h
   .exact absurd D (a.xl x0 h).1
   .exact h
   .exact absurd D (a.yl x0 h).1
   .exact absurd (Cx.pn hf hg (a.pf x0 h) c0) N
  have nd:=(Bl.bK b m).perm.nodup_iff.1 (Cx.Pc.nd b);have al:=rot'.nd b;rw[eU m]at al;have aE:x0∉o b:=fun q=>(a.xl x0 q).1 D;have aK:x0∉r b:=fun q=>(a.yl x0 q).1 D;have aM:x0∉(s b).reverse:=fun q=>N (Cx.pn hf hg (a.pf x0 (PT.1 q)) c0);obtain⟨q1,q2,eq,_⟩:=PH (PT.2 aB);have hQ:∀z∈q1++x0::q2,¬H b z:=fun z i=>(a.q z (PT.1 (eq▸i))).2.1;have nq:(q1++x0::q2).Nodup:=by
   rw[<-eq];exact(KM.1 (KM.1 (KM.1 al).2.1).2.1).2.1
  have aQ:x0∉q1:=fun k=>(KM.1 nq).2.2 x0 k x0 jR rfl;have aT:x0∉q2:=(tS.1 (KM.1 nq).2.1).1;have hN:∀l:wi,(∀z∈l,¬H b z)->x0∉l->l.filter (fun w=>decide (H b w\/w=x0))=[]:=fun l G h2=>filter_none fun z i h=>(of_decide_eq_true h).elim (G z i) fun e=>h2 (e▸i);have hY:∀l:wi,x0∉l->l.filter (fun w=>decide (H b w\/w=x0))=l.filter (fun w=>decide (H b w)):=fun l h=>SD fun w hw=>by
   rw[decide_eq_decide];exact⟨fun k=>k.resolve_right fun e=>h (e▸hw),.inl⟩
  have e:cl (JP R (Ul f g) (J6 R H f g) o Q r s) H b x0=((A b++[pv g b])++B b)++pv f b::x0::[]:=by
   show(JP R (Ul f g) (J6 R H f g) o Q r s b).filter _=_;rw[eU m,eq,zQ,zQ,zQ,zQ,hY _ aE,a.xh,hN _ (fun z i=>(a.p z (PT.1 i)).2.1) aM,hY _ aK,a.yh,hN q1 (fun z i=>hQ z (by simp[i])) aQ,filter_one (decide_eq_true (.inr rfl)),hN q2 (fun z i=>hQ z (by simp[i])) aT];simp
  have aq:(cl (JP R (Ul f g) (J6 R H f g) o Q r s) H b x0).Nodup:=(rot'.nd b).sublist F5;rw[e]at aq ⊢;exact nj fun k=>(KM.1 aq).2.2 _ k _ YX rfl
end
end Go.Fw
namespace Go.Fw
attribute [local instance] Classical.propDecidable
section
variable {n : Nat} {R R' : Nat → List Nat} {H : Nat → Nat → Prop} {F : List (List Nat)} {f : List Nat} {a b : Nat} {inn A B : List Nat}
def FO.same {r d:Nat->wi} (O:FO r F) (e:ZJ n r) (h:qD r d):FO d F:=
 ⟨O.nd,O.ne,fun f hf v c=>h.mem.1 (O.cG f hf v c),fun f hf v c=>by
   rw[<-O.step f hf v c];exact((h _).nx (e.nd _) (e.sy _ _ (O.cG f hf v c))).symm,
  fun v w hw=>O.cover v w (h.mem.2 hw),O.uniq,O.nodup⟩
def Ctx.same (C:Ctx n R H F) (c:ZJ n R') (fl:Flat n R') (h:qD (Ps H R') (Ps H R)):Ctx n R' H F:=by
 refine⟨c,C.sym,fl,C.O.same (Jt C.Pc C.sym) h.symm,fun v w d hw=>?_⟩;have ne:∀{v},Ps H R' v≠[]->Ps H R v≠[]:=fun{v} q e=>q (by have:=h v;rw[e]at this;exact this.nil);exact(C.je v w (ne d) (ne hw)).mono fun x y q=>h.mem.2 q
def OY (c:∀v w,w∈R' v↔w∈R v) (v:Nat):off R' H v↔off R H v:=⟨fun h w hw=>h w ((c v w).2 hw),fun h w hw=>h w ((c v w).1 hw)⟩
def LX (d:∀v w,w∈R' v↔w∈R v) (v w:Nat):Jc R' H v w=Jc R H v w:=by
 have c:=OY (H:=H) d;have g:∀v,lo R' H v=lo R H v:=fun v=>by
  unfold lo;congr 1;funext z;refine propext ⟨fun q=>q.mono fun x y k=>?_,fun q=>q.mono fun x y k=>?_⟩
  .obtain ⟨k1, k2, e⟩ := Bk.1 k
   exact Bk.2 ⟨(d _ _).1 k1,(c _).1 k2,(c _).1 e⟩
  .obtain ⟨k1, k2, e⟩ := Bk.1 k
   exact Bk.2 ⟨(d _ _).2 k1,(c _).2 k2,(c _).2 e⟩
 unfold Jc;simp only[c,g]
def Dd (c:∀v w,w∈R' v↔w∈R v) {u x:Nat}:cK R' H u x↔cK R H u x:=
 ⟨fun h=>⟨fun q=>h.on ((OY c u).2 q),(c _ _).1 h.mem,h.nh⟩,fun h=>⟨fun q=>h.on ((OY c u).1 q),(c _ _).2 h.mem,h.nh⟩⟩
def yR.same (W:yR R H a inn b) (d:∀v w,w∈R' v↔w∈R v):yR R' H a inn b:=
 ⟨W.nd,fun i x y c h2=>⟨(d _ _).2 (W.fj i x y c h2).1,(W.fj i x y c h2).2⟩,fun x e w hw=>W.off x e w ((d _ _).1 hw),
  by obtain⟨w,c,h2⟩:=W.de;exact⟨w,(d _ _).2 c,h2⟩,by obtain⟨w,c,h2⟩:=W.fJ;exact⟨w,(d _ _).2 c,h2⟩⟩
def Ctx.lay (C:Ctx n R H F) (W:yR R H a inn b) (hf:f∈F) (p:uN R H f a ((inn++[b]).headD 0)) (cy:Cyc f ((a::A)++(b::B))):
  Ctx n R (fun x y=>H x y\/iU a inn b x y) (half a A b inn::half b B a inn.reverse::F.erase f):=by
 have j:=C.Pc;have hs:=C.sym;have L:=W.lay j hs;have d:∀v w,(H v w\/iU a inn b v w)->H w v\/iU a inn b w v:=fun v w h=>h.imp (hs v w) Zs;obtain⟨D,g,c1,c2,d1,d2⟩:=C.drawn W;have:=C.pn g hf c1 p;subst this;have r:r8 R H a inn b b=cl R H b ((inn.reverse++[a]).headD 0):=by
  refine SD fun y _=>?_;rw[decide_eq_decide];exact or_congr yJ (W.x6 j hs)
 have s:=L.xy C.O g cy (by rw[W.aaJ];exact c1.at_) (by rw[r];exact c2.at_) d1 d2;have t:ZJ n (r8 R H a inn b):=Jt j d;have up:∀{v w},Cr (Ps H R) v w->Cr (r8 R H a inn b) v w:=fun h=>h.mono fun x y q=>Bk.2 ⟨(Bk.1 q).1,.inl (Bk.1 q).2⟩;have along:∀(i x:Nat),(ZR a inn b)[i]?=some x->Cr (r8 R H a inn b) a x:=fun i=>by
  induction i with
  |zero=>
   intro x k;have:=k.symm.trans (W3 a b inn).1;injection this with this;subst this;exact .refl _
  |succ i u=>
   intro x k;have E:=(bH.1 k).1;have o:(ZR a inn b)[i]?=some ((ZR a inn b)[i]'(by omega)):=dR QT
   exact(u _ o).step (L.fj o k)
 have toA:∀v,r8 R H a inn b v≠[]->Cr (r8 R H a inn b) a v:=fun v m=>by
  by_cases c:Ps H R v=[]
  .obtain ⟨w, l, e⟩ := bq m
   have hw:w∈r8 R H a inn b v:=by rw[e];simp
   obtain⟨k1,k2⟩:=Bk.1 hw;rcases k2 with k2|k2
   .have : w ∈ Ps H R v := Bk.2 ⟨k1, k2⟩
    rw[c]at this;cases this
   .rcases k2 with ⟨i, z, _⟩ | ⟨i, _, h2⟩
    .exact along i v z
    .exact along _ v h2
  .exact up (C.je a v L.ra c)
 exact⟨j,d,C.fl,s,fun v w m hw=>((toA v m).symm t).trans (toA w hw)⟩
def Uq.step (P:Uq n R H F) (hf:f∈F) {s:Nat} (i:cK R H a s) (fit:Fits R H (Jc R H a s) f)
  (cond:(∀h∈F,Fits R H (Jc R H a s) h->h=f)\/∀u x,cK R H u x->∃k∈F,∃h2∈F,k≠h2/\Fits R H (Jc R H u x) k/\Fits R H (Jc R H u x) h2)
  (W:yR R H a inn b) (hs:(inn++[b]).headD 0=s) (cy:Cyc f ((a::A)++(b::B))):
  ∃R',(∀v w,w∈R' v↔w∈R v)/\Ctx n R' (fun x y=>H x y\/iU a inn b x y) (half a A b inn::half b B a inn.reverse::F.erase f):=by
 obtain⟨g,hg,d⟩:=P.qZ i;have l:=d a s i rfl;have e:Fits R H (Jc R H a s) g:=fun z y o p=>(d z y o p).ug;by_cases c:g=f
 .subst c
  exact⟨R,fun _ _=>yJ,P.C.lay W hg (hs▸l) cy⟩
 .rcases cond with q | alt
  .exact absurd (q g hg e) c
  .obtain ⟨R', r, fl, m, t, j⟩ := P.move alt hf hg (Hn c) i l fit
   have C':=P.C.same r fl t;exact⟨R',m,C'.lay (W.same m) hf (hs▸j) cy⟩
def Uq.fits (P:Uq n R H F) {u x:Nat} (d:cK R H u x):∃g∈F,Fits R H (Jc R H u x) g:=by
 obtain⟨g,hg,c⟩:=P.qZ d;exact⟨g,hg,fun z y e h=>(c z y e h).ug⟩
end
end Go.Fw
namespace Go.Fw
attribute [local instance] Classical.propDecidable
structure pV (R:Nat->wi):Prop where
 je:∀v w,R v≠[]->R w≠[]->Cr R v w
 DZ:∀c v w,v≠c->w≠c->R v≠[]->R w≠[]->Cr (Ps (fun x y=>x≠c/\y≠c) R) v w
section
variable {n : Nat} {R R' : Nat → List Nat} {H : Nat → Nat → Prop} {F : List (List Nat)}
def pV.same (D:pV R) (a:∀v w,w∈R' v↔w∈R v):pV R':=by
 have ne:∀{v},R' v≠[]->R v≠[]:=fun{v} h e=>by
  obtain⟨w,l,q⟩:=bq h;have:w∈R v:=(a v w).1 (by rw[q];simp);rw[e]at this;cases this
 refine⟨fun v w b hw=>(D.je v w (ne b) (ne hw)).mono fun x y h=>(a x y).2 h,fun c v w d h2 b hw=>(D.DZ c v w d h2 (ne b) (ne hw)).mono fun x y h=>?_⟩;rw[Bk]at h ⊢;exact⟨(a _ _).2 h.1,h.2⟩
def WD {r:Nat->wi} (g:ZJ n R) (sub:∀v w,w∈r v->w∈R v) {v w:Nat} (h:Cr r v w) (f:off R H v):(Cr (Dt R H) v w/\off R H w)\/∃y z,Cr (Dt R H) v y/\off R H y/\¬off R H z/\z∈r y:=by
 induction h with
 |refl=>exact .inl ⟨.refl _,f⟩
 |@step b c _ d a=>
  rcases a with⟨e,h2⟩|a
  .by_cases q : off R H c
   .exact .inl ⟨e.step (Bk.2 ⟨sub _ _ d,h2,q⟩),q⟩
   .exact .inr ⟨b,c,e,h2,q,d⟩
  .exact .inr a
def Ctx.pieces (C:Ctx n R H F) (D:pV R) (h2:∃p q,p≠q/\¬off R H p/\¬off R H q):Uq n R H F:=by
 obtain⟨p,q,j,m,E⟩:=h2;have a:=C.Pc;have b:∀{v w},w∈R v->R v≠[]:=fun h e=>by rw[e]at h;cases h
 have A:∀{v},¬off R H v->R v≠[]:=fun h=>by obtain⟨w,k,_⟩:=E2 h;exact b k
 have mk:∀{r:Nat->wi} {v w:Nat},(∀v w,w∈r v->w∈R v)->Cr r v w->off R H v->¬off R H w->∃u x,cK R H u x/\Jc R H u x=(0,lo R H v,0)/\x∈R u/\u∈r x:=fun{r v w} sub o G hw=>by
  rcases WD a sub o G with h|⟨y,z,f,h2,h3,g⟩
  .exact absurd h.2 hw
  .have B := a.sy _ _ (sub _ _ g)
   exact⟨z,y,⟨h3,B,fun k=>h2 z (sub _ _ g) (C.sym _ _ k)⟩,by rw[ML h3 h2,(uB a).2 f],B,g⟩
 refine⟨C,fun u x d=>?_,fun v w hw I=>?_⟩
 .by_cases c : off R H x
  .have:∃t,t≠u/\¬off R H t:=by
    by_cases e:p=u
    .exact⟨q,fun k=>j (e.trans k.symm),E⟩
    .exact⟨p,e,m⟩
   obtain⟨t,J,i⟩:=this;have s:x≠u:=fun e=>d.on (e▸c);have o:=D.DZ u x t s J (b (a.sy _ _ d.mem)) (A i);obtain⟨z,y,f,h2,_,g⟩:=mk (fun v w h=>(Bk.1 h).1) o c i;exact⟨z,y,f,fun e=>(Bk.1 g).2.2 e.symm,by rw[h2,ML d.on c]⟩
  .exact⟨x,u,⟨c,a.sy _ _ d.mem,fun k=>d.nh (C.sym _ _ k)⟩,fun e=>a.ir u (e▸d.mem),uU a d.mem⟩
 .by_cases c : off R H v
  .obtain ⟨z, y, f, h2, _⟩ := mk (fun _ _ h => h) (D.je v p (b hw) (A m)) c m
   exact⟨z,y,f,by rw[h2,vd c]⟩
  .exact⟨v,w,⟨c,hw,I⟩,rfl⟩
end
def Js (l:wi) (x y:Nat):Prop:=(x∈l/\nx l x=y)\/(y∈l/\nx l y=x)
def iX {l:wi} (nd:l.Nodup) (h3:3<=l.length) {v:Nat} (d:v∈l):nx l v≠pv l v:=fun e=>by
 have f:nx l (nx l v)=v:=by rw[e];exact mz nd d
 have Jc:∀k,it (nx l) k v=v\/it (nx l) k v=nx l v:=fun k=>by
  induction k with
  |zero=>exact .inl rfl
  |succ k g=>
   show nx l (it (nx l) k v)=_\/nx l (it (nx l) k v)=_;rcases g with h|h
   .rw[h];exact .inr rfl
   .rw[h,f];exact .inl rfl
 have sub:∀w∈l,w∈[v,nx l v]:=fun w hw=>by
  obtain⟨k,rfl⟩:=Ma nd d hw;rcases Jc k with h|h<;>rw[h]<;>simp
 clear Jc f e d;generalize nx l v=w at sub
 match l,h3 with
 |a::b::c::t,_=>
  have ha:=sub a YX;have hb:=sub b YX;have i:=sub c YX;simp at ha hb i nd;omega
section
variable {n : Nat} {R : Nat → List Nat} {l : List Nat}
def JU {x y:Nat} (h:Js l x y):Js l y x:=h.symm
def Qz (d:ZJ n R) (fl:Flat n R) (nd:l.Nodup) (h3:3<=l.length) (m:∀v∈l,nx l v∈R v):Ctx n R (Js l) [l,l.reverse]:=by
 have hR:ZJ n (Ps (Js l) R):=Jt d fun _ _ h=>JU h;have i:l.reverse.Nodup:=Nc nd;have b:∀v∈l,∀w,w∈Ps (Js l) R v↔w=pv l v\/w=nx l v:=fun v a w=>by
  rw[Bk];constructor
  .rintro ⟨_, h | h⟩
   .exact .inr h.2.symm
   .exact .inl (by rw[<-h.2];exact(Zt nd h.1).symm)
  .rintro (rfl | rfl)
   .have k1 := j8 a
    have k2:=mz nd a;refine⟨?_,.inr ⟨k1,k2⟩⟩;have:=m _ k1;rw[k2]at this;exact d.sy _ _ this
   .exact⟨m v a,.inl ⟨a,rfl⟩⟩
 have c:∀v w,w∈Ps (Js l) R v->v∈l:=fun v w h=>by
  rcases(Bk.1 h).2 with h|h
  .exact h.1
  .rw[<-h.2];exact zc h.1
 have two:∀v∈l,nx (Ps (Js l) R v) (pv l v)=nx l v/\nx (Ps (Js l) R v) (nx l v)=pv l v:=fun v a=>mC (hR.nd v) (Hn (iX nd h3 a)) (b v a);have o:∀v,nx l.reverse v=pv l v:=fun v=>rfl;have ne:l≠[]:=fun e=>by rw[e]at h3;simp at h3
 have O:FO (Ps (Js l) R) [l,l.reverse]:=by
  refine⟨fun f hf=>?_,fun f hf=>?_,fun f hf v a=>?_,fun f hf v a=>?_,fun v w hw=>?_,fun f hf g hg v p h2 e=>?_,?_⟩
  .simp at hf; rcases hf with rfl | rfl
   .exact nd
   .exact i
  .simp at hf; rcases hf with rfl | rfl
   .exact ne
   .simpa using ne
  .simp at hf; rcases hf with rfl | rfl
   .exact(b v a _).2 (.inr rfl)
   .exact(b v (PT.1 a) _).2 (.inl rfl)
  .simp at hf; rcases hf with rfl | rfl
   .have := (two _ (zc a)).1
    rwa[Zt nd a]at this
   .have a := PT.1 a
    rw[o,o];have:=(two _ (j8 a)).2;rwa[mz nd a]at this
  .have a := c v w hw
   rcases(b v a w).1 hw with h|h
   .exact⟨l.reverse,YX,PT.2 a,h.symm⟩
   .exact⟨l,YX,a,h.symm⟩
  .simp at hf hg
   rcases hf with rfl|rfl
   .rcases hg with rfl | rfl
    .rfl
    .exact absurd e (iX nd h3 p)
   .rcases hg with rfl | rfl
    .exact absurd e.symm (iX nd h3 h2)
    .rfl
  .simp only [tS, Rb, RF, not_false_eq_true, Aq, and_true]
   intro e;obtain⟨v,t,q⟩:=bq ne;have a:v∈l:=by rw[q];simp
   refine iX nd h3 a ?_;unfold pv;rw[<-e]
 refine⟨d,fun _ _ h=>JU h,fl,O,fun v w a hw=>?_⟩;have inl:∀{v},Ps (Js l) R v≠[]->v∈l:=fun{v} h=>by
  obtain⟨w,t,q⟩:=bq h;exact c v w (by rw[q];simp)
 obtain⟨k,rfl⟩:=Ma nd (inl a) (inl hw);have j:=inl a;clear hw a;have:∀k,Cr (Ps (Js l) R) v (it (nx l) k v):=fun k=>by
  induction k with
  |zero=>exact .refl _
  |succ k r=>exact r.step ((b _ (O.it YX j k).1 _).2 (.inr rfl))
 exact this k
end
end Go.Fw
namespace Go.Fw
attribute [local instance] Classical.propDecidable
noncomputable def zT (n:Nat) (r:Nat->wi):wi:=(List.range n).filter fun v=>decide (r v≠[])
def Num (n:Nat) (r:Nat->wi) (F:ai):Prop:=2*((zT n r).length+F.length)=(dl n r).length+4
def qz {L:wi} {c:Nat}:∀X:wi,(X.map fun v=>if v∈L then c else 0).sum=c*(X.filter fun v=>decide (v∈L)).length
 |[]=>rfl
 |x::X=>by
  rw[Kj,Lh,qz X];by_cases h:x∈L
  .rw[if_pos h,filter_one (decide_eq_true h),jD,Nat.mul_succ,aam]
  .rw[if_neg h,V4 (by simpa using h),Qs]
def Ye {f g h k:Nat->Nat}:∀X:wi,(∀x∈X,f x=g x+h x+k x)->(X.map f).sum=(X.map g).sum+(X.map h).sum+(X.map k).sum
 |[],_=>rfl
 |x::X,c=>by
  simp only[Kj,Lh];rw[Ye X fun y d=>c y (Gs _ d),c x jR];omega
def fG {n:Nat} {L:wi} (nd:L.Nodup) (h:∀x∈L,x<n):((List.range n).filter fun v=>decide (v∈L)).length=L.length:=by
 refine(wI (SJ.sublist F5) nd fun v=>?_).length_eq;rw[sX,vq,decide_eq_true_eq];exact⟨And.right,fun q=>⟨h v q,q⟩⟩
def N2 (n:Nat) (r:Nat->wi):(dl n r).length=((List.range n).map fun v=>(r v).length).sum:=by
 unfold dl;rw[List.length_flatMap];congr 1;refine vG fun v _=>?_;rw[yA]
section
variable {n : Nat} {r r' : Nat → List Nat} {F F' : List (List Nat)} {a b : Nat} {inn : List Nat}
def Lay.lts (L:Lay n r r' a b inn):a<n/\b<n/\∀x∈inn,x<n:=by
 refine⟨L.R'.lt _ _ L.sa,L.R'.lt _ _ L.sb,fun x c=>?_⟩;obtain⟨i,p,d,h2⟩:=xD (a:=a) (b:=b) (.inr c);exact L.R'.lt _ _ (L.R'.sy _ _ (L.fj d h2))
def Lay.deg (L:Lay n r r' a b inn) (v:Nat):(r' v).length=(r v).length+(if v∈[a,b]then 1 else 0)+(if v∈inn then 2 else 0):=by
 have one:∀{l:wi} {s:Nat},s∈l->l.length=(l.erase s).length+1:=fun{l s} h=>by
  rw[VZ h];have:=TR h;omega
 by_cases c1:v=a
 .subst c1
  rw[one L.sa,L.ea,if_pos YX,if_neg L.ain]
 by_cases c2:v=b
 .subst c2
  rw[one L.sb,L.eb,if_pos YX,if_neg L.bin]
 rw[if_neg (by simp[c1,c2])];by_cases d:v∈inn
 .rw [if_pos d, L.off v d]
  obtain⟨i,p,j,c⟩:=xD (a:=a) (b:=b) (.inr d);have f:=(bH.1 c).1;have hi:i+2<(ZR a inn b).length:=by
   refine Jp f fun e=>?_;rw[OQ]at e;have:i=inn.length:=QT;subst this;rw[(YS a b inn).1]at c;injection c with c;exact c2 c.symm
  obtain⟨_,_,k⟩:=L.mid i p v _ j c (dR hi);have g:p≠(ZR a inn b)[i+2]:=fun e=>by
   have:=yQ L.mf j (by rw[e];exact dR hi);omega
  have:=(wI (L.R'.nd v) (by simp[g]:[p,(ZR a inn b)[i+2]].Nodup) fun y=>by rw[k];simp).length_eq;rw[this];rfl
 .rw[if_neg d,L.UZ v c1 c2 d];rfl
def Lay.num (L:Lay n r r' a b inn) (j:F'.length=F.length+1) (N:Num n r F):Num n r' F':=by
 obtain⟨k,l,li⟩:=L.lts;have m:(dl n r').length=(dl n r).length+2*(inn.length+1):=by
  rw[N2,N2,Ye _ fun v _=>L.deg v,qz,qz,fG (by simp[L.ab]) (by intro x f;simp at f;omega),fG L.nd li];simp;omega
 have o:(zT n r').length=(zT n r).length+inn.length:=by
  have pm:(zT n r').Perm (zT n r++inn):=by
   refine wI (SJ.sublist F5) ?_ fun v=>?_
   .rw [KM]
    refine⟨SJ.sublist F5,L.nd,fun x f y i e=>?_⟩;subst e;have:=(sX.1 f).2;rw[decide_eq_true_eq]at this;exact this (L.off x i)
   .unfold zT
    rw[uK,sX,sX,vq,decide_eq_true_eq,decide_eq_true_eq];have d:=L.deg v;constructor
    .rintro ⟨g, h2⟩
     by_cases c:v∈inn
     .exact .inr c
     .refine .inl ⟨g, fun e => ?_⟩
      by_cases c1:v=a
      .exact L.ra (c1▸e)
      by_cases c2:v=b
      .exact L.rb (c2▸e)
      .exact h2 (by rw[L.UZ v c1 c2 c];exact e)
    .rintro (⟨g, h2⟩ | h)
     .refine ⟨g, fun e => h2 ?_⟩
      rw[e]at d;exact b7 (by simp at d;omega)
     .refine ⟨li v h, fun e => ?_⟩
      rw[e,if_pos h]at d;simp at d
  rw[pm.length_eq,Vw]
 unfold Num at*;omega
def Num.flat (N:Num n r F) (R:ZJ n r) (O:FO r F) (je:∀v w,r v≠[]->r w≠[]->Cr r v w) (ne:∃v,v<n/\r v≠[]):Flat n r:=by
 obtain⟨d,j,e⟩:=ne;have l:((List.range n).filter fun v=>decide (r v=[])).length+(zT n r).length=n:=by
  have Jc:∀X:wi,(X.filter fun v=>decide (r v=[])).length+(X.filter fun v=>decide (r v≠[])).length=X.length:=fun X=>by
   induction X with
   |nil=>rfl
   |cons x X m=>
    by_cases c:r x=[]
    .rw[filter_one (decide_eq_true c),V4 (by simpa using c),jD,jD];omega
    .rw[filter_one (p:=fun v=>decide (r v≠[])) (decide_eq_true c),V4 (by simpa using c),jD,jD];omega
  have:=Jc (List.range n);rw[xw]at this;exact this
 have o:KR n r=((List.range n).filter fun v=>decide (r v=[])).length+1:=by
  unfold KR;have iso:∀{v w},r v=[]->Cr r v w->v=w:=fun{v w} h c=>by
   induction c with
   |refl=>rfl
   |step _ hs m=>
    rw[<-m,h]at hs;cases hs
  have k1:∀y∈((List.range n).filter fun v=>decide (r v=[]))++[d],y∈List.range n:=fun y i=>by
   rcases uK.1 i with h|h
   .exact(sX.1 h).1
   .rw[Rb.1 h];exact vq.2 j
  have k2:(((List.range n).filter fun v=>decide (r v=[]))++[d]).Pairwise fun a b=>¬Cr r a b:=by
   rw[zu];refine⟨?_,YX,fun x f y i c=>?_⟩
   .refine iF (R := fun x y => x ≠ y) (fun {x y} f _ k c => k ?_) (gY.1 (SJ.sublist F5))
    exact iso (by simpa using(sX.1 f).2) c
   .rw [Rb] at i
    subst i;have g:r x=[]:=by simpa using(sX.1 f).2
    exact e (iso g c▸g)
  have q:∀x∈List.range n,∃y∈((List.range n).filter fun v=>decide (r v=[]))++[d],Cr r x y:=fun x f=>by
   by_cases h:r x=[]
   .exact⟨x,KF _ (sX.2 ⟨f,decide_eq_true h⟩),.refl _⟩
   .exact⟨d,YX,je x d h e⟩
  rw[N3 (Cr.eqv R _) SJ k1 k2 q];simp
 unfold Flat Zz;rw[O.cls R,o];unfold Num at N;omega
end
end Go.Fw
namespace Go.Fw
attribute [local instance] Classical.propDecidable
section
variable {n : Nat} {r r' : Nat → List Nat} {F : List (List Nat)} {f A B : List Nat} {a b : Nat} {inn : List Nat}
def Lay.mem (L:Lay n r r' a b inn) {x y:Nat}:y∈r' x↔y∈r x\/iU a inn b x y:=by
 have ends:∀{a b:Nat} {inn:wi} (_:Lay n r r' a b inn) {y:Nat},y∈r' a->y∈r a\/iU a inn b a y:=fun{a b inn} L {y} h=>by
  by_cases c:y=(inn++[b]).headD 0
  .subst c
   obtain⟨q,s⟩:=W3 a b inn;exact .inr (.inl ⟨0,q,s⟩)
  .left;rw[<-L.ea];exact(Bi c).2 h
 constructor
 .intro h
  by_cases c1:x=a
  .subst c1;exact ends L h
  by_cases c2:x=b
  .subst c2;exact(ends L.swap h).imp id Ka.1
  by_cases k:x∈inn
  .obtain ⟨i, p, m, d⟩ := xD (a := a) (b := b) (.inr k)
   have g:=(bH.1 d).1;have hi:i+2<(ZR a inn b).length:=by
    refine Jp g fun e=>?_;rw[OQ]at e;have:i=inn.length:=QT;subst this;rw[(YS a b inn).1]at d;injection d with d;exact c2 d.symm
   have o:(ZR a inn b)[i+2]?=some ((ZR a inn b)[i+2]'hi):=dR hi
   rcases((L.mid i p x _ m d o).2.2 y).1 h with rfl|rfl
   .exact .inr (.inr ⟨i,m,d⟩)
   .exact .inr (.inl ⟨i+1,d,o⟩)
  .rw[L.UZ x c1 c2 k]at h;exact .inl h
 .rintro (h | ⟨i, j, h2⟩ | ⟨i, j, h2⟩)
  .exact L.sub h
  .exact L.fj j h2
  .exact L.R'.sy _ _ (L.fj j h2)
def Lay.conn2 (L:Lay n r r' a b inn) (je:∀v w,r v≠[]->r w≠[]->Cr r v w):∀v w,r' v≠[]->r' w≠[]->Cr r' v w:=by
 have along:∀(i x:Nat),(ZR a inn b)[i]?=some x->Cr r' a x:=fun i=>by
  induction i with
  |zero=>
   intro x c;have:=c.symm.trans (W3 a b inn).1;injection this with this;subst this;exact .refl _
  |succ i j=>
   intro x c;have m:=(bH.1 c).1;have g:(ZR a inn b)[i]?=some ((ZR a inn b)[i]'(by omega)):=dR QT
   exact(j _ g).step (L.fj g c)
 have toA:∀v,r' v≠[]->Cr r' a v:=fun v d=>by
  obtain⟨w,l,e⟩:=bq d;have hw:w∈r' v:=by rw[e];simp
  rcases L.mem.1 hw with h|⟨i,k,_⟩|⟨i,_,h2⟩
  .exact(je a v L.ra fun q=>by rw[q]at h;cases h).mono fun x y h=>L.sub h
  .exact along i v k
  .exact along _ v h2
 exact fun v w d hw=>((toA v d).symm L.R').trans (toA w hw)
structure Dx (n:Nat) (r:Nat->wi) (F:ai):Prop where
 Pc:ZJ n r
 O:FO r F
 je:∀v w,r v≠[]->r w≠[]->Cr r v w
 num:Num n r F
 ne:F≠[]
def Dx.flat (G:Dx n r F):Flat n r:=by
 obtain⟨f,l,e⟩:=bq G.ne;have hf:f∈F:=by rw[e];simp
 have c:=G.O.cG f hf _ (Iu (G.O.ne f hf));exact G.num.flat G.Pc G.O G.je ⟨_,G.Pc.lt _ _ c,fun q=>by rw[q]at c;cases c⟩
def Dx.lay (G:Dx n r F) (hf:f∈F) (C:BA n r f a b inn) (cy:Cyc f ((a::A)++(b::B))):
  Dx n (SZ r f a b inn) (half a A b inn::half b B a inn.reverse::F.erase f)/\∀x y,y∈SZ r f a b inn x↔y∈r x\/iU a inn b x y:=by
 obtain⟨L,c,h2,h3,d⟩:=C.lay G.Pc G.O hf;refine⟨⟨L.R',L.xy G.O hf cy c h2 h3 d,L.conn2 G.je,L.num ?_ G.num,YX⟩,fun x y=>L.mem⟩;rw[jD,jD,VZ hf];have:=TR hf;omega
end
noncomputable def Uc (l:wi) (v:Nat):wi:=if v∈l then[pv l v,nx l v]else[]
section
variable {n : Nat} {l : List Nat}
def rI (nd:l.Nodup) {v w:Nat}:w∈Uc l v↔Js l v w:=by
 unfold Uc Js;by_cases c:v∈l
 .rw [if_pos c]
  simp only[aH,RF,or_false];constructor
  .rintro (rfl | rfl)
   .exact .inr ⟨j8 c,mz nd c⟩
   .exact .inl ⟨c,rfl⟩
  .rintro (h | h)
   .exact .inr h.2.symm
   .exact .inl (by rw[<-h.2];exact(Zt nd h.1).symm)
 .rw [if_neg c]
  constructor
  .intro h;cases h
  .rintro (h | h)
   .exact absurd h.1 c
   .exact absurd (h.2▸zc h.1) c
def p7 (nd:l.Nodup) (h3:3<=l.length) (lt:∀v∈l,v<n):Dx n (Uc l) [l,l.reverse]:=by
 have i:=fun{v w}=>rI (v:=v) (w:=w) nd;have j:l≠[]:=fun e=>by rw[e]at h3;simp at h3
 have m:∀v∈l,nx l v≠v:=fun v d e=>by
  have:=(Zc nd d).1 e;rw[this]at h3;simp at h3
 have R:ZJ n (Uc l):=by
  refine⟨fun v=>?_,fun v w h=>?_,fun v w h=>i.2 (JU (i.1 h)),fun v h=>?_⟩
  .unfold Uc
   split
   .rename_i c
    simp[Hn (iX nd h3 c)]
   .simp
  .rcases i.1 h with h | h
   .exact lt v h.1
   .exact lt v (h.2▸zc h.1)
  .rcases i.1 h with h | h
   .exact m v h.1 h.2
   .exact m v h.1 h.2
 have x:Ps (Js l) (Uc l)=Uc l:=yB fun v w h=>i.1 h;have two:∀v∈l,nx (Uc l v) (pv l v)=nx l v/\nx (Uc l v) (nx l v)=pv l v:=fun v d=>by
  unfold Uc;rw[if_pos d];exact xx (Hn (iX nd h3 d))
 have O:FO (Uc l) [l,l.reverse]:=by
  refine⟨fun f hf=>?_,fun f hf=>?_,fun f hf v d=>?_,fun f hf v d=>?_,fun v w hw=>?_,fun f hf g hg v p h2 e=>?_,?_⟩
  .simp at hf; rcases hf with rfl | rfl
   .exact nd
   .exact Nc nd
  .simp at hf; rcases hf with rfl | rfl
   .exact j
   .simpa using j
  .simp at hf; rcases hf with rfl | rfl
   .exact i.2 (.inl ⟨d,rfl⟩)
   .have d := PT.1 d
    exact i.2 (.inr ⟨j8 d,mz nd d⟩)
  .simp at hf; rcases hf with rfl | rfl
   .have := (two _ (zc d)).1
    rwa[Zt nd d]at this
   .have d := PT.1 d
    have:=(two _ (j8 d)).2;rw[mz nd d]at this;exact this
  .rcases i.1 hw with h | h
   .exact⟨l,YX,h.1,h.2⟩
   .refine ⟨l.reverse, YX, PT.2 (h.2 ▸ zc h.1), ?_⟩
    show pv l v=w;rw[<-h.2];exact Zt nd h.1
  .simp at hf hg
   rcases hf with rfl|rfl
   .rcases hg with rfl | rfl
    .rfl
    .exact absurd e (iX nd h3 p)
   .rcases hg with rfl | rfl
    .exact absurd e.symm (iX nd h3 h2)
    .rfl
  .simp only [tS, Rb, RF, not_false_eq_true, Aq, and_true]
   intro e;have d:=Iu j;refine iX nd h3 d ?_;unfold pv;rw[<-e]
 have inl:∀{v},Uc l v≠[]->v∈l:=fun{v} h=>mS fun q=>h (if_neg q);refine⟨R,O,fun v w d hw=>?_,?_,YX⟩
 .obtain ⟨k, rfl⟩ := Ma nd (inl d) (inl hw)
  have o:=inl d;clear hw d;have:∀k,Cr (Uc l) v (it (nx l) k v):=fun k=>by
   induction k with
   |zero=>exact .refl _
   |succ k s=>exact s.step (i.2 (.inl ⟨(O.it YX o k).1,rfl⟩))
  exact this k
 .have t:(zT n (Uc l)).length=l.length:=by
   rw[<-fG nd lt];unfold zT;refine congrArg List.length (SD fun v _=>?_);rw[decide_eq_decide];exact⟨inl,fun h e=>by unfold Uc at e;rw[if_pos h]at e;cases e⟩
  have u:(dl n (Uc l)).length=2*l.length:=by
   rw[N2,<-fG nd lt,<-qz];congr 1;refine vG fun v _=>?_;unfold Uc;split<;>rfl
  unfold Num;rw[t,u];simp;omega
end
end Go.Fw
namespace Go.Fw
attribute [local instance] Classical.propDecidable
def Gp (n:Nat) (E:Nat->wi):Prop:=∃R,ZJ n R/\Flat n R/\∀v w,w∈R v↔w∈E v
structure KV (n:Nat) (E:Nat->wi) (H:Nat->Nat->Prop) (F:ai):Prop where
 sub:∀x y,H x y->y∈E x
 jd:∃r,Dx n r F/\∀x y,y∈r x↔H x y
 full:Gp n E->∃R,(∀v w,w∈R v↔w∈E v)/\Ctx n R H F
section
variable {n : Nat} {E : Nat → List Nat} {H : Nat → Nat → Prop} {F : List (List Nat)} {f A B inn l : List Nat} {a b s : Nat}
def fU {R R':Nat->wi} (c:∀v w,w∈R' v↔w∈R v) {k:Nat×Nat×Nat} {h:wi}:Fits R' H k h↔Fits R H k h:=
 ⟨fun q u x d e=>q u x ((Dd c).2 d) (by rw[LX c];exact e),fun q u x d e=>q u x ((Dd c).1 d) (by rw[<-LX c];exact e)⟩
def KV.start (nd:l.Nodup) (h3:3<=l.length) (e:ZJ n E) (c:∀v∈l,nx l v∈E v):KV n E (Js l) [l,l.reverse]:=by
 refine⟨fun x y h=>?_,⟨_,p7 nd h3 fun v d=>e.lt _ _ (c v d),fun x y=>rI nd⟩,fun⟨R,i,fl,g⟩=>⟨R,g,Qz i fl nd h3 fun v d=>(g _ _).2 (c v d)⟩⟩;rcases h with h|h
 .rw[<-h.2];exact c x h.1
 .have := c y h.1
  rw[h.2]at this;exact e.sy _ _ this
def KV.AQ (I:KV n E H F):∃p q,p≠q/\¬off E H p/\¬off E H q:=by
 obtain⟨r,G,d⟩:=I.jd;obtain⟨f,t,e⟩:=bq G.ne;have hf:f∈F:=by rw[e];simp
 have c:=G.O.cG f hf _ (Iu (G.O.ne f hf));have g:=(d _ _).1 c;have h2:=(d _ _).1 (G.Pc.sy _ _ c);exact⟨_,_,fun e=>G.Pc.ir _ (by rw[<-e]at c;exact c),fun q=>q _ (I.sub _ _ g) g,fun q=>q _ (I.sub _ _ h2) h2⟩
def KV.pieces (I:KV n E H F) (D:pV E) {R:Nat->wi} (c:∀v w,w∈R v↔w∈E v) (C:Ctx n R H F):Uq n R H F:=by
 obtain⟨p,q,d,h2,h3⟩:=I.AQ;exact C.pieces (D.same c) ⟨p,q,d,fun k=>h2 ((OY c p).1 k),fun k=>h3 ((OY c q).1 k)⟩
def KV.step (I:KV n E H F) (D:pV E) (o:ZJ n E) (hf:f∈F) (L:cK E H a s) (fit:Fits E H (Jc E H a s) f)
  (cond:(∀h∈F,Fits E H (Jc E H a s) h->h=f)\/∀u x,cK E H u x->∃d∈F,∃h2∈F,d≠h2/\Fits E H (Jc E H u x) d/\Fits E H (Jc E H u x) h2)
  (W:yR E H a inn b) (hs:(inn++[b]).headD 0=s) (cy:Cyc f ((a::A)++(b::B))):
  KV n E (fun x y=>H x y\/iU a inn b x y) (half a A b inn::half b B a inn.reverse::F.erase f):=by
 obtain⟨r,G,j⟩:=I.jd;have m:∀v w,H v w->H w v:=fun v w h=>(j _ _).1 (G.Pc.sy _ _ ((j _ _).2 h));refine⟨fun x y h=>h.elim (I.sub x y) fun h=>(W.wE o m h).1,?_,fun M=>?_⟩
 .have C:BA n r f a b inn:=by
   refine⟨W.ab,cy.perm.mem_iff.2 YX,cy.perm.mem_iff.2 YX,?_,fun x z=>?_,fun x z=>?_,fun e q=>?_⟩
   .have := W.nd
    rw[ZR,tS,KM]at this;exact this.2.1
   .refine mS fun q => ?_
    obtain⟨w,t,e⟩:=bq q;have h:=(j x w).1 (by rw[e];simp);exact W.off x z w (I.sub _ _ h) h
   .obtain ⟨i, p, d, h2⟩ := xD (a := a) (b := b) (.inr z)
    exact o.lt _ _ (o.sy _ _ (W.fj i p x d h2).1)
   .subst e
    have d:(ZR a [] b)[0]?=some a:=rfl;have h2:(ZR a [] b)[0+1]?=some b:=rfl;exact(W.fj 0 a b d h2).2 ((j _ _).1 q)
  obtain⟨N,c⟩:=G.lay hf C cy;exact⟨_,N,fun x y=>by rw[c,j]⟩
 .obtain ⟨R, c, C⟩ := I.full M
  have P:=I.pieces D c C;have g:(∀h∈F,Fits R H (Jc R H a s) h->h=f)\/∀u x,cK R H u x->∃d∈F,∃h2∈F,d≠h2/\Fits R H (Jc R H u x) d/\Fits R H (Jc R H u x) h2:=by
   rcases cond with q|q
   .exact .inl fun h hh k=>q h hh (by rw[LX c]at k;exact(fU c).1 k)
   .refine .inr fun u x O => ?_
    obtain⟨d,m1,h2,m2,J,Q,S⟩:=q u x ((Dd c).1 O);exact⟨d,m1,h2,m2,J,by rw[LX c];exact(fU c).2 Q,by rw[LX c];exact(fU c).2 S⟩
  obtain⟨R',K,C'⟩:=P.step hf ((Dd c).2 L) (by rw[LX c];exact(fU c).2 fit) g (W.same c) hs cy;exact⟨R',fun v w=>(K v w).trans (c v w),C'⟩
def KV.fail (I:KV n E H F) (D:pV E) {u x:Nat} (d:cK E H u x) (h:∀f∈F,¬Fits E H (Jc E H u x) f):¬Gp n E:=fun e=>by
 obtain⟨R,c,C⟩:=I.full e;obtain⟨g,hg,k⟩:=(I.pieces D c C).fits ((Dd c).2 d);rw[LX c]at k;exact h g hg ((fU c).1 k)
def KV.done (I:KV n E H F) (h:∀x y,y∈E x->H x y):∃r,Dx n r F/\Flat n r/\∀x y,y∈r x↔y∈E x:=by
 obtain⟨r,G,c⟩:=I.jd;exact⟨r,G,G.flat,fun x y=>(c x y).trans ⟨I.sub x y,h x y⟩⟩
end
end Go.Fw
namespace Go.Fw
attribute [local instance] Classical.propDecidable
def aaZ {α:Type} {A B:List α} (d:A.Nodup) (nb:B.Nodup) (h:∀a∈A,a∈B):A.length<=B.length:=by
 have pm:B.Perm (A++B.filter fun x=>decide (x∉A)):=by
  refine wI nb ?_ fun x=>?_
  .rw [KM]
   refine⟨d,nb.sublist F5,fun a ha b hb e=>?_⟩;subst e;exact(of_decide_eq_true (sX.1 hb).2) ha
  .rw [uK, sX, decide_eq_true_eq]
   constructor
   .intro f
    by_cases c:x∈A
    .exact .inl c
    .exact .inr ⟨f,c⟩
   .rintro (q | q)
    .exact h x q
    .exact q.1
 rw[pm.length_eq,Vw];omega
def Z7 {α β:Type} {k:Nat} {g:α->List β}:∀{L:List α},(∀x∈L,k<=(g x).length)->k*L.length<=(L.flatMap g).length
 |[],_=>by simp
 |x::L,h=>by
  have:=Z7 (L:=L) fun y a=>h y (Gs _ a);have b:=h x jR;rw[Tx,Vw,jD,Nat.mul_succ];omega
section
variable {n : Nat} {r : Nat → List Nat}
def fz (R:ZJ n r) {k:Nat} (h:∀d∈dl n r,k<=qS (Mo r) d):k*cls (kD (Mo r)) (dl n r)<=(dl n r).length:=by
 have p:=TL R;rw[<-cq R];have f:∀d∈kZ n r,d∈dl n r:=fun d f=>(ZE R).2 ((MN R).1 f).1;have m:(kZ n r).Nodup:=(FE n r).sublist (by unfold kZ;exact F5);refine Jh (Z7 (g:=Vq (Mo r)) fun d c=>by rw[Dw];exact h d (f d c)) (aaZ ?_ (Pe R) fun e i=>?_)
 .rw [gY, dJ]
  refine⟨fun d c=>gY.1 (lK p (f d c)),?_⟩;refine iF (R:=fun a b=>a≠b) (fun{a b} ha hb l x o y q e=>l ?_) (gY.1 m);subst e;have s:=(Ts p (f a ha)).1 o;have h2:=(Ts p (f b hb)).1 q;exact xP R ha hb (s.trans (p.Tp (f b hb) h2))
 .obtain ⟨d, c, i⟩ := H0.1 i
  obtain⟨j,rfl⟩:=(Ts p (f d c)).1 i;exact p.F4 (f d c) j
def Ls (R:ZJ n r) (hf:Flat n r) (je:∀v w,r v≠[]->r w≠[]->Cr r v w) (all:∀v,v<n->r v≠[]) (a:0<n):2*(n+cls (kD (Mo r)) (dl n r))=(dl n r).length+4:=by
 have b:((List.range n).filter fun v=>decide (r v=[]))=[]:=filter_none fun z c q=>all z (vq.1 c) (of_decide_eq_true q);have d:KR n r=1:=by
  unfold KR;rw[N3 (Cr.eqv R _) SJ (L:=[0]) (fun y e=>by rw[Rb.1 e];exact vq.2 a) YX fun x f=>⟨0,YX,je x 0 (all x (vq.1 f)) (all 0 a)⟩];rfl
 unfold Flat Zz at hf;rw[b,d]at hf;simpa using hf
def pV.deg (D:pV r) {v w:Nat} (h:r v=[w]) {x:Nat} (b:r x≠[]) (d:x≠v) (h2:x≠w) (hw:v≠w):False:=by
 have c:=D.DZ w v x hw h2 (by rw[h];simp) b;have:∀y,Cr (Ps (fun x y=>x≠w/\y≠w) r) v y->y=v:=fun y c=>by
  induction c with
  |refl=>rfl
  |step _ hs e=>
   subst e;obtain⟨a,f⟩:=Bk.1 hs;rw[h,Rb]at a;exact absurd a f.2
 exact d (this x c)
def tz (R:ZJ n r) (D:pV r) (h3:3<=n) (all:∀v,v<n->r v≠[]) {d:JE} (b:d∈dl n r):3<=qS (Mo r) d/\(qS (Mo r) d=3->∃x y z,y∈r x/\z∈r y/\x∈r z):=by
 have p:=TL R;obtain⟨s,c,_⟩:=zZ p b;have j:=JJ R b;have m0:=(ZE R).1 b;have m1:=(ZE R).1 (p.F4 b 1);have m2:=(ZE R).1 (p.F4 b 2);obtain⟨v,w⟩:=d;have a:∃x,x<n/\x≠v/\x≠w:=by
  by_cases h:0≠v/\0≠w
  .exact⟨0,QT,h.1,h.2⟩
  by_cases i:1≠v/\1≠w
  .exact⟨1,QT,i.1,i.2⟩
  .exact⟨2,QT,QT,QT⟩
 obtain⟨x,k,x1,l⟩:=a;have m:v≠w:=fun e=>R.ir v (by rw[<-e]at m0;exact m0);constructor
 .refine Jp j fun e => ?_
  rw[<-e]at c;have f:(nx (r w) v,nx (r (nx (r w) v)) w)=((v,w):JE):=c;injection f with f _;have g:v∈r w:=R.sy _ _ m0;have:=(Zc (R.nd w) g).1 f;exact D.deg this (all x k) l x1 (Hn m)
 .intro e
  rw[e]at c;have o:((it (Mo r) 3 (v,w)).1)=v:=by rw[c]
  have q:(it (Mo r) 2 (v,w)).2=v:=o;exact⟨v,w,(it (Mo r) 2 (v,w)).1,m0,m1,by rw[q]at m2;exact m2⟩
def yN (R:ZJ n r) (hf:Flat n r) (D:pV r) (h3:3<=n) (all:∀v,v<n->r v≠[]):(dl n r).length+12<=6*n/\((∀x y z,y∈r x->z∈r y->x∉r z)->(dl n r).length+8<=4*n):=by
 have e:=Ls R hf D.je all QT;constructor
 .have := fz R (k := 3) fun d a => (tz R D h3 all a).1
  omega
 .intro b
  have:=fz R (k:=4) fun d a=>by
   obtain⟨c,h2⟩:=tz R D h3 all a;refine Jp c fun q=>?_;obtain⟨x,y,z,f,g,h⟩:=h2 q.symm;exact b x y z f g h
  omega
end
end Go.Fw
namespace Go.Fw
section
attribute [local instance] Classical.propDecidable
variable {l:wi} {n u:Nat} {r:Nat->wi}
def rE {f g:Nat->Nat} {P:Nat->Prop} (a:∀x,P x->P (f x)) (h:∀x,P x->f x=g x) {u:Nat} (b:P u):∀k,it f k u=it g k u/\P (it f k u)
 |0=>⟨rfl,b⟩
 |k+1=>by
  obtain⟨e,p⟩:=rE a h b k;refine⟨?_,a _ p⟩;show f (it f k u)=g (it g k u);rw[<-e,h _ p]
def Ym {l:wi} (nd:l.Nodup) {u:Nat} {c:wi} (e:l=u::c):∀k,k<l.length->l[k]?=some (it (nx l) k u)
 |0,_=>by rw[e];rfl
 |k+1,hk=>by
  have ih:=Ym nd e k QT;have h1:l[k+1]?=some (l[k+1]'hk):=dR hk
  rw[h1];congr 1;exact(Fp nd ih h1).1.symm
def LH (nd:l.Nodup) (f:u∈l):Cyc l ((List.range l.length).map fun k=>it (nx l) k u):=by
 obtain⟨c,a⟩:=Cyc.front f;have b:=a.perm.nodup_iff.1 nd;have e:((List.range l.length).map fun k=>it (nx l) k u)=u::c:=by
  refine Lc fun i=>?_;rw[a.perm.length_eq];by_cases h:i<(u::c).length
  .rw [Rv, bp h, Ym b rfl i h]
   simp only[pD];congr 1;exact(rE (P:=fun x=>x∈l) (fun x d=>zc d) (fun x d=>a.nx nd d) f i).1
  .rw[Tz (by simpa using h),Tz QT]
 rw[e];exact a
def OL {F:ai} (R:ZJ n r) (O:FO r F) {next:Nat->Nat->Nat} (h:∀f∈F,∀v∈f,next v (pv f v)=nx f v) {v u:Nat} (c:u∈r v):
  Cyc (r v) ((List.range (r v).length).map fun k=>it (next v) k u):=by
 have Jc:∀w∈r v,next v w=nx (r v) w:=fun w hw=>by
  obtain⟨f,hf,a,e⟩:=O.cover w v (R.sy _ _ hw);have d:v∈f:=by rw[<-e];exact zc a
  have i:pv f v=w:=by rw[<-e];exact Zt (O.nd f hf) a
  have g:=h f hf v d;have h2:=(O.pv hf d).2.2;rw[i]at g h2;rw[g,h2]
 have e:((List.range (r v).length).map fun k=>it (next v) k u)=(List.range (r v).length).map fun k=>it (nx (r v)) k u:=by
  refine vG fun k _=>?_;exact((rE (P:=fun x=>x∈r v) (fun x b=>zc b) (fun x b=>(Jc x b).symm) c k).1).symm
 rw[e];exact LH (R.nd v) c
end
end Go.Fw
namespace Go.Fw
attribute [local instance] Classical.propDecidable
section
variable {n : Nat} {r : Nat → List Nat} {F : List (List Nat)}
def iso_on (n:Nat) (r:Nat->wi):((List.range n).filter fun v=>decide (r v=[])).length+(zT n r).length=n:=by
 have Jc:∀X:wi,(X.filter fun v=>decide (r v=[])).length+(X.filter fun v=>decide (r v≠[])).length=X.length:=fun X=>by
  induction X with
  |nil=>rfl
  |cons x X a=>
   by_cases c:r x=[]
   .rw[filter_one (decide_eq_true c),V4 (by simpa using c),jD,jD];omega
   .rw[filter_one (p:=fun v=>decide (r v≠[])) (decide_eq_true c),V4 (by simpa using c),jD,jD];omega
 have:=Jc (List.range n);rw[xw]at this;exact this
def aa4 (R:ZJ n r) (je:∀v w,r v≠[]->r w≠[]->Cr r v w) (ne:∃v,v<n/\r v≠[]):KR n r=((List.range n).filter fun v=>decide (r v=[])).length+1:=by
 obtain⟨d,j,e⟩:=ne;unfold KR;have iso:∀{v w},r v=[]->Cr r v w->v=w:=fun{v w} h c=>by
  induction c with
  |refl=>rfl
  |step _ hs l=>
   rw[<-l,h]at hs;cases hs
 have k1:∀y∈((List.range n).filter fun v=>decide (r v=[]))++[d],y∈List.range n:=fun y i=>by
  rcases uK.1 i with h|h
  .exact(sX.1 h).1
  .rw[Rb.1 h];exact vq.2 j
 have k2:(((List.range n).filter fun v=>decide (r v=[]))++[d]).Pairwise fun a b=>¬Cr r a b:=by
  rw[zu];refine⟨?_,YX,fun x f y i c=>?_⟩
  .refine iF (R := fun x y => x ≠ y) (fun {x y} f _ k c => k ?_) (gY.1 (SJ.sublist F5))
   exact iso (by simpa using(sX.1 f).2) c
  .rw [Rb] at i
   subst i;have g:r x=[]:=by simpa using(sX.1 f).2
   exact e (iso g c▸g)
 have m:∀x∈List.range n,∃y∈((List.range n).filter fun v=>decide (r v=[]))++[d],Cr r x y:=fun x f=>by
  by_cases h:r x=[]
  .exact⟨x,KF _ (sX.2 ⟨f,decide_eq_true h⟩),.refl _⟩
  .exact⟨d,YX,je x d h e⟩
 rw[N3 (Cr.eqv R _) SJ k1 k2 m];simp
def aa5 (R:ZJ n r) (hf:Flat n r) (je:∀v w,r v≠[]->r w≠[]->Cr r v w) (ne:∃v,v<n/\r v≠[]):2*((zT n r).length+cls (kD (Mo r)) (dl n r))=(dl n r).length+4:=by
 have a:=iso_on n r;have h2:=aa4 R je ne;unfold Flat Zz at hf;omega
def BB (h3:3<=(zT n r).length) (v w:Nat):∃x,x<n/\r x≠[]/\x≠v/\x≠w:=by
 have nd:(zT n r).Nodup:=SJ.sublist F5;have d:∀x∈zT n r,x<n/\r x≠[]:=fun x f=>⟨vq.1 (sX.1 f).1,of_decide_eq_true (sX.1 f).2⟩;generalize zT n r=L at h3 nd d
 match L,h3 with
 |a::b::c::t,_=>
  have ha:=d a YX;have hb:=d b YX;have g:=d c YX;have h:a≠b:=fun e=>by simp[e]at nd
  have i:a≠c:=fun e=>by simp[e]at nd
  have j:b≠c:=fun e=>by simp[e]at nd
  by_cases k:a≠v/\a≠w
  .exact⟨a,ha.1,ha.2,k⟩
  by_cases b0:b≠v/\b≠w
  .exact⟨b,hb.1,hb.2,b0⟩
  .exact⟨c,g.1,g.2,QT,QT⟩
def eO (R:ZJ n r) (D:pV r) (h3:3<=(zT n r).length) {d:JE} (a:d∈dl n r):3<=qS (Mo r) d/\(qS (Mo r) d=3->∃x y z,y∈r x/\z∈r y/\x∈r z):=by
 have p:=TL R;obtain⟨m,b,_⟩:=zZ p a;have h:=JJ R a;have m0:=(ZE R).1 a;have m1:=(ZE R).1 (p.F4 a 1);have m2:=(ZE R).1 (p.F4 a 2);obtain⟨v,w⟩:=d;obtain⟨x,o,c,x1,i⟩:=BB h3 v w;have j:v≠w:=fun e=>R.ir v (by rw[<-e]at m0;exact m0);constructor
 .refine Jp h fun e => ?_
  rw[<-e]at b;have f:(nx (r w) v,nx (r (nx (r w) v)) w)=((v,w):JE):=b;injection f with f _;have g:v∈r w:=R.sy _ _ m0;exact D.deg ((Zc (R.nd w) g).1 f) c i x1 (Hn j)
 .intro e
  rw[e]at b;have k:(it (Mo r) 2 (v,w)).2=v:=by
   have l:((it (Mo r) 3 (v,w)).1)=v:=by rw[b]
   exact l
  exact⟨v,w,(it (Mo r) 2 (v,w)).1,m0,m1,by rw[k]at m2;exact m2⟩
def B0 (R:ZJ n r) (hf:Flat n r) (D:pV r) (h3:3<=(zT n r).length):(dl n r).length+12<=6*(zT n r).length/\((∀x y z,y∈r x->z∈r y->x∉r z)->(dl n r).length+8<=4*(zT n r).length):=by
 obtain⟨x,c,a,_⟩:=BB h3 0 0;have e:=aa5 R hf D.je ⟨x,c,a⟩;constructor
 .have := fz R (k := 3) fun d b => (eO R D h3 b).1
  omega
 .intro f
  have:=fz R (k:=4) fun d b=>by
   obtain⟨g,h2⟩:=eO R D h3 b;refine Jp g fun q=>?_;obtain⟨x,y,z,h,i,j⟩:=h2 q.symm;exact f x y z h i j
  omega
def Gp.bound {E:Nat->wi} (c:ZJ n E) (D:pV E) (h3:3<=(zT n E).length) (f:Gp n E):(dl n E).length+12<=6*(zT n E).length/\((∀x y z,y∈E x->z∈E y->x∉E z)->(dl n E).length+8<=4*(zT n E).length):=by
 obtain⟨R,b,fl,a⟩:=f;have e:zT n R=zT n E:=by
  refine SD fun v _=>?_;rw[decide_eq_decide];have:R v=[]↔E v=[]:=by
   rw[Zl,Zl];exact⟨fun h w hw=>h w ((a v w).2 hw),fun h w hw=>h w ((a v w).1 hw)⟩
  exact not_congr this
 have g:(dl n R).length=(dl n E).length:=(wI (Pe b) (Pe c) fun d=>by rw[ZE b,ZE c,a]).length_eq;have:=B0 b fl (D.same a) (by rw[e];exact h3);rw[e,g]at this;exact⟨this.1,fun i=>this.2 fun x y z j h2 h3=>i x y z ((a _ _).1 j) ((a _ _).1 h2) ((a _ _).1 h3)⟩
end
end Go.Fw
namespace Go.Fw
section
attribute [local instance] Classical.propDecidable
variable {l:wi} {m n v w x:Nat}
def mO {E:Nat->wi} (h:∀v,m<=v->E v=[]) (k:Nat):dl (m+k) E=dl m E/\zT (m+k) E=zT m E:=by
 have e:List.range (m+k)=List.range m++(List.range k).map (m+·):=List.range_add;constructor
 .unfold dl
  rw[e,As];have:((List.range k).map (m+·)).flatMap (fun v=>(E v).map fun w=>(v,w))=[]:=by
   rw[List.flatMap_eq_nil_iff];intro v a;obtain⟨j,_,rfl⟩:=T8.1 a;rw[h _ QT];rfl
  rw[this,C7]
 .unfold zT
  rw[e,zQ];have:((List.range k).map (m+·)).filter (fun v=>decide (E v≠[]))=[]:=by
   refine filter_none fun v a q=>?_;obtain⟨j,_,rfl⟩:=T8.1 a;exact(of_decide_eq_true q) (h _ QT)
  rw[this,C7]
def BI (v:Nat):wi:=if v<5 then(List.range 5).filter fun w=>w !=v else[]
def qa (v:Nat):wi:=if v<3 then[3,4,5]else if v<6 then[0,1,2]else[]
def kQ:w∈BI v↔v<5/\w<5/\w≠v:=by
 unfold BI;split
 .rename_i h;simp[h]
 .rename_i h;simp[h]
def nJ:w∈qa v↔(v<3/\3<=w/\w<6)\/(3<=v/\v<6/\w<3):=by
 unfold qa;split
 .simp;omega
 .split
  .simp;omega
  .simp;omega
def mh (h:x∈l):l≠[]:=fun e=>by rw[e]at h;cases h
def jm (h:l≠[]):∃x,x∈l:=by
 obtain⟨x,t,e⟩:=bq h;exact⟨x,by rw[e];simp⟩
def k5_no (d:5<=n):¬Gp n BI:=fun f=>by
 have lt:∀{v},BI v≠[]->v<5:=fun h=>by obtain⟨x,g⟩:=jm h;exact(kQ.1 g).1
 have R:ZJ n BI:=by
  refine⟨fun v=>?_,fun v w h=>?_,fun v w h=>?_,fun v h=>?_⟩
  .unfold BI; split
   .exact SJ.sublist F5
   .simp
  .have:=kQ.1 h;omega
  .have:=kQ.1 h;exact kQ.2 ⟨this.2.1,this.1,fun e=>this.2.2 e.symm⟩
  .exact(kQ.1 h).2.2 rfl
 have D:pV BI:=by
  refine⟨fun v w a hw=>?_,fun c v w i h2 a hw=>?_⟩
  .by_cases e : w = v
   .rw[e];exact .refl _
   .exact Cr.one (kQ.2 ⟨lt a,lt hw,e⟩)
  .by_cases e : w = v
   .rw[e];exact .refl _
   .exact Cr.one (Bk.2 ⟨kQ.2 ⟨lt a,lt hw,e⟩,i,h2⟩)
 have off:∀v,5<=v->BI v=[]:=fun v h=>by unfold BI;rw[if_neg QT]
 obtain⟨k,rfl⟩:=qL235 d;obtain⟨j,b⟩:=mO off k;have l1:(dl 5 BI).length=20:=by decide
 have l2:(zT 5 BI).length=5:=by
  have:zT 5 BI=List.range 5:=JG.2 fun v a=>by
   have a:=vq.1 a
   refine decide_eq_true (mh (x:=if v=0 then 1 else 0) (kQ.2 ⟨a,?_,?_⟩))
   .split<;>omega
   .split<;>omega
  rw[this];rfl
 have:=(f.bound R D (by rw[b,l2];omega)).1;rw[j,b,l1,l2]at this;omega
def k33_no (g:6<=n):¬Gp n qa:=fun i=>by
 have lt:∀{v},qa v≠[]->v<6:=fun h=>by obtain⟨x,j⟩:=jm h;have:=nJ.1 j;omega
 have R:ZJ n qa:=by
  refine⟨fun v=>?_,fun v w h=>?_,fun v w h=>?_,fun v h=>?_⟩
  .unfold qa; split
   .decide
   .split<;>decide
  .have:=nJ.1 h;omega
  .have:=nJ.1 h;exact nJ.2 QT
  .have:=nJ.1 h;omega
 have D:pV qa:=by
  have two:∀c v w,v≠c->w≠c->v<6->w<6->Cr (Ps (fun x y=>x≠c/\y≠c) qa) v w:=fun c v w d h2 e hw=>by
   have fj:∀{x y},x≠c->y≠c->((x<3/\3<=y/\y<6)\/(3<=x/\x<6/\y<3))->Cr (Ps (fun x y=>x≠c/\y≠c) qa) x y:=fun l m q=>Cr.one (Bk.2 ⟨nJ.2 q,l,m⟩);by_cases a:v<3
   .by_cases b : w < 3
    .by_cases z : c = 3
     .exact(fj (y:=4) d QT QT).trans (fj QT h2 QT)
     .exact(fj (y:=3) d QT QT).trans (fj QT h2 QT)
    .exact fj d h2 QT
   .by_cases b : w < 3
    .exact fj d h2 QT
    .by_cases z : c = 0
     .exact(fj (y:=1) d QT QT).trans (fj QT h2 QT)
     .exact(fj (y:=0) d QT QT).trans (fj QT h2 QT)
  refine⟨fun v w e hw=>?_,fun c v w d h2 e hw=>two c v w d h2 (lt e) (lt hw)⟩;have a:=lt e;have b:=lt hw;exact(two 6 v w QT QT a b).mono fun x y h=>(Bk.1 h).1
 have off:∀v,6<=v->qa v=[]:=fun v h=>by unfold qa;rw[if_neg QT,if_neg QT]
 obtain⟨k,rfl⟩:=qL235 g;obtain⟨o,f⟩:=mO off k;have l1:(dl 6 qa).length=18:=by decide
 have l2:(zT 6 qa).length=6:=by
  have:zT 6 qa=List.range 6:=JG.2 fun v e=>by
   have e:=vq.1 e
   refine decide_eq_true (mh (x:=if v<3 then 3 else 0) (nJ.2 ?_))
   split<;>omega
  rw[this];rfl
 have:=(i.bound R D (by rw[f,l2];omega)).2 fun x y z d h2 h3=>by
  have:=nJ.1 d;have:=nJ.1 h2;have:=nJ.1 h3;omega
 rw[o,f,l1,l2]at this;omega
end
end Go.Fw
namespace Go.Fw
attribute [local instance] Classical.propDecidable
def Gh (R:Nat->wi) (H:Nat->Nat->Prop) (v w x y:Nat):Prop:=
 (v=x/\w=y)\/(v=y/\w=x)\/∃a b,(a=v\/a=w)/\(b=x\/b=y)/\off R H a/\off R H b/\Cr (Dt R H) a b
section
variable {n : Nat} {R : Nat → List Nat} {H H' : Nat → Nat → Prop}
def Gv (d:ZJ n R) {v w a:Nat} (hw:w∈R v) (ha:a=v\/a=w) (c:off R H a):Jc R H v w=(0,lo R H a,0):=by
 rcases ha with rfl|rfl
 .exact vd c
 .rw[uU d hw];exact vd c
def M3 (f:ZJ n R) {v w x y:Nat} (hw:w∈R v) (i:y∈R x):Jc R H v w=Jc R H x y↔Gh R H v w x y:=by
 constructor
 .intro e
  have d:∀{v w:Nat},(∃a,(a=v\/a=w)/\off R H a)\/(¬off R H v/\¬off R H w):=fun{v w}=>by
   by_cases c1:off R H v
   .exact .inl ⟨v,.inl rfl,c1⟩
   by_cases c2:off R H w
   .exact .inl ⟨w,.inr rfl,c2⟩
   .exact .inr ⟨c1,c2⟩
  rcases d (v:=v) (w:=w)with⟨a,ha,h⟩|⟨c1,c2⟩
  .rw [Gv f hw ha h] at e
   rcases d (v:=x) (w:=y)with⟨b,hb,g⟩|⟨j,k⟩
   .rw [Gv f i hb g] at e
    have l:lo R H a=lo R H b:=by injection e with _ e;injection e
    exact .inr (.inr ⟨a,b,ha,hb,h,g,(uB f).1 l⟩)
   .rw [jT j k] at e
    have:=congrArg Prod.fst e;simp at this
  .rw [jT c1 c2] at e
   rcases d (v:=x) (w:=y)with⟨b,hb,g⟩|⟨j,k⟩
   .rw [Gv f i hb g] at e
    have:=congrArg Prod.fst e;simp at this
   .rw [jT j k] at e
    injection e with _ e;injection e with l m;by_cases q:v=x
    .exact .inl ⟨q,QT⟩
    .exact .inr (.inl ⟨QT,QT⟩)
 .rintro (⟨rfl, rfl⟩ | ⟨rfl, rfl⟩ | ⟨a, b, ha, hb, h, g, c⟩)
  .rfl
  .exact uU f hw
  .rw[Gv f hw ha h,Gv f i hb g,(uB f).2 c]
def rG (c:∀x y,H x y->H' x y) {v:Nat} (h:off R H' v):off R H v:=fun w hw q=>h w hw (c _ _ q)
def Qd (c:∀x y,H x y->H' x y) {v w:Nat} (h:w∈Dt R H' v):w∈Dt R H v:=by
 obtain⟨d,h2,h3⟩:=Bk.1 h;exact Bk.2 ⟨d,rG c h2,rG c h3⟩
def Gh.mono (d:∀x y,H x y->H' x y) {v w x y:Nat} (h:Gh R H' v w x y):Gh R H v w x y:=by
 rcases h with h|h|⟨a,b,ha,hb,e,f,c⟩
 .exact .inl h
 .exact .inr (.inl h)
 .exact .inr (.inr ⟨a,b,ha,hb,rG d e,rG d f,c.mono fun v w=>Qd d⟩)
def Gh.symm (e:ZJ n R) {v w x y:Nat} (h:Gh R H v w x y):Gh R H x y v w:=by
 rcases h with⟨d,h2⟩|⟨d,h2⟩|⟨a,b,ha,hb,f,g,c⟩
 .exact .inl ⟨d.symm,h2.symm⟩
 .exact .inr (.inl ⟨h2.symm,d.symm⟩)
 .exact .inr (.inr ⟨b,a,hb,ha,g,f,c.symm (yp e)⟩)
variable {a b : Nat} {inn : List Nat}
abbrev VQ (H:Nat->Nat->Prop) (a:Nat) (inn:wi) (b:Nat):Nat->Nat->Prop:=fun x y=>H x y\/iU a inn b x y
def XK {x y:Nat} (h:H x y):VQ H a inn b x y:=.inl h
def yR.chain (W:yR R H a inn b):∀(i x y:Nat),inn[0]?=some x->inn[i]?=some y->Cr (Dt R H) x y
 |0,x,y,c,h2=>by rw[c]at h2;injection h2 with h2;subst h2;exact .refl _
 |i+1,x,y,c,h2=>by
  have l:=(bH.1 h2).1;have d:inn[i]?=some (inn[i]'(by omega)):=dR QT
  have h:=W.chain i x _ c d;have g:∀(j z:Nat),inn[j]?=some z->(ZR a inn b)[j+1]?=some z:=fun j z f=>by
   have k:=(bH.1 f).1;show(a::(inn++[b]))[j+1]?=some z;rw[pF,US k];exact f
  have e:=W.fj (i+1) _ _ (g i _ d) (g (i+1) _ h2);exact h.step (Bk.2 ⟨e.1,W.off _ (Jb d),W.off _ (Jb h2)⟩)
def yR.gN (W:yR R H a inn b) (d:ZJ n R) (hs:∀v w,H v w->H w v) {v:Nat} (f:v∈inn):Jc R H a ((inn++[b]).headD 0)=(0,lo R H v,0):=by
 cases hi:inn with
 |nil=>rw[hi]at f;cases f
 |cons c t=>
  have h:c∈inn:=by rw[hi];simp
  have e:((c::t++[b]):wi).headD 0=c:=rfl;rw[e];have j:c∈R a:=by have:=(W.fst d hs).1;rw[hi]at this;exact this
  rw[Gv d j (.inr rfl) (W.off c h)];obtain⟨i,g⟩:=OH.1 f;rw[(uB d).2 (W.chain i c v (by rw[hi];rfl) g)]
def yR.Rs (W:yR R H a inn b) (c:ZJ n R) (hs:∀v w,H v w->H w v) {x y:Nat} (h:iU a inn b x y):Jc R H x y=Jc R H a ((inn++[b]).headD 0):=by
 have d:=W.wE c hs h;by_cases f:x∈inn
 .rw[W.gN c hs f];exact Gv c d.1 (.inl rfl) (W.off x f)
 by_cases cy:y∈inn
 .rw[W.gN c hs cy];exact Gv c d.1 (.inr rfl) (W.off y cy)
 have g:=Ut h;have i:=Ut (Zs h);have ne:x≠y:=fun e=>c.ir y (by rw[e]at d;exact d.1);have ab:=W.ab;rcases g with rfl|rfl|g
 .rw[W.F3.1 h]
 .have e := d.1
  rcases i with rfl|rfl|i
  .rw[uU c e];exact congrArg (Jc R H _) (W.F3.1 (Zs h))
  .exact absurd rfl ne
  .exact absurd i cy
 .exact absurd g f
def Px (W:yR R H a inn b) (j:ZJ n R) {v:Nat}:off R (VQ H a inn b) v↔off R H v/\v∉inn:=by
 constructor
 .intro h
  refine⟨rG (fun _ _=>XK) h,fun k=>?_⟩;obtain⟨i,p,f,g⟩:=xD (a:=a) (b:=b) (.inr k);exact h p (j.sy _ _ (W.fj i _ _ f g).1) (.inr (.inr ⟨i,f,g⟩))
 .rintro ⟨c, h2⟩ w hw (q | q)
  .exact c w hw q
  .rcases Ut q with rfl | rfl | q
   .obtain⟨z,d,e⟩:=W.de;exact c z d e
   .obtain⟨z,d,e⟩:=W.fJ;exact c z d e
   .exact h2 q
def Gh.keep (W:yR R H a inn b) (f:ZJ n R) (hs:∀v w,H v w->H w v) {v w x y:Nat} (hw:w∈R v) (m:Jc R H v w≠Jc R H a ((inn++[b]).headD 0)) (h:Gh R H v w x y):Gh R (VQ H a inn b) v w x y:=by
 rcases h with h|h|⟨c,d,j,o,k,p,q⟩
 .exact .inl h
 .exact .inr (.inl h)
 have e:∀z,Cr (Dt R H) c z->z∉inn:=fun z i r=>m (by rw[Gv f hw j k,W.gN f hs r,(uB f).2 i]);have main:∀z,Cr (Dt R H) c z->off R (VQ H a inn b) z->Cr (Dt R (VQ H a inn b)) c z:=fun z i=>by
  induction i with
  |refl=>exact fun _=>.refl _
  |@step y z s h2 t=>
   intro u;obtain⟨m1,m2,_⟩:=Bk.1 h2;have l:off R (VQ H a inn b) y:=(Px W f).2 ⟨m2,e _ s⟩;exact(t l).step (Bk.2 ⟨m1,l,u⟩)
 have g:off R (VQ H a inn b) d:=(Px W f).2 ⟨p,e _ q⟩;exact .inr (.inr ⟨c,d,j,o,(Px W f).2 ⟨k,e _ (.refl _)⟩,g,main d q g⟩)
end
end Go.Fw
namespace Go.Fw
attribute [local instance] Classical.propDecidable
section
variable {n : Nat} {R : Nat → List Nat} {H : Nat → Nat → Prop} {F G : List (List Nat)}
def FW (a:ZJ n R) (hs:∀v w,H v w->H w v) (D:pV R) (h2:∃p q,p≠q/\¬off R H p/\¬off R H q):
  (∀u x,cK R H u x->∃z y,cK R H z y/\u≠z/\Jc R H u x=Jc R H z y)/\∀v w,w∈R v->¬H v w->∃u x,cK R H u x/\Jc R H v w=Jc R H u x:=by
 obtain⟨p,q,j,l,B⟩:=h2;have b:∀{v w},w∈R v->R v≠[]:=fun h e=>by rw[e]at h;cases h
 have s:∀{v},¬off R H v->R v≠[]:=fun h=>by obtain⟨w,k,_⟩:=E2 h;exact b k
 have mk:∀{r:Nat->wi} {v w:Nat},(∀v w,w∈r v->w∈R v)->Cr r v w->off R H v->¬off R H w->∃u x,cK R H u x/\Jc R H u x=(0,lo R H v,0)/\x∈R u/\u∈r x:=fun{r v w} sub m C hw=>by
  rcases WD a sub m C with h|⟨y,z,f,h2,h3,g⟩
  .exact absurd h.2 hw
  .have A := a.sy _ _ (sub _ _ g)
   exact⟨z,y,⟨h3,A,fun k=>h2 z (sub _ _ g) (hs _ _ k)⟩,by rw[ML h3 h2,(uB a).2 f],A,g⟩
 refine⟨fun u x d=>?_,fun v w hw E=>?_⟩
 .by_cases c : off R H x
  .have:∃t,t≠u/\¬off R H t:=by
    by_cases e:p=u
    .exact⟨q,fun k=>j (e.trans k.symm),B⟩
    .exact⟨p,e,l⟩
   obtain⟨t,I,i⟩:=this;have o:x≠u:=fun e=>d.on (e▸c);have m:=D.DZ u x t o I (b (a.sy _ _ d.mem)) (s i);obtain⟨z,y,f,h2,_,g⟩:=mk (fun v w h=>(Bk.1 h).1) m c i;exact⟨z,y,f,fun e=>(Bk.1 g).2.2 e.symm,by rw[h2,ML d.on c]⟩
  .exact⟨x,u,⟨c,a.sy _ _ d.mem,fun k=>d.nh (hs _ _ k)⟩,fun e=>a.ir u (e▸d.mem),uU a d.mem⟩
 .by_cases c : off R H v
  .obtain ⟨z, y, f, h2, _⟩ := mk (fun _ _ h => h) (D.je v p (b hw) (s l)) c l
   exact⟨z,y,f,by rw[h2,vd c]⟩
  .exact⟨v,w,⟨c,hw,E⟩,rfl⟩
def Dx.perm (g:Dx n R F) (h:F.Perm G):Dx n R G:=
 ⟨g.Pc,g.O.perm h,g.je,by have:=g.num;unfold Num at this ⊢;rw[<-h.length_eq];exact this,fun e=>g.ne (by rw[e]at h;exact h.eq_nil)⟩
def Ctx.perm (C:Ctx n R H F) (h:F.Perm G):Ctx n R H G:=⟨C.Pc,C.sym,C.fl,C.O.perm h,C.je⟩
def KV.perm {E:Nat->wi} (I:KV n E H F) (h:F.Perm G):KV n E H G:=
 ⟨I.sub,by obtain⟨r,g,a⟩:=I.jd;exact⟨r,g.perm h,a⟩,fun q=>by obtain⟨R,b,h2⟩:=I.full q;exact⟨R,b,h2.perm h⟩⟩
def KV.sym {E:Nat->wi} (I:KV n E H F):∀v w,H v w->H w v:=fun v w h=>by
 obtain⟨r,g,a⟩:=I.jd;exact(a _ _).1 (g.Pc.sy _ _ ((a _ _).2 h))
def KV.aa6 {E:Nat->wi} (I:KV n E H F) {f:wi} (hf:f∈F) {u:Nat} (b:u∈f):¬off E H u:=fun q=>by
 obtain⟨r,g,c⟩:=I.jd;have a:=(c _ _).1 (g.O.Zy g.Pc hf b);exact q _ (I.sub _ _ a) a
def KV.Vo {E:Nat->wi} (I:KV n E H F) {f:wi} (hf:f∈F):f.Nodup/\∀u∈f,u<n:=by
 obtain⟨r,g,b⟩:=I.jd;exact⟨g.O.nd f hf,fun u a=>g.Pc.lt _ _ (g.O.Zy g.Pc hf a)⟩
def KV.nodup {E:Nat->wi} (I:KV n E H F):F.Nodup:=by
 obtain⟨r,g,a⟩:=I.jd;exact g.O.nodup
end
end Go.Fw
