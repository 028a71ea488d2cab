/- A text. -/
import Derived.Test.YtkccdnmaaelbiaaGreatFwEmb4
set_option linter.all false
set_option maxRecDepth 99999
set_option maxHeartbeats 9999999
namespace Go.Fw
attribute [local instance] Classical.propDecidable
theorem filter_none {l:II} {p:Nat->Bool} (h:∀z∈l,¬p z=true):l.filter p=[]:=FD.2 h
def filter_one {x:Nat} {p:Nat->Bool} (h:p x=true) {l:II}:(x::l).filter p=x::l.filter p:=List.filter_cons_of_pos h
theorem sort3 {kd:Nat->Nat}:∀{c:II},(∀x∈c,kd x<=2)->c.Pairwise (fun x y=>kd x<=kd y)->c=(c.filter fun x=>decide (kd x=0))++((c.filter fun x=>decide (kd x=1))++(c.filter fun x=>decide (kd x=2)))
 |[],_,_=>rfl
 |x::c,h,d=>by
  rw[F3]at d;have a:=sort3 (fun y b=>h y (aaR _ b)) d.2;have j:=h x eR;have f:0<kd x->(c.filter fun y=>decide (kd y=0))=[]:=fun q=>filter_none fun y b e=>by grind
  have i:1<kd x->(c.filter fun y=>decide (kd y=1))=[]:=fun q=>filter_none fun y b e=>by grind
  have cs:kd x=0\/kd x=1\/kd x=2:=NH;rcases cs with e|e|e
  .simp only [Gq, e, decide_true, if_true, vu, <- a]
   simp[<-a]
  .rw [f NH] at a
   simp only[Gq,e]
   grind
  .rw [f NH, i NH] at a
   simp only[Gq,e]
   grind
structure LX (R:Nat->II) (H:Nat->Nat->Prop) (U:Nat->Prop) (g:II) (u:Nat) (kd:Nat->Nat) (x z y:Nat):Prop where
 on:¬off R H z
 ne:u≠z
 zg:z∈g
 yz:y∈R z
 ny:¬H z y
 QI:QI R H u x=QI R H z y
 k0:kd x=0->¬U z/\∀A B,Cyc g ((u::A)++(z::B))->∀v∈B,¬U v
 k1:kd x=1->U z
 k2:kd x=2->¬U z/\∀A B,Cyc g ((u::A)++(z::B))->∀v∈A,¬U v
section
variable {n : Nat} {R : Nat → List Nat} {H : Nat → Nat → Prop} {F : List (List Nat)} {g : List Nat} {u : Nat} {U : Nat → Prop} {kd : Nat → Nat}
theorem Ctx.Ag (C:Ctx n R H F) (b:u∈g) {p q m:II} {x:Nat} (cy:Cyc (R u) ((p++x::q)++(m++[pv g u]))) (j:∀z∈p++x::q,¬H u z) (c:H u (pv g u)):WQ R H g u x:=by
 refine⟨b,?_⟩;have nd:=cy.perm.nodup_iff.1 (C.Rl.nd u);have n1:=(yM.1 nd).1;have d:x∉p:=fun h=>(yM.1 n1).2.2 x h x eR rfl;have f:x∉q:=(iy.1 (yM.1 n1).2.1).1;have e:Cyc (cl R H u x) (x::((m.filter fun w=>decide (H u w\/w=x))++[pv g u])):=by
  have:=cy.filter fun w=>decide (H u w\/w=x);have k:∀l:II,(∀z∈l,¬H u z)->x∉l->l.filter (fun w=>decide (H u w\/w=x))=[]:=fun l r h2=>filter_none fun z a h=>(of_decide_eq_true h).elim (r z a) fun e=>h2 (e▸a);rw[EP,EP,EP,k p (fun z a=>j z (by simp[a])) d,filter_one (decide_eq_true (.inr rfl)),k q (fun z a=>j z (by simp[a])) f,filter_one (decide_eq_true (.inl c))]at this
  grind [cl]
 have i:(cl R H u x).Nodup:=(C.Rl.nd u).sublist kc;have o:=e.perm.nodup_iff.1 i
 grind [Cyc.perm,List.Perm.mem_iff,Cyc.nx,vB]
theorem Ctx.pairK (C:Ctx n R H F) (hg:g∈F) (a:u∈g) {p q s m:II} {x y:Nat} (cy:Cyc (R u) ((p++x::(q++y::s))++(m++[pv g u]))) (k:∀z∈p++x::(q++y::s),¬H u z)
  {r y1 P y2:Nat} (b:LX R H U g u kd x r y1) (f:LX R H U g u kd y P y2) (hw:∃w∈g,U w/\w≠u) (hk:kd x≠kd y->QI R H u x≠QI R H u y) (b1:kd x<=2):kd x<=kd y:=by
 obtain⟨_,t⟩:=C.HT hg a (x:=x);have D:¬off R H u:=fun h=>h _ (EM.1 (C.O.df (OG C.Rl C.sym) hg a)).1 t;have nd:=cy.perm.nodup_iff.1 (C.Rl.nd u);have n1:=(yM.1 nd).1;have J:=(yM.1 n1).2.1;rw[iy,yY,IE]at J;have n3:=(yM.1 J.2);have Q:x≠y:=fun e=>J.1 (.inr (.inl e));have S:x∉p:=fun h=>(yM.1 n1).2.2 x h x eR rfl;have hyp:y∉p:=fun h=>(yM.1 n1).2.2 y h y Ma rfl;have T:x∉q:=fun h=>J.1 (.inl h);have V:y∉q:=fun h=>n3.2.2 y h y Ma rfl;refine Nat.le_of_not_lt fun ag=>?_;have E:=hk NH;have mx:x∈R u:=cy.perm.mem_iff.2 Ma;have my:y∈R u:=cy.perm.mem_iff.2 Ma;obtain⟨i1,W1,e1,_,o1⟩:=ZW C.Rl C.sym D b.on b.ne mx (k x Ma) b.yz b.ny b.QI;obtain⟨i2,W2,e2,_,o2⟩:=ZW C.Rl C.sym D f.on f.ne my (k y Ma) f.yz f.ny f.QI;have TE:∀v∈i1,v∉i2:=fun v W h2=>E ((o1 v W).2.trans (o2 v h2).2.symm);have G:WQ R H g u x:=C.Ag a cy k t;have o:nx (OY R H u x y) x=y:=by
  have e:Cyc (OY R H u x y) (x::y::((s.filter fun w=>decide ((H u w\/w=x)\/w=y))++((m++[pv g u]).filter fun w=>decide ((H u w\/w=x)\/w=y)))):=by
   have:=cy.filter fun w=>decide ((H u w\/w=x)\/w=y);have hN:∀l:II,(∀z∈l,¬H u z)->x∉l->y∉l->l.filter (fun w=>decide ((H u w\/w=x)\/w=y))=[]:=fun l W h2 h3=>filter_none fun z i h=>(of_decide_eq_true h).elim (fun h=>h.elim (W z i) fun e=>h2 (e▸i)) fun e=>h3 (e▸i);rw[EP,EP,hN p (fun z i=>k z (by simp[i])) S hyp,filter_one (decide_eq_true (.inl (.inr rfl))),EP,hN q (fun z i=>k z (by simp[i])) T V,filter_one (decide_eq_true (.inr rfl))]at this
   grind [OY]
  have X:(OY R H u x y).Nodup:=(C.Rl.nd u).sublist kc;rw[e.nx X (e.perm.mem_iff.2 Ma)];exact Nu (p:=[]) Ma
 obtain⟨c,hc⟩:=Cyc.front a;have Y:r∈c:=by
  have:=hc.perm.mem_iff.1 b.zg
  grind [LX.ne]
 obtain⟨A,B,rfl,_⟩:=sC Y;have I:Cyc g ((u::A)++(r::B)):=pw;have nc:=C.aeA hg W1 W2 e1 e2 TE Q G o I;have d:P∈A->∃K L,Cyc g ((u::K)++(P::(L++r::B))):=fun h=>by
  obtain⟨K,L,rfl,_⟩:=sC h
  grind
 have j:(kd x=1/\kd y=0)\/(kd x=2/\kd y=1)\/(kd x=2/\kd y=0):=NH;rcases j with⟨M,N⟩|⟨M,N⟩|⟨M,N⟩
 .have u1 := b.k1 M
  have Z:=f.k0 N;rcases nc with h|h
  .obtain ⟨K, L, c2⟩ := d h
   exact Z.2 _ _ c2 r Ma u1
  grind
 .grind [LX.k2,LX.k1]
 .have u1 := b.k2 M
  have Z:=f.k0 N;obtain⟨w,w1,w2,w3⟩:=hw;have ad:w∈B:=by
   have:=I.perm.mem_iff.1 w1
   grind
  rcases nc with h|h
  .obtain ⟨K, L, c2⟩ := d h
   exact Z.2 _ _ c2 w (by simp[ad]) w2
  grind
theorem Ctx.sorted (C:Ctx n R H F) (hg:g∈F) (d:u∈g) {m:II} (hw:∃w∈g,U w/\w≠u):∀(c p:II),Cyc (R u) ((p++c)++(m++[pv g u]))->(∀z∈p++c,¬H u z)->
  (∀x∈c,∃z y,LX R H U g u kd x z y)->(∀x∈c,∀y∈c,kd x≠kd y->QI R H u x≠QI R H u y)->(∀x∈c,kd x<=2)->c.Pairwise fun x y=>kd x<=kd y
 |[],_,_,_,_,_,_=>List.Pairwise.nil
 |x::c,p,cy,j,f,h,hb=>by
  rw[F3];constructor
  .intro y i
   obtain⟨q,s,rfl,_⟩:=sC i
   grind [Ctx.pairK]
  .refine C.sorted hg d (m:=m) hw c (p++[x]) pw pw (fun z e=>f z (aaR _ e)) (fun a ha b hb=>h a (aaR _ ha) b (aaR _ hb)) fun z e=>hb z (aaR _ e)
end
end Go.Fw
namespace Go.Fw
attribute [local instance] Classical.propDecidable
theorem aaE {U:Nat->Prop}:∀{l:II},(∃v∈l,U v)->∃s w t,l=s++w::t/\U w/\∀v∈s,¬U v
 |[],h=>by grind
 |x::l,h=>by
  by_cases c:U x
  .exact⟨[],x,l,rfl,c,fun v a=>absurd a uV⟩
  .obtain ⟨v, a, b⟩ := h
   rcases IE.1 a with rfl|a
   .grind
   .obtain ⟨s, w, t, rfl, d, h2⟩ := aaE ⟨v, a, b⟩
    grind
theorem aeC {U:Nat->Prop} {l:II} (h:∃v∈l,U v):∃s w t,l=s++w::t/\U w/\∀v∈t,¬U v:=by
 obtain⟨v,a,b⟩:=h;obtain⟨s,w,t,e,c,h2⟩:=aaE (l:=l.reverse) ⟨v,fj.2 a,b⟩
 grind [List.reverse_reverse]
theorem MW {y:Nat}:∀{a b a' c:II},a++y::b=a'++y::c->y∉a->y∉a'->a=a'/\b=c
 |[],b,[],c,h,_,_=>by grind
 |[],b,x::a',c,h,_,h2=>by grind
 |x::a,b,[],c,h,d,_=>by grind
 |x::a,b,x'::a',c,h,d,h2=>by
  simp at h;obtain⟨e,h⟩:=h;obtain⟨k1,k2⟩:=MW h (fun q=>d (aaR _ q)) (fun q=>h2 (aaR _ q))
  grind
theorem IM (p:Nat->Prop):∀m:II,∃c b,m=c++b/\(∀z∈c,¬p z)/\(∀z t,b=z::t->p z)
 |[]=>⟨[],[],rfl,fun z d=>absurd d uV,fun z t h=>by cases h⟩
 |x::m=>by
  by_cases c:p x
  .exact⟨[],x::m,rfl,fun z d=>absurd d uV,fun z t h=>by grind⟩
  .obtain ⟨a, b, rfl, e, h2⟩ := IM p m
   refine⟨x::a,b,rfl,fun z d=>?_,h2⟩
   grind
theorem aeD {l s t:II} {x:Nat} (nd:l.Nodup) (c:Cyc l (s++[x])) (h2:Cyc l (t++[x])):s=t:=by
 obtain⟨u,v,d,e⟩:=c.symm.trans h2;have n1:=c.perm.nodup_iff.1 nd;rcases MA u with rfl|⟨u',a,rfl⟩
 .grind [List.append_inj_left']
 .rcases MA v with rfl | ⟨v', b, rfl⟩
  .simp_all
  .exfalso
   rw[qL202,qL202,<-im]at d e;have ha:=qL196 d rfl;have hb:=qL196 e rfl
   grind
theorem decomp {l A B:II} {x y:Nat} {p:Nat->Prop} (nd:l.Nodup) (h:Cyc (l.filter fun z=>decide (p z)) ((A++[x])++(B++[y]))):
  ∃c1 a c2 b,Cyc l ((c1++(a++[y]))++(c2++(b++[x])))/\(∀z∈c1,¬p z)/\(∀z∈c2,¬p z)/\(a.filter fun z=>decide (p z))=B/\(b.filter fun z=>decide (p z))=A/\(∀z t,a=z::t->p z)/\(∀z t,b=z::t->p z)/\p x/\p y:=by
 have i:x∈l.filter fun z=>decide (p z):=h.perm.mem_iff.2 Ma;have v:y∈l.filter fun z=>decide (p z):=h.perm.mem_iff.2 Ma;rw[Tn]at i v;have w:=of_decide_eq_true i.2;have C:=of_decide_eq_true v.2;have d:(l.filter fun z=>decide (p z)).Nodup:=nd.sublist kc;have j:=h.perm.nodup_iff.1 d;have G:x≠y:=fun e=>(yM.1 j).2.2 x Ma y Ma e;obtain⟨m,H⟩:=Cyc.front i.1;have o:Cyc l (m++[x]):=Cyc.shift (x:=[x]) H;have hf:=o.filter fun z=>decide (p z);rw[EP,filter_one (decide_eq_true w)]at hf;have h2:Cyc (l.filter fun z=>decide (p z)) ((B++y::A)++[x]):=by grind [Cyc.shift]
 have e:=aeD d hf h2;have s:y∈m:=by grind [Cyc.perm,List.Perm.mem_iff]
 obtain⟨m1,m2,rfl,I⟩:=sC s;rw[EP,filter_one (decide_eq_true C)]at e;have u:y∉B:=fun q=>by grind
 obtain⟨J,K⟩:=MW e (fun q=>I (Tn.1 q).1) u;obtain⟨c1,a,rfl,D,L⟩:=IM p m1;obtain⟨c2,b,rfl,E,M⟩:=IM p m2;have k:∀{c:II},(∀z∈c,¬p z)->c.filter (fun z=>decide (p z))=[]:=fun{c} h=>filter_none fun z N q=>h z N (of_decide_eq_true q);rw[EP,k D]at J;rw[EP,k E]at K;exact⟨c1,a,c2,b,pw,D,E,pw,pw,L,M,w,C⟩
section
variable {n : Nat} {r : Nat → List Nat} {F : List (List Nat)} {f g : List Nat} {A B : Nat → List Nat} {le : Nat → Nat → Nat}
theorem yx.walk (T:yx n r F f g) (L:Lab r f g A B le) {h:II} (hh:h∈F) {l w:Nat} {t:II}:∀(s X:II) (z:Nat),Cyc h (X++z::(s++w::t))->(∀v∈s,v∉Ul f g)->le z (nx h z)=l->le w (pv h w)=l
 |[],X,z,cy,_,e=>by
  have nd:=T.O.nd h hh;have a:=cy.perm.nodup_iff.1 nd;have b:z∈h:=cy.perm.mem_iff.2 Ma;have c:nx h z=w:=by grind [Cyc.nx,Nu]
  have i:pv h w=z:=by grind [c7]
  rw[i,L.sym w z,<-c]
  .exact e
  .have := T.R.sy _ _ (T.O.bz h hh z b)
   grind
 |v::s,X,z,cy,hs,e=>by
  have nd:=T.O.nd h hh;have a:=cy.perm.nodup_iff.1 nd;have b:z∈h:=cy.perm.mem_iff.2 Ma;have j:v∈h:=cy.perm.mem_iff.2 Ma;have c:nx h z=v:=by grind [Cyc.nx,Nu]
  have d:=T.O.bz h hh z b;rw[c]at d e;refine T.walk L hh s (X++[z]) v (by simpa using cy) (fun u k=>hs u (aaR _ k)) ?_;rw[L.same v (hs v eR) (nx h v) z (T.O.bz h hh v j) (T.R.sy _ _ d),<-L.sym z v d];exact e
structure WH (f g:II) (le:Nat->Nat->Nat) (h:II) (al be:Nat->Nat):Prop where
 outL:∀w∈Ul f g,le w (nx h w)=al w
 inL:∀w∈Ul f g,le w (pv h w)=be w
 ia:∀v∈Ul f g,∀w∈Ul f g,al v=al w->v=w
 ib:∀v∈Ul f g,∀w∈Ul f g,be v=be w->v=w
theorem yx.TH (T:yx n r F f g):∀v∈Ul f g,∀w∈Ul f g,pv (Ul f g) v=pv (Ul f g) w->v=w:=fun v a w hw e=>by grind [G5,yx.ndU]
theorem yx.faceLg (T:yx n r F f g) (C:Wa r f g A B) (L:Lab r f g A B le):WH f g le g (fun w=>pv (Ul f g) w) fun w=>w:=by
 refine⟨fun w hw=>L.inn w hw _ ?_,fun w hw=>L.out w hw _ Ma,T.TH,fun v _ w _ e=>e⟩
 grind [Wa.hB,BX]
theorem yx.faceLf (T:yx n r F f g) (C:Wa r f g A B) (L:Lab r f g A B le):WH f g le f (fun w=>w) fun w=>pv (Ul f g) w:=by
 refine⟨fun w hw=>L.out w hw _ ?_,fun w hw=>L.inn w hw _ Ma,fun v _ w _ e=>e,T.TH⟩
 grind [Wa.hA,BX]
theorem yx.aft (T:yx n r F f g) (L:Lab r f g A B le) {h:II} (hh:h∈F) {i be:Nat->Nat} (D:WH f g le h i be) {u z:Nat} (j:u∈Ul f g) (k:le z (nx h z)=be u):∀a b,Cyc h ((u::a)++(z::b))->∀v∈b,v∉Ul f g:=fun a b cy v l c=>by
 obtain⟨s,w,t,rfl,d,h2⟩:=aaE (U:=fun v=>v∈Ul f g) ⟨v,l,c⟩;have e:=T.walk L hh s (u::a) z cy h2 k;rw[D.inL w d]at e;have:=D.ib w d u j e;subst this;have nd:=cy.perm.nodup_iff.1 (T.O.nd h hh)
 grind
theorem yx.bef (T:yx n r F f g) (L:Lab r f g A B le) {h:II} (hh:h∈F) {b be:Nat->Nat} (D:WH f g le h b be) {u z:Nat} (m:u∈Ul f g) (c:z∉Ul f g) (o:le z (nx h z)=b u):∀d j,Cyc h ((u::d)++(z::j))->∀v∈d,v∉Ul f g:=fun d j cy v p i=>by
 obtain⟨s,w,t,rfl,k,h2⟩:=aeC (U:=fun v=>v∈Ul f g) ⟨v,p,i⟩;have a:z∈h:=cy.perm.mem_iff.2 Ma;have e:=T.walk L hh (l:=b w) t (u::s) w (by simpa using cy) h2 (D.outL w k);have q:=T.O.df T.R hh a;rw[L.same z c _ (nx h z) q (T.O.bz h hh z a),o]at e;have:=D.ia u m w k e;subst this;have nd:=cy.perm.nodup_iff.1 (T.O.nd h hh)
 grind
end
end Go.Fw
namespace Go.Fw
attribute [local instance] Classical.propDecidable
structure QP (R:Nat->II) (H:Nat->Nat->Prop) (u x:Nat):Prop where
 on:¬off R H u
 mem:x∈R u
 nh:¬H u x
def Fits (R:Nat->II) (H:Nat->Nat->Prop) (k:Nat×Nat×Nat) (h:II):Prop:=∀u x,QP R H u x->QI R H u x=k->u∈h
structure Pg (n:Nat) (R:Nat->II) (H:Nat->Nat->Prop) (F:Cs):Prop where
 C:Ctx n R H F
 two:∀u x,QP R H u x->∃z y,QP R H z y/\u≠z/\QI R H u x=QI R H z y
 one:∀v w,w∈R v->¬H v w->∃u x,QP R H u x/\QI R H v w=QI R H u x
def SK (R:Nat->II) (H:Nat->Nat->Prop) (f g:II) (k:Nat×Nat×Nat):Prop:=
 Fits R H k f/\Fits R H k g/\∃u x,QP R H u x/\QI R H u x=k/\(WQ R H f u x\/WQ R H g u x)
noncomputable def tlf (R:Nat->II) (H:Nat->Nat->Prop) (le:Nat->Nat->Nat) (hm:Nat×Nat×Nat->II) (v w:Nat):Nat:=
 if H v w then le v w else le ((hm (QI R H v w)).headD 0) (nx (hm (QI R H v w)) ((hm (QI R H v w)).headD 0))
structure Mv (n:Nat) (R:Nat->II) (H:Nat->Nat->Prop) (F:Cs) (f g:II) (A B:Nat->II) (le:Nat->Nat->Nat) (hm:Nat×Nat×Nat->II):Prop where
 P:Pg n R H F
 T:yx n (Om H R) F f g
 C:Wa (Om H R) f g A B
 L:Lab (Om H R) f g A B le
 h2:∀u∈Ul f g,nx (Ul f g) u≠u
 home:∀u x,QP R H u x->¬SK R H f g (QI R H u x)->hm (QI R H u x)∈F/\hm (QI R H u x)≠f/\hm (QI R H u x)≠g/\Fits R H (QI R H u x) (hm (QI R H u x))/\∀h'∈F,WQ R H h' u x->h'≠f->h'≠g->h'=hm (QI R H u x)
section
variable {n : Nat} {R : Nat → List Nat} {H : Nat → Nat → Prop} {F : List (List Nat)}
theorem Pg.EI (P:Pg n R H F) {u x:Nat} (d:QP R H u x):∃h∈F,∀z y,QP R H z y->QI R H z y=QI R H u x->WQ R H h z y:=by
 have C:=P.C;have two:∀{u x z y:Nat},QP R H u x->QP R H z y->u≠z->QI R H u x=QI R H z y->∃h∈F,WQ R H h u x/\WQ R H h z y:=fun{u x z y} b h2 a c=>by
  obtain⟨inn,W,e,i,_⟩:=ZW C.Rl C.sym b.on h2.on a b.mem b.nh h2.mem h2.nh c
  grind [Ctx.drawn]
 obtain⟨z,y,j,a,c⟩:=P.two u x d
 grind [Ctx.YQ]
def Ctx.BB (C:Ctx n R H F) {h:II} (hh:h∈F) {u:Nat} (a:u∈h):¬off R H u:=fun q=>by
 obtain⟨b,h2⟩:=EM.1 (C.O.df (OG C.Rl C.sym) hh a);exact q _ b h2
theorem Ctx.aeE (C:Ctx n R H F) {h:II} (hh:h∈F) {u z e:Nat} {q s m c:II} (i:WQ R H h u z) (cy:Cyc (R u) ((q++z::s)++m)) (r:¬H u z) (t:(q.filter fun w=>decide (H u w))=c++[e]):pv h u=e:=by
 have nd:=cy.perm.nodup_iff.1 (C.Rl.nd u);have n1:=(yM.1 nd).1;have l:z∉q:=fun k=>(yM.1 n1).2.2 z k z eR rfl;have d:=cy.filter fun w=>decide (H u w\/w=z);have o:q.filter (fun w=>decide (H u w\/w=z))=c++[e]:=by grind [List.filter_congr]
 rw[EP,EP,o,filter_one (decide_eq_true (.inr rfl))]at d;have b:(cl R H u z).Nodup:=(C.Rl.nd u).sublist kc;have a:Cyc (cl R H u z) (c++e::z::((s.filter fun w=>decide (H u w\/w=z))++(m.filter fun w=>decide (H u w\/w=z)))):=by grind [cl]
 have j:e∈cl R H u z:=a.perm.mem_iff.2 Ma;have p:nx (cl R H u z) e=z:=by
  rw[a.nx b j];exact Nu fun k=>(yM.1 (a.perm.nodup_iff.1 b)).2.2 e k e Ma rfl
 exact C9 b (C.HT hh i.ug).1 j (i.at_.trans p.symm)
variable {f g : List Nat} {A B : Nat → List Nat} {le : Nat → Nat → Nat} {hm : Nat × Nat × Nat → List Nat}
def Mv.S_cor (M:Mv n R H F f g A B le hm) {u x:Nat} (c:QP R H u x) (d:SK R H f g (QI R H u x)):WQ R H f u x\/WQ R H g u x:=by
 obtain⟨_,_,z,y,e,i,b⟩:=d;obtain⟨h,hh,a⟩:=M.P.EI c;have k1:=a z y e i;have k2:=a u x c rfl;rcases b with b|b
 .exact .inl (M.P.C.YQ M.T.hf hh b k1▸k2)
 .exact .inr (M.P.C.YQ M.T.hg hh b k1▸k2)
def Mv.U6 (M:Mv n R H F f g A B le hm) {u x:Nat} (a:QP R H u x) (c:¬SK R H f g (QI R H u x)) {z:Nat} (d:z∈hm (QI R H u x)):tlf R H le hm u x=le z (nx (hm (QI R H u x)) z):=by
 obtain⟨b,h2,h3,_⟩:=M.home u x a c;unfold tlf;rw[if_neg a.nh];exact M.L.Jv M.T M.C b h2 h3 (Lt (M.T.O.ne _ b)) d
def Mv.tl_at (M:Mv n R H F f g A B le hm) {u x:Nat} (c:QP R H u x) (d:¬SK R H f g (QI R H u x)) {z y:Nat} (e:QP R H z y) (h:QI R H u x=QI R H z y) (b:z∉Ul f g) {w:Nat} (hw:w∈Om H R z):tlf R H le hm u x=le z w:=by
 obtain⟨i,h2,h3,j,_⟩:=M.home u x c d;have a:=j z y e h.symm;rw[M.U6 c d a];exact M.L.same z b _ _ (M.T.O.bz _ i z a) hw
def Mv.tl_or (M:Mv n R H F f g A B le hm) {u x:Nat} (b:QP R H u x) (e:¬SK R H f g (QI R H u x)) (d:u∈Ul f g):tlf R H le hm u x=u\/tlf R H le hm u x=pv (Ul f g) u:=by
 obtain⟨i,h2,h3,j,_⟩:=M.home u x b e;have a:=j u x b rfl;rw[M.U6 b e a];have k:=M.T.O.bz _ i u a;rcases yY.1 ((M.C.c u d).perm.mem_iff.1 k)with h|h
 .exact .inl (M.L.out u d _ h)
 .exact .inr (M.L.inn u d _ h)
noncomputable def xZ (R:Nat->II) (H:Nat->Nat->Prop) (f g:II) (le:Nat->Nat->Nat) (hm:Nat×Nat×Nat->II) (be:Nat->Nat) (u x:Nat):Nat:=
 if SK R H f g (QI R H u x)then 1 else if tlf R H le hm u x=be u then 0 else 2
theorem Mv.zI (M:Mv n R H F f g A B le hm) {h o:II} (I:(h=f/\o=g)\/(h=g/\o=f)) {X be:Nat->Nat} (D:WH f g le h X be) {u:Nat} (t:u∈Ul f g) (S:∀v,v=u\/v=pv (Ul f g) u->v=X u\/v=be u)
  {c m:II} (cy:Cyc (R u) (c++(m++[pv h u]))) (Y:∀z∈c,¬H u z):
  c=(c.filter fun x=>decide (xZ R H f g le hm be u x=0))++((c.filter fun x=>decide (xZ R H f g le hm be u x=1))++(c.filter fun x=>decide (xZ R H f g le hm be u x=2))):=by
 have Cx:=M.P.C;have hh:h∈F:=I.elim (fun q=>q.1▸M.T.hf) fun q=>q.1▸M.T.hg;have i:∀v,v∈Ul f g↔v∈h/\v∈o:=fun v=>by grind [zq]
 have s:=((i u).1 t).1;have hb:∀x∈c,xZ R H f g le hm be u x<=2:=fun x _=>by grind [xZ]
 refine sort3 hb (Cx.sorted (U:=fun v=>v∈Ul f g) hh s (m:=m) ⟨nx (Ul f g) u,((i _).1 (ZP t)).1,ZP t,M.h2 u t⟩ c [] pw pw (fun x Q=>?_) (fun x Q y hy j d=>j ?_) hb)
 .have E : QP R H u x := ⟨Cx.BB hh s, cy.perm.mem_iff.2 (by simp [Q]), Y x Q⟩
  have l:WQ R H h u x:=by
   obtain⟨p,q,rfl,_⟩:=sC Q;exact Cx.Ag s cy Y (Cx.HT hh s (x:=x)).2
  by_cases G:SK R H f g (QI R H u x)
  .obtain ⟨z, y, a, j, d⟩ := M.P.two u x E
   have b:z∈Ul f g:=zq.2 ⟨G.1 z y a d.symm,G.2.1 z y a d.symm⟩;have k:xZ R H f g le hm be u x=1:=by grind [xZ]
   exact⟨z,y,a.on,j,((i z).1 b).1,a.mem,a.nh,d,(fun e=>by grind),(fun _=>b),fun e=>by grind⟩
  .obtain ⟨h', V, w⟩ := M.P.EI E
   have e':=Cx.YQ V hh (w u x E rfl) l;subst e';have r:Fits R H (QI R H u x) h':=fun z y a d=>(w z y a d).ug;have W:¬Fits R H (QI R H u x) o:=fun q=>by
    rcases I with⟨e,e'⟩|⟨e,e'⟩
    .subst e e';exact G ⟨r,q,u,x,E,rfl,.inl l⟩
    .subst e e';exact G ⟨q,r,u,x,E,rfl,.inr l⟩
   have:∃z y,QP R H z y/\QI R H z y=QI R H u x/\z∉o:=fR fun q=>W fun z y a d=>fR fun Z=>q ⟨z,y,a,d,Z⟩;obtain⟨z,y,a,d,J⟩:=this;have K:=r z y a d;have b:z∉Ul f g:=fun q=>J ((i z).1 q).2;have j:u≠z:=fun e=>J (e▸((i u).1 t).2);have N:tlf R H le hm u x=le z (nx h' z):=M.tl_at E G a d.symm b (M.T.O.bz h' hh z K);refine⟨z,y,a.on,j,K,a.mem,a.nh,d.symm,fun e=>⟨b,?_⟩,(fun e=>?_),fun e=>⟨b,?_⟩⟩
   .have : tlf R H le hm u x = be u := by grind [xZ]
    exact M.T.aft M.L hh D t (N.symm.trans this)
   .grind [xZ]
   .have : tlf R H le hm u x ≠ be u := fun q => by grind [xZ]
    have:=(S _ (M.tl_or E G t)).resolve_right this;exact M.T.bef M.L hh D t b (N.symm.trans this)
 grind [xZ,tlf]
theorem Mv.amid (M:Mv n R H F f g A B le hm) {u:Nat} (J:u∈Ul f g) {c b b0 m:II} {ℓ:Nat} (cy:Cyc (R u) ((c++b)++m)) (W:∀z∈c,¬H u z) (hb:∀z t,b=z::t->H u z) (K:(b.filter fun w=>decide (H u w))=b0)
  (N:∀e∈b0,le u e=ℓ) (y:pv f u∉b0) (D:pv g u∉b0):∀z∈b,(z∈R u/\¬(¬H u z/\SK R H f g (QI R H u z)))/\tlf R H le hm u z=ℓ:=fun z E=>by
 have Cx:=M.P.C;have i:z∈R u:=cy.perm.mem_iff.2 (by simp[E]);by_cases Q:H u z
 .grind [tlf]
 .obtain ⟨q, s, rfl, _⟩ := sC E
  have j:QP R H u z:=⟨Cx.BB M.T.hf (zq.1 J).1,i,Q⟩;have l:(q.filter fun w=>decide (H u w))≠[]:=fun e=>by
   cases q<;>grind
  obtain⟨X,e,eq⟩:=CN l;have r:e∈b0:=pw;have pre:∀{h:II},h∈F->WQ R H h u z->pv h u=e:=fun{h} hh a=>by grind [Ctx.aeE]
  have o:¬SK R H f g (QI R H u z):=fun o=>by
   rcases M.S_cor j o with k|k
   .exact y (pre M.T.hf k▸r)
   .exact D (pre M.T.hg k▸r)
  refine⟨⟨i,fun q=>o q.2⟩,?_⟩;obtain⟨h',d,p⟩:=M.P.EI j;have a:=p u z j rfl;have S:=pre d a;have v:h'≠f:=fun k=>y pw;have x:h'≠g:=fun k=>D pw;obtain⟨_,_,_,_,U⟩:=M.home u z j o;have V:=U h' d a v x;obtain⟨G,I,_⟩:=M.T.O.pv d a.ug;rw[M.U6 j o (z:=e) pw,<-V];rw[S]at G I;rw[I,M.L.sym e u (by have:=M.T.O.bz h' d e G;grind)];exact N e r
end
end Go.Fw
namespace Go.Fw
attribute [local instance] Classical.propDecidable
section
variable {n : Nat} {R : Nat → List Nat} {H : Nat → Nat → Prop} {F : List (List Nat)} {f g : List Nat} {A B : Nat → List Nat} {le : Nat → Nat → Nat} {hm : Nat × Nat × Nat → List Nat}
def fB (R:Nat->II) (H:Nat->Nat->Prop) (f g:II) (v w:Nat):Prop:=w∈R v/\¬H v w/\SK R H f g (QI R H v w)
structure AtU (R:Nat->II) (H:Nat->Nat->Prop) (f g:II) (A B:Nat->II) (le:Nat->Nat->Nat) (hm:Nat×Nat×Nat->II) (u:Nat) (XL Q YL P:II):Prop where
 eH:Cyc (R u) (XL++(Q++(YL++P)))
 xl:∀w∈XL,¬fB R H f g u w/\tlf R H le hm u w=u
 yl:∀w∈YL,¬fB R H f g u w/\tlf R H le hm u w=pv (Ul f g) u
 q:∀w∈Q,fB R H f g u w
 p:∀w∈P,fB R H f g u w
 xh:(XL.filter fun w=>decide (H u w))=A u++[pv g u]
 yh:(YL.filter fun w=>decide (H u w))=B u++[pv f u]
 pf:∀w∈P,WQ R H f u w
def mz {u:Nat} {l:II} (h:∀z∈l,¬H u z):l.filter (fun w=>decide (H u w))=[]:=filter_none fun z a k=>h z a (of_decide_eq_true k)
theorem Mv.atU (M:Mv n R H F f g A B le hm) {u:Nat} (a:u∈Ul f g):∃XL Q YL P,AtU R H f g A B le hm u XL Q YL P:=by
 have Cx:=M.P.C;have nd:=Cx.Rl.nd u;have l:=M.C.c u a;have k:=l.perm.nodup_iff.1 (M.T.R.nd u);obtain⟨c1,i,c2,j,cy,n1,I,fb,fa,hb,ha,U,J⟩:=decomp nd l;have al:Cyc (R u) ((c2++(j++[pv g u]))++(c1++(i++[pv f u]))):=cy.shift;have s1:=M.zI (h:=g) (o:=f) (.inr ⟨rfl,rfl⟩) (M.T.faceLg M.C M.L) a (fun v h=>h.symm) (c:=c1) (m:=(i++[pv f u])++(c2++j)) pw n1;have s2:=M.zI (h:=f) (o:=g) (.inl ⟨rfl,rfl⟩) (M.T.faceLf M.C M.L) a (fun v h=>h) (c:=c2) (m:=(j++[pv g u])++(c1++i)) pw I;have t:=(zq.1 a);have y:=Cx.BB M.T.hf t.1;have aq:∀x∈c1,QP R H u x:=fun x d=>⟨y,cy.perm.mem_iff.2 (by simp[d]),n1 x d⟩;have ar:∀x∈c2,QP R H u x:=fun x d=>⟨y,cy.perm.mem_iff.2 (by simp[d]),I x d⟩;have D:∀{be:Nat->Nat} {x},QP R H u x->xZ R H f g le hm be u x=1->fB R H f g u x:=fun{be x} E e=>by
  refine⟨E.mem,E.nh,fR fun q=>?_⟩;unfold xZ at e;rw[if_neg q]at e;split at e<;>omega
 have av:∀{be:Nat->Nat} {x},QP R H u x->xZ R H f g le hm be u x=0->¬fB R H f g u x/\tlf R H le hm u x=be u:=fun{be x} E e=>by
  have K:¬SK R H f g (QI R H u x):=fun q=>by grind [xZ]
  refine⟨fun q=>K q.2.2,fR fun q=>?_⟩
  grind [xZ]
 have ay:∀{be:Nat->Nat} {x},QP R H u x->xZ R H f g le hm be u x=2->¬fB R H f g u x/\tlf R H le hm u x≠be u/\(tlf R H le hm u x=u\/tlf R H le hm u x=pv (Ul f g) u):=fun{be x} E e=>by
  have K:¬SK R H f g (QI R H u x):=fun q=>by grind [xZ]
  refine⟨fun q=>K q.2.2,fun q=>?_,M.tl_or E K a⟩
  grind [xZ]
 have V:=M.amid a (c:=c1) (b:=i++[pv f u]) (b0:=B u++[pv f u]) (m:=c2++(j++[pv g u])) (ℓ:=pv (Ul f g) u);have W:pv f u∉B u:=fun q=>(yM.1 (yM.1 k).2.1).2.2 _ q _ Ma rfl;have X:pv g u∉B u:=fun q=>(yM.1 k).2.2 (pv g u) Ma (pv g u) (by simp[q]) rfl;have Y:pv g u∉A u:=fun q=>(yM.1 (yM.1 k).1).2.2 _ q _ Ma rfl;have Z:pv f u∉A u:=fun q=>(yM.1 k).2.2 (pv f u) (by simp[q]) (pv f u) Ma rfl;have mb:=M.amid a (c:=c1) (b:=i) (b0:=B u) (m:=[pv f u]++(c2++(j++[pv g u]))) (ℓ:=pv (Ul f g) u) pw n1 hb fb (fun e he=>M.L.inn u a e (by simp[he])) W X;have ma:=M.amid a (c:=c2) (b:=j) (b0:=A u) (m:=[pv g u]++(c1++(i++[pv f u]))) (ℓ:=u) pw I ha fa (fun e he=>M.L.out u a e (by simp[he])) Z Y;have az:¬fB R H f g u (pv f u)/\tlf R H le hm u (pv f u)=pv (Ul f g) u:=⟨fun q=>q.2.1 J,by unfold tlf;rw[if_pos J];exact M.L.inn u a _ Ma⟩;have aC:¬fB R H f g u (pv g u)/\tlf R H le hm u (pv g u)=u:=⟨fun q=>q.2.1 U,by unfold tlf;rw[if_pos U];exact M.L.out u a _ Ma⟩;have toSE:∀{z},¬(¬H u z/\SK R H f g (QI R H u z))->¬fB R H f g u z:=fun h q=>h q.2;have G:∀w∈c2,WQ R H f u w:=fun w hw=>by
  obtain⟨p,q,rfl,_⟩:=sC hw;exact Cx.Ag t.1 (m:=(j++[pv g u])++(c1++i)) pw I J
 clear V;generalize aD:c1.filter (fun x=>decide (xZ R H f g le hm (fun w=>w) u x=0))=k0 at s1;generalize aF:c1.filter (fun x=>decide (xZ R H f g le hm (fun w=>w) u x=1))=k1 at s1;generalize aH:c1.filter (fun x=>decide (xZ R H f g le hm (fun w=>w) u x=2))=k2 at s1;generalize aJ:c2.filter (fun x=>decide (xZ R H f g le hm (fun w=>pv (Ul f g) w) u x=0))=N at s2;generalize aK:c2.filter (fun x=>decide (xZ R H f g le hm (fun w=>pv (Ul f g) w) u x=1))=O at s2;generalize aL:c2.filter (fun x=>decide (xZ R H f g le hm (fun w=>pv (Ul f g) w) u x=2))=S at s2;have ad:∀x∈k0,QP R H u x/\xZ R H f g le hm (fun w=>w) u x=0:=fun x d=>by grind
 have DQ:∀x∈k1,QP R H u x/\xZ R H f g le hm (fun w=>w) u x=1:=fun x d=>by grind
 have mk2:∀x∈k2,QP R H u x/\xZ R H f g le hm (fun w=>w) u x=2:=fun x d=>by grind
 have ag:∀x∈N,QP R H u x/\xZ R H f g le hm (fun w=>pv (Ul f g) w) u x=0:=fun x d=>by grind
 have r:∀x∈O,x∈c2/\QP R H u x/\xZ R H f g le hm (fun w=>pv (Ul f g) w) u x=1:=fun x d=>by grind
 have aj:∀x∈S,QP R H u x/\xZ R H f g le hm (fun w=>pv (Ul f g) w) u x=2:=fun x d=>by grind
 refine⟨S++((j++[pv g u])++k0),k1,k2++((i++[pv f u])++N),O,?_,fun w hw=>?_,fun w hw=>?_,fun w hw=>D (DQ w hw).1 (DQ w hw).2,fun w hw=>D (r w hw).2.1 (r w hw).2.2,?_,?_,fun w hw=>G w (r w hw).1⟩
 .rw [s1, s2] at cy
  have e:((k0++(k1++k2))++(i++[pv f u]))++((N++(O++S))++(j++[pv g u]))=((k0++(k1++k2))++(i++[pv f u])++N++O)++(S++(j++[pv g u])):=by simp
  grind [Cyc.shift]
 .rcases yY.1 hw with h | h
  .grind
  rcases yY.1 h with h|h
  .rcases yY.1 h with h | h
   all_goals grind
  grind
 .rcases yY.1 hw with h | h
  .grind
  rcases yY.1 h with h|h
  .rcases yY.1 h with h | h
   all_goals grind
  grind
 .rw [EP, EP, EP, mz fun z s => (aj z s).1.nh, mz fun z s => (ad z s).1.nh, fa, filter_one (decide_eq_true U)]
  simp
 .rw [EP, EP, EP, mz fun z s => (mk2 z s).1.nh, mz fun z s => (ag z s).1.nh, fb, filter_one (decide_eq_true J)]
  simp
end
end Go.Fw
