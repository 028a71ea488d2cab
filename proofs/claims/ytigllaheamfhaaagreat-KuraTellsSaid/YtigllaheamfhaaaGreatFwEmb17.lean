/- A text. -/
import Derived.Test.YtigllaheamfhaaaGreatFwFac2
set_option linter.all false
set_option maxRecDepth 99999
set_option maxHeartbeats 9999999
open Option renaming some→Z
open Bool renaming true→tT
open List renaming range→rG
open List
namespace Go.Fw
section
attribute [local instance] Classical.propDecidable
theorem filter_none{l:II}{p:Nat->Bool}(h:∀z∈l,¬p z=tT):l.filter p=[]:=qL72.2 h
def filter_one{x:Nat}{p:Nat->Bool}(h:p x=tT){l:II}:(x::l).filter p=x::l.filter p:=filter_cons_of_pos h
theorem sort3{kd:Nat->Nat}:∀{c:II},(∀x∈c,kd x<=2)->c.Pairwise (fun x y=>kd x<=kd y)->c=(c.filter fun x=>decide (kd x=0))++((c.filter fun x=>decide (kd x=1))++(c.filter fun x=>decide (kd x=2)))
 |[],_,_=>rfl
 |x::c,h,a=>by
  rw[ajX]at a;have b:=sort3 (by grind[mem_cons_of_mem]) a.2;have d:=h x Hs;have f:0<kd x->(c.filter fun y=>decide (kd y=0))=[]:=fun q=>filter_none hGr;have i:1<kd x->(c.filter fun y=>decide (kd y=1))=[]:=fun q=>filter_none hGr;have cs:kd x=0\/kd x=1\/kd x=2:=NH;rcases cs with e|e|e
  .simp only[ahG,e,decide_true,if_true,WS,<-b];simp[<-b]
  .simp only[ahG,e];grind
  .simp only[ahG,e];grind
structure apy (R:Nat->II) (H:Nat->Nat->Prop) (U:Nat->Prop) (g:II) (u:Nat) (kd:Nat->Nat) (x z y:Nat):Prop where
 on:¬off R H z
 ne:u≠z
 zg:z∈g
 yz:y∈R z
 ny:¬H z y
 QI:QI R H u x=QI R H z y
 k0:kd x=0->¬U z/\∀A B,Cyc g ((u::A)++(z::B))->∀v∈B,¬U v
 k1:kd x=1->U z
 k2:kd x=2->¬U z/\∀A B,Cyc g ((u::A)++(z::B))->∀v∈A,¬U v
section
variable{n:Nat}{R:Nat->II}{H:Nat->Nat->Prop}{F:Cs}{g:II}{u:Nat}{U:Nat->Prop}{kd:Nat->Nat}
theorem Ctx.Ag(C:Ctx n R H F)(a:u∈g){p q m:II}{x:Nat}(cy:Cyc (R u) ((p++x::q)++(m++[pv g u])))(j:∀z∈p++x::q,¬H u z)(b:H u (pv g u)):WQ R H g u x:=by
 refine⟨a,?_⟩;have nd:=cy.perm.nodup_iff.1 (C.Rl.nd u);have n1:=(j9.1 nd).1;have c:x∉p:=by grind[mem_cons_self]
 have d:x∉q:=by grind[nodup_append]
 have e:Cyc (cl R H u x) (x::((m.filter fun w=>decide (H u w\/w=x))++[pv g u])):=by have:=cy.filter fun w=>decide (H u w\/w=x);have h:∀l:II,(∀z∈l,¬H u z)->x∉l->l.filter (fun w=>decide (H u w\/w=x))=[]:=fun l k h2=>filter_none hGr;rw[Db,Db,Db,h p hGr c,filter_one (EL (.inr rfl)),h q hGr d,filter_one (EL (.inl b))]at this;grind[cl]
 have f:(cl R H u x).Nodup:=(C.Rl.nd u).sublist EP;have i:=e.perm.nodup_iff.1 f;grind[Cyc.perm,List.Perm.mem_iff,Cyc.nx,vB]
theorem Ctx.pairK(C:Ctx n R H F)(hg:g∈F)(a:u∈g){p q s m:II}{x y:Nat}(cy:Cyc (R u) ((p++x::(q++y::s))++(m++[pv g u])))(E:∀z∈p++x::(q++y::s),¬H u z){j y1 L y2:Nat}(b:apy R H U g u kd x j y1)(f:apy R H U g u kd y L y2)(hw:∃w∈g,U w/\w≠u)(hk:kd x≠kd y->QI R H u x≠QI R H u y)(b1:kd x<=2):kd x<=kd y:=by
 have⟨_,k⟩:=C.HT hg a (x:=x);have r:¬off R H u:=fun h=>h _ (EM.1 (C.O.akH (OG C.Rl C.sym) hg a)).1 k;have nd:=cy.perm.nodup_iff.1 (C.Rl.nd u);have n1:=(j9.1 nd).1;have X:=(j9.1 n1).2.1;rw[VU,aax,Og]at X;have n3:=(j9.1 X.2);have M:x≠y:=hGr;have N:x∉p:=by grind[mem_cons_self]
 have hyp:y∉p:=fun h=>(j9.1 n1).2.2 y h y Ma rfl;have P:x∉q:=hGr;have Q:y∉q:=hGr;refine Nat.le_of_not_lt fun ae=>?_;have aa:=hk NH;have mx:x∈R u:=cy.perm.mem_iff.2 Ma;have my:y∈R u:=cy.perm.mem_iff.2 Ma;have⟨i1,W1,e1,_,o1⟩:=ZW C.Rl C.sym r b.on b.ne mx (E x Ma) b.yz b.ny b.QI;have⟨i2,W2,e2,_,o2⟩:=ZW C.Rl C.sym r f.on f.ne my (E y Ma) f.yz f.ny f.QI;have TE:∀v∈i1,v∉i2:=hGr;have t:WQ R H g u x:=C.Ag a cy E k;have o:nx (cl2 R H u x y) x=y:=by
  have e:Cyc (cl2 R H u x y) (x::y::((s.filter fun w=>decide ((H u w\/w=x)\/w=y))++((m++[pv g u]).filter fun w=>decide ((H u w\/w=x)\/w=y)))):=by have:=cy.filter fun w=>decide ((H u w\/w=x)\/w=y);have hN:∀l:II,(∀z∈l,¬H u z)->x∉l->y∉l->l.filter (fun w=>decide ((H u w\/w=x)\/w=y))=[]:=fun l h1 h2 h3=>filter_none fun z hz h=>(ag1 h).elim hGr hGr;rw[Db,Db,hN p hGr N hyp,filter_one (by grind[decide_eq_true]),Db,hN q (fun z hz=>E z (by simp[hz])) P Q,filter_one (EL (.inr rfl))]at this;grind[cl2]
  have S:(cl2 R H u x y).Nodup:=(C.Rl.nd u).sublist EP;rw[e.nx S (e.perm.mem_iff.2 Ma)];exact Nu (p:=[]) Ma
 have⟨c,hc⟩:=Cyc.front a;have T:j∈c:=by have:=hc.perm.mem_iff.1 b.zg;grind[apy.ne]
 obtain⟨A,B,rfl,_⟩:=sC T;have D:Cyc g ((u::A)++(j::B)):=hGr;have nc:=C.nocross hg W1 W2 e1 e2 TE M t o D;have d:L∈A->∃G I,Cyc g ((u::G)++(L::(I++j::B))):=fun h=>by obtain⟨G,I,rfl,_⟩:=sC h;grind
 have i:(kd x=1/\kd y=0)\/(kd x=2/\kd y=1)\/(kd x=2/\kd y=0):=NH;rcases i with⟨J,K⟩|⟨J,K⟩|⟨J,K⟩
 .have u1:=b.k1 J;have V:=f.k0 K;rcases nc with h|h
  .obtain⟨G,I,c2⟩:=d h;exact V.2 _ _ c2 j Ma u1
  grind
 .grind[apy.k2,apy.k1]
 .have u1:=b.k2 J;have V:=f.k0 K;have⟨w,w1,w2,w3⟩:=hw;have W:w∈B:=by
   have:=D.perm.mem_iff.1 w1;grind
  rcases nc with h|h
  .obtain⟨G,I,c2⟩:=d h;exact V.2 _ _ c2 w (by simp[W]) w2
  grind
theorem Ctx.sorted(C:Ctx n R H F)(hg:g∈F)(a:u∈g){m:II}(hw:∃w∈g,U w/\w≠u):∀(c p:II),Cyc (R u) ((p++c)++(m++[pv g u]))->(∀z∈p++c,¬H u z)->
  (∀x∈c,∃z y,apy R H U g u kd x z y)->(∀x∈c,∀y∈c,kd x≠kd y->QI R H u x≠QI R H u y)->(∀x∈c,kd x<=2)->c.Pairwise fun x y=>kd x<=kd y
 |[],_,_,_,_,_,_=>List.Pairwise.nil
 |x::c,p,cy,d,e,f,hb=>by
  constructor
  .intro y b;obtain⟨q,s,rfl,_⟩:=sC b;grind[Ctx.pairK]
  .refine C.sorted hg a (m:=m) hw c (p++[x]) hGr hGr (by grind[mem_cons_of_mem]) (by grind[mem_cons_of_mem]) (by grind[mem_cons_of_mem])
end
theorem aki{U:Nat->Prop}:∀{l:II},(∃v∈l,U v)->∃s w t,l=s++w::t/\U w/\∀v∈s,¬U v
 |[],h=>by grind
 |x::l,h=>by
  by_cases c:U x
  .exact⟨[],x,l,rfl,c,hGr⟩
  .obtain⟨v,a,b⟩:=h;rcases Og.1 a with rfl|a
   .grind
   .obtain⟨s,w,t,rfl,d,h2⟩:=aki ⟨v,a,b⟩;grind
theorem last_ex{U:Nat->Prop}{l:II}(h:∃v∈l,U v):∃s w t,l=s++w::t/\U w/\∀v∈t,¬U v:=by have⟨v,a,b⟩:=h;have⟨s,w,t,e,c,h2⟩:=aki (l:=l.reverse) ⟨v,Yq.2 a,b⟩;grind[reverse_reverse]
theorem MW{y:Nat}:∀{a b a' c:II},a++y::b=a'++y::c->y∉a->y∉a'->a=a'/\b=c
 |[],b,[],c,h,_,_=>by grind
 |[],b,x::a',c,h,_,h2=>by grind
 |x::a,b,[],c,h,d,_=>by grind
 |x::a,b,x'::a',c,h,d,h2=>by simp at h;have⟨e,h⟩:=h;have⟨k1,k2⟩:=MW h (by grind[mem_cons_of_mem]) (by grind[mem_cons_of_mem]);grind
theorem IM(p:Nat->Prop):∀m:II,∃c b,m=c++b/\(∀z∈c,¬p z)/\(∀z t,b=z::t->p z)
 |[]=>⟨[],[],rfl,hGr,hGr⟩
 |x::m=>by
  by_cases c:p x
  .exact⟨[],x::m,rfl,hGr,hGr⟩
  .obtain⟨a,b,rfl,d,h2⟩:=IM p m;refine⟨x::a,b,rfl,fun z e=>?_,h2⟩;grind
theorem cyc_end{l s t:II}{x:Nat}(nd:l.Nodup)(c:Cyc l (s++[x]))(h2:Cyc l (t++[x])):s=t:=by
 have⟨u,v,d,e⟩:=c.symm.trans h2;have n1:=c.perm.nodup_iff.1 nd;rcases ah1 u with rfl|⟨u',a,rfl⟩
 .grind[append_inj_left']
 .rcases ah1 v with rfl|⟨v',b,rfl⟩
  .simp_all
  .rw[qL184,qL184,<-Cg]at d e;have ha:=qL227 d rfl;have hb:=qL227 e rfl;grind
theorem decomp{l A B:II}{x y:Nat}{p:Nat->Prop}(nd:l.Nodup)(h:Cyc (l.filter fun z=>decide (p z)) ((A++[x])++(B++[y]))):
  ∃c1 a c2 a1,Cyc l ((c1++(a++[y]))++(c2++(a1++[x])))/\(∀z∈c1,¬p z)/\(∀z∈c2,¬p z)/\(a.filter fun z=>decide (p z))=B/\(a1.filter fun z=>decide (p z))=A/\(∀z t,a=z::t->p z)/\(∀z t,a1=z::t->p z)/\p x/\p y:=by
 have d:x∈l.filter fun z=>decide (p z):=h.perm.mem_iff.2 Ma;have s:y∈l.filter fun z=>decide (p z):=h.perm.mem_iff.2 Ma;rw[K4]at d s;have u:=ag1 d.2;have v:=ag1 s.2;have b:(l.filter fun z=>decide (p z)).Nodup:=nd.sublist EP;have D:=h.perm.nodup_iff.1 b;have⟨m,J⟩:=Cyc.front d.1;have i:Cyc l (m++[x]):=by grind[Cyc.shift]
 have hf:=i.filter fun z=>decide (p z);rw[Db,filter_one (EL u)]at hf;have h2:Cyc (l.filter fun z=>decide (p z)) ((B++y::A)++[x]):=by grind[Cyc.shift]
 have e:=cyc_end b hf h2;have j:y∈m:=by grind[Cyc.perm,List.Perm.mem_iff]
 obtain⟨m1,m2,rfl,K⟩:=sC j;rw[Db,filter_one (EL v)]at e;have o:y∉B:=fun q=>by grind
 have⟨E,G⟩:=MW e hGr o;obtain⟨c1,a,rfl,w,H⟩:=IM p m1;obtain⟨c2,a1,rfl,C,I⟩:=IM p m2;have k:∀{c:II},(∀z∈c,¬p z)->c.filter (fun z=>decide (p z))=[]:=fun{c} h=>filter_none hGr;rw[Db,k w]at E;rw[Db,k C]at G;exact⟨c1,a,c2,a1,hGr,w,C,hGr,hGr,H,I,u,v⟩
section
variable{n:Nat}{r:Nat->II}{F:Cs}{f g:II}{A B:Nat->II}{le:Nat->Nat->Nat}
theorem aaL.walk(T:aaL n r F f g)(L:Lab r f g A B le){h:II}(hh:h∈F){l w:Nat}{t:II}:∀(s X:II)(z:Nat),Cyc h (X++z::(s++w::t))->(∀v∈s,v∉Ul f g)->le z (nx h z)=l->le w (pv h w)=l
 |[],X,z,cy,_,e=>by
  have nd:=T.O.nd h hh;have a:=cy.perm.nodup_iff.1 nd;have b:z∈h:=cy.perm.mem_iff.2 Ma;have c:nx h z=w:=by grind[Cyc.nx,Nu]
  have d:pv h w=z:=by grind[c7]
  rw[d,L.sym w z,<-c]
  .exact e
  .have:=T.R.sy _ _ (T.O.aei h hh z b);grind
 |v::s,X,z,cy,hs,e=>by
  have nd:=T.O.nd h hh;have a:=cy.perm.nodup_iff.1 nd;have b:z∈h:=cy.perm.mem_iff.2 Ma;have i:v∈h:=cy.perm.mem_iff.2 Ma;have c:nx h z=v:=by grind[Cyc.nx,Nu]
  have hd:=T.O.aei h hh z b;rw[c]at hd e;refine T.walk L hh s (X++[z]) v (by simpa using cy) (by grind[List.mem_cons_of_mem]) ?_;rw[L.same v (hs v Hs) (nx h v) z (T.O.aei h hh v i) (T.R.sy _ _ hd),<-L.sym z v hd];exact e
structure WH (f g:II) (le:Nat->Nat->Nat) (h:II) (al be:Nat->Nat):Prop where
 outL:∀w∈Ul f g,le w (nx h w)=al w
 inL:∀w∈Ul f g,le w (pv h w)=be w
 ia:∀v∈Ul f g,∀w∈Ul f g,al v=al w->v=w
 ib:∀v∈Ul f g,∀w∈Ul f g,be v=be w->v=w
theorem aaL.TH(T:aaL n r F f g):∀v∈Ul f g,∀w∈Ul f g,pv (Ul f g) v=pv (Ul f g) w->v=w:=by grind[aa3,aaL.ndU]
theorem aaL.faceLg(T:aaL n r F f g)(C:Wa r f g A B)(L:Lab r f g A B le):WH f g le g (fun w=>pv (Ul f g) w) fun w=>w:=by refine⟨fun w hw=>L.inn w hw _ ?_,fun w hw=>L.out w hw _ Ma,T.TH,hGr⟩;grind[Wa.hB,BX]
theorem aaL.faceLf(T:aaL n r F f g)(C:Wa r f g A B)(L:Lab r f g A B le):WH f g le f (fun w=>w) fun w=>pv (Ul f g) w:=by refine⟨fun w hw=>L.out w hw _ ?_,fun w hw=>L.inn w hw _ Ma,hGr,T.TH⟩;grind[Wa.hA,BX]
theorem aaL.aft(T:aaL n r F f g)(L:Lab r f g A B le){h:II}(hh:h∈F){i be:Nat->Nat}(D:WH f g le h i be){u z:Nat}(j:u∈Ul f g)(k:le z (nx h z)=be u):∀a b,Cyc h ((u::a)++(z::b))->∀v∈b,v∉Ul f g:=fun a b cy v l c=>by obtain⟨s,w,t,rfl,d,h2⟩:=aki (U:=fun v=>v∈Ul f g) ⟨v,l,c⟩;have e:=T.walk L hh s (u::a) z cy h2 k;rw[D.inL w d]at e;have:=D.ib w d u j e;have nd:=cy.perm.nodup_iff.1 (T.O.nd h hh);grind
theorem aaL.bef(T:aaL n r F f g)(L:Lab r f g A B le){h:II}(hh:h∈F){b be:Nat->Nat}(D:WH f g le h b be){u z:Nat}(m:u∈Ul f g)(c:z∉Ul f g)(o:le z (nx h z)=b u):∀d j,Cyc h ((u::d)++(z::j))->∀v∈d,v∉Ul f g:=fun d j cy v p i=>by obtain⟨s,w,t,rfl,k,h2⟩:=last_ex (U:=fun v=>v∈Ul f g) ⟨v,p,i⟩;have a:z∈h:=cy.perm.mem_iff.2 Ma;have e:=T.walk L hh (l:=b w) t (u::s) w (by simpa using cy) h2 (D.outL w k);have q:=T.O.akH T.R hh a;rw[L.same z c _ (nx h z) q (T.O.aei h hh z a),o]at e;have:=D.ia u m w k e;have nd:=cy.perm.nodup_iff.1 (T.O.nd h hh);grind
end
structure QP (R:Nat->II) (H:Nat->Nat->Prop) (u x:Nat):Prop where
 on:¬off R H u
 mem:x∈R u
 nh:¬H u x
def Fits(R:Nat->II)(H:Nat->Nat->Prop)(k:Nat×Nat×Nat)(h:II):Prop:=∀u x,QP R H u x->QI R H u x=k->u∈h
structure Pg (n:Nat) (R:Nat->II) (H:Nat->Nat->Prop) (F:Cs):Prop where
 C:Ctx n R H F
 two:∀u x,QP R H u x->∃z y,QP R H z y/\u≠z/\QI R H u x=QI R H z y
 one:∀v w,w∈R v->¬H v w->∃u x,QP R H u x/\QI R H v w=QI R H u x
def SK(R:Nat->II)(H:Nat->Nat->Prop)(f g:II)(k:Nat×Nat×Nat):Prop:=Fits R H k f/\Fits R H k g/\∃u x,QP R H u x/\QI R H u x=k/\(WQ R H f u x\/WQ R H g u x)
noncomputable def tlf(R:Nat->II)(H:Nat->Nat->Prop)(le:Nat->Nat->Nat)(hm:Nat×Nat×Nat->II)(v w:Nat):Nat:=if H v w then le v w else le ((hm (QI R H v w)).headD 0) (nx (hm (QI R H v w)) ((hm (QI R H v w)).headD 0))
structure Mv (n:Nat) (R:Nat->II) (H:Nat->Nat->Prop) (F:Cs) (f g:II) (A B:Nat->II) (le:Nat->Nat->Nat) (hm:Nat×Nat×Nat->II):Prop where
 P:Pg n R H F
 T:aaL n (Om H R) F f g
 C:Wa (Om H R) f g A B
 L:Lab (Om H R) f g A B le
 h2:∀u∈Ul f g,nx (Ul f g) u≠u
 home:∀u x,QP R H u x->¬SK R H f g (QI R H u x)->hm (QI R H u x)∈F/\hm (QI R H u x)≠f/\hm (QI R H u x)≠g/\Fits R H (QI R H u x) (hm (QI R H u x))/\∀h'∈F,WQ R H h' u x->h'≠f->h'≠g->h'=hm (QI R H u x)
section
variable{n:Nat}{R:Nat->II}{H:Nat->Nat->Prop}{F:Cs}
theorem Pg.EI(P:Pg n R H F){u x:Nat}(d:QP R H u x):∃h∈F,∀z y,QP R H z y->QI R H z y=QI R H u x->WQ R H h z y:=by
 have C:=P.C;have two:∀{u x z y:Nat},QP R H u x->QP R H z y->u≠z->QI R H u x=QI R H z y->∃h∈F,WQ R H h u x/\WQ R H h z y:=fun{u x z y} b h2 a c=>by have⟨inn,W,e,i,_⟩:=ZW C.Rl C.sym b.on h2.on a b.mem b.nh h2.mem h2.nh c;grind[Ctx.drawn]
 have⟨z,y,j,a,c⟩:=P.two u x d;grind[Ctx.YQ]
def Ctx.on_of(C:Ctx n R H F){h:II}(hh:h∈F){u:Nat}(a:u∈h):¬off R H u:=fun q=>by have⟨b,h2⟩:=EM.1 (C.O.akH (OG C.Rl C.sym) hh a);exact q _ b h2
theorem Ctx.pre_cor(C:Ctx n R H F){h:II}(hh:h∈F){u z e:Nat}{q s m c:II}(j:WQ R H h u z)(cy:Cyc (R u) ((q++z::s)++m))(p:¬H u z)(r:(q.filter fun w=>decide (H u w))=c++[e]):pv h u=e:=by
 have nd:=cy.perm.nodup_iff.1 (C.Rl.nd u);have n1:=(j9.1 nd).1;have l:z∉q:=fun k=>(j9.1 n1).2.2 z k z Hs rfl;have d:=cy.filter fun w=>decide (H u w\/w=z);have o:q.filter (fun w=>decide (H u w\/w=z))=c++[e]:=by grind[filter_congr]
 rw[Db,Db,o,filter_one (EL (.inr rfl))]at d;have b:(cl R H u z).Nodup:=(C.Rl.nd u).sublist EP;have a:Cyc (cl R H u z) (c++e::z::((s.filter fun w=>decide (H u w\/w=z))++(m.filter fun w=>decide (H u w\/w=z)))):=by grind[cl]
 have i:e∈cl R H u z:=a.perm.mem_iff.2 Ma;have t:nx (cl R H u z) e=z:=by rw[a.nx b i];exact Nu fun k=>(j9.1 (a.perm.nodup_iff.1 b)).2.2 e k e Ma rfl
 exact C9 b (C.HT hh j.ug).1 i (by grind[WQ.at_])
variable{f g:II}{A B:Nat->II}{le:Nat->Nat->Nat}{hm:Nat×Nat×Nat->II}
def Mv.S_cor(M:Mv n R H F f g A B le hm){u x:Nat}(c:QP R H u x)(d:SK R H f g (QI R H u x)):WQ R H f u x\/WQ R H g u x:=by
 have⟨_,_,z,y,e,i,b⟩:=d;have⟨h,hh,a⟩:=M.P.EI c;have k1:=a z y e i;have k2:=a u x c rfl;rcases b with b|b
 .exact .inl (M.P.C.YQ M.T.hf hh b k1▸k2)
 .exact .inr (M.P.C.YQ M.T.hg hh b k1▸k2)
def Mv.U6(M:Mv n R H F f g A B le hm){u x:Nat}(a:QP R H u x)(c:¬SK R H f g (QI R H u x)){z:Nat}(d:z∈hm (QI R H u x)):tlf R H le hm u x=le z (nx (hm (QI R H u x)) z):=by have⟨b,h2,h3,_⟩:=M.home u x a c;unfold tlf;rw[abE a.nh];exact M.L.Jv M.T M.C b h2 h3 (Lt (M.T.O.ne _ b)) d
def Mv.tl_at(M:Mv n R H F f g A B le hm){u x:Nat}(c:QP R H u x)(d:¬SK R H f g (QI R H u x)){z y:Nat}(e:QP R H z y)(h:QI R H u x=QI R H z y)(b:z∉Ul f g){w:Nat}(hw:w∈Om H R z):tlf R H le hm u x=le z w:=by have⟨i,h2,h3,j,_⟩:=M.home u x c d;have a:=j z y e h.symm;rw[M.U6 c d a];exact M.L.same z b _ _ (M.T.O.aei _ i z a) hw
def Mv.tl_or(M:Mv n R H F f g A B le hm){u x:Nat}(b:QP R H u x)(e:¬SK R H f g (QI R H u x))(d:u∈Ul f g):tlf R H le hm u x=u\/tlf R H le hm u x=pv (Ul f g) u:=by
 have⟨i,h2,h3,j,_⟩:=M.home u x b e;have a:=j u x b rfl;rw[M.U6 b e a];have hd:=M.T.O.aei _ i u a;rcases aax.1 ((M.C.c u d).perm.mem_iff.1 hd)with h|h
 .exact .inl (M.L.out u d _ h)
 .exact .inr (M.L.inn u d _ h)
noncomputable def xZ(R:Nat->II)(H:Nat->Nat->Prop)(f g:II)(le:Nat->Nat->Nat)(hm:Nat×Nat×Nat->II)(be:Nat->Nat)(u x:Nat):Nat:=if SK R H f g (QI R H u x)then 1 else if tlf R H le hm u x=be u then 0 else 2
theorem Mv.zI(M:Mv n R H F f g A B le hm){h o:II}(E:(h=f/\o=g)\/(h=g/\o=f)){V be:Nat->Nat}(D:WH f g le h V be){u:Nat}(t:u∈Ul f g)(N:∀v,v=u\/v=pv (Ul f g) u->v=V u\/v=be u){c m:II}(cy:Cyc (R u) (c++(m++[pv h u])))(W:∀z∈c,¬H u z):
  c=(c.filter fun x=>decide (xZ R H f g le hm be u x=0))++((c.filter fun x=>decide (xZ R H f g le hm be u x=1))++(c.filter fun x=>decide (xZ R H f g le hm be u x=2))):=by
 have Cx:=M.P.C;have hh:h∈F:=E.elim (fun q=>q.1▸M.T.hf) fun q=>q.1▸M.T.hg;have G:∀v,v∈Ul f g↔v∈h/\v∈o:=by grind[zq]
 have r:=((G u).1 t).1;have hb:∀x∈c,xZ R H f g le hm be u x<=2:=by grind[xZ]
 refine sort3 hb (Cx.sorted (U:=fun v=>v∈Ul f g) hh r (m:=m) ⟨nx (Ul f g) u,(by grind[ZP]),ZP t,M.h2 u t⟩ c [] hGr hGr (fun x K=>?_) (fun x K y hy d l=>d ?_) hb)
 .have s:QP R H u x:=⟨Cx.on_of hh r,cy.perm.mem_iff.2 (by simp[K]),W x K⟩;have i:WQ R H h u x:=by
   obtain⟨p,q,rfl,_⟩:=sC K;exact Cx.Ag r cy W (Cx.HT hh r (x:=x)).2
  by_cases w:SK R H f g (QI R H u x)
  .obtain⟨z,y,b,d,l⟩:=M.P.two u x s;have a:z∈Ul f g:=zq.2 ⟨w.1 z y b l.symm,w.2.1 z y b l.symm⟩;have k:xZ R H f g le hm be u x=1:=by grind[xZ]
   exact⟨z,y,b.on,d,((G z).1 a).1,b.mem,b.nh,l,hGr,(fun _=>a),fun e=>by grind⟩
  .obtain⟨h',Q,I⟩:=M.P.EI s;have e':=Cx.YQ Q hh (I u x s rfl) i;subst e';have j:Fits R H (QI R H u x) h':=fun z y b l=>by grind[WQ.ug]
   have S:¬Fits R H (QI R H u x) o:=fun q=>by
    rcases E with⟨e,e'⟩|⟨e,e'⟩
    .subst e e';exact w ⟨j,q,u,x,s,rfl,.inl i⟩
    .subst e e';exact w ⟨q,j,u,x,s,rfl,.inr i⟩
   have:∃z y,QP R H z y/\QI R H z y=QI R H u x/\z∉o:=ZT fun q=>S fun z y b l=>by grind
   have⟨z,y,b,l,X⟩:=this;have J:=j z y b l;have a:z∉Ul f g:=hGr;have d:u≠z:=hGr;have aa:tlf R H le hm u x=le z (nx h' z):=M.tl_at s w b l.symm a (M.T.O.aei h' hh z J);refine⟨z,y,b.on,d,J,b.mem,b.nh,l.symm,fun e=>⟨a,?_⟩,(fun e=>?_),fun e=>⟨a,?_⟩⟩
   .have:tlf R H le hm u x=be u:=by grind[xZ]
    exact M.T.aft M.L hh D t hGr
   .grind[xZ]
   .have:tlf R H le hm u x≠be u:=by grind[xZ]
    have:=(N _ (M.tl_or s w t)).resolve_right this;exact M.T.bef M.L hh D t a hGr
 grind[xZ,tlf]
theorem Mv.amid(M:Mv n R H F f g A B le hm){u:Nat}(G:u∈Ul f g){c b b0 m:II}{ℓ:Nat}(cy:Cyc (R u) ((c++b)++m))(W:∀z∈c,¬H u z)(hb:∀z t,b=z::t->H u z)(I:(b.filter fun w=>decide (H u w))=b0)(J:∀e∈b0,le u e=ℓ)(K:pv f u∉b0)(N:pv g u∉b0):∀z∈b,(z∈R u/\¬(¬H u z/\SK R H f g (QI R H u z)))/\tlf R H le hm u z=ℓ:=fun z y=>by
 have Cx:=M.P.C;have p:z∈R u:=cy.perm.mem_iff.2 (by simp[y]);by_cases Q:H u z
 .grind[tlf]
 .obtain⟨q,s,rfl,_⟩:=sC y;have i:QP R H u z:=⟨Cx.on_of M.T.hf (zq.1 G).1,p,Q⟩;have j:(q.filter fun w=>decide (H u w))≠[]:=fun e=>by
   cases q<;>grind
  have⟨X,e,eq⟩:=CN j;have r:e∈b0:=hGr;have pre:∀{h:II},h∈F->WQ R H h u z->pv h u=e:=by grind[Ctx.pre_cor]
  have o:¬SK R H f g (QI R H u z):=fun o=>by
   rcases M.S_cor i o with k|k
   .exact K (pre M.T.hf k▸r)
   .exact N (pre M.T.hg k▸r)
  refine⟨hGr,?_⟩;have⟨h',d,l⟩:=M.P.EI i;have a:=l u z i rfl;have S:=pre d a;have v:h'≠f:=hGr;have x:h'≠g:=hGr;have⟨_,_,_,_,U⟩:=M.home u z i o;have V:=U h' d a v x;have⟨D,E,_⟩:=M.T.O.pv d a.ug;rw[M.U6 i o (z:=e) hGr,<-V];rw[S]at D E;rw[E,M.L.sym e u (by have:=M.T.O.aei h' d e D;grind)];exact J e r
end
section
variable{n:Nat}{R:Nat->II}{H:Nat->Nat->Prop}{F:Cs}{f g:II}{A B:Nat->II}{le:Nat->Nat->Nat}{hm:Nat×Nat×Nat->II}
def SEf(R:Nat->II)(H:Nat->Nat->Prop)(f g:II)(v w:Nat):Prop:=w∈R v/\¬H v w/\SK R H f g (QI R H v w)
structure AtU (R:Nat->II) (H:Nat->Nat->Prop) (f g:II) (A B:Nat->II) (le:Nat->Nat->Nat) (hm:Nat×Nat×Nat->II) (u:Nat) (XL Q YL P:II):Prop where
 cyc:Cyc (R u) (XL++(Q++(YL++P)))
 xl:∀w∈XL,¬SEf R H f g u w/\tlf R H le hm u w=u
 yl:∀w∈YL,¬SEf R H f g u w/\tlf R H le hm u w=pv (Ul f g) u
 q:∀w∈Q,SEf R H f g u w
 p:∀w∈P,SEf R H f g u w
 xh:(XL.filter fun w=>decide (H u w))=A u++[pv g u]
 yh:(YL.filter fun w=>decide (H u w))=B u++[pv f u]
 pf:∀w∈P,WQ R H f u w
theorem mz{u:Nat}{l:II}(h:∀z∈l,¬H u z):l.filter (fun w=>decide (H u w))=[]:=by grind[filter_none]
theorem Mv.atU(M:Mv n R H F f g A B le hm){u:Nat}(a:u∈Ul f g):∃XL Q YL P,AtU R H f g A B le hm u XL Q YL P:=by
 have Cx:=M.P.C;have nd:=Cx.Rl.nd u;have j:=M.C.c u a;have i:=j.perm.nodup_iff.1 (M.T.R.nd u);have⟨c1,d,c2,a1,cy,n1,E,fb,fa,hb,ha,O,G⟩:=decomp nd j;have aj:Cyc (R u) ((c2++(a1++[pv g u]))++(c1++(d++[pv f u]))):=cy.shift;have s1:=M.zI (h:=g) (o:=f) hGr (M.T.faceLg M.C M.L) a hGr (c:=c1) (m:=(d++[pv f u])++(c2++a1)) hGr n1;have s2:=M.zI (h:=f) (o:=g) hGr (M.T.faceLf M.C M.L) a (fun v h=>h) (c:=c2) (m:=(a1++[pv g u])++(c1++d)) hGr E;have l:=(zq.1 a);have r:=Cx.on_of M.T.hf l.1;have al:∀x∈c1,QP R H u x:=fun x s=>⟨r,cy.perm.mem_iff.2 (by simp[s]),n1 x s⟩;have aq:∀x∈c2,QP R H u x:=fun x s=>⟨r,cy.perm.mem_iff.2 (by simp[s]),E x s⟩;have t:∀{be:Nat->Nat}{x},QP R H u x->xZ R H f g le hm be u x=1->SEf R H f g u x:=fun{be x} y e=>by refine⟨y.mem,y.nh,ZT fun q=>?_⟩;unfold xZ at e;rw[abE q]at e;split at e<;>omega
 have ar:∀{be:Nat->Nat}{x},QP R H u x->xZ R H f g le hm be u x=0->¬SEf R H f g u x/\tlf R H le hm u x=be u:=fun{be x} y e=>by
  have I:¬SK R H f g (QI R H u x):=by grind[xZ]
  refine⟨fun q=>I q.2.2,ZT fun q=>?_⟩;grind[xZ]
 have av:∀{be:Nat->Nat}{x},QP R H u x->xZ R H f g le hm be u x=2->¬SEf R H f g u x/\tlf R H le hm u x≠be u/\(tlf R H le hm u x=u\/tlf R H le hm u x=pv (Ul f g) u):=fun{be x} y e=>by
  have I:¬SK R H f g (QI R H u x):=by grind[xZ]
  refine⟨fun q=>I q.2.2,fun q=>?_,M.tl_or y I a⟩;grind[xZ]
 have S:=M.amid a (c:=c1) (b:=d++[pv f u]) (b0:=B u++[pv f u]) (m:=c2++(a1++[pv g u])) (ℓ:=pv (Ul f g) u);have U:pv f u∉B u:=fun q=>(j9.1 (j9.1 i).2.1).2.2 _ q _ Ma rfl;have V:pv g u∉B u:=fun q=>(j9.1 i).2.2 (pv g u) Ma (pv g u) (by simp[q]) rfl;have W:pv g u∉A u:=fun q=>(j9.1 (j9.1 i).1).2.2 _ q _ Ma rfl;have X:pv f u∉A u:=fun q=>(j9.1 i).2.2 (pv f u) (by simp[q]) (pv f u) Ma rfl;have mb:=M.amid a (c:=c1) (b:=d) (b0:=B u) (m:=[pv f u]++(c2++(a1++[pv g u]))) (ℓ:=pv (Ul f g) u) hGr n1 hb fb (fun e he=>M.L.inn u a e (by simp[he])) U V;have ma:=M.amid a (c:=c2) (b:=a1) (b0:=A u) (m:=[pv g u]++(c1++(d++[pv f u]))) (ℓ:=u) hGr E ha fa (fun e he=>M.L.out u a e (by simp[he])) X W;have ay:¬SEf R H f g u (pv f u)/\tlf R H le hm u (pv f u)=pv (Ul f g) u:=⟨fun q=>q.2.1 G,by unfold tlf;rw[abe G];exact M.L.inn u a _ Ma⟩;have az:¬SEf R H f g u (pv g u)/\tlf R H le hm u (pv g u)=u:=⟨fun q=>q.2.1 O,by unfold tlf;rw[abe O];exact M.L.out u a _ Ma⟩;have toSE:∀{z},¬(¬H u z/\SK R H f g (QI R H u z))->¬SEf R H f g u z:=fun h q=>h q.2;have ai:∀w∈c2,WQ R H f u w:=fun w hw=>by obtain⟨p,q,rfl,_⟩:=sC hw;exact Cx.Ag l.1 (m:=(a1++[pv g u])++(c1++d)) hGr E G
 clear S;generalize aA:c1.filter (fun x=>decide (xZ R H f g le hm (fun w=>w) u x=0))=k0 at s1;generalize aB:c1.filter (fun x=>decide (xZ R H f g le hm (fun w=>w) u x=1))=k1 at s1;generalize aC:c1.filter (fun x=>decide (xZ R H f g le hm (fun w=>w) u x=2))=k2 at s1;generalize aD:c2.filter (fun x=>decide (xZ R H f g le hm (fun w=>pv (Ul f g) w) u x=0))=J at s2;generalize aE:c2.filter (fun x=>decide (xZ R H f g le hm (fun w=>pv (Ul f g) w) u x=1))=K at s2;generalize aF:c2.filter (fun x=>decide (xZ R H f g le hm (fun w=>pv (Ul f g) w) u x=2))=N at s2;have aa:∀x∈k0,QP R H u x/\xZ R H f g le hm (fun w=>w) u x=0:=hGr;have DQ:∀x∈k1,QP R H u x/\xZ R H f g le hm (fun w=>w) u x=1:=hGr;have mk2:∀x∈k2,QP R H u x/\xZ R H f g le hm (fun w=>w) u x=2:=hGr;have ae:∀x∈J,QP R H u x/\xZ R H f g le hm (fun w=>pv (Ul f g) w) u x=0:=hGr;have D:∀x∈K,x∈c2/\QP R H u x/\xZ R H f g le hm (fun w=>pv (Ul f g) w) u x=1:=hGr;have ag:∀x∈N,QP R H u x/\xZ R H f g le hm (fun w=>pv (Ul f g) w) u x=2:=hGr;refine⟨N++((a1++[pv g u])++k0),k1,k2++((d++[pv f u])++J),K,?_,fun w hw=>?_,fun w hw=>?_,fun w hw=>t (DQ w hw).1 (DQ w hw).2,fun w hw=>t (D w hw).2.1 (D w hw).2.2,?_,?_,hGr⟩
 .have e:((k0++(k1++k2))++(d++[pv f u]))++((J++(K++N))++(a1++[pv g u]))=((k0++(k1++k2))++(d++[pv f u])++J++K)++(N++(a1++[pv g u])):=by simp
  grind[Cyc.shift]
 .rcases aax.1 hw with h|h
  .grind
  rcases aax.1 h with h|h
  .all_goals grind
  grind
 .rcases aax.1 hw with h|h
  .grind
  rcases aax.1 h with h|h
  .all_goals grind
  grind
 .rw[Db,Db,Db,mz fun z k=>(ag z k).1.nh,mz fun z k=>(aa z k).1.nh,fa,filter_one (EL O)];simp
 .rw[Db,Db,Db,mz fun z k=>(mk2 z k).1.nh,mz fun z k=>(ae z k).1.nh,fb,filter_one (EL G)];simp
end
section
variable{n:Nat}{R:Nat->II}{H:Nat->Nat->Prop}{F:Cs}{f g:II}{A B:Nat->II}{le:Nat->Nat->Nat}{hm:Nat×Nat×Nat->II}
theorem Mv.blobs(M:Mv n R H F f g A B le hm):∃j Q l P:Nat->II,XY n R (Ul f g) (SEf R H f g) (tlf R H le hm) j Q l P/\(∀u∈Ul f g,AtU R H f g A B le hm u (j u) (Q u) (l u) (P u))/\∀v,v∉Ul f g->∀w∈R v,¬SEf R H f g v w->tlf R H le hm v w∈Ul f g:=by
 have Cx:=M.P.C;have b:∀u:Nat,∃q:II×II×II×II,u∈Ul f g->AtU R H f g A B le hm u q.1 q.2.1 q.2.2.1 q.2.2.2:=fun u=>by
  by_cases h:u∈Ul f g
  .obtain⟨j,Q,l,P,k⟩:=M.atU h;exact⟨(j,Q,l,P),fun _=>k⟩
  simp_all
 have⟨W,r⟩:=To b;have a:∀v w,w∈R v->¬H v w->¬SK R H f g (QI R H v w)->tlf R H le hm v w∈Ul f g:=fun v w hw D s=>by have⟨u,x,m,i⟩:=M.P.one v w hw D;have⟨E,_,_,_,_⟩:=M.home u x m (i▸s);unfold tlf;rw[abE D,i];exact M.L.inU _ _ (M.T.O.aei _ E _ (Lt (M.T.O.ne _ E)))
 refine⟨fun u=>(W u).1,fun u=>(W u).2.1,fun u=>(W u).2.2.1,fun u=>(W u).2.2.2,⟨Cx.Rl,M.T.ndU,M.h2,fun v w h=>?_,fun v w hw=>?_,fun v o=>?_,(by grind[AtU.cyc]),(by grind[AtU.xl]),(by grind[AtU.yl]),(by grind[AtU.q]),(by grind[AtU.p]),fun u t e=>?_,fun u t e=>?_⟩,r,fun v o w hw s=>?_⟩
 .exact⟨Cx.Rl.sy _ _ h.1,fun q=>h.2.1 (Cx.sym _ _ q),by rw[<-RX Cx.Rl h.1];exact h.2.2⟩
 .unfold tlf;by_cases c:H v w
  .rw[abe c,abe (Cx.sym _ _ c)];exact M.L.sym v w (by grind[EM])
  .rw[abE c,abE fun q=>c (Cx.sym _ _ q),RX Cx.Rl hw]
 .by_cases c:off R H v
  .by_cases d:SK R H f g (0,lo R H v,0)
   .exact .inl fun w hw=>⟨hw,c w hw,by grind[M6]⟩
   .refine .inr ⟨fun w hw q=>d (by have:=q.2.2;grind[M6]),fun w hw w' y=>?_⟩;unfold tlf;rw[abE (c w hw),abE (c w' y),M6 c,M6 c]
  .have nS:∀w∈R v,¬SEf R H f g v w:=fun w hw q=>o (zq.2 ⟨q.2.2.1 v w ⟨c,hw,q.2.1⟩ rfl,q.2.2.2.1 v w ⟨c,hw,q.2.1⟩ rfl⟩);have⟨z,k1,k2⟩:=Q7 c;have i:z∈Om H R v:=by grind[EM]
   have all:∀w∈R v,tlf R H le hm v w=le v z:=fun w hw=>by
    by_cases d:H v w
    .unfold tlf;rw[abe d];exact M.L.same v o w z (by grind[EM]) i
    .have m:QP R H v w:=⟨c,hw,d⟩;exact M.tl_at m (fun q=>nS w hw ⟨hw,d,q⟩) m rfl o i
   grind
 .have:=(r u t).xh;simp_all
 .have:=(r u t).yh;simp_all
 .by_cases d:H v w
  .unfold tlf;rw[abe d];exact M.L.inU v w (by grind[EM])
  .exact a v w hw d fun q=>s ⟨hw,d,q⟩
theorem Pg.move(P:Pg n R H F)(alt:∀u x,QP R H u x->∃N∈F,∃h2∈F,N≠h2/\Fits R H (QI R H u x) N/\Fits R H (QI R H u x) h2)(hf:f∈F)(hg:g∈F)(E:f≠g){b x0:Nat}(D:QP R H b x0)(c0:WQ R H g b x0)(fit:Fits R H (QI R H b x0) f):
  ∃R',V7 n R'/\Flat n R'/\(∀v w,w∈R' v↔w∈R v)/\pP (Om H R') (Om H R)/\WQ R' H f b x0:=by
 have Cx:=P.C;have T:aaL n (Om H R) F f g:=⟨OG Cx.Rl Cx.sym,Cx.O,Cx.fl.keep Cx.Rl Cx.sym,hf,hg,E,Cx.bp⟩;have s:Fits R H (QI R H b x0) g:=by have⟨h,hh,t⟩:=P.EI D;have e:=Cx.YQ hh hg (t b x0 D rfl) c0;subst e;exact fun z y i S=>by grind[WQ.ug]
 have j:b∈Ul f g:=zq.2 ⟨fit b x0 D rfl,s b x0 D rfl⟩;have⟨z,y,i,az,S⟩:=P.two b x0 D;have aA:z∈Ul f g:=zq.2 ⟨fit z y i S.symm,s z y i S.symm⟩;have h2:∀u∈Ul f g,nx (Ul f g) u≠u:=by grind[Bk,aaL.ndU]
 have⟨A,B,C⟩:=T.cutU;have⟨le,L⟩:=T.labE C h2 j;have key1:∀k:Nat×Nat×Nat,∃h:II,∀u x,QP R H u x->QI R H u x=k->¬SK R H f g k->h∈F/\h≠f/\h≠g/\Fits R H k h/\∀h'∈F,WQ R H h' u x->h'≠f->h'≠g->h'=h:=fun k=>by
  by_cases c:∃u x,QP R H u x/\QI R H u x=k/\¬SK R H f g k
  .obtain⟨u,x,U,rfl,V⟩:=c;have⟨h,hh,t⟩:=P.EI U;have av:Fits R H (QI R H u x) h:=fun z y i S=>by grind[WQ.ug]
   by_cases d:h≠f/\h≠g
   .exact⟨h,(by grind[Ctx.YQ])⟩
   .have aB:h=f\/h=g:=hGr;have aC:=t u x U rfl;have nb:¬(Fits R H (QI R H u x) f/\Fits R H (QI R H u x) g):=fun q=>V ⟨q.1,q.2,u,x,U,rfl,hGr⟩;have⟨N,m1,aD,m2,ay,f1,f2⟩:=alt u x U;have ex:∃h3∈F,h3≠f/\h3≠g/\Fits R H (QI R H u x) h3:=hGr;have⟨h3,m3,a1,a2,f3⟩:=ex;refine⟨h3,fun u' x' aE aF _=>⟨m3,a1,a2,f3,fun h' aH aJ b1 b2=>?_⟩⟩;grind[Ctx.YQ]
  .exact⟨[],hGr⟩
 have⟨hm,aK⟩:=To key1;have M:Mv n R H F f g A B le hm:=⟨P,T,C,L,h2,hGr⟩;have⟨m,Q,o,r,W,G,I⟩:=M.blobs;have⟨_,aa,aff⟩:=W.Vp Cx.fl I;have X:∀{v},v∈Ul f g->Vp R (Ul f g) (SEf R H f g) m Q o r v=m v++((r v).reverse++(o v++(Q v).reverse)):=fun h=>abe h;have J:∀v w,w∈Vp R (Ul f g) (SEf R H f g) m Q o r v↔w∈R v:=fun v w=>by
  by_cases c:v∈Ul f g
  .rw[X c,(W.cyc v c).perm.mem_iff];grind
  .unfold Vp;rw[abE c];split
   all_goals grind
 refine⟨_,aff,aa,J,fun v=>?_,?_,?_⟩
 .by_cases c:v∈Ul f g
  .have a:=G v c;have e:Om H (Vp R (Ul f g) (SEf R H f g) m Q o r) v=(A v++[pv g v])++(B v++[pv f v]):=by
    show(Vp R (Ul f g) (SEf R H f g) m Q o r v).filter _=_;rw[X c,Db,Db,Db,a.xh,a.yh,mz fun z i=>(a.p z (Yq.1 i)).2.1,mz fun z i=>(a.q z (Yq.1 i)).2.1];simp
   grind[Wa.c,Cyc.symm]
  .have e:Vp R (Ul f g) (SEf R H f g) m Q o r v=if∃w∈R v,¬SEf R H f g v w then R v else(R v).reverse:=abE c
   by_cases d:∃w∈R v,¬SEf R H f g v w
   .rw[abe d]at e;show Cyc ((Vp R (Ul f g) (SEf R H f g) m Q o r v).filter _) _;rw[e];exact Cyc.refl _
   .rw[abE d]at e;have hn:∀z∈R v,¬H v z:=fun z i q=>d ⟨z,i,fun k=>k.2.1 q⟩;show Cyc ((Vp R (Ul f g) (SEf R H f g) m Q o r v).filter _) ((R v).filter _);rw[e,mz hGr,mz hn];exact Cyc.refl _
 .grind[zq]
 .have a:=G b j;have V:SEf R H f g b x0:=⟨D.mem,D.nh,fit,s,b,x0,D,rfl,.inr c0⟩;have ae:x0∈Q b:=by
   have:=(W.cyc b j).perm.mem_iff.1 D.mem;grind[AtU.xl,AtU.yl,Ctx.YQ,AtU.pf]
  have nd:=(W.cyc b j).perm.nodup_iff.1 (Cx.Rl.nd b);have ag:=aff.nd b;rw[X j]at ag;have ai:x0∉m b:=fun q=>(a.xl x0 q).1 V;have aj:x0∉o b:=fun q=>(a.yl x0 q).1 V;have al:x0∉(r b).reverse:=fun q=>E (Cx.YQ hf hg (by grind[AtU.pf]) c0);have⟨q1,q2,eq,_⟩:=sC (Yq.2 ae);have hQ:∀z∈q1++x0::q2,¬H b z:=fun z i=>(a.q z hGr).2.1;have nq:(q1++x0::q2).Nodup:=hGr;have aq:x0∉q1:=by grind[mem_cons_self]
  have ar:x0∉q2:=(VU.1 (j9.1 nq).2.1).1;have hN:∀l:II,(∀z∈l,¬H b z)->x0∉l->l.filter (fun w=>decide (H b w\/w=x0))=[]:=fun l N h2=>filter_none hGr;have hY:∀l:II,x0∉l->l.filter (fun w=>decide (H b w\/w=x0))=l.filter (fun w=>decide (H b w)):=fun l h=>Uz fun w hw=>by rw[ai7];exact⟨hGr,.inl⟩
  have e:cl (Vp R (Ul f g) (SEf R H f g) m Q o r) H b x0=((A b++[pv g b])++B b)++pv f b::x0::[]:=by show(Vp R (Ul f g) (SEf R H f g) m Q o r b).filter _=_;rw[X j,eq,Db,Db,Db,Db,hY _ ai,a.xh,hN _ (fun z i=>(a.p z (Yq.1 i)).2.1) al,hY _ aj,a.yh,hN q1 (fun z i=>hQ z (by simp[i])) aq,filter_one (EL (.inr rfl)),hN q2 (fun z i=>hQ z (by simp[i])) ar];simp
  have K:(cl (Vp R (Ul f g) (SEf R H f g) m Q o r) H b x0).Nodup:=(aff.nd b).sublist EP;rw[e]at K ⊢;exact Nu fun k=>(j9.1 K).2.2 _ k _ Ma rfl
end
section
variable{n:Nat}{R R':Nat->II}{H:Nat->Nat->Prop}{F:Cs}{f:II}{a b:Nat}{inn A B:II}
theorem FO.same{r d:Nat->II}(O:FO r F)(e:V7 n r)(h:pP r d):FO d F:=
 ⟨O.nd,O.ne,fun f hf v c=>h.mem.1 (O.aei f hf v c),fun f hf v c=>by
   rw[<-O.step f hf v c];exact((h _).nx (e.nd _) (e.sy _ _ (O.aei f hf v c))).symm,
  fun v w hw=>O.cover v w (h.mem.2 hw),O.uniq,O.nodup⟩
theorem Ctx.same(C:Ctx n R H F)(c:V7 n R')(fl:Flat n R')(h:pP (Om H R') (Om H R)):Ctx n R' H F:=by refine⟨c,C.sym,fl,C.O.same (OG C.Rl C.sym) h.symm,fun v w d hw=>?_⟩;have ne:∀{v},Om H R' v≠[]->Om H R v≠[]:=fun{v} q e=>q (by have:=h v;grind[Cyc.nil]);exact(C.bp v w (ne d) (ne hw)).mono fun x y q=>h.mem.2 q
theorem uR(c:∀v w,w∈R' v↔w∈R v)(v:Nat):off R' H v↔off R H v:=⟨fun h w hw=>h w ((c v w).2 hw),fun h w hw=>h w ((c v w).1 hw)⟩
theorem Py(d:∀v w,w∈R' v↔w∈R v)(v w:Nat):QI R' H v w=QI R H v w:=by
 have c:=uR (H:=H) d;have g:∀v,lo R' H v=lo R H v:=fun v=>by
  unfold lo;congr 1;funext z;refine propext ⟨fun q=>q.mono fun x y k=>?_,fun q=>q.mono fun x y k=>?_⟩
  .obtain⟨k1,k2,e⟩:=EM.1 k;exact EM.2 ⟨(d _ _).1 k1,(c _).1 k2,(c _).1 e⟩
  .obtain⟨k1,k2,e⟩:=EM.1 k;exact EM.2 ⟨(d _ _).2 k1,(c _).2 k2,(c _).2 e⟩
 grind[QI]
def Fv(c:∀v w,w∈R' v↔w∈R v){u x:Nat}:QP R' H u x↔QP R H u x:=⟨fun h=>⟨fun q=>h.on ((uR c u).2 q),(c _ _).1 h.mem,h.nh⟩,fun h=>⟨fun q=>h.on ((uR c u).1 q),(c _ _).2 h.mem,h.nh⟩⟩
theorem Ka.same(W:Ka R H a inn b)(c:∀v w,w∈R' v↔w∈R v):Ka R' H a inn b:=
 ⟨W.nd,(by grind[Ka.UQ]),(by grind[Ka.off]),
  by grind[Ka.ona],by grind[Ka.onb]⟩
theorem Ctx.lay(C:Ctx n R H F)(W:Ka R H a inn b)(hf:f∈F)(p:WQ R H f a ((inn++[b]).headD 0))(cy:Cyc f ((a::A)++(b::B))):
  Ctx n R (fun x y=>H x y\/Ay a inn b x y) (half a A b inn::half b B a inn.reverse::F.erase f):=by
 have k:=C.Rl;have hs:=C.sym;have L:=W.lay k hs;have d:∀v w,(H v w\/Ay a inn b v w)->H w v\/Ay a inn b w v:=by grind[Ef]
 have⟨u,g,c1,c2,d1,d2⟩:=C.drawn W;have:=C.YQ g hf c1 p;subst this;have z:Jt R H a inn b b=cl R H b ((inn.reverse++[a]).headD 0):=by refine Uz fun y _=>?_;grind[Ka.wE_b]
 have r:=L.gY C.O g cy (by rw[W.Ui];exact c1.at_) (by grind[WQ.at_]) d1 d2;have s:V7 n (Jt R H a inn b):=OG k d;have up:∀{v w},Cr (Om H R) v w->Cr (Jt R H a inn b) v w:=fun h=>h.mono fun x y q=>EM.2 ⟨(EM.1 q).1,.inl (EM.1 q).2⟩;have along:∀(i x:Nat),(aaF a inn b)[i]?=Z x->Cr (Jt R H a inn b) a x:=fun i=>by
  induction i with
  |zero=>intro x j;have:=j.symm.trans (yT a b inn).1;injection this with this;subst this;exact .refl _
  |succ i t=>
   intro x j;have D:=(Ny.1 j).1;have o:(aaF a inn b)[i]?=Z ((aaF a inn b)[i]'(by omega)):=qL7 NH
   exact(t _ o).step (L.UQ o j)
 have toA:∀v,Jt R H a inn b v≠[]->Cr (Jt R H a inn b) a v:=fun v m=>by
  by_cases c:Om H R v=[]
  .obtain⟨w,l,e⟩:=eR m;have hw:w∈Jt R H a inn b v:=by rw[e];simp
   have⟨k1,k2⟩:=EM.1 hw;rcases k2 with k2|k2
   .have:w∈Om H R v:=by grind[EM]
    grind
   .rcases k2 with⟨i,E,_⟩|⟨i,_,h2⟩
    all_goals grind
  grind[Ctx.bp,Lay.ra]
 exact⟨k,d,C.fl,r,fun v w m hw=>((toA v m).symm s).trans (toA w hw)⟩
theorem Pg.step(P:Pg n R H F)(hf:f∈F){s:Nat}(e:QP R H a s)(fit:Fits R H (QI R H a s) f)(cond:(∀h∈F,Fits R H (QI R H a s) h->h=f)\/∀u x,QP R H u x->∃i∈F,∃h2∈F,i≠h2/\Fits R H (QI R H u x) i/\Fits R H (QI R H u x) h2)(W:Ka R H a inn b)(hs:(inn++[b]).headD 0=s)(cy:Cyc f ((a::A)++(b::B))):
  ∃R',(∀v w,w∈R' v↔w∈R v)/\Ctx n R' (fun x y=>H x y\/Ay a inn b x y) (half a A b inn::half b B a inn.reverse::F.erase f):=by
 have⟨g,hg,d⟩:=P.EI e;have j:=d a s e rfl;have k:Fits R H (QI R H a s) g:=fun z y r t=>by grind[WQ.ug]
 by_cases c:g=f
 .subst c;exact⟨R,hGr,P.C.lay W hg (hs▸j) cy⟩
 .rcases cond with q|alt
  .grind
  .obtain⟨R',l,fl,m,o,p⟩:=P.move alt hf hg (EH c) e j fit;have C':=P.C.same l fl o;exact⟨R',m,(by grind[Ctx.lay,Ka.same])⟩
theorem Pg.fits(P:Pg n R H F){u x:Nat}(d:QP R H u x):∃g∈F,Fits R H (QI R H u x) g:=by have⟨g,hg,c⟩:=P.EI d;exact⟨g,hg,fun z y e h=>by grind[WQ.ug]⟩
end
structure QG (R:Nat->II):Prop where
 bp:∀v w,R v≠[]->R w≠[]->Cr R v w
 Z7:∀c v w,v≠c->w≠c->R v≠[]->R w≠[]->Cr (Om (fun x y=>x≠c/\y≠c) R) v w
section
variable{n:Nat}{R R':Nat->II}{H:Nat->Nat->Prop}{F:Cs}
theorem QG.same(D:QG R)(d:∀v w,w∈R' v↔w∈R v):QG R':=by
 have ne:∀{v},R' v≠[]->R v≠[]:=fun{v} h e=>by have⟨w,l,q⟩:=eR h;have:w∈R v:=hGr;grind
 refine⟨fun v w a hw=>(D.bp v w (ne a) (ne hw)).mono hGr,fun c v w b h2 a hw=>(D.Z7 c v w b h2 (ne a) (ne hw)).mono fun x y h=>?_⟩;grind[EM]
theorem tq{r:Nat->II}(f:V7 n R)(sub:∀v w,w∈r v->w∈R v){v w:Nat}(h:Cr r v w)(d:off R H v):(Cr (Mm R H) v w/\off R H w)\/∃y z,Cr (Mm R H) v y/\off R H y/\¬off R H z/\z∈r y:=by
 induction h with
 |refl=>exact .inl ⟨.refl _,d⟩
 |@step b c _ g a=>
  rcases a with⟨e,h2⟩|a
  .by_cases q:off R H c
   .exact .inl ⟨e.step (EM.2 hGr),q⟩
   grind
  grind
theorem Ctx.pieces(C:Ctx n R H F)(D:QG R)(h2:∃p q,p≠q/\¬off R H p/\¬off R H q):Pg n R H F:=by
 have⟨p,q,o,s,J⟩:=h2;have a:=C.Rl;have d:∀{v w},w∈R v->R v≠[]:=hGr;have A:∀{v},¬off R H v->R v≠[]:=by grind[Q7]
 have mk:∀{r:Nat->II}{v w:Nat},(∀v w,w∈r v->w∈R v)->Cr r v w->off R H v->¬off R H w->∃u x,QP R H u x/\QI R H u x=(0,lo R H v,0)/\x∈R u/\u∈r x:=fun{r v w} sub j B hw=>by
  rcases tq a sub j B with h|⟨y,z,E,h2,h3,f⟩
  .grind
  .have m:=a.sy _ _ (sub _ _ f);exact⟨z,y,⟨h3,m,fun k=>h2 z (sub _ _ f) (C.sym _ _ k)⟩,by grind[Jn,fX],m,f⟩
 refine⟨C,fun u x b=>?_,fun v w hw G=>?_⟩
 .by_cases c:off R H x
  .have:∃t,t≠u/\¬off R H t:=hGr;have⟨t,I,g⟩:=this;have i:x≠u:=by grind[QP.on]
   have j:=D.Z7 u x t i I (d (a.sy _ _ b.mem)) (A g);grind[EM,Jn,QP.on]
  .exact⟨x,u,⟨c,a.sy _ _ b.mem,fun k=>b.nh (C.sym _ _ k)⟩,fun e=>a.ir u (e▸b.mem),RX a b.mem⟩
 .by_cases c:off R H v
  .obtain⟨z,y,E,h2,_⟩:=mk (fun _ _ h=>h) (by grind[QG.bp]) c s;grind[M6]
  .exact⟨v,w,⟨c,hw,G⟩,rfl⟩
end
def Ei(l:II)(x y:Nat):Prop:=(x∈l/\nx l x=y)\/(y∈l/\nx l y=x)
theorem fz{l:II}(nd:l.Nodup)(h3:3<=l.length){v:Nat}(d:v∈l):nx l v≠pv l v:=fun e=>by
 have f:nx l (nx l v)=v:=by grind[aa3]
 have QI:∀k,it (nx l) k v=v\/it (nx l) k v=nx l v:=fun k=>by
  induction k<;>grind[it]
 have sub:∀w∈l,w∈[v,nx l v]:=fun w hw=>by obtain⟨k,rfl⟩:=JT nd d hw;grind
 match l,h3 with
 |a::b::c::t,_=>have ha:=sub a Ma;have hb:=sub b Ma;have g:=sub c Ma;grind
section
variable{n:Nat}{R:Nat->II}{l:II}
theorem ki{x y:Nat}(h:Ei l x y):Ei l y x:=h.symm
theorem ring_ctx(i:V7 n R)(fl:Flat n R)(nd:l.Nodup)(h3:3<=l.length)(j:∀v∈l,nx l v∈R v):Ctx n R (Ei l) [l,l.reverse]:=by
 have hR:V7 n (Om (Ei l) R):=by grind[OG,ki]
 have b:∀v∈l,∀w,w∈Om (Ei l) R v↔w=pv l v\/w=nx l v:=fun v a w=>by
  rw[EM];constructor
  .rintro⟨_,h|h⟩
   all_goals grind[c7]
  .rintro(rfl|rfl)
   .have k1:=BJ a;have k2:=aa3 nd a;refine⟨?_,.inr ⟨k1,k2⟩⟩;grind[V7.sy]
   .exact⟨j v a,.inl ⟨a,rfl⟩⟩
 have c:∀v w,w∈Om (Ei l) R v->v∈l:=fun v w h=>by
  rcases(EM.1 h).2 with h|h
  all_goals grind[ZP]
 have two:∀v∈l,nx (Om (Ei l) R v) (pv l v)=nx l v/\nx (Om (Ei l) R v) (nx l v)=pv l v:=fun v a=>ZZ (hR.nd v) (by grind[fz]) (b v a);have o:∀v,nx l.reverse v=pv l v:=fun v=>rfl;have ne:l≠[]:=fun e=>by grind
 have O:FO (Om (Ei l) R) [l,l.reverse]:=by
  refine⟨fun f hf=>?_,fun f hf=>?_,fun f hf v a=>?_,fun f hf v a=>?_,fun v w hw=>?_,fun f hf g hg v p h2 e=>?_,?_⟩
  .grind
  .simp at hf;rcases hf with rfl|rfl
   .exact ne
   .simpa using ne
  .grind
  .grind[ZP,c7]
  .grind
  .grind[fz]
  .obtain⟨v,t,q⟩:=eR ne;grind[fz]
 refine⟨i,(by grind[ki]),fl,O,fun v w a hw=>?_⟩;have inl:∀{v},Om (Ei l) R v≠[]->v∈l:=fun{v} h=>by have⟨w,t,q⟩:=eR h;exact c v w (by rw[q];simp)
 obtain⟨k,rfl⟩:=JT nd (inl a) (inl hw);have d:=inl a;have:∀k,Cr (Om (Ei l) R) v (it (nx l) k v):=fun k=>by
  induction k with
  |zero=>exact .refl _
  |succ k m=>exact m.step ((b _ (O.it Ma d k).1 _).2 (.inr rfl))
 exact this k
end
noncomputable def kV(n:Nat)(r:Nat->II):II:=(rG n).filter fun v=>decide (r v≠[])
def Num(n:Nat)(r:Nat->II)(F:Cs):Prop:=2*((kV n r).length+F.length)=(dl n r).length+4
theorem nu{L:II}{c:Nat}:∀X:II,(X.map fun v=>if v∈L then c else 0).sum=c*(X.filter fun v=>decide (v∈L)).length
 |[]=>rfl
 |x::X=>by rw[QD,alw,nu X];grind
def NT{f g h k:Nat->Nat}:∀X:II,(∀x∈X,f x=g x+h x+k x)->(X.map f).sum=(X.map g).sum+(X.map h).sum+(X.map k).sum
 |[],_=>rfl
 |x::X,c=>by simp only[QD,alw];rw[NT X fun y d=>c y (Gw _ d),c x Hs];omega
theorem Xp{n:Nat}{L:II}(nd:L.Nodup)(h:∀x∈L,x<n):((rG n).filter fun v=>decide (v∈L)).length=L.length:=by refine(yR (by grind[filter_sublist]) nd fun v=>?_).length_eq;grind
theorem Vq(n:Nat)(r:Nat->II):(dl n r).length=((rG n).map fun v=>(r v).length).sum:=by grind[dl,map_congr_left]
section
variable{n:Nat}{r r':Nat->II}{F F':Cs}{a b:Nat}{inn:II}
def Lay.lts(L:Lay n r r' a b inn):a<n/\b<n/\∀x∈inn,x<n:=by refine⟨L.R'.lt _ _ L.sa,L.R'.lt _ _ L.sb,fun x c=>?_⟩;have⟨i,p,d,h2⟩:=qm (a:=a) (b:=b) (.inr c);exact L.R'.lt _ _ (L.R'.sy _ _ (L.UQ d h2))
theorem Lay.deg(L:Lay n r r' a b inn)(v:Nat):(r' v).length=(r v).length+(if v∈[a,b]then 1 else 0)+(if v∈inn then 2 else 0):=by
 have one:∀{l:II}{s:Nat},s∈l->l.length=(l.erase s).length+1:=hGr;by_cases c1:v=a
 .subst c1;rw[one L.sa,L.ea,abe Ma,abE L.ain]
 by_cases c2:v=b
 .subst c2;rw[one L.sb,L.eb,abe Ma,abE L.bin]
 by_cases c:v∈inn
 .rw[abe c,L.off v c];have⟨i,p,f,g⟩:=qm (a:=a) (b:=b) (.inr c);have hi:i+2<(aaF a inn b).length:=by grind[Eo,Fg]
  have⟨_,_,k⟩:=L.mid i p v _ f g (qL7 hi);have d:p≠(aaF a inn b)[i+2]:=fun e=>by have:=afM L.ndP f (by rw[e];exact qL7 hi);omega
  have:=(yR (L.R'.nd v) (by simp[d]:[p,(aaF a inn b)[i+2]].Nodup) hGr).length_eq;grind
 grind[Lay.Wn]
theorem Lay.num(L:Lay n r r' a b inn)(d:F'.length=F.length+1)(N:Num n r F):Num n r' F':=by
 have⟨f,g,li⟩:=L.lts;have h:(dl n r').length=(dl n r).length+2*(inn.length+1):=by rw[Vq,Vq,NT _ fun v _=>L.deg v,nu,nu,Xp (by simp[L.ab]) hGr,Xp L.nd li];simp;omega
 have i:(kV n r').length=(kV n r).length+inn.length:=by
  have pm:(kV n r').Perm (kV n r++inn):=by
   refine yR (uV.sublist EP) ?_ fun v=>?_
   .rw[j9];refine⟨uV.sublist EP,L.nd,fun x c y j e=>?_⟩;have:=(K4.1 c).2;grind[Lay.off]
   .unfold kV;have hd:=L.deg v;grind[Lay.ra,Lay.rb,Lay.Wn]
  rw[pm.length_eq,Eh]
 grind[Num]
theorem Num.flat(N:Num n r F)(R:V7 n r)(O:FO r F)(bp:∀v w,r v≠[]->r w≠[]->Cr r v w)(ne:∃v,v<n/\r v≠[]):Flat n r:=by
 have⟨d,i,j⟩:=ne;have f:((rG n).filter fun v=>decide (r v=[])).length+(kV n r).length=n:=by
  have QI:∀X:II,(X.filter fun v=>decide (r v=[])).length+(X.filter fun v=>decide (r v≠[])).length=X.length:=fun X=>by
   induction X<;>grind
  have:=QI (rG n);rw[amP]at this;exact this
 have l:iJ n r=((rG n).filter fun v=>decide (r v=[])).length+1:=by
  unfold iJ;have iso:∀{v w},r v=[]->Cr r v w->v=w:=fun{v w} h c=>by
   induction c<;>grind
  have k1:∀y∈((rG n).filter fun v=>decide (r v=[]))++[d],y∈rG n:=hGr;have k2:(((rG n).filter fun v=>decide (r v=[]))++[d]).Pairwise fun a b=>¬Cr r a b:=by
   rw[abz];refine⟨?_,Ma,fun x g y m c=>?_⟩
   .refine ff (R:=fun x y=>x≠y) (fun{x y} g _ e c=>e ?_) (by grind[List.nodup_range]);grind
   grind
  have k:∀x∈rG n,∃y∈((rG n).filter fun v=>decide (r v=[]))++[d],Cr r x y:=fun x g=>by
   by_cases h:r x=[]
   .exact⟨x,(by grind[decide_eq_true]),.refl _⟩
   grind
  rw[ach (Cr.eqv R _) uV k1 k2 k];simp
 grind[Flat,mj,FO.cls,Num]
end
section
variable{n:Nat}{r r':Nat->II}{F:Cs}{f A B:II}{a b:Nat}{inn:II}
theorem Lay.mem(L:Lay n r r' a b inn){x y:Nat}:y∈r' x↔y∈r x\/Ay a inn b x y:=by
 have ends:∀{a b:Nat}{inn:II}(_:Lay n r r' a b inn){y:Nat},y∈r' a->y∈r a\/Ay a inn b a y:=fun{a b inn} L {y} h=>by
  by_cases c:y=(inn++[b]).headD 0
  .subst c;have⟨k,m⟩:=yT a b inn;exact .inr (.inl ⟨0,k,m⟩)
  grind[Lay.ea]
 constructor
 .intro h;by_cases c1:x=a
  .grind
  by_cases c2:x=b
  .subst c2;exact(ends L.swap h).imp id Ha.1
  by_cases o:x∈inn
  .obtain⟨i,p,e,d⟩:=qm (a:=a) (b:=b) (.inr o);have hi:i+2<(aaF a inn b).length:=by grind[Eo,Fg]
   have g:(aaF a inn b)[i+2]?=Z ((aaF a inn b)[i+2]'hi):=qL7 hi
   rcases((L.mid i p x _ e d g).2.2 y).1 h with rfl|rfl
   .exact .inr (.inr ⟨i,e,d⟩)
   .exact .inr (.inl ⟨i+1,d,g⟩)
  grind[Lay.Wn]
 .rintro(h|⟨i,j,h2⟩|⟨i,j,h2⟩)
  .exact L.sub h
  .grind[Lay.UQ]
  .exact L.R'.sy _ _ (L.UQ j h2)
theorem Lay.conn2(L:Lay n r r' a b inn)(bp:∀v w,r v≠[]->r w≠[]->Cr r v w):∀v w,r' v≠[]->r' w≠[]->Cr r' v w:=by
 have along:∀(i x:Nat),(aaF a inn b)[i]?=Z x->Cr r' a x:=fun i=>by
  induction i with
  |zero=>intro x c;have:=c.symm.trans (yT a b inn).1;injection this with this;subst this;exact .refl _
  |succ i j=>
   intro x c;have k:=(Ny.1 c).1;have g:(aaF a inn b)[i]?=Z ((aaF a inn b)[i]'(by omega)):=qL7 NH
   exact(j _ g).step (L.UQ g c)
 have toA:∀v,r' v≠[]->Cr r' a v:=fun v d=>by
  have⟨w,l,e⟩:=eR d;have hw:w∈r' v:=by rw[e];simp
  rcases L.mem.1 hw with h|⟨i,m,_⟩|⟨i,_,h2⟩
  .exact(bp a v L.ra fun q=>by grind).mono fun x y h=>L.sub h
  all_goals grind
 exact fun v w d hw=>((toA v d).symm L.R').trans (toA w hw)
structure abK (n:Nat) (r:Nat->II) (F:Cs):Prop where
 Rl:V7 n r
 O:FO r F
 bp:∀v w,r v≠[]->r w≠[]->Cr r v w
 num:Num n r F
 ne:F≠[]
theorem abK.flat(G:abK n r F):Flat n r:=by
 have⟨f,l,e⟩:=eR G.ne;have hf:f∈F:=by rw[e];simp
 have hd:=G.O.aei f hf _ (Lt (G.O.ne f hf));exact G.num.flat G.Rl G.O G.bp ⟨_,G.Rl.lt _ _ hd,fun q=>by grind⟩
theorem abK.lay(G:abK n r F)(hf:f∈F)(C:UN n r f a b inn)(cy:Cyc f ((a::A)++(b::B))):
  abK n (EO r f a b inn) (half a A b inn::half b B a inn.reverse::F.erase f)/\∀x y,y∈EO r f a b inn x↔y∈r x\/Ay a inn b x y:=by
 have⟨L,c,h2,h3,d⟩:=C.lay G.Rl G.O hf;refine⟨⟨L.R',L.gY G.O hf cy c h2 h3 d,L.conn2 G.bp,L.num ?_ G.num,Ma⟩,fun x y=>L.mem⟩;grind
end
noncomputable def gH(l:II)(v:Nat):II:=if v∈l then[pv l v,nx l v]else[]
section
variable{n:Nat}{l:II}
theorem ez(nd:l.Nodup){v w:Nat}:w∈gH l v↔Ei l v w:=by grind[gH,Ei,BJ,aa3,c7,ZP]
theorem dP(nd:l.Nodup)(h3:3<=l.length)(lt:∀v∈l,v<n):abK n (gH l) [l,l.reverse]:=by
 have d:=fun{v w}=>ez (v:=v) (w:=w) nd;have i:l≠[]:=fun e=>by grind
 have m:∀v∈l,nx l v≠v:=by grind[Bk]
 have R:V7 n (gH l):=by
  refine⟨fun v=>?_,fun v w h=>?_,fun v w h=>d.2 (ki (d.1 h)),fun v h=>?_⟩
  .grind[gH,fz]
  .rcases d.1 h with h|h
   all_goals grind[ZP]
  .rcases d.1 h with h|h
   all_goals grind
 have s:Om (Ei l) (gH l)=gH l:=cS fun v w h=>d.1 h;have two:∀v∈l,nx (gH l v) (pv l v)=nx l v/\nx (gH l v) (nx l v)=pv l v:=by grind[gH,ajt,fz]
 have O:FO (gH l) [l,l.reverse]:=by
  refine⟨fun f hf=>?_,fun f hf=>?_,fun f hf v c=>?_,fun f hf v c=>?_,fun v w hw=>?_,fun f hf g hg v o h2 e=>?_,?_⟩
  .grind
  .simp at hf;rcases hf with rfl|rfl
   .exact i
   .simpa using i
  .simp at hf;rcases hf with rfl|rfl
   .exact d.2 (.inl ⟨c,rfl⟩)
   .have c:=Yq.1 c;exact d.2 (.inr ⟨BJ c,aa3 nd c⟩)
  .simp at hf;rcases hf with rfl|rfl
   .grind[ZP,c7]
   .have c:=Yq.1 c;have:=(two _ (BJ c)).2;rw[aa3 nd c]at this;exact this
  .rcases d.1 hw with h|h
   all_goals grind[ZP,pv,c7]
  .simp at hf hg;rcases hf with rfl|rfl
   .rcases hg with rfl|rfl
    .rfl
    .exact absurd e (fz nd h3 o)
   .rcases hg with rfl|rfl
    .exact absurd e.symm (fz nd h3 h2)
    .rfl
  .simp only[VU,xD,ai4,not_false_eq_true,List.nodup_nil,and_true];intro e;have c:=Lt i;grind[fz,pv]
 have inl:∀{v},gH l v≠[]->v∈l:=fun{v} h=>ZT fun q=>h (abE q);refine⟨R,O,fun v w c hw=>?_,?_,Ma⟩
 .obtain⟨k,rfl⟩:=JT nd (inl c) (inl hw);have j:=inl c;clear hw c;have:∀k,Cr (gH l) v (it (nx l) k v):=fun k=>by
   induction k with
   |zero=>exact .refl _
   |succ k p=>exact p.step (d.2 (.inl ⟨(O.it Ma j k).1,rfl⟩))
  exact this k
 .have t:(kV n (gH l)).length=l.length:=by
   rw[<-Xp nd lt];grind[kV,gH]
  have u:(dl n (gH l)).length=2*l.length:=by rw[Vq,<-Xp nd lt,<-nu];grind[gH]
  grind[Num]
end
def XU(n:Nat)(E:Nat->II):Prop:=∃R,V7 n R/\Flat n R/\∀v w,w∈R v↔w∈E v
structure PU (n:Nat) (E:Nat->II) (H:Nat->Nat->Prop) (F:Cs):Prop where
 sub:∀x y,H x y->y∈E x
 XK:∃r,abK n r F/\∀x y,y∈r x↔H x y
 full:XU n E->∃R,(∀v w,w∈R v↔w∈E v)/\Ctx n R H F
section
variable{n:Nat}{E:Nat->II}{H:Nat->Nat->Prop}{F:Cs}{f A B inn l:II}{a b s:Nat}
theorem BW{R R':Nat->II}(d:∀v w,w∈R' v↔w∈R v){k:Nat×Nat×Nat}{h:II}:Fits R' H k h↔Fits R H k h:=⟨fun q u x c e=>q u x ((Fv d).2 c) (by grind[Py]),fun q u x c e=>q u x ((Fv d).1 c) (by grind[Py])⟩
theorem PU.start(nd:l.Nodup)(h3:3<=l.length)(g:V7 n E)(d:∀v∈l,nx l v∈E v):PU n E (Ei l) [l,l.reverse]:=by
 refine⟨fun x y h=>?_,⟨_,dP nd h3 fun v c=>g.lt _ _ (d v c),fun x y=>ez nd⟩,fun⟨R,i,fl,e⟩=>⟨R,e,ring_ctx i fl nd h3 fun v c=>(e _ _).2 (d v c)⟩⟩;rcases h with h|h
 all_goals grind[V7.sy]
def PU.Re(I:PU n E H F):∃p q,p≠q/\¬off E H p/\¬off E H q:=by
 have⟨r,G,c⟩:=I.XK;have⟨f,t,e⟩:=eR G.ne;have hf:f∈F:=by rw[e];simp
 have hd:=G.O.aei f hf _ (Lt (G.O.ne f hf));have d:=(c _ _).1 hd;have h2:=(c _ _).1 (G.Rl.sy _ _ hd);exact⟨_,_,fun e=>G.Rl.ir _ (by rw[<-e]at hd;exact hd),fun q=>q _ (I.sub _ _ d) d,fun q=>q _ (I.sub _ _ h2) h2⟩
theorem PU.pieces(I:PU n E H F)(D:QG E){R:Nat->II}(c:∀v w,w∈R v↔w∈E v)(C:Ctx n R H F):Pg n R H F:=by have⟨p,q,d,h2,h3⟩:=I.Re;exact C.pieces (D.same c) ⟨p,q,d,(by grind[uR]),(by grind[uR])⟩
theorem PU.step(I:PU n E H F)(D:QG E)(m:V7 n E)(hf:f∈F)(z:QP E H a s)(fit:Fits E H (QI E H a s) f)(cond:(∀h∈F,Fits E H (QI E H a s) h->h=f)\/∀u x,QP E H u x->∃c∈F,∃h2∈F,c≠h2/\Fits E H (QI E H u x) c/\Fits E H (QI E H u x) h2)(W:Ka E H a inn b)(hs:(inn++[b]).headD 0=s)(cy:Cyc f ((a::A)++(b::B))):
  PU n E (fun x y=>H x y\/Ay a inn b x y) (half a A b inn::half b B a inn.reverse::F.erase f):=by
 have⟨r,G,j⟩:=I.XK;have o:∀v w,H v w->H w v:=fun v w h=>(j _ _).1 (G.Rl.sy _ _ ((j _ _).2 h));refine⟨fun x y h=>h.elim (I.sub x y) (by grind[Ka.wE]),?_,fun J=>?_⟩
 .have C:UN n r f a b inn:=by
   refine⟨W.ab,cy.perm.mem_iff.2 Ma,cy.perm.mem_iff.2 Ma,?_,fun x k=>?_,fun x k=>?_,fun e q=>?_⟩
   .have:=W.nd;grind[aaF.eq_1]
   .refine ZT fun q=>?_;have⟨w,t,e⟩:=eR q;have h:=(j x w).1 (by rw[e];simp);exact W.off x k w (I.sub _ _ h) h
   .obtain⟨i,p,c,h2⟩:=qm (a:=a) (b:=b) (.inr k);exact m.lt _ _ (m.sy _ _ (W.UQ i p x c h2).1)
   .have c:(aaF a [] b)[0]?=Z a:=rfl;grind[aaF,Ka.UQ]
  have⟨N,g⟩:=G.lay hf C cy;grind
 .obtain⟨R,g,C⟩:=I.full J;have P:=I.pieces D g C;have d:(∀h∈F,Fits R H (QI R H a s) h->h=f)\/∀u x,QP R H u x->∃c∈F,∃h2∈F,c≠h2/\Fits R H (QI R H u x) c/\Fits R H (QI R H u x) h2:=by
   rcases cond with q|q
   .grind[Py,BW]
   .refine .inr fun u x K=>?_;have⟨c,m1,h2,m2,L,O,Q⟩:=q u x ((Fv g).1 K);grind[Py,BW]
  have⟨R',M,C'⟩:=P.step hf ((Fv g).2 z) (by grind[Py,BW]) d (W.same g) hs cy;grind
theorem PU.fail(I:PU n E H F)(D:QG E){u x:Nat}(d:QP E H u x)(h:∀f∈F,¬Fits E H (QI E H u x) f):¬XU n E:=fun e=>by have⟨R,c,C⟩:=I.full e;have⟨g,hg,k⟩:=(I.pieces D c C).fits ((Fv c).2 d);grind[Py,BW]
def PU.done(I:PU n E H F)(h:∀x y,y∈E x->H x y):∃r,abK n r F/\Flat n r/\∀x y,y∈r x↔y∈E x:=by have⟨r,G,c⟩:=I.XK;exact⟨r,G,G.flat,fun x y=>(c x y).trans ⟨I.sub x y,h x y⟩⟩
end
theorem len_sub{α:Type}{A B:List α}(b:A.Nodup)(nb:B.Nodup)(h:∀a∈A,a∈B):A.length<=B.length:=by have pm:B.Perm (A++B.filter fun x=>decide (x∉A)):=hGr;rw[pm.length_eq,Eh];omega
theorem vR{α β:Type}{k:Nat}{g:α->List β}:∀{L:List α},(∀x∈L,k<=(g x).length)->k*L.length<=(L.flatMap g).length
 |[],_=>by simp
 |x::L,h=>by have:=vR (L:=L) fun y a=>h y (Gw _ a);grind[Nat.mul_succ]
section
variable{n:Nat}{r:Nat->II}
theorem Gj(R:V7 n r){k:Nat}(h:∀d∈dl n r,k<=bt (Nv r) d):k*cls (WD (Nv r)) (dl n r)<=(dl n r).length:=by
 have p:=aaG R;rw[<-yp R];have hd:∀d∈ahN n r,d∈dl n r:=by grind[IP,afQ]
 have c:(ahN n r).Nodup:=by grind[adS,ahN]
 refine jz (vR (g:=AA (Nv r)) (by grind[orbL_len])) (len_sub ?_ (J8 R) fun e a=>?_)
 .grind[Ri,List.Pairwise.imp_of_mem,vA,aoI,WD.trans,Pm.adK]
 .obtain⟨d,b,a⟩:=uu.1 a;obtain⟨j,rfl⟩:=(vA p (hd d b)).1 a;grind[Pm.uN]
theorem apz(R:V7 n r)(hf:Flat n r)(bp:∀v w,r v≠[]->r w≠[]->Cr r v w)(all:∀v,v<n->r v≠[])(a:0<n):2*(n+cls (WD (Nv r)) (dl n r))=(dl n r).length+4:=by
 have b:((rG n).filter fun v=>decide (r v=[]))=[]:=by grind[filter_none]
 have c:iJ n r=1:=by unfold iJ;rw[ach (Cr.eqv R _) uV (L:=[0]) hGr Ma hGr];rfl
 grind[Flat,mj]
theorem QG.deg(D:QG r){v w:Nat}(h:r v=[w]){x:Nat}(a:r x≠[])(b:x≠v)(h2:x≠w)(hw:v≠w):False:=by
 have c:=D.Z7 w v x hw h2 (by rw[h];simp) a;have:∀y,Cr (Om (fun x y=>x≠w/\y≠w) r) v y->y=v:=fun y c=>by
  induction c<;>grind[EM]
 grind
theorem Co(R:V7 n r)(D:QG r)(h3:3<=n)(all:∀v,v<n->r v≠[]){d:H8}(hd:d∈dl n r):3<=bt (Nv r) d/\(bt (Nv r) d=3->∃x y z,y∈r x/\z∈r y/\x∈r z):=by
 have p:=aaG R;have⟨l,f,_⟩:=aaM p hd;have h:=Sg R hd;have m0:=(IP R).1 hd;have m1:=(IP R).1 (p.uN hd 1);have m2:=(IP R).1 (p.uN hd 2);have⟨v,w⟩:=d;have a:∃x,x<n/\x≠v/\x≠w:=by
  by_cases g:0≠v/\0≠w
  .exact⟨0,NH,g.1,g.2⟩
  by_cases a1:1≠v/\1≠w
  .exact⟨1,NH,a1.1,a1.2⟩
  .exact⟨2,NH,NH,NH⟩
 have⟨x,i,x1,j⟩:=a;have k:v≠w:=by grind[V7.ir]
 constructor
 .refine qL202 h fun e=>?_;rw[<-e]at f;have b:(nx (r w) v,nx (r (nx (r w) v)) w)=((v,w):H8):=f;injection b with b _;have c:v∈r w:=R.sy _ _ m0;have:=(Bk (R.nd w) c).1 b;exact D.deg this (all x i) j x1 (EH k)
 grind[it,Nv]
theorem UU(R:V7 n r)(hf:Flat n r)(D:QG r)(h3:3<=n)(all:∀v,v<n->r v≠[]):(dl n r).length+12<=6*n/\((∀x y z,y∈r x->z∈r y->x∉r z)->(dl n r).length+8<=4*n):=by
 have e:=apz R hf D.bp all NH;constructor
 .have:=Gj R (k:=3) fun d hd=>(Co R D h3 all hd).1;omega
 .intro a;have:=Gj R (k:=4) fun d hd=>by grind[Co]
  omega
end
variable {F:Cs} {l:II} {n u v:Nat}
theorem J5{f g:Nat->Nat}{P:Nat->Prop}(b:∀x,P x->P (f x))(h:∀x,P x->f x=g x){u:Nat}(a:P u):∀k,it f k u=it g k u/\P (it f k u)
 |0=>⟨rfl,a⟩
 |k+1=>by have⟨e,p⟩:=J5 b h a k;grind[it]
def afT{l:II}(nd:l.Nodup){u:Nat}{c:II}(e:l=u::c):∀k,k<l.length->l[k]?=Z (it (nx l) k u)
 |0,_=>by rw[e];rfl
 |k+1,hk=>by
  have ih:=afT nd e k NH;have h1:l[k+1]?=Z (l[k+1]'hk):=qL7 hk
  rw[h1];congr 1;exact(aZ nd ih h1).1.symm
theorem cyc_iter(nd:l.Nodup)(b:u∈l):Cyc l ((rG l.length).map fun k=>it (nx l) k u):=by
 have⟨c,d⟩:=Cyc.front b;have a:=d.perm.nodup_iff.1 nd;have e:((rG l.length).map fun k=>it (nx l) k u)=u::c:=by
  refine mJ fun i=>?_;rw[d.perm.length_eq];by_cases h:i<(u::c).length
  .rw[aiq,List.getElem?_range h,afT a rfl i h];simp only[ahe];congr 1;exact(J5 (P:=fun x=>x∈l) (by grind[ZP]) (by grind[Cyc.nx]) b i).1
  grind
 grind
theorem nZ{r:Nat->II}(R:V7 n r)(O:FO r F){next:Nat->Nat->Nat}(h:∀f∈F,∀v∈f,next v (pv f v)=nx f v)(a:u∈r v):
  Cyc (r v) ((rG (r v).length).map fun k=>it (next v) k u):=by
 have QI:∀w∈r v,next v w=nx (r v) w:=fun w hw=>by have⟨f,hf,b,e⟩:=O.cover w v (R.sy _ _ hw);grind[ZP,c7,FO.nd,FO.pv]
 have e:((rG (r v).length).map fun k=>it (next v) k u)=(rG (r v).length).map fun k=>it (nx (r v)) k u:=by refine Qn fun k _=>?_;exact((J5 (P:=fun x=>x∈r v) (by grind[ZP]) hGr a k).1).symm
 rw[e];exact cyc_iter (R.nd v) a
def hh(b m x:Nat):Nat:=if x=b then m else x
def aap(R:Nat->II)(a b m:Nat)(v:Nat):II:=if v=m then[a,b]else if v=a then(R a).map (hh b m)else if v=b then(R b).map (hh a m)else R v
theorem map_hh{b m:Nat}:∀{l:II},b∉l->l.map (hh b m)=l
 |[],_=>rfl
 |x::l,h=>by rw[QD,map_hh (by grind[mem_cons_of_mem]),hh,abE hGr]
theorem ab2{b m:Nat}:∀{l:II},l.Nodup->m∉l->(l.map (hh b m)).erase m=l.erase b
 |[],_,_=>rfl
 |x::l,nd,d=>by
  rw[VU]at nd;rw[QD];by_cases c:x=b
  .grind[hh,map_hh]
  .rw[show hh b m x=x from abE c,qL238 hGr,qL238 (by simpa using c),ab2 nd.2 (by grind[List.mem_cons_of_mem])]
theorem aee{b m:Nat}{l:II}(c:m∉l):∀x∈l,∀y∈l,hh b m x=hh b m y->x=y:=by grind[hh]
section
variable{n:Nat}{R:Nat->II}{a b m:Nat}
structure aan (n:Nat) (R:Nat->II) (a b m:Nat):Prop where
 Rl:V7 n R
 ab:b∈R a
 rm:R m=[]
 mn:m<n
theorem aan.nm(S:aan n R a b m){v:Nat}:m∉R v:=fun h=>by have:=S.Rl.sy _ _ h;grind[aan.rm]
theorem aan.ne(S:aan n R a b m):a≠b/\a≠m/\b≠m:=by refine⟨fun e=>S.Rl.ir a (by grind[aan.ab]),fun e=>?_,fun e=>S.nm (e▸S.ab)⟩;have:=S.ab;grind[aan.rm]
theorem aan.mem(S:aan n R a b m){v w:Nat}:w∈aap R a b m v↔(w∈R v/\¬(v=a/\w=b)/\¬(v=b/\w=a))\/(v=m/\(w=a\/w=b))\/(w=m/\(v=a\/v=b)):=by
 have c:∀{v b:Nat},b∈R v->(w∈(R v).map (hh b m)↔(w∈R v/\w≠b)\/w=m):=by grind[hh]
 unfold aap;by_cases c1:v=m
 .grind[aan.rm]
 rw[abE c1];by_cases c2:v=a
 .grind[aan.ab]
 rw[abE c2];by_cases d:v=b
 .subst d;rw[abe rfl,c (S.Rl.sy _ _ S.ab)];simp[c1,c2]
 grind
theorem aan.aff(S:aan n R a b m):V7 n (aap R a b m):=by
 have⟨g,h2,h3⟩:=S.ne;have d:=S.Rl.sy _ _ S.ab;refine⟨fun v=>?_,fun v w h=>?_,fun v w h=>?_,fun v h=>?_⟩
 .have c:∀{v b:Nat},((R v).map (hh b m)).Nodup:=fun{v b}=>by
   rw[iy,Vn];exact ff (fun{x y} i j f e=>f (aee S.nm x i y j e)) (iy.1 (S.Rl.nd v))
  unfold aap;split
  .simp[g]
  .split
   .exact c
   .split
    .exact c
    .exact S.Rl.nd v
 .rcases S.mem.1 h with h|h|h
  .exact S.Rl.lt _ _ h.1
  .rw[h.1];exact S.mn
  .rcases h.2 with e|e
   .rw[e];exact S.Rl.lt _ _ S.ab
   .rw[e];exact S.Rl.lt _ _ d
 .rw[S.mem]at h ⊢;rcases h with h|h|h
  .exact .inl ⟨S.Rl.sy _ _ h.1,hGr,hGr⟩
  all_goals grind
 .rcases S.mem.1 h with h|h|h
  .exact S.Rl.ir _ h.1
  all_goals grind
end
end
end Go.Fw
