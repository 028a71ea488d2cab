/- A text. -/
import Derived.Test.YtnakkbhjoiheoaaGreatFwEmb11
set_option linter.all false
set_option maxRecDepth 99999
set_option maxHeartbeats 9999999
open Bool renaming true→tT
namespace Go.Fw
section
attribute [local instance] Classical.propDecidable
theorem filter_none{l:II}{p:Nat->Bool}(h:∀z∈l,¬p z=tT):l.filter p=[]:=qL84.2 h
def filter_one{x:Nat}{p:Nat->Bool}(h:p x=tT){l:II}:(x::l).filter p=x::l.filter p:=List.filter_cons_of_pos h
theorem sort3{kd:Nat->Nat}:∀{c:II},(∀x∈c,kd x<=2)->c.Pairwise (fun x y=>kd x<=kd y)->c=(c.filter fun x=>decide (kd x=0))++((c.filter fun x=>decide (kd x=1))++(c.filter fun x=>decide (kd x=2)))
 |[],_,_=>rfl
 |x::c,h,a=>by
  rw[acg]at a;have b:=sort3 (by grind[List.mem_cons_of_mem]) a.2;have d:=h x abV;have f:0<kd x->(c.filter fun y=>decide (kd y=0))=[]:=fun q=>filter_none hGr;have i:1<kd x->(c.filter fun y=>decide (kd y=1))=[]:=fun q=>filter_none hGr;have cs:kd x=0\/kd x=1\/kd x=2:=NH;rcases cs with e|e|e
  .simp only[aeU,e,decide_true,if_true,adz,<-b];simp[<-b]
  .simp only[aeU,e];grind
  .simp only[aeU,e];grind
structure LX (R:Nat->II) (H:Nat->Nat->Prop) (U:Nat->Prop) (g:II) (u:Nat) (kd:Nat->Nat) (x z y:Nat):Prop where
 on:¬off R H z
 ne:u≠z
 zg:z∈g
 yz:y∈R z
 ny:¬H z y
 QI:QI R H u x=QI R H z y
 k0:kd x=0->¬U z/\∀A B,Cyc g ((u::A)++(z::B))->∀v∈B,¬U v
 k1:kd x=1->U z
 k2:kd x=2->¬U z/\∀A B,Cyc g ((u::A)++(z::B))->∀v∈A,¬U v
section
variable{n:Nat}{R:Nat->II}{H:Nat->Nat->Prop}{F:Cs}{g:II}{u:Nat}{U:Nat->Prop}{kd:Nat->Nat}
theorem Ctx.Ag(C:Ctx n R H F)(a:u∈g){p q m:II}{x:Nat}(cy:Cyc (R u) ((p++x::q)++(m++[pv g u])))(j:∀z∈p++x::q,¬H u z)(b:H u (pv g u)):WQ R H g u x:=by
 refine⟨a,?_⟩;have nd:=cy.perm.nodup_iff.1 (C.Rl.nd u);have n1:=(jf.1 nd).1;have c:x∉p:=by grind[List.mem_cons_self]
 have d:x∉q:=by grind[List.nodup_append]
 have e:Cyc (cl R H u x) (x::((m.filter fun w=>decide (H u w\/w=x))++[pv g u])):=by have:=cy.filter fun w=>decide (H u w\/w=x);have h:∀l:II,(∀z∈l,¬H u z)->x∉l->l.filter (fun w=>decide (H u w\/w=x))=[]:=fun l k h2=>filter_none hGr;rw[Db,Db,Db,h p hGr c,filter_one (qL7 (.inr rfl)),h q hGr d,filter_one (qL7 (.inl b))]at this;grind[cl]
 have f:(cl R H u x).Nodup:=(C.Rl.nd u).sublist N8;have i:=e.perm.nodup_iff.1 f;grind[Cyc.perm,List.Perm.mem_iff,Cyc.nx,vB]
theorem Ctx.pairK(C:Ctx n R H F)(hg:g∈F)(a:u∈g){p q s m:II}{x y:Nat}(cy:Cyc (R u) ((p++x::(q++y::s))++(m++[pv g u])))(E:∀z∈p++x::(q++y::s),¬H u z){j y1 L y2:Nat}(b:LX R H U g u kd x j y1)(f:LX R H U g u kd y L y2)(hw:∃w∈g,U w/\w≠u)(hk:kd x≠kd y->QI R H u x≠QI R H u y)(b1:kd x<=2):kd x<=kd y:=by
 obtain⟨_,k⟩:=C.HT hg a (x:=x);have r:¬off R H u:=fun h=>h _ (EM.1 (C.O.df (OG C.Rl C.sym) hg a)).1 k;have nd:=cy.perm.nodup_iff.1 (C.Rl.nd u);have n1:=(jf.1 nd).1;have X:=(jf.1 n1).2.1;rw[jz,aax,Og]at X;have n3:=(jf.1 X.2);have M:x≠y:=hGr;have N:x∉p:=by grind[List.mem_cons_self]
 have hyp:y∉p:=fun h=>(jf.1 n1).2.2 y h y Ma rfl;have P:x∉q:=hGr;have Q:y∉q:=hGr;refine Nat.le_of_not_lt fun ae=>?_;have aa:=hk NH;have mx:x∈R u:=cy.perm.mem_iff.2 Ma;have my:y∈R u:=cy.perm.mem_iff.2 Ma;obtain⟨i1,W1,e1,_,o1⟩:=ZW C.Rl C.sym r b.on b.ne mx (E x Ma) b.yz b.ny b.QI;obtain⟨i2,W2,e2,_,o2⟩:=ZW C.Rl C.sym r f.on f.ne my (E y Ma) f.yz f.ny f.QI;have TE:∀v∈i1,v∉i2:=hGr;have t:WQ R H g u x:=C.Ag a cy E k;have o:nx (cl2 R H u x y) x=y:=by
  have e:Cyc (cl2 R H u x y) (x::y::((s.filter fun w=>decide ((H u w\/w=x)\/w=y))++((m++[pv g u]).filter fun w=>decide ((H u w\/w=x)\/w=y)))):=by have:=cy.filter fun w=>decide ((H u w\/w=x)\/w=y);have hN:∀l:II,(∀z∈l,¬H u z)->x∉l->y∉l->l.filter (fun w=>decide ((H u w\/w=x)\/w=y))=[]:=fun l h1 h2 h3=>filter_none fun z hz h=>(ail h).elim hGr hGr;rw[Db,Db,hN p hGr N hyp,filter_one (by grind[decide_eq_true]),Db,hN q (fun z hz=>E z (by simp[hz])) P Q,filter_one (qL7 (.inr rfl))]at this;grind[cl2]
  have S:(cl2 R H u x y).Nodup:=(C.Rl.nd u).sublist N8;rw[e.nx S (e.perm.mem_iff.2 Ma)];exact Nu (p:=[]) Ma
 obtain⟨c,hc⟩:=Cyc.front a;have T:j∈c:=by have:=hc.perm.mem_iff.1 b.zg;grind[LX.ne]
 obtain⟨A,B,rfl,_⟩:=sC T;have D:Cyc g ((u::A)++(j::B)):=hGr;have nc:=C.nocross hg W1 W2 e1 e2 TE M t o D;have d:L∈A->∃G I,Cyc g ((u::G)++(L::(I++j::B))):=fun h=>by obtain⟨G,I,rfl,_⟩:=sC h;grind
 have i:(kd x=1/\kd y=0)\/(kd x=2/\kd y=1)\/(kd x=2/\kd y=0):=NH;rcases i with⟨J,K⟩|⟨J,K⟩|⟨J,K⟩
 .have u1:=b.k1 J;have V:=f.k0 K;rcases nc with h|h
  .obtain⟨G,I,c2⟩:=d h;exact V.2 _ _ c2 j Ma u1
  grind
 .grind[LX.k2,LX.k1]
 .have u1:=b.k2 J;have V:=f.k0 K;obtain⟨w,w1,w2,w3⟩:=hw;have W:w∈B:=by
   have:=D.perm.mem_iff.1 w1;grind
  rcases nc with h|h
  .obtain⟨G,I,c2⟩:=d h;exact V.2 _ _ c2 w (by simp[W]) w2
  grind
theorem Ctx.sorted(C:Ctx n R H F)(hg:g∈F)(a:u∈g){m:II}(hw:∃w∈g,U w/\w≠u):∀(c p:II),Cyc (R u) ((p++c)++(m++[pv g u]))->(∀z∈p++c,¬H u z)->
  (∀x∈c,∃z y,LX R H U g u kd x z y)->(∀x∈c,∀y∈c,kd x≠kd y->QI R H u x≠QI R H u y)->(∀x∈c,kd x<=2)->c.Pairwise fun x y=>kd x<=kd y
 |[],_,_,_,_,_,_=>List.Pairwise.nil
 |x::c,p,cy,d,e,f,hb=>by
  constructor
  .intro y b;obtain⟨q,s,rfl,_⟩:=sC b;grind[Ctx.pairK]
  .refine C.sorted hg a (m:=m) hw c (p++[x]) hGr hGr (by grind[List.mem_cons_of_mem]) (by grind[List.mem_cons_of_mem]) (by grind[List.mem_cons_of_mem])
end
theorem aki{U:Nat->Prop}:∀{l:II},(∃v∈l,U v)->∃s w t,l=s++w::t/\U w/\∀v∈s,¬U v
 |[],h=>by grind
 |x::l,h=>by
  by_cases c:U x
  .exact⟨[],x,l,rfl,c,hGr⟩
  .obtain⟨v,a,b⟩:=h;rcases Og.1 a with rfl|a
   .grind
   .obtain⟨s,w,t,rfl,d,h2⟩:=aki ⟨v,a,b⟩;grind
theorem last_ex{U:Nat->Prop}{l:II}(h:∃v∈l,U v):∃s w t,l=s++w::t/\U w/\∀v∈t,¬U v:=by obtain⟨v,a,b⟩:=h;obtain⟨s,w,t,e,c,h2⟩:=aki (l:=l.reverse) ⟨v,aj3.2 a,b⟩;grind[List.reverse_reverse]
theorem MW{y:Nat}:∀{a b a' c:II},a++y::b=a'++y::c->y∉a->y∉a'->a=a'/\b=c
 |[],b,[],c,h,_,_=>by grind
 |[],b,x::a',c,h,_,h2=>by grind
 |x::a,b,[],c,h,d,_=>by grind
 |x::a,b,x'::a',c,h,d,h2=>by simp at h;obtain⟨e,h⟩:=h;obtain⟨k1,k2⟩:=MW h (by grind[List.mem_cons_of_mem]) (by grind[List.mem_cons_of_mem]);grind
theorem IM(p:Nat->Prop):∀m:II,∃c b,m=c++b/\(∀z∈c,¬p z)/\(∀z t,b=z::t->p z)
 |[]=>⟨[],[],rfl,hGr,hGr⟩
 |x::m=>by
  by_cases c:p x
  .exact⟨[],x::m,rfl,hGr,hGr⟩
  .obtain⟨a,b,rfl,d,h2⟩:=IM p m;refine⟨x::a,b,rfl,fun z e=>?_,h2⟩;grind
theorem cyc_end{l s t:II}{x:Nat}(nd:l.Nodup)(c:Cyc l (s++[x]))(h2:Cyc l (t++[x])):s=t:=by
 obtain⟨u,v,d,e⟩:=c.symm.trans h2;have n1:=c.perm.nodup_iff.1 nd;rcases gK u with rfl|⟨u',a,rfl⟩
 .grind[List.append_inj_left']
 .rcases gK v with rfl|⟨v',b,rfl⟩
  .simp_all
  .rw[qL229,qL229,<-bC]at d e;have ha:=qL223 d rfl;have hb:=qL223 e rfl;grind
theorem decomp{l A B:II}{x y:Nat}{p:Nat->Prop}(nd:l.Nodup)(h:Cyc (l.filter fun z=>decide (p z)) ((A++[x])++(B++[y]))):
  ∃c1 a c2 a1,Cyc l ((c1++(a++[y]))++(c2++(a1++[x])))/\(∀z∈c1,¬p z)/\(∀z∈c2,¬p z)/\(a.filter fun z=>decide (p z))=B/\(a1.filter fun z=>decide (p z))=A/\(∀z t,a=z::t->p z)/\(∀z t,a1=z::t->p z)/\p x/\p y:=by
 have d:x∈l.filter fun z=>decide (p z):=h.perm.mem_iff.2 Ma;have s:y∈l.filter fun z=>decide (p z):=h.perm.mem_iff.2 Ma;rw[Uz]at d s;have u:=ail d.2;have v:=ail s.2;have b:(l.filter fun z=>decide (p z)).Nodup:=nd.sublist N8;have D:=h.perm.nodup_iff.1 b;obtain⟨m,J⟩:=Cyc.front d.1;have i:Cyc l (m++[x]):=by grind[Cyc.shift]
 have hf:=i.filter fun z=>decide (p z);rw[Db,filter_one (qL7 u)]at hf;have h2:Cyc (l.filter fun z=>decide (p z)) ((B++y::A)++[x]):=by grind[Cyc.shift]
 have e:=cyc_end b hf h2;have j:y∈m:=by grind[Cyc.perm,List.Perm.mem_iff]
 obtain⟨m1,m2,rfl,K⟩:=sC j;rw[Db,filter_one (qL7 v)]at e;have o:y∉B:=fun q=>by grind
 obtain⟨E,G⟩:=MW e hGr o;obtain⟨c1,a,rfl,w,H⟩:=IM p m1;obtain⟨c2,a1,rfl,C,I⟩:=IM p m2;have k:∀{c:II},(∀z∈c,¬p z)->c.filter (fun z=>decide (p z))=[]:=fun{c} h=>filter_none hGr;rw[Db,k w]at E;rw[Db,k C]at G;exact⟨c1,a,c2,a1,hGr,w,C,hGr,hGr,H,I,u,v⟩
section
variable{n:Nat}{r:Nat->II}{F:Cs}{f g:II}{A B:Nat->II}{le:Nat->Nat->Nat}
theorem aaL.walk(T:aaL n r F f g)(L:Lab r f g A B le){h:II}(hh:h∈F){l w:Nat}{t:II}:∀(s X:II)(z:Nat),Cyc h (X++z::(s++w::t))->(∀v∈s,v∉Ul f g)->le z (nx h z)=l->le w (pv h w)=l
 |[],X,z,cy,_,e=>by
  have nd:=T.O.nd h hh;have a:=cy.perm.nodup_iff.1 nd;have b:z∈h:=cy.perm.mem_iff.2 Ma;have c:nx h z=w:=by grind[Cyc.nx,Nu]
  have d:pv h w=z:=by grind[c7]
  rw[d,L.sym w z,<-c]
  .exact e
  .have:=T.R.sy _ _ (T.O.bz h hh z b);grind
 |v::s,X,z,cy,hs,e=>by
  have nd:=T.O.nd h hh;have a:=cy.perm.nodup_iff.1 nd;have b:z∈h:=cy.perm.mem_iff.2 Ma;have i:v∈h:=cy.perm.mem_iff.2 Ma;have c:nx h z=v:=by grind[Cyc.nx,Nu]
  have hd:=T.O.bz h hh z b;rw[c]at hd e;refine T.walk L hh s (X++[z]) v (by simpa using cy) (by grind[List.mem_cons_of_mem]) ?_;rw[L.same v (hs v abV) (nx h v) z (T.O.bz h hh v i) (T.R.sy _ _ hd),<-L.sym z v hd];exact e
structure WH (f g:II) (le:Nat->Nat->Nat) (h:II) (al be:Nat->Nat):Prop where
 outL:∀w∈Ul f g,le w (nx h w)=al w
 inL:∀w∈Ul f g,le w (pv h w)=be w
 ia:∀v∈Ul f g,∀w∈Ul f g,al v=al w->v=w
 ib:∀v∈Ul f g,∀w∈Ul f g,be v=be w->v=w
theorem aaL.TH(T:aaL n r F f g):∀v∈Ul f g,∀w∈Ul f g,pv (Ul f g) v=pv (Ul f g) w->v=w:=by grind[aa3,aaL.ndU]
theorem aaL.faceLg(T:aaL n r F f g)(C:Wa r f g A B)(L:Lab r f g A B le):WH f g le g (fun w=>pv (Ul f g) w) fun w=>w:=by refine⟨fun w hw=>L.inn w hw _ ?_,fun w hw=>L.out w hw _ Ma,T.TH,hGr⟩;grind[Wa.hB,BX]
theorem aaL.faceLf(T:aaL n r F f g)(C:Wa r f g A B)(L:Lab r f g A B le):WH f g le f (fun w=>w) fun w=>pv (Ul f g) w:=by refine⟨fun w hw=>L.out w hw _ ?_,fun w hw=>L.inn w hw _ Ma,hGr,T.TH⟩;grind[Wa.hA,BX]
theorem aaL.aft(T:aaL n r F f g)(L:Lab r f g A B le){h:II}(hh:h∈F){i be:Nat->Nat}(D:WH f g le h i be){u z:Nat}(j:u∈Ul f g)(k:le z (nx h z)=be u):∀a b,Cyc h ((u::a)++(z::b))->∀v∈b,v∉Ul f g:=fun a b cy v l c=>by obtain⟨s,w,t,rfl,d,h2⟩:=aki (U:=fun v=>v∈Ul f g) ⟨v,l,c⟩;have e:=T.walk L hh s (u::a) z cy h2 k;rw[D.inL w d]at e;have:=D.ib w d u j e;have nd:=cy.perm.nodup_iff.1 (T.O.nd h hh);grind
theorem aaL.bef(T:aaL n r F f g)(L:Lab r f g A B le){h:II}(hh:h∈F){b be:Nat->Nat}(D:WH f g le h b be){u z:Nat}(m:u∈Ul f g)(c:z∉Ul f g)(o:le z (nx h z)=b u):∀d j,Cyc h ((u::d)++(z::j))->∀v∈d,v∉Ul f g:=fun d j cy v p i=>by obtain⟨s,w,t,rfl,k,h2⟩:=last_ex (U:=fun v=>v∈Ul f g) ⟨v,p,i⟩;have a:z∈h:=cy.perm.mem_iff.2 Ma;have e:=T.walk L hh (l:=b w) t (u::s) w (by simpa using cy) h2 (D.outL w k);have q:=T.O.df T.R hh a;rw[L.same z c _ (nx h z) q (T.O.bz h hh z a),o]at e;have:=D.ia u m w k e;have nd:=cy.perm.nodup_iff.1 (T.O.nd h hh);grind
end
structure QP (R:Nat->II) (H:Nat->Nat->Prop) (u x:Nat):Prop where
 on:¬off R H u
 mem:x∈R u
 nh:¬H u x
def Fits(R:Nat->II)(H:Nat->Nat->Prop)(k:Nat×Nat×Nat)(h:II):Prop:=∀u x,QP R H u x->QI R H u x=k->u∈h
structure Pg (n:Nat) (R:Nat->II) (H:Nat->Nat->Prop) (F:Cs):Prop where
 C:Ctx n R H F
 two:∀u x,QP R H u x->∃z y,QP R H z y/\u≠z/\QI R H u x=QI R H z y
 one:∀v w,w∈R v->¬H v w->∃u x,QP R H u x/\QI R H v w=QI R H u x
def SK(R:Nat->II)(H:Nat->Nat->Prop)(f g:II)(k:Nat×Nat×Nat):Prop:=Fits R H k f/\Fits R H k g/\∃u x,QP R H u x/\QI R H u x=k/\(WQ R H f u x\/WQ R H g u x)
noncomputable def tlf(R:Nat->II)(H:Nat->Nat->Prop)(le:Nat->Nat->Nat)(hm:Nat×Nat×Nat->II)(v w:Nat):Nat:=if H v w then le v w else le ((hm (QI R H v w)).headD 0) (nx (hm (QI R H v w)) ((hm (QI R H v w)).headD 0))
structure Mv (n:Nat) (R:Nat->II) (H:Nat->Nat->Prop) (F:Cs) (f g:II) (A B:Nat->II) (le:Nat->Nat->Nat) (hm:Nat×Nat×Nat->II):Prop where
 P:Pg n R H F
 T:aaL n (Om H R) F f g
 C:Wa (Om H R) f g A B
 L:Lab (Om H R) f g A B le
 h2:∀u∈Ul f g,nx (Ul f g) u≠u
 home:∀u x,QP R H u x->¬SK R H f g (QI R H u x)->hm (QI R H u x)∈F/\hm (QI R H u x)≠f/\hm (QI R H u x)≠g/\Fits R H (QI R H u x) (hm (QI R H u x))/\∀h'∈F,WQ R H h' u x->h'≠f->h'≠g->h'=hm (QI R H u x)
section
variable{n:Nat}{R:Nat->II}{H:Nat->Nat->Prop}{F:Cs}
theorem Pg.EI(P:Pg n R H F){u x:Nat}(d:QP R H u x):∃h∈F,∀z y,QP R H z y->QI R H z y=QI R H u x->WQ R H h z y:=by
 have C:=P.C;have two:∀{u x z y:Nat},QP R H u x->QP R H z y->u≠z->QI R H u x=QI R H z y->∃h∈F,WQ R H h u x/\WQ R H h z y:=fun{u x z y} b h2 a c=>by obtain⟨inn,W,e,i,_⟩:=ZW C.Rl C.sym b.on h2.on a b.mem b.nh h2.mem h2.nh c;grind[Ctx.drawn]
 obtain⟨z,y,j,a,c⟩:=P.two u x d;grind[Ctx.YQ]
def Ctx.on_of(C:Ctx n R H F){h:II}(hh:h∈F){u:Nat}(a:u∈h):¬off R H u:=fun q=>by obtain⟨b,h2⟩:=EM.1 (C.O.df (OG C.Rl C.sym) hh a);exact q _ b h2
theorem Ctx.pre_cor(C:Ctx n R H F){h:II}(hh:h∈F){u z e:Nat}{q s m c:II}(j:WQ R H h u z)(cy:Cyc (R u) ((q++z::s)++m))(p:¬H u z)(r:(q.filter fun w=>decide (H u w))=c++[e]):pv h u=e:=by
 have nd:=cy.perm.nodup_iff.1 (C.Rl.nd u);have n1:=(jf.1 nd).1;have l:z∉q:=fun k=>(jf.1 n1).2.2 z k z abV rfl;have d:=cy.filter fun w=>decide (H u w\/w=z);have o:q.filter (fun w=>decide (H u w\/w=z))=c++[e]:=by grind[List.filter_congr]
 rw[Db,Db,o,filter_one (qL7 (.inr rfl))]at d;have b:(cl R H u z).Nodup:=(C.Rl.nd u).sublist N8;have a:Cyc (cl R H u z) (c++e::z::((s.filter fun w=>decide (H u w\/w=z))++(m.filter fun w=>decide (H u w\/w=z)))):=by grind[cl]
 have i:e∈cl R H u z:=a.perm.mem_iff.2 Ma;have t:nx (cl R H u z) e=z:=by rw[a.nx b i];exact Nu fun k=>(jf.1 (a.perm.nodup_iff.1 b)).2.2 e k e Ma rfl
 exact C9 b (C.HT hh j.ug).1 i (by grind[WQ.at_])
variable{f g:II}{A B:Nat->II}{le:Nat->Nat->Nat}{hm:Nat×Nat×Nat->II}
def Mv.S_cor(M:Mv n R H F f g A B le hm){u x:Nat}(c:QP R H u x)(d:SK R H f g (QI R H u x)):WQ R H f u x\/WQ R H g u x:=by
 obtain⟨_,_,z,y,e,i,b⟩:=d;obtain⟨h,hh,a⟩:=M.P.EI c;have k1:=a z y e i;have k2:=a u x c rfl;rcases b with b|b
 .exact .inl (M.P.C.YQ M.T.hf hh b k1▸k2)
 .exact .inr (M.P.C.YQ M.T.hg hh b k1▸k2)
def Mv.U6(M:Mv n R H F f g A B le hm){u x:Nat}(a:QP R H u x)(c:¬SK R H f g (QI R H u x)){z:Nat}(d:z∈hm (QI R H u x)):tlf R H le hm u x=le z (nx (hm (QI R H u x)) z):=by obtain⟨b,h2,h3,_⟩:=M.home u x a c;unfold tlf;rw[yM a.nh];exact M.L.Jv M.T M.C b h2 h3 (Lt (M.T.O.ne _ b)) d
def Mv.tl_at(M:Mv n R H F f g A B le hm){u x:Nat}(c:QP R H u x)(d:¬SK R H f g (QI R H u x)){z y:Nat}(e:QP R H z y)(h:QI R H u x=QI R H z y)(b:z∉Ul f g){w:Nat}(hw:w∈Om H R z):tlf R H le hm u x=le z w:=by obtain⟨i,h2,h3,j,_⟩:=M.home u x c d;have a:=j z y e h.symm;rw[M.U6 c d a];exact M.L.same z b _ _ (M.T.O.bz _ i z a) hw
def Mv.tl_or(M:Mv n R H F f g A B le hm){u x:Nat}(b:QP R H u x)(e:¬SK R H f g (QI R H u x))(d:u∈Ul f g):tlf R H le hm u x=u\/tlf R H le hm u x=pv (Ul f g) u:=by
 obtain⟨i,h2,h3,j,_⟩:=M.home u x b e;have a:=j u x b rfl;rw[M.U6 b e a];have hd:=M.T.O.bz _ i u a;rcases aax.1 ((M.C.c u d).perm.mem_iff.1 hd)with h|h
 .exact .inl (M.L.out u d _ h)
 .exact .inr (M.L.inn u d _ h)
noncomputable def xZ(R:Nat->II)(H:Nat->Nat->Prop)(f g:II)(le:Nat->Nat->Nat)(hm:Nat×Nat×Nat->II)(be:Nat->Nat)(u x:Nat):Nat:=if SK R H f g (QI R H u x)then 1 else if tlf R H le hm u x=be u then 0 else 2
theorem Mv.zI(M:Mv n R H F f g A B le hm){h o:II}(E:(h=f/\o=g)\/(h=g/\o=f)){V be:Nat->Nat}(D:WH f g le h V be){u:Nat}(t:u∈Ul f g)(N:∀v,v=u\/v=pv (Ul f g) u->v=V u\/v=be u){c m:II}(cy:Cyc (R u) (c++(m++[pv h u])))(W:∀z∈c,¬H u z):
  c=(c.filter fun x=>decide (xZ R H f g le hm be u x=0))++((c.filter fun x=>decide (xZ R H f g le hm be u x=1))++(c.filter fun x=>decide (xZ R H f g le hm be u x=2))):=by
 have Cx:=M.P.C;have hh:h∈F:=E.elim (fun q=>q.1▸M.T.hf) fun q=>q.1▸M.T.hg;have G:∀v,v∈Ul f g↔v∈h/\v∈o:=by grind[zq]
 have r:=((G u).1 t).1;have hb:∀x∈c,xZ R H f g le hm be u x<=2:=by grind[xZ]
 refine sort3 hb (Cx.sorted (U:=fun v=>v∈Ul f g) hh r (m:=m) ⟨nx (Ul f g) u,(by grind[ZP]),ZP t,M.h2 u t⟩ c [] hGr hGr (fun x K=>?_) (fun x K y hy d l=>d ?_) hb)
 .have s:QP R H u x:=⟨Cx.on_of hh r,cy.perm.mem_iff.2 (by simp[K]),W x K⟩;have i:WQ R H h u x:=by
   obtain⟨p,q,rfl,_⟩:=sC K;exact Cx.Ag r cy W (Cx.HT hh r (x:=x)).2
  by_cases w:SK R H f g (QI R H u x)
  .obtain⟨z,y,b,d,l⟩:=M.P.two u x s;have a:z∈Ul f g:=zq.2 ⟨w.1 z y b l.symm,w.2.1 z y b l.symm⟩;have k:xZ R H f g le hm be u x=1:=by grind[xZ]
   exact⟨z,y,b.on,d,((G z).1 a).1,b.mem,b.nh,l,hGr,(fun _=>a),fun e=>by grind⟩
  .obtain⟨h',Q,I⟩:=M.P.EI s;have e':=Cx.YQ Q hh (I u x s rfl) i;subst e';have j:Fits R H (QI R H u x) h':=fun z y b l=>by grind[WQ.ug]
   have S:¬Fits R H (QI R H u x) o:=fun q=>by
    rcases E with⟨e,e'⟩|⟨e,e'⟩
    .subst e e';exact w ⟨j,q,u,x,s,rfl,.inl i⟩
    .subst e e';exact w ⟨q,j,u,x,s,rfl,.inr i⟩
   have:∃z y,QP R H z y/\QI R H z y=QI R H u x/\z∉o:=Hs fun q=>S fun z y b l=>by grind
   obtain⟨z,y,b,l,X⟩:=this;have J:=j z y b l;have a:z∉Ul f g:=hGr;have d:u≠z:=hGr;have aa:tlf R H le hm u x=le z (nx h' z):=M.tl_at s w b l.symm a (M.T.O.bz h' hh z J);refine⟨z,y,b.on,d,J,b.mem,b.nh,l.symm,fun e=>⟨a,?_⟩,(fun e=>?_),fun e=>⟨a,?_⟩⟩
   .have:tlf R H le hm u x=be u:=by grind[xZ]
    exact M.T.aft M.L hh D t hGr
   .grind[xZ]
   .have:tlf R H le hm u x≠be u:=by grind[xZ]
    have:=(N _ (M.tl_or s w t)).resolve_right this;exact M.T.bef M.L hh D t a hGr
 grind[xZ,tlf]
theorem Mv.amid(M:Mv n R H F f g A B le hm){u:Nat}(G:u∈Ul f g){c b b0 m:II}{ℓ:Nat}(cy:Cyc (R u) ((c++b)++m))(W:∀z∈c,¬H u z)(hb:∀z t,b=z::t->H u z)(I:(b.filter fun w=>decide (H u w))=b0)(J:∀e∈b0,le u e=ℓ)(K:pv f u∉b0)(N:pv g u∉b0):∀z∈b,(z∈R u/\¬(¬H u z/\SK R H f g (QI R H u z)))/\tlf R H le hm u z=ℓ:=fun z y=>by
 have Cx:=M.P.C;have p:z∈R u:=cy.perm.mem_iff.2 (by simp[y]);by_cases Q:H u z
 .grind[tlf]
 .obtain⟨q,s,rfl,_⟩:=sC y;have i:QP R H u z:=⟨Cx.on_of M.T.hf (zq.1 G).1,p,Q⟩;have j:(q.filter fun w=>decide (H u w))≠[]:=fun e=>by
   cases q<;>grind
  obtain⟨X,e,eq⟩:=CN j;have r:e∈b0:=hGr;have pre:∀{h:II},h∈F->WQ R H h u z->pv h u=e:=by grind[Ctx.pre_cor]
  have o:¬SK R H f g (QI R H u z):=fun o=>by
   rcases M.S_cor i o with k|k
   .exact K (pre M.T.hf k▸r)
   .exact N (pre M.T.hg k▸r)
  refine⟨hGr,?_⟩;obtain⟨h',d,l⟩:=M.P.EI i;have a:=l u z i rfl;have S:=pre d a;have v:h'≠f:=hGr;have x:h'≠g:=hGr;obtain⟨_,_,_,_,U⟩:=M.home u z i o;have V:=U h' d a v x;obtain⟨D,E,_⟩:=M.T.O.pv d a.ug;rw[M.U6 i o (z:=e) hGr,<-V];rw[S]at D E;rw[E,M.L.sym e u (by have:=M.T.O.bz h' d e D;grind)];exact J e r
end
section
variable{n:Nat}{R:Nat->II}{H:Nat->Nat->Prop}{F:Cs}{f g:II}{A B:Nat->II}{le:Nat->Nat->Nat}{hm:Nat×Nat×Nat->II}
def fB(R:Nat->II)(H:Nat->Nat->Prop)(f g:II)(v w:Nat):Prop:=w∈R v/\¬H v w/\SK R H f g (QI R H v w)
structure AtU (R:Nat->II) (H:Nat->Nat->Prop) (f g:II) (A B:Nat->II) (le:Nat->Nat->Nat) (hm:Nat×Nat×Nat->II) (u:Nat) (XL Q YL P:II):Prop where
 cyc:Cyc (R u) (XL++(Q++(YL++P)))
 xl:∀w∈XL,¬fB R H f g u w/\tlf R H le hm u w=u
 yl:∀w∈YL,¬fB R H f g u w/\tlf R H le hm u w=pv (Ul f g) u
 q:∀w∈Q,fB R H f g u w
 p:∀w∈P,fB R H f g u w
 xh:(XL.filter fun w=>decide (H u w))=A u++[pv g u]
 yh:(YL.filter fun w=>decide (H u w))=B u++[pv f u]
 pf:∀w∈P,WQ R H f u w
theorem mz{u:Nat}{l:II}(h:∀z∈l,¬H u z):l.filter (fun w=>decide (H u w))=[]:=by grind[filter_none]
theorem Mv.atU(M:Mv n R H F f g A B le hm){u:Nat}(a:u∈Ul f g):∃XL Q YL P,AtU R H f g A B le hm u XL Q YL P:=by
 have Cx:=M.P.C;have nd:=Cx.Rl.nd u;have j:=M.C.c u a;have i:=j.perm.nodup_iff.1 (M.T.R.nd u);obtain⟨c1,d,c2,a1,cy,n1,E,fb,fa,hb,ha,O,G⟩:=decomp nd j;have aj:Cyc (R u) ((c2++(a1++[pv g u]))++(c1++(d++[pv f u]))):=cy.shift;have s1:=M.zI (h:=g) (o:=f) hGr (M.T.faceLg M.C M.L) a hGr (c:=c1) (m:=(d++[pv f u])++(c2++a1)) hGr n1;have s2:=M.zI (h:=f) (o:=g) hGr (M.T.faceLf M.C M.L) a (fun v h=>h) (c:=c2) (m:=(a1++[pv g u])++(c1++d)) hGr E;have l:=(zq.1 a);have r:=Cx.on_of M.T.hf l.1;have al:∀x∈c1,QP R H u x:=fun x s=>⟨r,cy.perm.mem_iff.2 (by simp[s]),n1 x s⟩;have aq:∀x∈c2,QP R H u x:=fun x s=>⟨r,cy.perm.mem_iff.2 (by simp[s]),E x s⟩;have t:∀{be:Nat->Nat}{x},QP R H u x->xZ R H f g le hm be u x=1->fB R H f g u x:=fun{be x} y e=>by refine⟨y.mem,y.nh,Hs fun q=>?_⟩;unfold xZ at e;rw[yM q]at e;split at e<;>omega
 have ar:∀{be:Nat->Nat}{x},QP R H u x->xZ R H f g le hm be u x=0->¬fB R H f g u x/\tlf R H le hm u x=be u:=fun{be x} y e=>by
  have I:¬SK R H f g (QI R H u x):=by grind[xZ]
  refine⟨fun q=>I q.2.2,Hs fun q=>?_⟩;grind[xZ]
 have av:∀{be:Nat->Nat}{x},QP R H u x->xZ R H f g le hm be u x=2->¬fB R H f g u x/\tlf R H le hm u x≠be u/\(tlf R H le hm u x=u\/tlf R H le hm u x=pv (Ul f g) u):=fun{be x} y e=>by
  have I:¬SK R H f g (QI R H u x):=by grind[xZ]
  refine⟨fun q=>I q.2.2,fun q=>?_,M.tl_or y I a⟩;grind[xZ]
 have S:=M.amid a (c:=c1) (b:=d++[pv f u]) (b0:=B u++[pv f u]) (m:=c2++(a1++[pv g u])) (ℓ:=pv (Ul f g) u);have U:pv f u∉B u:=fun q=>(jf.1 (jf.1 i).2.1).2.2 _ q _ Ma rfl;have V:pv g u∉B u:=fun q=>(jf.1 i).2.2 (pv g u) Ma (pv g u) (by simp[q]) rfl;have W:pv g u∉A u:=fun q=>(jf.1 (jf.1 i).1).2.2 _ q _ Ma rfl;have X:pv f u∉A u:=fun q=>(jf.1 i).2.2 (pv f u) (by simp[q]) (pv f u) Ma rfl;have mb:=M.amid a (c:=c1) (b:=d) (b0:=B u) (m:=[pv f u]++(c2++(a1++[pv g u]))) (ℓ:=pv (Ul f g) u) hGr n1 hb fb (fun e he=>M.L.inn u a e (by simp[he])) U V;have ma:=M.amid a (c:=c2) (b:=a1) (b0:=A u) (m:=[pv g u]++(c1++(d++[pv f u]))) (ℓ:=u) hGr E ha fa (fun e he=>M.L.out u a e (by simp[he])) X W;have ay:¬fB R H f g u (pv f u)/\tlf R H le hm u (pv f u)=pv (Ul f g) u:=⟨fun q=>q.2.1 G,by unfold tlf;rw[IE G];exact M.L.inn u a _ Ma⟩;have az:¬fB R H f g u (pv g u)/\tlf R H le hm u (pv g u)=u:=⟨fun q=>q.2.1 O,by unfold tlf;rw[IE O];exact M.L.out u a _ Ma⟩;have toSE:∀{z},¬(¬H u z/\SK R H f g (QI R H u z))->¬fB R H f g u z:=fun h q=>h q.2;have ai:∀w∈c2,WQ R H f u w:=fun w hw=>by obtain⟨p,q,rfl,_⟩:=sC hw;exact Cx.Ag l.1 (m:=(a1++[pv g u])++(c1++d)) hGr E G
 clear S;generalize aC:c1.filter (fun x=>decide (xZ R H f g le hm (fun w=>w) u x=0))=k0 at s1;generalize aD:c1.filter (fun x=>decide (xZ R H f g le hm (fun w=>w) u x=1))=k1 at s1;generalize aF:c1.filter (fun x=>decide (xZ R H f g le hm (fun w=>w) u x=2))=k2 at s1;generalize aH:c2.filter (fun x=>decide (xZ R H f g le hm (fun w=>pv (Ul f g) w) u x=0))=J at s2;generalize aJ:c2.filter (fun x=>decide (xZ R H f g le hm (fun w=>pv (Ul f g) w) u x=1))=K at s2;generalize aK:c2.filter (fun x=>decide (xZ R H f g le hm (fun w=>pv (Ul f g) w) u x=2))=N at s2;have aa:∀x∈k0,QP R H u x/\xZ R H f g le hm (fun w=>w) u x=0:=hGr;have DQ:∀x∈k1,QP R H u x/\xZ R H f g le hm (fun w=>w) u x=1:=hGr;have mk2:∀x∈k2,QP R H u x/\xZ R H f g le hm (fun w=>w) u x=2:=hGr;have ae:∀x∈J,QP R H u x/\xZ R H f g le hm (fun w=>pv (Ul f g) w) u x=0:=hGr;have D:∀x∈K,x∈c2/\QP R H u x/\xZ R H f g le hm (fun w=>pv (Ul f g) w) u x=1:=hGr;have ag:∀x∈N,QP R H u x/\xZ R H f g le hm (fun w=>pv (Ul f g) w) u x=2:=hGr;refine⟨N++((a1++[pv g u])++k0),k1,k2++((d++[pv f u])++J),K,?_,fun w hw=>?_,fun w hw=>?_,fun w hw=>t (DQ w hw).1 (DQ w hw).2,fun w hw=>t (D w hw).2.1 (D w hw).2.2,?_,?_,hGr⟩
 .have e:((k0++(k1++k2))++(d++[pv f u]))++((J++(K++N))++(a1++[pv g u]))=((k0++(k1++k2))++(d++[pv f u])++J++K)++(N++(a1++[pv g u])):=by simp
  grind[Cyc.shift]
 .rcases aax.1 hw with h|h
  .grind
  rcases aax.1 h with h|h
  .all_goals grind
  grind
 .rcases aax.1 hw with h|h
  .grind
  rcases aax.1 h with h|h
  .all_goals grind
  grind
 .rw[Db,Db,Db,mz fun z k=>(ag z k).1.nh,mz fun z k=>(aa z k).1.nh,fa,filter_one (qL7 O)];simp
 .rw[Db,Db,Db,mz fun z k=>(mk2 z k).1.nh,mz fun z k=>(ae z k).1.nh,fb,filter_one (qL7 G)];simp
end
end
end Go.Fw
