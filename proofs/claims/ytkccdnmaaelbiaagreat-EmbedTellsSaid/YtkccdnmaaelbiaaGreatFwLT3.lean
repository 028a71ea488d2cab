/- A text. -/
import Derived.Test.YtkccdnmaaelbiaaGreatFwLT2
import Derived.Test.YtkccdnmaaelbiaaGreatFwLW5
set_option linter.all false
set_option maxRecDepth 99999
set_option maxHeartbeats 9999999
open Go.Proofs
namespace Go.Fw
variable {a b i n s u:Nat} {es:List Pr} {ls:List Lw} {o:II} {up:RZ}
def upI(x:Int):Option Nat:=if 0<=x then some x.toNat else none
def Yp(up:RZ)(v:Nat):Option Nat:=upI (up.getD v (-1))
theorem PB(u:Nat):upI (u:Int)=some u:=by simp[upI]
theorem bA{x:Int}(h:upI x=some u):x=(u:Int):=by grind[upI]
structure DI (es:List Pr) (s:Nat) (o:II) (up:RZ):Prop where
 root:Yp up s=none
 mem:∀v u,Yp up v=some u->v∈o
 Kd:∀(k v:Nat),o[k]?=some v->v=s\/∃j u,j<k/\o[j]?=some u/\Yp up v=some u/\Jp es u v
 open_:∀x∈o,¬Full es o x->∀l,o.getLast?=some l->pJ (Yp up) x l
 iA:∀(j k a b:Nat),j<k->o[j]?=some a->o[k]?=some b->Jp es a b->pJ (Yp up) a b
theorem DI.idx(d:DI es s o up)(nd:o.Nodup)(h:pJ (Yp up) a b):∀(k:Nat),o[k]?=some b->∃j:Nat,j<=k/\o[j]?=some a:=by
 induction h<;>grind[DI.Kd,DI.root]
theorem pJ.mono{up d:Nat->Option Nat}(h:pJ up a b)(k:∀c u,up c=some u->d c=some u):pJ d a b:=by
 induction h with
 |refl=>exact .refl _
 |step h e f=>exact .step f (k _ _ e)
theorem du.di(N:InR n es)(d:du n es s o up):DI es s o up:=by
 induction d with
 |start=>
  have O:∀v,Yp (List.replicate n (-1)) v=none:=fun v=>by simp only[Yp,K4,List.getElem?_replicate];split<;>rfl
  refine⟨O s,pw,fun k v h=>?_,fun x m _ l B=>?_,fun j k a b L h2 h3=>?_⟩
  .grind
  .simp at m B;subst m;subst B;exact .refl _
  grind
 |@step o up k v w d M ha hw X hf C=>
  have P:=(ha.lt N).2;have Q:up.length=n:=d.len.2;have F:=d.nodup
  have hu:∀x,Yp (up.set w (v:Int)) x=if x=w then some v else Yp up x:=by grind[Yp,PB]
  have g:∀c u,Yp up c=some u->Yp (up.set w (v:Int)) c=some u:=by grind[DI.mem]
  have R:w≠s:=fun e=>by subst e;exact hw (BS d.head)
  have S:=(Ny.1 M).1;have G:o≠[]:=fun e=>by grind
  obtain⟨l,B⟩:∃l,o.getLast?=some l:=⟨_,List.getLast?_eq_some_getLast G⟩;have H:=C.open_ v (BS M) (fun f=>hw (f w ha)) l B;have p:∀x∈o,¬Full es o x->pJ (Yp up) x v:=fun x m z=>by
   have I:=C.open_ x m z l B;rcases I.chain H with h|h
   .exact h
   .obtain⟨i,hi⟩:=qy.1 m;obtain⟨j,T,U⟩:=C.idx F h i hi;grind[List.getElem?_inj]
  refine⟨by grind[DI.root],fun x u h=>?_,fun i x m=>?_,fun x m z l' r=>?_,fun i j a b J hi t D=>?_⟩
  .grind[DI.mem]
  .rcases abY i o.length with q|q
   .rw[kc q]at m;rcases C.Kd i x m with h|⟨j,u,L,h2,h3,V⟩
    .exact .inl h
    .exact .inr ⟨j,u,L,pw,g _ _ h3,V⟩
   .rw[Og q]at m;have:=(Ny.1 m).1;simp at this;have K:i-o.length=0:=NH;rw[K]at m;simp at m;subst m;exact .inr ⟨k,v,NH,pw,pw,ha⟩
  .rw[List.getLast?_concat]at r;injection r with r;subst r;rw[yM,jf]at m;rcases m with m|rfl
   .have E:¬Full es o x:=fun f=>z fun y W=>KG _ (f y W);exact((p x m E).mono g).step pw
   .exact .refl _
  .have q:i<o.length:=by
    have:=(Ny.1 t).1;grind
   rw[kc q]at hi;rcases abY j o.length with A|A
   .rw[kc A]at t;exact(C.iA i j a b J hi t D).mono g
   .rw[Og A]at t;have:=(Ny.1 t).1;simp at this;have K:j-o.length=0:=NH;rw[K]at t;simp at t;subst t;exact((p a (BS hi) fun f=>hw (f w D)).mono g).step pw
def Oj(ls:List Lw)(v:Nat):Option Nat:=upI (Ro ls v).2.1
structure zJ (es:List Pr) (ls:List Lw) (o:II):Prop where
 num:∀(k v:Nat),o[k]?=some v->(Ro ls v).1=((k+1:Nat):Int)/\(Ro ls v).2.2=((k+1:Nat):Int)
 up:∀(k v:Nat),o[k]?=some v->(Ro ls v).2.1=-1\/∃j u:Nat,j<k/\o[j]?=some u/\(Ro ls v).2.1=(u:Int)/\Jp es u v
 iA:∀(j k a b:Nat),j<k->o[j]?=some a->o[k]?=some b->Jp es a b->pJ (Oj ls) a b
theorem JK{n:Nat}{up:RZ}:∀(l:II){ls:List Lw}{o:II},ls.length=n->l.Nodup->(∀v∈l,v<n)->
  (∀(k v:Nat),l[k]?=some v->Ro (ag6 up l (ls,o)).1 v=(((o.length+k+1:Nat):Int),up.getD v 0,((o.length+k+1:Nat):Int)))/\∀v,v∉l->Ro (ag6 up l (ls,o)).1 v=Ro ls v
 |[],ls,o,_,_,_=>⟨pw,fun v _=>rfl⟩
 |x::r,ls,o,c,b,a=>by
  rw[jz]at b;obtain⟨f,g⟩:=JK r (ls:=ls.set x (((o.length+1:Nat):Int),up.getD x 0,((o.length+1:Nat):Int))) (o:=o++[x]) (by simp[c]) b.2 fun v d=>a v (by simp[d]);refine⟨fun k v e=>?_,fun v d=>?_⟩
  .cases k with
   |zero=>simp at e;subst e;rw[ag6,g x b.1,Uw,AE ⟨rfl,by rw[c];exact a x Ma⟩]
   |succ k=>rw[ag6,f k v pw];grind[List.length_singleton]
  grind[ag6.eq_2,Uw]
theorem zJ.xG{ls d:List Lw}(F:zJ es ls o)(hs:∀v∈o,Ro d v=Ro ls v)(h:pJ (Oj ls) a b):b∈o->pJ (Oj d) a b:=by
 induction h with
 |refl=>exact fun _=>.refl _
 |@step b c h e g=>
  intro i;obtain⟨k,l⟩:=qy.1 i;have e':Oj d c=some b:=by grind[Oj]
  rcases F.up k c l with f|⟨j,u,f,h2,h3,_⟩
  .unfold Oj at e;rw[f]at e;cases e
  .unfold Oj at e;rw[h3,PB]at e;injection e with e;subst e;exact(g (BS h2)).step e'
theorem du.upm(d:du n es s o up):∀v,-1<=up.getD v (-1):=by
 induction d with
 |start=>grind
 |step d _ _ _ _ _ a=>intro v;have:=a v;grind
theorem fromA_F(q:InR n es)(I:cV n es ls o)(F:zJ es ls o)(hi:i<n):zJ es (jl n es i (ls,o)).1 (jl n es i (ls,o)).2:=by
 unfold jl;split
 .rename_i z;obtain⟨t,A⟩:=TY q I hi z;have D:=Te q hi;obtain⟨_,B⟩:=Rx (D.KP.upR q hi) (K9 n es i).1 I.toLowI t A;have C:=D.KP.len.2;have di:=D.KP.di q;obtain⟨w,K⟩:=JK (up:=(K9 n es i).2) (K9 n es i).1 (ls:=ls) (o:=o) I.len t pw;have x:∀v∈o,Ro (ag6 (K9 n es i).2 (K9 n es i).1 (ls,o)).1 v=Ro ls v:=pw;rw[B];generalize (ag6 (K9 n es i).2 (K9 n es i).1 (ls,o)).1=l at*;generalize (K9 n es i).1=P at*;generalize (K9 n es i).2=up at*;have m:∀v∈P,up.getD v 0=up.getD v (-1):=pw;have p:∀{a b:Nat},pJ (Yp up) a b->b∈P->pJ (Oj l) a b:=by
   intro a b h
   induction h with
   |refl=>exact fun _=>.refl _
   |@step b c h e E=>
    intro y;obtain⟨k,d⟩:=qy.1 y;have e':Oj l c=some b:=by unfold Oj;rw[w k c d];rw[m c y];exact e
    rcases di.Kd k c d with g|⟨j,u,g,h2,h3,_⟩
    .grind[DI.root]
    .rw[h3]at e;injection e with e;subst e;exact(E (BS h2)).step e'
  refine⟨fun k v d=>?_,fun k v d=>?_,fun j k a b G r d s=>?_⟩
  .rcases abY k o.length with h|h
   .grind[zJ.num]
   grind
  .rcases abY k o.length with h|h
   .rw[kc h]at d;rw[x v (BS d)];rcases F.up k v d with g|⟨j,u,g,h2,h3⟩
    .exact .inl g
    .exact .inr ⟨j,u,g,pw,h3⟩
   .rw[Og h]at d;rw[w _ v d];simp only;have H:=BS d;rw[m v H];rcases di.Kd _ v d with g|⟨j,u,g,h2,h3,J⟩
    .subst g;have f:=di.root;unfold Yp upI at f;split at f
     .cases f
     .have:=D.KP.upm v;omega
    .exact .inr ⟨o.length+j,u,NH,by rw[Og NH];simpa using h2,bA h3,J⟩
  .rcases abY k o.length with h|h
   .rw[kc h]at d;rw[kc NH]at r;exact F.xG x (by grind[zJ.iA]) (BS d)
   .rw[Og h]at d;rcases abY j o.length with h'|h'
    .grind[cV.cl]
    .rw[Og h']at r;exact p (di.iA _ _ a b NH r d s) (BS d)
 .exact F
theorem PG{n:Nat}{es:List Pr}(a:InR n es):∀i,i<=n->zJ es (aeJ n es i).1 (aeJ n es i).2
 |0,_=>⟨by grind[aeJ],(by grind[aeJ]),(by grind[aeJ])⟩
 |i+1,hi=>fromA_F a (by grind[ZC]) (PG a i NH) NH
def Vu(ls:List Lw)(v:Nat):Nat:=(Ro ls v).1.toNat
theorem metM_fo(d:InR n es):Fo n es (Vu (aeJ n es n).1) (Oj (aeJ n es n).1):=by
 have F:=PG d n (qL0 _);obtain⟨C,i⟩:=ZC d n (qL0 _);have ex:∀v,v<n->∃k,(aeJ n es n).2[k]?=some v/\Vu (aeJ n es n).1 v=k+1:=fun v f=>by grind[List.mem_iff_getElem?,Vu,zJ.num]
 refine⟨d,fun u v o f e=>?_,fun v u f e=>?_,fun a b c h=>?_⟩
 .grind
 .obtain⟨k,g,h2⟩:=ex v f;unfold Oj at e;rcases F.up k v g with h|⟨j,w,h3,l,m,p⟩
  .rw[h]at e;cases e
  .rw[m,PB]at e;grind[Vu,zJ.num]
 .obtain⟨k,g,h2⟩:=ex a (c.lt d).1;obtain⟨j,h3,l⟩:=ex b (c.lt d).2;exact F.iA k j a b NH g h3 c
variable {D:Nat->Nat->Prop} {c v x y:Nat} {es':List Pr} {num:Nat->Nat} {up:Nat->Option Nat}
theorem EN{x:Int}:upI x=some u↔x=(u:Int):=by grind[bA,PB]
theorem Iw.congr(L:Iw es num up D v x)(h:∀u w,D v u->(Nt es' up u w↔Nt es up u w)):Iw es' num up D v x:=⟨L.self,fun u w d k=>L.back u w d ((h u w d).1 k),(by grind[Iw.some_])⟩
theorem Iw.add(L:Iw es num up (fun a b=>a=b) v x)(h:∀w,Nt es' up v w↔Nt es up v w\/w=c):Iw es' num up (fun a b=>a=b) v (min x (num c)):=by
 refine⟨by grind[Iw.self],?_,?_⟩
 all_goals grind[Iw.back,Iw.some_]
theorem Iw.join(a:InR n es){D b f:Nat->Nat->Prop}(L:Iw es num up b v x)(M:Iw es num up f c y)(g:num v<=num c)(h:∀u,u<n->(D v u↔b v u\/f c u)):Iw es num up D v (min x y):=by
 refine⟨by grind[Iw.self],?_,?_⟩
 .intro u w d k;rcases(h u (k.1.lt a).1).1 d with d|d
  .grind[Iw.back]
  .have:=M.back u w d k;omega
 .by_cases q:x<=y
  .rw[Nat.min_eq_left q];exact L.some_.imp id fun⟨u,w,d,k,e⟩=>⟨u,w,(h u (k.1.lt a).1).2 (.inl d),k,e⟩
  .rw[Nat.min_eq_right NH];rcases M.some_ with e|⟨u,w,d,k,e⟩
   .have:=L.self;omega
   .exact .inr ⟨u,w,(h u (k.1.lt a).1).2 (.inr d),k,e⟩
structure Same (n:Nat) (num:Nat->Nat) (up:Nat->Option Nat) (ls:List Lw):Prop where
 len:ls.length=n
 fO:∀v,v<n->(Ro ls v).1=(num v:Int)
 ups:∀v,v<n->upI (Ro ls v).2.1=up v
structure jF (n:Nat) (es:List Pr) (num:Nat->Nat) (up:Nat->Option Nat) (D:Nat->Nat->Prop) (ls:List Lw):Prop extends Same n num up ls where
 low:∀v,v<n->∃x:Nat,(Ro ls v).2.2=(x:Int)/\Iw es num up D v x
theorem vz:Jp (es++[((a:Int),(c:Int))]) x y↔Jp es x y\/isE a c x y:=by grind[Jp,isE]
theorem edgeB_S(e:a<n)(f:c<n)(l:a≠c)(S:jF n es num up (fun a b=>a=b) ls):
  jF n (es++[((a:Int),(c:Int))]) num up (fun a b=>a=b) (bS ls ((a:Int),(c:Int))):=by
 have B:∀x y:Nat,x<n->((Ro ls x).2.1=(y:Int)↔up x=some y):=fun x y C=>by rw[<-S.ups x C,EN]
 have D:Same n num up (bS ls ((a:Int),(c:Int))):=⟨by rw[vx];exact S.len,fun v g=>by rw[(P1 ls _ v).1];exact S.fO v g,fun v g=>by rw[(P1 ls _ v).2];exact S.ups v g⟩;refine⟨D,fun v g=>?_⟩;by_cases t:up a=some c\/up c=some a
 .have m:bS ls ((a:Int),(c:Int))=ls:=by grind[bS,Int.toNat_natCast]
  rw[m];obtain⟨x,z,h2⟩:=S.low v g;refine⟨x,z,h2.congr fun u w _=>?_⟩;simp only[Nt,vz];constructor
  .rintro⟨h|h,k1,k2⟩
   .grind
   .rcases h with⟨rfl,rfl⟩|⟨rfl,rfl⟩<;>rcases t with t|t<;>first|exact absurd t k1|grind
  grind
 .have o:∀u w,Nt (es++[((a:Int),(c:Int))]) up u w↔Nt es up u w\/isE a c u w:=fun u w=>by
   simp only[Nt,vz];constructor
   .grind
   .rintro(⟨h,k⟩|h)
    .grind
    .refine⟨.inr h,?_⟩;rcases h with⟨rfl,rfl⟩|⟨rfl,rfl⟩
     all_goals grind
  obtain⟨x,z,h2⟩:=S.low v g;obtain⟨xa,p,q⟩:=S.low a e;obtain⟨A,r,s⟩:=S.low c f
  have m:(Ro (bS ls ((a:Int),(c:Int))) v).2.2=if v=c then min (A:Int) (num a:Int)else if v=a then min (xa:Int) (num c:Int)else(x:Int):=by
   simp only[bS,af8];rw[aal pw];simp only[Uw,Zw,S.len,e,f,and_true];by_cases i:v=c
   .subst i;simp[l,r,S.fO a e]
   .rw[aal (Hs i),aal i];by_cases j:v=a
    .subst j;simp[p,S.fO c f]
    grind
  rw[m];by_cases i:v=c
  .subst i;refine⟨min A (num a),NH,s.add fun w=>?_⟩;rw[o];constructor
   .rintro(h|⟨h,_⟩|⟨_,h⟩)
    all_goals grind
   .rintro(h|rfl)
    .exact .inl h
    .exact .inr (.inr ⟨rfl,rfl⟩)
  .rw[aal i];by_cases j:v=a
   .subst j;refine⟨min xa (num c),NH,q.add fun w=>?_⟩;rw[o];constructor
    .rintro(h|⟨_,h⟩|⟨h,_⟩)
     all_goals grind
    .rintro(h|rfl)
     .exact .inl h
     .exact .inr (.inl ⟨rfl,rfl⟩)
   .rw[aal j];refine⟨x,rfl,h2.congr fun u w d=>?_⟩;rw[o];constructor
    .rintro(h|⟨h,_⟩|⟨h,_⟩)
     all_goals grind
    .exact .inl
theorem Hl{n:Nat}{num:Nat->Nat}{up:Nat->Option Nat}:∀(rest es:List Pr)(ls:List Lw),InR n rest->jF n es num up (fun a b=>a=b) ls->jF n (es++rest) num up (fun a b=>a=b) (rest.foldl bS ls)
 |[],es,ls,_,S=>by simpa using S
 |(a,c)::rest,es,ls,d,S=>by have e:=d (a,c) Ma;obtain⟨a,rfl⟩:=Z6 e.1;obtain⟨c,rfl⟩:=Z6 (show 0<=c by omega);have:=Hl rest (es++[((a:Int),(c:Int))]) _ (fun q f=>d q (by simp[f])) (edgeB_S NH NH NH S);grind
def DT_(up:Nat->Option Nat)(T:II)(v u:Nat):Prop:=u=v\/∃c∈T,up c=some v/\pJ up c u
theorem ups_S{n:Nat}{es:List Pr}{num:Nat->Nat}{up:Nat->Option Nat}(F:Fo n es num up){ls:List Lw}:∀(T pre:II),(∀v,v<n->v∈pre++T)->(pre++T).Pairwise (fun a b=>num a<num b)->(∀v∈pre++T,v<n)->
  jF n es num up (fun a b=>a=b) ls->jF n es num up (DT_ up T) (T.foldr (fun x y=>Ke y x) ls)
 |[],pre,_,_,_,S=>by
  refine⟨S.toSame,fun v i=>?_⟩;obtain⟨x,E,h2⟩:=S.low v i;refine⟨x,E,h2.self,fun u w d=>?_,?_⟩
  .rcases d with rfl|⟨c,I,_⟩
   .exact h2.back _ w rfl
   .simp at I
  .exact h2.some_.imp id fun⟨u,w,d,k,e⟩=>⟨u,w,.inl d.symm,k,e⟩
 |c::T,pre,G,R,o,J=>by
  have S:=ups_S F T (pre++[c]) pw pw pw J;rw[List.foldr_cons];generalize T.foldr (fun x y=>Ke y x) ls=l1 at*;have f:c<n:=o c Ma;have K:Same n num up (Ke l1 c):=⟨by rw[bq];exact S.len,fun v i=>by rw[(tU l1 _ v).1];exact S.fO v i,fun v i=>by rw[(tU l1 _ v).2];exact S.ups v i⟩;refine⟨K,fun v i=>?_⟩;obtain⟨x,E,h2⟩:=S.low v i;have r:∀d,up d=some c->d<n->d∈T:=fun d hd s=>by have H:=(F.Kd d c s hd).2;grind
  have l:up c≠some v->Iw es num up (DT_ up (c::T)) v x:=fun L=>by
   refine⟨h2.self,fun u w d=>h2.back u w ?_,h2.some_.imp id fun⟨u,w,d,k⟩=>⟨u,w,?_,k⟩⟩
   .rcases d with rfl|⟨d,hd,j,g⟩
    .exact .inl rfl
    .rw[vZ]at hd;rcases hd with rfl|hd
     .grind
     .exact .inr pw
   .exact d.imp id (by grind[List.mem_cons_of_mem])
  cases m:up c with
  |none=>
   have:Ke l1 c=l1:=by have:=S.ups c f;grind[upI,Ke]
   grind
  |some p=>
   have t:=F.Kd c p f m;have A:=(t.1.lt F.rD).1;obtain⟨y,M,B⟩:=S.low c f;obtain⟨z,N,C⟩:=S.low p A;have D:(Ro l1 c).2.1=(p:Int):=EN.1 ((S.ups c f).trans m)
   have O:(Ro (Ke l1 c) v).2.2=if v=p then min (z:Int) (y:Int)else(x:Int):=by simp only[Ke,D];rw[AE NH,af8,Uw,S.len];grind
   rw[O];by_cases e:v=p
   .subst e;refine⟨min z y,NH,C.join F.rD B NH fun u U=>?_⟩;constructor
    .rintro(rfl|⟨d,hd,j,g⟩)
     .exact .inl (.inl rfl)
     .rw[vZ]at hd;rcases hd with rfl|hd
      .by_cases q:d=u
       .subst q;exact .inr (.inl rfl)
       .obtain⟨k,P,Q⟩:=g.child q;exact .inr (.inr (by grind[Fo.yO]))
      .exact .inl (.inr pw)
    .rintro(h|h)
     .exact h.imp id (by grind[List.mem_cons_of_mem])
     .rcases h with rfl|⟨d,hd,j,g⟩
      .exact .inr ⟨u,Ma,m,.refl _⟩
      .exact .inr ⟨c,Ma,m,(pJ.one j).trans g⟩
   grind
structure aau (n:Nat) (es:List Pr) (ls:List Lw) (o:II) (num:Nat->Nat) (up:Nat->Option Nat):Prop extends jF n es num up (pJ up) ls where
 fo:Fo n es num up
 ord:∀(k v:Nat),o[k]?=some v->num v=k+1
 mem:∀v,v∈o↔v<n
 nd:o.Nodup
 Em:o.length=n
 upr:∀v,v<n->-1<=(Ro ls v).2.1/\(Ro ls v).2.1<(n:Int)
theorem DT_all(F:Fo n es num up){T:II}(b:∀v,v<n->v∈T)(d:u<n):DT_ up T v u↔pJ up v u:=by
 constructor
 .rintro(rfl|⟨c,_,a,h2⟩)
  .exact .refl _
  .exact(pJ.one a).trans h2
 .intro h;by_cases e:v=u
  .exact .inl e.symm
  .obtain⟨c,a,h2⟩:=h.child e;exact .inr (by grind[Fo.yO])
theorem Iw.congrD(a:InR n es){D D':Nat->Nat->Prop}(L:Iw es num up D v x)(h:∀u,u<n->(D' v u↔D v u)):Iw es num up D' v x:=⟨L.self,fun u w d k=>L.back u w ((h u (k.1.lt a).1).1 d) k,L.some_.imp id fun⟨u,w,d,k,e⟩=>⟨u,w,(h u (k.1.lt a).1).2 d,k,e⟩⟩
theorem Ob(o:InR n es):∃num up,aau n es (Jz n es).1 (Jz n es).2 num up:=by
 obtain⟨C,c⟩:=ZC o n (qL0 _);have F:=PG o n (qL0 _);have fo:=metM_fo o;have l:∀v,v∈(aeJ n es n).2↔v<n:=fun v=>⟨C.lt v,c v⟩;have d:∀(k v:Nat),(aeJ n es n).2[k]?=some v->Vu (aeJ n es n).1 v=k+1:=fun k v h=>by grind[Vu,zJ.num]
 have r:jF n [] (Vu (aeJ n es n).1) (Oj (aeJ n es n).1) (fun a b=>a=b) (aeJ n es n).1:=by
  refine⟨⟨C.len,fun v f=>?_,fun v f=>rfl⟩,fun v f=>?_⟩
  .grind[List.mem_iff_getElem?,zJ.num]
  .obtain⟨k,p⟩:=qy.1 (c v f);refine⟨k+1,by grind[zJ.num],⟨pw,fun u w _ h=>?_,.inl (d k v p).symm⟩⟩;rcases h.1 with h|h<;>simp at h
 have q:=Hl es [] _ o r;rw[Ah]at q;have g:((aeJ n es n).2).Pairwise fun a b=>Vu (aeJ n es n).1 a<Vu (aeJ n es n).1 b:=by rw[wI];intro i j hi s t;rw[d i _ (yY hi),d j _ (yY s)];omega
 have z:=ups_S fo (aeJ n es n).2 [] c g C.lt q;have m:(Jz n es).1=(aeJ n es n).2.foldr (fun x y=>Ke y x) (es.foldl bS (aeJ n es n).1):=by grind[Jz.eq_1]
 refine⟨Vu (aeJ n es n).1,Oj (aeJ n es n).1,⟨⟨?_,fun v f=>?_⟩,fo,d,l,C.nd,?_,fun v f=>?_⟩⟩
 .grind[jF.toSame]
 .grind[jF.low,Iw.congrD,DT_all]
 .have A:=C.toLowI.Em;have h2:=(QD (n:=n)).length_le_of_subset (l₂:=(aeJ n es n).2) pw;simp at h2;show(aeJ n es n).2.length=n;omega
 .rw[m];obtain⟨k,p⟩:=qy.1 (c v f);have e:(Ro ((aeJ n es n).2.foldr (fun x y=>Ke y x) (es.foldl bS (aeJ n es n).1)) v).2.1=(Ro (aeJ n es n).1 v).2.1:=by grind[Jz.eq_1,mE,RK]
  rw[e];refine⟨?_,C.up v f⟩;grind[zJ.up]
section
attribute [local irreducible] Kp MQ lU rS KO KN KX KE VK Kl ZJ TC aab
variable {h:aae}
theorem GI.join{v x:Value}{xs ys:RZ}(g:GI h v xs)(c:WF h)(d:RL RP h x ys)(i:xs.length+ys.length<=1000000000):
  ∃v' a,adg Tryz.prog h 49 49 v x=some (v',a)/\GI a v' (xs++ys)/\WF a/\
   (∀f,Le f h->Z2 f v->Le f a/\Z2 f v')/\(∀b o,h.own b=some o->blk v≠some b->a.own b=some o/\blk v'≠some b):=by
 have j:CS 1 h x ys.length (Bp ys):=by have:=RS.cs d.cellsI;grind[Bp]
 obtain⟨v',a,m,n,hf⟩:=GS.append (P:=Tryz.prog) (t:=49) (xt:=49) (k:=1) Ji g (fun e l=>CS.src l j) (yG _) (yG _) (by simp[Bp]) i;grind[xr,aG,Bp,GI.eq_1]
theorem aiz(W:LA)(v:Value)(n:Nat)(es:List Pr)(h:aae)(hg:GR h v ⟨(n:Int),es⟩)(X:bX ⟨(n:Int),es⟩):
  AC Tryz.prog W 61 [v] h fun x h'=>(∀g,ahz Tryz.prog g 27 x=some (.int .i64 (Es n es).length))/\Le h h':=by
 have J:=hg
 obtain⟨ev,rfl,hp⟩:=hg.open
 have aE:(n:Int)<=200:=X.n1;have hR:=X.GD;refine AC.vE ⟨iZ,rfl,WY⟩ Tryz.ntmps61 Tryz.results61 fun aa=>?_;simp only[Br,seval];obtain⟨s,b1,E,aH,-,lA⟩:=r8 (n:=(n:Int)) aa hp
 generalize h.next=B at*
 have ae:=lA s (Le.refl _);refine Sk (XC b1 ae.1) ?_;refine kCi Xv (agX W _ _ s (J.le E)) ?_;rintro x h2 w2 ⟨⟨bb,rfl,ag⟩,l2⟩;obtain rfl:bb=true:=ag.2 X;have K:Z2 s (.slice none 0 0):=fun b hb=>by cases hb
 refine Uy ?_;refine lIn (fun k fr I=>∃(i:Nat)(r z:Value)(us:List Value)(seen:RZ),k=n-i/\i<=n/\fr=mkF [(1,.pointer (some ⟨B,0,none⟩)),(3,r),(4,z),(5,.int .i64 i)]/\GS 1 I r us.length us/\us.all (·.oneCell')=true/\us.length=(Es i es).length/\GI I z seen/\seen.length<=i*n/\(∀b,blk r=some b->blk z≠some b)/\
   (∀x:Nat,x<n->((x:Int)∈seen↔∃u,u<i/\Pu es u x))/\Le s I/\Z2 s r/\Z2 s z) ⟨0,_,_,[],[],rfl,WA _,rfl,GS.nil 1 _,rfl,by simp[Es],GI.nil _,Ma,fun b hb=>(by cases hb),fun x hx=>Ma,l2,K,K⟩ ?_
 rintro k fr I aJ ⟨i,r,z,us,seen,rfl,hi,rfl,go,F,aj,gs,aK,dj,l,leq,ao,M⟩;have aP:=vH i es;have aT:i*n<=40000:=Tn (aiD (show i<=200 by omega) (show n<=200 by omega)) WY;have N:=lA I leq;refine Sk (xU @Ii @Ip.eq_1 @Gc N.2.1) ?_;refine Kl.intro (fun O=>?_) (fun hf=>?_)
 rotate_left
 .have al:n<=i:=vp hf;obtain rfl:i=n:=NH;refine Uy ?_;refine⟨fun g=>?_,E.trans leq⟩;obtain⟨a,c,rfl,_⟩:=(GS.cs go).sl;rw[Jg pE,aj]
 have m:i<n:=CC O;clear O;refine Uy ?_;refine kCi Tryz.func111 (aks W z seen (i:Int) I gs.rl NH) ?_;rintro x h3 w3 ⟨rfl,rfl⟩;by_cases c:(i:Int)∈seen
 .have d:decide ((i:Int)∈seen)=true:=XJ c;refine Sk (XC d (Tw i NH)) ?_;have hx:=(l i m).1 c;have hh:Es (i+1) es=Es i es:=by grind[yP]
  exact lgA NH ⟨i+1,r,z,us,seen,rfl,m,rfl,go,F,pw,gs,pw,dj,fun x aq=>by grind[Cn.trans],leq,ao,M⟩
 have d:decide ((i:Int)∈seen)=false:=Sb c;have hx:∀u,u<i->¬Pu es u i:=fun u hu hc=>c ((l i m).2 ⟨u,hu,hc⟩);refine Sk (XC d N.1) ?_;refine kCi qS36 (ajJ W (.agg #[.int .i64 (n:Int),ev]) n i es h3 (J.le (E.trans leq)) X m) ?_;rintro x h4 w4 ⟨dv,L,rfl,gl,aV,hL,l4,ad⟩;have A:=leq.trans l4;refine Uy ?_;refine lIn (fun k fr Q=>∃(j:Nat)(pv:Value)(part:RZ),k=n-j/\j<=n/\fr=mkF [(1,.pointer (some ⟨B,0,none⟩)),(3,r),(4,z),(5,.int .i64 i),(6,dv),(8,pv),(9,.int .i64 j)]/\GI Q pv part/\part.length<=j/\(∀x:Nat,(x:Int)∈part↔x<j/\Pu es i x)/\Le h4 Q/\Z2 h4 pv) ⟨0,_,[],rfl,WA _,rfl,GI.nil _,Ma,fun x=>Ma,Le.refl _,fun b hb=>(by cases hb)⟩ ?_;rintro k fr Q R ⟨j,pv,part,rfl,hj,rfl,gp,aW,p,f,ap⟩;have ar:=lA Q (A.trans f);refine Sk (xU @Ii @Ip.eq_1 @Gc ar.2.1) ?_;refine Kl.intro (fun O=>?_) (fun hf=>?_)
 .have S:j<n:=CC O;clear O;have G:j<L.length:=NH;have av:=CA G;have C:=gl.rl.TA j G;have T:=(gl.le f).rl.Uc j G;have aF:=hL j _ av;generalize L[j]=y at*;by_cases c2:y>=0
  .have d2:decide (y>=0)=true:=XJ c2;obtain⟨v',h5,h6,e5,e6,g6,w6,l5,f6,k6⟩:=gp.push R (j:Int) NH;obtain⟨l6,a6⟩:=f6 h4 f ap;refine Sk (bG C T @d2 e5 e6 (Tw j NH)) ?_;exact lgA NH ⟨j+1,v',part++[(j:Int)],rfl,S,rfl,g6,by simp;omega,fun x=>by
     rw[yM,jf,p];constructor
     .rintro(⟨s,h2⟩|h)
      .grind
      .have:x=j:=NH;grind
     grind,l6,a6⟩
  .have d2:decide (y>=0)=false:=Sb c2;refine Sk (xU C T @d2 (Tw j NH)) ?_;exact lgA NH ⟨j+1,pv,part,rfl,S,rfl,gp,NH,fun x=>by
     rw[p];constructor
     all_goals grind,f,ap⟩
 have al:n<=j:=vp hf;obtain rfl:j=n:=NH;have q:=l4.trans f;obtain⟨w,h5,e5,U,w5,f5,k5⟩:=(gs.le q).join R gp.rl NH;obtain⟨l5,a5⟩:=f5 s (A.trans f) M;have ay:GS 1 h5 r us.length us:=GS.kept (GS.le go q) fun b o hb D=>(k5 b o D (dj b hb)).1;have az:∀b,blk r=some b->blk w≠some b:=fun b hb=>by have:=GS.Sy (GS.le go q) hb;cases D:Q.own b<;>grind
 obtain⟨h6,e6,l6,w6,o6⟩:=Tt w5 [pv];have V:=alw h5 gp.rl.sl;rw[e6]at V;obtain⟨H,h7,e7,aB,f7⟩:=GS.push (P:=Tryz.prog) (t:=27) Ji (GS.le ay l6) o6 F gp.rl.sl.one NH;have k7:=fun b o D hb=>aG (a:=b) (o:=o) (h:=h6) (h':=h7) (v:=r) (v':=H) f7 w6 D hb;obtain⟨l7,a7⟩:=f7 s w6 (l5.trans l6) ao;have aC:GI h7 w (seen++part):=GS.kept (GS.le U l6) fun b o hb D=>(k7 b o D (fun e=>az b e hb)).1;have aD:∀b,blk H=some b->blk w≠some b:=fun b hb e=>by
  have:=GS.Sy (GS.le U l6) e;cases D:h6.own b with
  |none=>exact this D
  |some o=>grind
 have hh:Es (i+1) es=Es i es++[i]:=by grind[yP]
 refine Sk (xU e5 V e7 (Tw i NH)) ?_;exact lgA NH ⟨i+1,H,w,us++[pv],seen++part,rfl,m,rfl,by rw[eR];exact aB,by simpa[gp.rl.sl.one]using F,pw,aC,pw,aD,fun x aq=>by grind,l7,a7,a5⟩
variable {j:Nat}
def mk2I(h:aae)(x y:Int):abB Tryz.prog h 49 2 [(0,.int .i64 x),(1,.int .i64 y)]=some (.slice (some ⟨h.next,0,none⟩) 2 2,h.alloc (.cells [.int .i64 x,.int .i64 y])):=rfl
def aj2(rows:AM)(L:RZ):Nat->Nat->RZ
  |0,v=>[(v:Int)]
  |k+1,v=>(v:Int)::match(rows.getD v []).find? (fun w=>decide (L.getD w.toNat 0=L.getD v 0-1))with
    |some w=>aj2 rows L k w.toNat
    |none=>[]
def DO(n:Nat)(es:List Pr)(a b:Nat):RZ:=aj2 (Zh n es) (NY (Zh n es) n b) ((NY (Zh n es) n b).getD a 0).toNat a
theorem find_at{p:Int->Bool}{l:RZ}{x:Int}(b:l[j]?=some x)(c:p x=true)(a:∀(i:Nat) y,i<j->l[i]?=some y->p y=false):l.find? p=some x:=by grind[List.find?_eq_some_iff_getElem]
theorem Path_fun(W0:LA)(v:Value)(G:GM)(a b:Int)(h:aae)(hg:GR h v G):
  AC Tryz.prog W0 90 [v,.int .i64 a,.int .i64 b] h fun x h'=>Le h h'/\∃r e,x=.tuple #[r,.int .i64 e]/\r.oneCell'=true/\
   (bX G->0<=a->a<G.n->0<=b->b<G.n->(e=0↔Pu G.es b.toNat a.toNat)/\(e=0->GI h' r (DO G.n.toNat G.es a.toNat b.toNat)/\Z2 h r/\ai G.n.toNat G.es b.toNat (NY (Zh G.n.toNat G.es) G.n.toNat b.toNat))):=by
 have ay:=hg;obtain⟨gn,es⟩:=G
 obtain⟨ev,rfl,hp⟩:=hg.open
 refine AC.vE ⟨Tryz.func90,rfl,WY⟩ Tryz.ntmps90 Tryz.results90 fun az=>?_;simp only[Br,seval];obtain⟨h1,b1,R,aB,-,lA⟩:=r8 (n:=gn) az hp
 generalize h.next=B at*
 have aC:=lA h1 (Le.refl _);obtain⟨h2,e2,l2,w2,o2⟩:=Tt aB [.int .i64 a,.int .i64 b]
 have rs:RL RP h2 (.slice (some ⟨h1.next,0,none⟩) 2 2) [a,b]:=RL.Wh (RS.whole o2 rfl)
 refine Sk (xU b1 aC.1 @mk2I e2) ?_
 generalize Value.slice (some ⟨h1.next,0,none⟩) 2 2=sv at*
 refine kCi qS34 (N7 W0 _ sv ⟨gn,es⟩ [a,b] h2 (ay.le (R.trans l2)) rs Ma) ?_;rintro x h3 ba ⟨aD,r,e,rfl,hc⟩;have d:=(R.trans l2).trans aD;rcases hc with⟨aE,rfl,rfl⟩|⟨J,bb,rfl,rfl⟩|⟨J,hs,rfl,c⟩
 .refine Sk (XC @bne.eq_1.{0} @d20) ?_
  exact⟨d,_,_,rfl,rfl,fun J=>absurd J aE⟩
 .refine Sk (XC @bne.eq_1.{0} @d2) ?_
  exact⟨d,_,_,rfl,rfl,fun _ h1 h2 h3 o=>by grind⟩
 have h0:0<=gn:=J.n0;obtain⟨n,rfl⟩:=Z6 h0;have a6:(n:Int)<=200:=J.n1;have a8:es.length<=594:=J.len;have hR:=J.GD;have ha:=hs a Ma;have hb:=hs b Ma;simp only at ha hb;obtain⟨a,rfl⟩:=Z6 ha.1;obtain⟨b,rfl⟩:=Z6 hb.1;have C:a<n:=NH;have aF:b<n:=NH;clear hs ha hb;simp only[af8]at c ⊢;refine Sk @bne.eq_1.{0} ?_
 refine kCi Tryz.func132 (away_fun W0 r n b es h3 c hR NH NH aF) ?_;rintro D o S ⟨L,hL,P,s,eL⟩;have p:∀u,u<n->abX Tryz.prog 49 D (.int .i64 u)=some (.pointer (some (abv D u))):=fun u hu=>hL.TA u (by rw[P.len];exact hu);have K:∀g,Le o g->∀u l,u<n->L[u]?=some l->acd Tryz.prog g 3 (abv D u)=some (.int .i64 l):=fun g lg u l hu hl=>by have:=(hL.le Nn.RP lg).Uc u (by rw[P.len];exact hu);grind
 have q:=CA (show a<L.length by grind[ai.len]);generalize L[a]'(by grind)=la at q
 have T:=K o (Le.refl _) a la C q;have U:=P.pos a la q;by_cases c0:la<0
 .refine Sk (Yb (p a C) T c0) ?_;exact⟨d.trans s,_,_,rfl,rfl,fun _ _ _ _ _=>⟨⟨(fun h=>by cases h),fun h=>by grind⟩,fun h=>by cases h⟩⟩
 obtain⟨k0,rfl⟩:=Z6 (show 0<=la by omega);obtain⟨h5,e5,l5,w5,o5⟩:=Tt S [.int .i64 (a:Int)];refine Sk (IX (p a C) T c0 @DQ e5) ?_
 have nW:o.own o.next=none:=(Le.refl o).next S (qL0 _)
 have g5:GI h5 (.slice (some ⟨o.next,0,none⟩) 1 1) [(a:Int)]:=GS.full o5 rfl (show 1<1000000000000 by decide)
 have V:Z2 o (.slice (some ⟨o.next,0,none⟩) 1 1):=fun b hb=>by grind[blk]
 generalize Value.slice (some ⟨o.next,0,none⟩) 1 1=M at*
 have W:=(P.bd a _ q).2;refine aab.intro (fun k fr X=>∃(v:Nat)(N:Value)(xs:RZ),fr=mkF [(2,.int .i64 b),(8,r),(10,D),(11,N),(12,.int .i64 v)]/\v<n/\L[v]?=some (k:Int)/\GI X N xs/\xs.length+k<=300/\Le o X/\Z2 o N/\∃pre,xs=pre++[(v:Int)]/\pre++aj2 (Zh n es) L k v=aj2 (Zh n es) L k0 a)
  k0 [(2,.int .i64 b),(8,r),(10,D),(11,M),(12,.int .i64 a)] hAs ⟨a,M,[(a:Int)],rfl,C,q,g5,by simp;omega,l5,V,[],rfl,rfl⟩ ?_
 clear V g5 nW o5 w5 l5 e5;clear h5 M;rintro k fr X bg ⟨v,N,xs,rfl,hv,E,gw,bh,leq,aa,pre,aH,aJ⟩;by_cases c1:(v:Int)=(b:Int)
 .obtain rfl:v=b:=NH;have cc:decide ((v:Int)=(v:Int))=true:=by simp
  refine Sk (XC @bne.eq_1.{0} cc) ?_
  refine⟨(d.trans s).trans leq,_,_,rfl,gw.rl.one,fun _ _ _ _ _=>⟨⟨fun _=>U.1 NH,fun _=>rfl⟩,fun _=>⟨?_,fun b hb=>(d.trans s).none (aa b hb),pw⟩⟩⟩;have W:k=0:=by grind[ai.self]
  subst W;have e1:DO n es a v=aj2 (Zh n es) L k0 a:=by unfold DO;rw[<-eL,K4,q];rfl
  grind[aj2]
 have hk:0<k:=by
  rcases Nat.eq_zero_or_pos k with rfl|h
  all_goals grind[ai.zero]
 have cc:decide ((v:Int)=(b:Int))=false:=pw;have F:v<(Zh n es).length:=by grind[Xq]
 have aK:=c.NS v F;obtain⟨uv,aP,f⟩:=c.Wm v F;have t:(Zh n es).getD v []=(Zh n es)[v]:=D4 F;generalize (Zh n es)[v]=row at f t;have lr:=fun g=>f.DH g;have bj:row.length<=3000:=by have:=bV n es row (by rw[<-t,D4 F];grind);omega
 simp only[HO,seval,bne,cc,aK,aP X (s.trans leq),lr];refine aab.intro (fun m fr hh=>∃j:Nat,m=row.length-j/\j<=row.length/\fr=mkF [(2,.int .i64 b),(8,r),(10,D),(11,N),(12,.int .i64 v),(43,uv),(44,.int .i64 row.length),(45,.int .i64 j)]/\hh=X/\∀(i:Nat)(w:Nat),i<j->row[i]?=some (w:Int)->L[w]?≠some ((k:Int)-1))
  row.length [(2,.int .i64 b),(8,r),(10,D),(11,N),(12,.int .i64 v),(43,uv),(44,.int .i64 row.length),(45,.int .i64 (0:Nat))] hAs ⟨0,rfl,WA _,rfl,rfl,NH⟩ ?_
 rintro m fr hh aT ⟨j,rfl,hj,rfl,rfl,aV⟩;refine Uy ?_;refine Kl.intro (fun ht=>?_) (fun hf=>?_)
 rotate_left
 .have bk:row.length<=j:=vp hf;exfalso;obtain⟨w,aW,A⟩:=P.pre v k E NH;have hm:=(EW hR v w).2 aW;rw[t]at hm;obtain⟨i,hi⟩:=qy.1 hm;grind
 have H:j<row.length:=CC ht;clear ht;have O:=CA H;have ae:=f.TA j H;have ag:=(f.le Nn.RP (s.trans leq)).Uc j H;have aj:row[j]∈(Zh n es).getD v []:=pw;generalize row[j]=x at ag O aj;obtain⟨w,rfl,I⟩:=Ru hR aj;have A:=CA (show w<L.length by grind[ai.len]);generalize L[w]'(by grind)=lw at A
 have al:=K hh leq w lw I A;have aq:=K hh leq v k hv E;have ar:adA .i64 ((k:Int)-1)=(k:Int)-1:=ie _ NH NH;refine Sk (XC ae ag) ?_;refine gh (tA [0,1,2,3,4,5,6,7,8,9] .done) ?_;by_cases c2:lw=(k:Int)-1
 .have dd:decide (lw=(k:Int)-1)=true:=pw;obtain⟨av,h6,h7,e6,e7,g7,w7,l6,hf,bm⟩:=gw.push aT (w:Int) NH;obtain⟨l7,a7⟩:=hf o leq aa;refine CO (bG (p w I) al (p v hv) aq ar dd) ?_;refine Sk (XC e6 e7) ?_;refine tn (k-1) [(2,.int .i64 b),(8,r),(10,D),(11,av),(12,.int .i64 w)] NH hAs ⟨w,av,_,rfl,I,by rw[A,c2];congr 1;omega,g7,by simp;omega,l7,a7,pre++[(v:Int)],by rw[aH],?_⟩;rw[<-aJ,bC];congr 1;obtain⟨k,rfl⟩:∃k',k=k'+1:=⟨k-1,NH⟩;rw[aj2,t,find_at O (by rw[vg,af8,K4,K4,A,E];exact c2) (fun i y hi Q=>by
   have aX:y∈(Zh n es).getD v []:=by rw[t];exact BS Q
   obtain⟨z,rfl,hz⟩:=Ru hR aX;have a1:=CA (show z<L.length by rw[P.len];exact hz);have:=aV i z hi Q;rw[adJ,af8,K4,K4,E];intro e;rw[a1]at this e;exact this (by congr 1))]
  simp
 .have dd:decide (lw=(k:Int)-1)=false:=pw;refine CO (bG (p w I) al (p v hv) aq ar dd) ?_;refine Sk (Tw j NH) ?_;refine tn (row.length-(j+1)) [(2,.int .i64 b),(8,r),(10,D),(11,N),(12,.int .i64 v),(43,uv),(44,.int .i64 row.length),(45,.int .i64 (j+1:Nat))] NH hAs ⟨j+1,rfl,H,rfl,rfl,fun i y hi Q=>?_⟩;by_cases e:i=j
  .subst e;rw[O]at Q;injection Q with Q;obtain rfl:w=y:=NH;grind
  grind
end
end Go.Fw
