/- A text. -/
import Derived.Deep.Strs
import Derived.Test.YtigllaheamfhaaaGreatRows
import Derived.Shelf.SlLaysF0
import Derived.Shelf.SlSortCmp.NoneTotal
import Derived.Test.YtigllaheamfhaaaGreatFwBridge
import Derived.Test.YtigllaheamfhaaaGreatFwLB18
set_option linter.all false
set_option maxRecDepth 99999
set_option maxHeartbeats 9999999
open Go.Proofs
open Option renaming some→Z,none→Y
open Bool renaming true→tT,false→fF
open List renaming replicate→rP,range→rG
open Go.Value renaming slice→sL,pointer→pT
open Go renaming Value→vV
open Go.Proofs.Tryz renaming prog→pG
open Go.Proofs.Tryz
open List
namespace Go.Fw
variable {a b i n s u:Nat} {es:List Pr} {ls:List Lw} {o:II} {up:RZ} {x:Int}
def upI(x:Int):Option Nat:=if 0<=x then Z x.toNat else Y
def Yp(up:RZ)(v:Nat):Option Nat:=upI (up.getD v (-1))
theorem acm(u:Nat):upI (u:Int)=Z u:=by simp[upI]
theorem anX(h:upI x=Z u):x=(u:Int):=by grind[upI]
structure DI (es:xLP) (s:Nat) (o:II) (up:RZ):Prop where
 root:Yp up s=Y
 mem:∀v u,Yp up v=Z u->v∈o
 Kd:∀(k v:Nat),o[k]?=Z v->v=s\/∃j u,j<k/\o[j]?=Z u/\Yp up v=Z u/\Jp es u v
 open_:∀x∈o,¬Full es o x->∀l,o.getLast?=Z l->pJ (Yp up) x l
 anc:∀(j k a b:Nat),j<k->o[j]?=Z a->o[k]?=Z b->Jp es a b->pJ (Yp up) a b
theorem DI.idx(d:DI es s o up)(nd:o.Nodup)(h:pJ (Yp up) a b):∀(k:Nat),o[k]?=Z b->∃j:Nat,j<=k/\o[j]?=Z a:=by
 induction h<;>grind[DI.Kd,DI.root]
theorem pJ.mono{up d:Nat->Option Nat}(h:pJ up a b)(k:∀c u,up c=Z u->d c=Z u):pJ d a b:=by
 induction h with
 |refl=>exact .refl _
 |step h e f=>exact .step f (k _ _ e)
theorem du.di(N:InR n es)(d:du n es s o up):DI es s o up:=by
 induction d with
 |start=>
  have O:∀v,Yp (rP n (-1)) v=Y:=fun v=>by simp only[Yp,V3,List.getElem?_replicate];split<;>rfl
  refine⟨O s,hGr,fun k v h=>?_,fun x m _ l B=>?_,fun j k a b L h2 h3=>?_⟩
  .grind
  .simp at m B;subst m;subst B;exact .refl _
  grind
 |@step o up k v w d M ha hw X hf C=>
  have P:=(ha.lt N).2;have Q:up.length=n:=d.len.2;have F:=d.nodup
  have hu:∀x,Yp (up.set w (v:Int)) x=if x=w then Z v else Yp up x:=by grind[Yp,acm]
  have g:∀c u,Yp up c=Z u->Yp (up.set w (v:Int)) c=Z u:=by grind[DI.mem]
  have R:w≠s:=fun e=>by subst e;exact hw (BS d.head)
  have S:=(Ny.1 M).1;have G:o≠[]:=fun e=>by grind
  obtain⟨l,B⟩:∃l,o.getLast?=Z l:=⟨_,List.getLast?_eq_some_getLast G⟩;have H:=C.open_ v (BS M) (fun f=>hw (f w ha)) l B;have p:∀x∈o,¬Full es o x->pJ (Yp up) x v:=fun x m z=>by
   have I:=C.open_ x m z l B;rcases I.chain H with h|h
   .exact h
   .obtain⟨i,hi⟩:=vZ.1 m;have⟨j,T,U⟩:=C.idx F h i hi;grind[List.getElem?_inj]
  refine⟨by grind[DI.root],fun x u h=>?_,fun i x m=>?_,fun x m z l' r=>?_,fun i j a b J hi t D=>?_⟩
  .grind[DI.mem]
  .rcases ur i o.length with q|q
   .rw[si q]at m;rcases C.Kd i x m with h|⟨j,u,L,h2,h3,V⟩
    .exact .inl h
    .exact .inr ⟨j,u,L,hGr,g _ _ h3,V⟩
   .rw[AE q]at m;have:=(Ny.1 m).1;simp at this;have K:i-o.length=0:=NH;rw[K]at m;simp at m;subst m;exact .inr ⟨k,v,NH,hGr,hGr,ha⟩
  .rw[List.getLast?_concat]at r;injection r with r;subst r;rw[aax,xD]at m;rcases m with m|rfl
   .have E:¬Full es o x:=fun f=>z fun y W=>bC _ (f y W);exact((p x m E).mono g).step hGr
   .exact .refl _
  .have q:i<o.length:=by
    have:=(Ny.1 t).1;grind
   rw[si q]at hi;rcases ur j o.length with A|A
   .rw[si A]at t;exact(C.anc i j a b J hi t D).mono g
   .rw[AE A]at t;have:=(Ny.1 t).1;simp at this;have K:j-o.length=0:=NH;rw[K]at t;simp at t;subst t;exact((p a (BS hi) fun f=>hw (f w D)).mono g).step hGr
def upL(ls:List Lw)(v:Nat):Option Nat:=upI (Ro ls v).2.1
structure FoI (es:xLP) (ls:List Lw) (o:II):Prop where
 num:∀(k v:Nat),o[k]?=Z v->(Ro ls v).1=((k+1:Nat):Int)/\(Ro ls v).2.2=((k+1:Nat):Int)
 up:∀(k v:Nat),o[k]?=Z v->(Ro ls v).2.1=-1\/∃j u:Nat,j<k/\o[j]?=Z u/\(Ro ls v).2.1=(u:Int)/\Jp es u v
 anc:∀(j k a b:Nat),j<k->o[j]?=Z a->o[k]?=Z b->Jp es a b->pJ (upL ls) a b
theorem JK{n:Nat}{up:RZ}:∀(l:II){ls:List Lw}{o:II},ls.length=n->l.Nodup->(∀v∈l,v<n)->
  (∀(k v:Nat),l[k]?=Z v->Ro (acA up l (ls,o)).1 v=(((o.length+k+1:Nat):Int),up.getD v 0,((o.length+k+1:Nat):Int)))/\∀v,v∉l->Ro (acA up l (ls,o)).1 v=Ro ls v
 |[],ls,o,_,_,_=>⟨hGr,fun v _=>rfl⟩
 |x::r,ls,o,c,b,a=>by
  rw[VU]at b;obtain⟨f,g⟩:=JK r (ls:=ls.set x (((o.length+1:Nat):Int),up.getD x 0,((o.length+1:Nat):Int))) (o:=o++[x]) (by simp[c]) b.2 fun v d=>a v (by simp[d]);refine⟨fun k v e=>?_,fun v d=>?_⟩
  .cases k with
   |zero=>simp at e;subst e;rw[acA,g x b.1,Uw,abe ⟨rfl,by rw[c];exact a x Ma⟩]
   |succ k=>rw[acA,f k v hGr];grind[length_singleton]
  grind[acA.eq_2,Uw]
theorem FoI.xG{ls d:List Lw}(F:FoI es ls o)(hs:∀v∈o,Ro d v=Ro ls v)(h:pJ (upL ls) a b):b∈o->pJ (upL d) a b:=by
 induction h with
 |refl=>exact fun _=>.refl _
 |@step b c h e g=>
  intro i;have⟨k,l⟩:=vZ.1 i;have e':upL d c=Z b:=by grind[upL]
  rcases F.up k c l with f|⟨j,u,f,h2,h3,_⟩
  .unfold upL at e;rw[f]at e;cases e
  .unfold upL at e;rw[h3,acm]at e;injection e with e;subst e;exact(g (BS h2)).step e'
theorem du.upm(d:du n es s o up):∀v,-1<=up.getD v (-1):=by
 induction d with
 |start=>grind
 |step d _ _ _ _ _ a=>intro v;have:=a v;grind
theorem fromA_F(q:InR n es)(I:cV n es ls o)(F:FoI es ls o)(hi:i<n):FoI es (jl n es i (ls,o)).1 (jl n es i (ls,o)).2:=by
 unfold jl;split
 .rename_i z;have⟨t,A⟩:=TY q I hi z;have D:=Te q hi;have⟨_,B⟩:=Rx (D.KP.upR q hi) (K9 n es i).1 I.toLowI t A;have C:=D.KP.len.2;have di:=D.KP.di q;have⟨w,K⟩:=JK (up:=(K9 n es i).2) (K9 n es i).1 (ls:=ls) (o:=o) I.len t hGr;have x:∀v∈o,Ro (acA (K9 n es i).2 (K9 n es i).1 (ls,o)).1 v=Ro ls v:=hGr;rw[B];generalize (acA (K9 n es i).2 (K9 n es i).1 (ls,o)).1=l at*;generalize (K9 n es i).1=P at*;generalize (K9 n es i).2=up at*;have m:∀v∈P,up.getD v 0=up.getD v (-1):=hGr;have p:∀{a b:Nat},pJ (Yp up) a b->b∈P->pJ (upL l) a b:=by
   intro a b h
   induction h with
   |refl=>exact fun _=>.refl _
   |@step b c h e E=>
    intro y;have⟨k,d⟩:=vZ.1 y;have e':upL l c=Z b:=by unfold upL;rw[w k c d];rw[m c y];exact e
    rcases di.Kd k c d with g|⟨j,u,g,h2,h3,_⟩
    .grind[DI.root]
    .rw[h3]at e;injection e with e;subst e;exact(E (BS h2)).step e'
  refine⟨fun k v d=>?_,fun k v d=>?_,fun j k a b G r d s=>?_⟩
  .rcases ur k o.length with h|h
   .grind[FoI.num]
   grind
  .rcases ur k o.length with h|h
   .rw[si h]at d;rw[x v (BS d)];rcases F.up k v d with g|⟨j,u,g,h2,h3⟩
    .exact .inl g
    .exact .inr ⟨j,u,g,hGr,h3⟩
   .rw[AE h]at d;rw[w _ v d];simp only;have H:=BS d;rw[m v H];rcases di.Kd _ v d with g|⟨j,u,g,h2,h3,J⟩
    .subst g;have f:=di.root;unfold Yp upI at f;split at f
     .cases f
     .have:=D.KP.upm v;omega
    .exact .inr ⟨o.length+j,u,NH,by rw[AE NH];simpa using h2,anX h3,J⟩
  .rcases ur k o.length with h|h
   .rw[si h]at d;rw[si NH]at r;exact F.xG x (by grind[FoI.anc]) (BS d)
   .rw[AE h]at d;rcases ur j o.length with h'|h'
    .grind[cV.cl]
    .rw[AE h']at r;exact p (di.anc _ _ a b NH r d s) (BS d)
 .exact F
theorem PG{n:Nat}{es:xLP}(a:InR n es):∀i,i<=n->FoI es (aba n es i).1 (aba n es i).2
 |0,_=>⟨by grind[aba],(by grind[aba]),(by grind[aba])⟩
 |i+1,hi=>fromA_F a (by grind[ZC]) (PG a i NH) NH
def Vu(ls:List Lw)(v:Nat):Nat:=(Ro ls v).1.toNat
theorem metM_fo(d:InR n es):Fo n es (Vu (aba n es n).1) (upL (aba n es n).1):=by
 have F:=PG d n (qL0 _);have⟨C,i⟩:=ZC d n (qL0 _);have ex:∀v,v<n->∃k,(aba n es n).2[k]?=Z v/\Vu (aba n es n).1 v=k+1:=fun v f=>by grind[mem_iff_getElem?,Vu,FoI.num]
 refine⟨d,fun u v o f e=>?_,fun v u f e=>?_,fun a b c h=>?_⟩
 .grind
 .obtain⟨k,g,h2⟩:=ex v f;unfold upL at e;rcases F.up k v g with h|⟨j,w,h3,l,m,p⟩
  .rw[h]at e;cases e
  .rw[m,acm]at e;grind[Vu,FoI.num]
 .obtain⟨k,g,h2⟩:=ex a (c.lt d).1;have⟨j,h3,l⟩:=ex b (c.lt d).2;exact F.anc k j a b NH g h3 c
variable {D:Nat->Nat->Prop} {c v x y:Nat} {es':List Pr} {num:Nat->Nat} {up:Nat->Option Nat}
theorem aj0{x:Int}:upI x=Z u↔x=(u:Int):=by grind[anX,acm]
theorem Iw.congr(L:Iw es num up D v x)(h:∀u w,D v u->(Nt es' up u w↔Nt es up u w)):Iw es' num up D v x:=⟨L.self,fun u w d k=>L.back u w d ((h u w d).1 k),(by grind[Iw.some_])⟩
theorem Iw.add(L:Iw es num up (fun a b=>a=b) v x)(h:∀w,Nt es' up v w↔Nt es up v w\/w=c):Iw es' num up (fun a b=>a=b) v (min x (num c)):=by
 refine⟨by grind[Iw.self],?_,?_⟩
 all_goals grind[Iw.back,Iw.some_]
theorem Iw.join(a:InR n es){D b f:Nat->Nat->Prop}(L:Iw es num up b v x)(M:Iw es num up f c y)(g:num v<=num c)(h:∀u,u<n->(D v u↔b v u\/f c u)):Iw es num up D v (min x y):=by
 refine⟨by grind[Iw.self],?_,?_⟩
 .intro u w d k;rcases(h u (k.1.lt a).1).1 d with d|d
  .grind[Iw.back]
  .have:=M.back u w d k;omega
 .by_cases q:x<=y
  .rw[alN q];exact L.some_.imp id fun⟨u,w,d,k,e⟩=>⟨u,w,(h u (k.1.lt a).1).2 (.inl d),k,e⟩
  .rw[Nat.min_eq_right NH];rcases M.some_ with e|⟨u,w,d,k,e⟩
   .have:=L.self;omega
   .exact .inr ⟨u,w,(h u (k.1.lt a).1).2 (.inr d),k,e⟩
structure Same (n:Nat) (num:Nat->Nat) (up:Nat->Option Nat) (ls:List Lw):Prop where
 len:ls.length=n
 fO:∀v,v<n->(Ro ls v).1=(num v:Int)
 ups:∀v,v<n->upI (Ro ls v).2.1=up v
structure jF (n:Nat) (es:xLP) (num:Nat->Nat) (up:Nat->Option Nat) (D:Nat->Nat->Prop) (ls:List Lw):Prop extends Same n num up ls where
 low:∀v,v<n->∃x:Nat,(Ro ls v).2.2=(x:Int)/\Iw es num up D v x
theorem vz:Jp (es++[((a:Int),(c:Int))]) x y↔Jp es x y\/isE a c x y:=by grind[Jp,isE]
theorem edgeB_S(e:a<n)(f:c<n)(l:a≠c)(S:jF n es num up (fun a b=>a=b) ls):
  jF n (es++[((a:Int),(c:Int))]) num up (fun a b=>a=b) (bS ls ((a:Int),(c:Int))):=by
 have B:∀x y:Nat,x<n->((Ro ls x).2.1=(y:Int)↔up x=Z y):=fun x y C=>by rw[<-S.ups x C,aj0]
 have D:Same n num up (bS ls ((a:Int),(c:Int))):=⟨by rw[acj];exact S.len,fun v g=>by rw[(ab7 ls _ v).1];exact S.fO v g,fun v g=>by rw[(ab7 ls _ v).2];exact S.ups v g⟩;refine⟨D,fun v g=>?_⟩;by_cases t:up a=Z c\/up c=Z a
 .have m:bS ls ((a:Int),(c:Int))=ls:=by grind[bS,Int.toNat_natCast]
  rw[m];have⟨x,z,h2⟩:=S.low v g;refine⟨x,z,h2.congr fun u w _=>?_⟩;simp only[Nt,vz];constructor
  .rintro⟨h|h,k1,k2⟩
   .grind
   .rcases h with⟨rfl,rfl⟩|⟨rfl,rfl⟩<;>rcases t with t|t<;>first|exact absurd t k1|grind
  grind
 .have o:∀u w,Nt (es++[((a:Int),(c:Int))]) up u w↔Nt es up u w\/isE a c u w:=fun u w=>by
   simp only[Nt,vz];constructor
   .grind
   .rintro(⟨h,k⟩|h)
    .grind
    .refine⟨.inr h,?_⟩;rcases h with⟨rfl,rfl⟩|⟨rfl,rfl⟩
     all_goals grind
  have⟨x,z,h2⟩:=S.low v g;have⟨xa,p,q⟩:=S.low a e;have⟨A,r,s⟩:=S.low c f
  have m:(Ro (bS ls ((a:Int),(c:Int))) v).2.2=if v=c then min (A:Int) (num a:Int)else if v=a then min (xa:Int) (num c:Int)else(x:Int):=by
   simp only[bS,yM];rw[abE hGr];simp only[Uw,Q9,S.len,e,f,and_true];by_cases i:v=c
   .subst i;simp[l,r,S.fO a e]
   .rw[abE (EH i),abE i];by_cases j:v=a
    .subst j;simp[p,S.fO c f]
    grind
  rw[m];by_cases i:v=c
  .subst i;refine⟨min A (num a),NH,s.add fun w=>?_⟩;rw[o];constructor
   .rintro(h|⟨h,_⟩|⟨_,h⟩)
    all_goals grind
   .rintro(h|rfl)
    .exact .inl h
    .exact .inr (.inr ⟨rfl,rfl⟩)
  .rw[abE i];by_cases j:v=a
   .subst j;refine⟨min xa (num c),NH,q.add fun w=>?_⟩;rw[o];constructor
    .rintro(h|⟨_,h⟩|⟨h,_⟩)
     all_goals grind
    .rintro(h|rfl)
     .exact .inl h
     .exact .inr (.inl ⟨rfl,rfl⟩)
   .rw[abE j];refine⟨x,rfl,h2.congr fun u w d=>?_⟩;rw[o];constructor
    .rintro(h|⟨h,_⟩|⟨h,_⟩)
     all_goals grind
    .exact .inl
theorem aj1{n:Nat}{num:Nat->Nat}{up:Nat->Option Nat}:∀(rest es:xLP)(ls:List Lw),InR n rest->jF n es num up (fun a b=>a=b) ls->jF n (es++rest) num up (fun a b=>a=b) (rest.foldl bS ls)
 |[],es,ls,_,S=>by simpa using S
 |(a,c)::rest,es,ls,d,S=>by have e:=d (a,c) Ma;obtain⟨a,rfl⟩:=WA e.1;obtain⟨c,rfl⟩:=WA (show 0<=c by omega);have:=aj1 rest (es++[((a:Int),(c:Int))]) _ (fun q f=>d q (by simp[f])) (edgeB_S NH NH NH S);grind
def DT_(up:Nat->Option Nat)(T:II)(v u:Nat):Prop:=u=v\/∃c∈T,up c=Z v/\pJ up c u
theorem ups_S{n:Nat}{es:xLP}{num:Nat->Nat}{up:Nat->Option Nat}(F:Fo n es num up){ls:List Lw}:∀(T pre:II),(∀v,v<n->v∈pre++T)->(pre++T).Pairwise (fun a b=>num a<num b)->(∀v∈pre++T,v<n)->
  jF n es num up (fun a b=>a=b) ls->jF n es num up (DT_ up T) (T.foldr (fun x y=>Ke y x) ls)
 |[],pre,_,_,_,S=>by
  refine⟨S.toSame,fun v i=>?_⟩;have⟨x,E,h2⟩:=S.low v i;refine⟨x,E,h2.self,fun u w d=>?_,?_⟩
  .rcases d with rfl|⟨c,I,_⟩
   .exact h2.back _ w rfl
   .simp at I
  .exact h2.some_.imp id fun⟨u,w,d,k,e⟩=>⟨u,w,.inl d.symm,k,e⟩
 |c::T,pre,G,R,o,J=>by
  have S:=ups_S F T (pre++[c]) hGr hGr hGr J;rw[foldr_cons];generalize T.foldr (fun x y=>Ke y x) ls=l1 at*;have f:c<n:=o c Ma;have K:Same n num up (Ke l1 c):=⟨by rw[bq];exact S.len,fun v i=>by rw[(tU l1 _ v).1];exact S.fO v i,fun v i=>by rw[(tU l1 _ v).2];exact S.ups v i⟩;refine⟨K,fun v i=>?_⟩;have⟨x,E,h2⟩:=S.low v i;have r:∀d,up d=Z c->d<n->d∈T:=fun d hd s=>by have H:=(F.Kd d c s hd).2;grind
  have l:up c≠Z v->Iw es num up (DT_ up (c::T)) v x:=fun L=>by
   refine⟨h2.self,fun u w d=>h2.back u w ?_,h2.some_.imp id fun⟨u,w,d,k⟩=>⟨u,w,?_,k⟩⟩
   .rcases d with rfl|⟨d,hd,j,g⟩
    .exact .inl rfl
    .rw[Og]at hd;rcases hd with rfl|hd
     .grind
     .exact .inr hGr
   .exact d.imp id (by grind[mem_cons_of_mem])
  cases m:up c with
  |none=>
   have:Ke l1 c=l1:=by have:=S.ups c f;grind[upI,Ke]
   grind
  |some p=>
   have t:=F.Kd c p f m;have A:=(t.1.lt F.rD).1;have⟨y,M,B⟩:=S.low c f;have⟨z,N,C⟩:=S.low p A;have D:(Ro l1 c).2.1=(p:Int):=aj0.1 ((S.ups c f).trans m)
   have O:(Ro (Ke l1 c) v).2.2=if v=p then min (z:Int) (y:Int)else(x:Int):=by simp only[Ke,D];rw[abe NH,yM,Uw,S.len];grind
   rw[O];by_cases e:v=p
   .subst e;refine⟨min z y,NH,C.join F.rD B NH fun u U=>?_⟩;constructor
    .rintro(rfl|⟨d,hd,j,g⟩)
     .exact .inl (.inl rfl)
     .rw[Og]at hd;rcases hd with rfl|hd
      .by_cases q:d=u
       .subst q;exact .inr (.inl rfl)
       .obtain⟨k,P,Q⟩:=g.child q;exact .inr (.inr (by grind[Fo.yO]))
      .exact .inl (.inr hGr)
    .rintro(h|h)
     .exact h.imp id (by grind[mem_cons_of_mem])
     .rcases h with rfl|⟨d,hd,j,g⟩
      .exact .inr ⟨u,Ma,m,.refl _⟩
      .exact .inr ⟨c,Ma,m,(pJ.one j).trans g⟩
   grind
structure aay (n:Nat) (es:xLP) (ls:List Lw) (o:II) (num:Nat->Nat) (up:Nat->Option Nat):Prop extends jF n es num up (pJ up) ls where
 fo:Fo n es num up
 ord:∀(k v:Nat),o[k]?=Z v->num v=k+1
 mem:∀v,v∈o↔v<n
 nd:o.Nodup
 Em:o.length=n
 upr:∀v,v<n->-1<=(Ro ls v).2.1/\(Ro ls v).2.1<(n:Int)
theorem DT_all(F:Fo n es num up){T:II}(b:∀v,v<n->v∈T)(d:u<n):DT_ up T v u↔pJ up v u:=by
 constructor
 .rintro(rfl|⟨c,_,a,h2⟩)
  .exact .refl _
  .exact(pJ.one a).trans h2
 .intro h;by_cases e:v=u
  .exact .inl e.symm
  .obtain⟨c,a,h2⟩:=h.child e;exact .inr (by grind[Fo.yO])
theorem Iw.congrD(a:InR n es){D D':Nat->Nat->Prop}{v x:Nat}(L:Iw es num up D v x)(h:∀u,u<n->(D' v u↔D v u)):Iw es num up D' v x:=⟨L.self,fun u w d k=>L.back u w ((h u (k.1.lt a).1).1 d) k,L.some_.imp id fun⟨u,w,d,k,e⟩=>⟨u,w,(h u (k.1.lt a).1).2 d,k,e⟩⟩
theorem Ob(o:InR n es):∃num up,aay n es (Jz n es).1 (Jz n es).2 num up:=by
 have⟨C,c⟩:=ZC o n (qL0 _);have F:=PG o n (qL0 _);have fo:=metM_fo o;have l:∀v,v∈(aba n es n).2↔v<n:=fun v=>⟨C.lt v,c v⟩;have d:∀(k v:Nat),(aba n es n).2[k]?=Z v->Vu (aba n es n).1 v=k+1:=fun k v h=>by grind[Vu,FoI.num]
 have r:jF n [] (Vu (aba n es n).1) (upL (aba n es n).1) (fun a b=>a=b) (aba n es n).1:=by
  refine⟨⟨C.len,fun v f=>?_,fun v f=>rfl⟩,fun v f=>?_⟩
  .grind[mem_iff_getElem?,FoI.num]
  .obtain⟨k,p⟩:=vZ.1 (c v f);refine⟨k+1,by grind[FoI.num],⟨hGr,fun u w _ h=>?_,.inl (d k v p).symm⟩⟩;rcases h.1 with h|h<;>simp at h
 have q:=aj1 es [] _ o r;rw[Cj]at q;have g:((aba n es n).2).Pairwise fun a b=>Vu (aba n es n).1 a<Vu (aba n es n).1 b:=by rw[Lm];intro i j hi s t;rw[d i _ (qL7 hi),d j _ (qL7 s)];omega
 have z:=ups_S fo (aba n es n).2 [] c g C.lt q;have m:(Jz n es).1=(aba n es n).2.foldr (fun x y=>Ke y x) (es.foldl bS (aba n es n).1):=by grind[Jz.eq_1]
 refine⟨Vu (aba n es n).1,upL (aba n es n).1,⟨⟨?_,fun v f=>?_⟩,fo,d,l,C.nd,?_,fun v f=>?_⟩⟩
 .grind[jF.toSame]
 .grind[jF.low,Iw.congrD,DT_all]
 .have A:=C.toLowI.Em;have h2:=(uV (n:=n)).length_le_of_subset (l₂:=(aba n es n).2) hGr;simp at h2;show(aba n es n).2.length=n;omega
 .rw[m];have⟨k,p⟩:=vZ.1 (c v f);have e:(Ro ((aba n es n).2.foldr (fun x y=>Ke y x) (es.foldl bS (aba n es n).1)) v).2.1=(Ro (aba n es n).1 v).2.1:=by grind[Jz.eq_1,ack,RK]
  rw[e];refine⟨?_,C.up v f⟩;grind[FoI.up]
variable {h:aai} {xs ys:RZ}
theorem GI.join{v x:vV}(g:GI h v xs)(c:WF h)(d:RL RP h x ys)(i:xs.length+ys.length<=1000000000):
  ∃v' a,aaR pG h 47 47 v x=Z (v',a)/\GI a v' (xs++ys)/\WF a/\
   (∀f,Le f h->Z2 f v->Le f a/\Z2 f v')/\(∀b o,h.own b=Z o->blk v≠Z b->a.own b=Z o/\blk v'≠Z b):=by
 have j:CS 1 h x ys.length (Bp ys):=by have:=RS.cs d.cellsI;grind[Bp]
 have⟨v',a,m,n,hf⟩:=GS.append (P:=pG) (t:=47) (xt:=47) (k:=1) Ji g (fun e l=>CS.src l j) (yG _) (yG _) (by simp[Bp]) i;grind[xr,aG,Bp,GI.eq_1]
section
attribute [local irreducible] Kp MQ lU KO1 KO KN KX KE VK Kl ZJ TC aab
variable {j:Nat} {x:Int}
def mk2I(h:aai)(x y:Int):aas pG h 47 2 [(0,x),(1,y)]=Z (sL (Z h.next) 2 2,h.alloc (.cells [x,y])):=rfl
def agl(rows:AM)(L:RZ):Nat->Nat->RZ
  |0,v=>[(v:Int)]
  |k+1,v=>(v:Int)::match(rows.getD v []).find? (fun w=>decide (L.getD w.toNat 0=L.getD v 0-1))with
    |some w=>agl rows L k w.toNat
    |none=>[]
def DO(n:Nat)(es:xLP)(a b:Nat):RZ:=agl (Zh n es) (NY (Zh n es) n b) ((NY (Zh n es) n b).getD a 0).toNat a
theorem find_at{p:Int->Bool}{l:RZ}(b:l[j]?=Z x)(c:p x=tT)(a:∀(i:Nat) y,i<j->l[i]?=Z y->p y=fF):l.find? p=Z x:=by grind[List.find?_eq_some_iff_getElem]
theorem Path_fun(W0:abw)(v:vV)(G:GM)(a b:Int)(h:aai)(hg:GR h v G):
  AC pG W0 84 [v,a,.int .i64 b] h fun x h'=>Le h h'/\∃r e,x=.tuple #[r,.int .i64 e]/\r.oneCell'=tT/\
   (bX G->0<=a->a<G.n->0<=b->b<G.n->(e=0↔Pu G.es b.toNat a.toNat)/\(e=0->GI h' r (DO G.n.toNat G.es a.toNat b.toNat)/\Z2 h r/\Far G.n.toNat G.es b.toNat (NY (Zh G.n.toNat G.es) G.n.toNat b.toNat))):=by
 have av:=hg;have⟨gn,es⟩:=G
 obtain⟨ev,rfl,hp⟩:=hg.open
 refine AC.vF func84 ntmps84 results84 fun ay=>?_;obtain⟨h1,b1,R,az,-,lA⟩:=r8 (n:=gn) ay hp
 generalize h.next=B at*
 have aA:=lA h1 (Le.refl _);have⟨h2,e2,l2,w2,o2⟩:=Tt az [a,.int .i64 b]
 have rs:RL RP h2 (sL (Z ⟨h1.next,0,Y⟩) 2 2) [a,b]:=RL.Wh (RS.whole o2 rfl)
 refine Sk (xU b1 aA.1 @mk2I e2) ?_
 generalize vV.slice (Z ⟨h1.next,0,Y⟩) 2 2=sv at*
 refine kCi func70 (N7 W0 _ sv ⟨gn,es⟩ [a,b] h2 (av.le (R.trans l2)) rs Ma) ?_;rintro x h3 aX ⟨aB,r,e,rfl,hc⟩;have d:=(R.trans l2).trans aB;rcases hc with⟨aC,rfl,rfl⟩|⟨J,a6,rfl,rfl⟩|⟨J,hs,rfl,c⟩
 .refine Sk (XC @bne.eq_1.{0} @d20) ?_
  exact⟨d,_,_,rfl,rfl,fun J=>absurd J aC⟩
 .refine Sk (XC @bne.eq_1.{0} @d2) ?_
  exact⟨d,_,_,rfl,rfl,fun _ h1 h2 h3 o=>by grind⟩
 have h0:0<=gn:=J.n0;obtain⟨n,rfl⟩:=WA h0;have aV:(n:Int)<=200:=J.n1;have aW:es.length<=594:=J.len;have hR:=J.GD;have ha:=hs a Ma;have hb:=hs b Ma;simp only at ha hb;obtain⟨a,rfl⟩:=WA ha.1;obtain⟨b,rfl⟩:=WA hb.1;have C:a<n:=NH;have aD:b<n:=NH;clear hs ha hb;simp only[yM]at c ⊢;refine Sk @bne.eq_1.{0} ?_
 refine kCi func107 (away_fun W0 r n b es h3 c hR NH NH aD) ?_;rintro D o S ⟨L,hL,P,s,eL⟩;have p:∀u,u<n->aao pG 47 D (.int .i64 u)=Z (pT (Z (aaq D u))):=fun u hu=>hL.DH u (by rw[P.len];exact hu);have K:∀g,Le o g->∀u l,u<n->L[u]?=Z l->aaC pG g 3 (aaq D u)=Z (.int .i64 l):=fun g lg u l hu hl=>by have:=(hL.le Nn.RP lg).Uc u (by rw[P.len];exact hu);grind
 have q:=CA (show a<L.length by grind[Far.len]);generalize L[a]'(by grind)=la at q
 have T:=K o (Le.refl _) a la C q;have U:=P.pos a la q;by_cases c0:la<0
 .refine Sk (Yb (p a C) T c0) ?_;exact⟨d.trans s,_,_,rfl,rfl,fun _ _ _ _ _=>⟨⟨(fun h=>by cases h),fun h=>by grind⟩,fun h=>by cases h⟩⟩
 obtain⟨k0,rfl⟩:=WA (show 0<=la by omega);have⟨h5,e5,l5,w5,o5⟩:=Tt S [a];refine Sk (IX (p a C) T c0 @DQ e5) ?_
 have nW:o.own o.next=Y:=(Le.refl o).next S (qL0 _)
 have g5:GI h5 (sL (Z ⟨o.next,0,Y⟩) 1 1) [(a:Int)]:=GS.full o5 rfl (show 1<1000000000000 by decide)
 have V:Z2 o (sL (Z ⟨o.next,0,Y⟩) 1 1):=fun b hb=>by grind[blk]
 generalize vV.slice (Z ⟨o.next,0,Y⟩) 1 1=M at*
 have W:=(P.bd a _ q).2;refine aab.intro (fun k fr X=>∃(v:Nat)(N:vV)(xs:RZ),fr=mkF [(2,.int .i64 b),(8,r),(10,D),(11,N),(12,v)]/\v<n/\L[v]?=Z (k:Int)/\GI X N xs/\xs.length+k<=300/\Le o X/\Z2 o N/\∃pre,xs=pre++[(v:Int)]/\pre++agl (Zh n es) L k v=agl (Zh n es) L k0 a)
  k0 [(2,.int .i64 b),(8,r),(10,D),(11,M),(12,a)] hAs ⟨a,M,[(a:Int)],rfl,C,q,g5,by simp;omega,l5,V,[],rfl,rfl⟩ ?_
 clear V g5 nW o5 w5 l5 e5;clear h5 M;rintro k fr X a8 ⟨v,N,xs,rfl,hv,E,gw,ba,leq,aa,pre,aE,aF⟩;by_cases c1:(v:Int)=(b:Int)
 .obtain rfl:v=b:=NH;have cc:decide ((v:Int)=(v:Int))=tT:=by simp
  refine Sk (XC @bne.eq_1.{0} cc) ?_
  refine⟨(d.trans s).trans leq,_,_,rfl,gw.rl.one,fun _ _ _ _ _=>⟨⟨fun _=>U.1 NH,fun _=>rfl⟩,fun _=>⟨?_,fun b hb=>(d.trans s).none (aa b hb),hGr⟩⟩⟩;have W:k=0:=by grind[Far.self]
  subst W;have e1:DO n es a v=agl (Zh n es) L k0 a:=by unfold DO;rw[<-eL,V3,q];rfl
  grind[agl]
 have hk:0<k:=by
  rcases Nat.eq_zero_or_pos k with rfl|h
  all_goals grind[Far.zero]
 have cc:decide ((v:Int)=(b:Int))=fF:=hGr;have F:v<(Zh n es).length:=by grind[Xq]
 have aH:=c.NS v F;have⟨uv,aJ,f⟩:=c.Wm v F;have t:(Zh n es).getD v []=(Zh n es)[v]:=D4 F;generalize (Zh n es)[v]=row at f t;have lr:=fun g=>f.TA g;have bb:row.length<=3000:=by have:=bV n es row (by rw[<-t,D4 F];grind);omega
 simp only[HO,seval,bne,cc,aH,aJ X (s.trans leq),lr];refine aab.intro (fun m fr hh=>∃j:Nat,m=row.length-j/\j<=row.length/\fr=mkF [(2,.int .i64 b),(8,r),(10,D),(11,N),(12,v),(43,uv),(44,row.length),(45,j)]/\hh=X/\∀(i:Nat)(w:Nat),i<j->row[i]?=Z (w:Int)->L[w]?≠Z ((k:Int)-1))
  row.length [(2,.int .i64 b),(8,r),(10,D),(11,N),(12,v),(43,uv),(44,row.length),(45,(0:Nat))] hAs ⟨0,rfl,Z6 _,rfl,rfl,NH⟩ ?_
 rintro m fr hh aK ⟨j,rfl,hj,rfl,rfl,aL⟩;refine Uy ?_;refine Kl.intro (fun ht=>?_) (fun hf=>?_)
 rotate_left
 .have bg:row.length<=j:=vp hf;exfalso;have⟨w,aN,A⟩:=P.pre v k E NH;have hm:=(EW hR v w).2 aN;rw[t]at hm;have⟨i,hi⟩:=vZ.1 hm;grind
 have H:j<row.length:=acb ht;clear ht;have O:=CA H;have ae:=f.DH j H;have ag:=(f.le Nn.RP (s.trans leq)).Uc j H;have ai:row[j]∈(Zh n es).getD v []:=hGr;generalize row[j]=x at ag O ai;obtain⟨w,rfl,I⟩:=Ru hR ai;have A:=CA (show w<L.length by grind[Far.len]);generalize L[w]'(by grind)=lw at A
 have aj:=K hh leq w lw I A;have al:=K hh leq v k hv E;have aq:aaY .i64 ((k:Int)-1)=(k:Int)-1:=ie _ NH NH;refine Sk (XC ae ag) ?_;refine gh (fRn 0 10 .done) ?_;by_cases c2:lw=(k:Int)-1
 .have dd:decide (lw=(k:Int)-1)=tT:=hGr;have⟨ar,h6,h7,e6,e7,g7,w7,l6,hf,bh⟩:=gw.push aK (w:Int) NH;have⟨l7,a7⟩:=hf o leq aa;refine CO (bG (p w I) aj (p v hv) al aq dd) ?_;refine Sk (XC e6 e7) ?_;refine tn (k-1) [(2,.int .i64 b),(8,r),(10,D),(11,ar),(12,w)] NH hAs ⟨w,ar,_,rfl,I,by rw[A,c2];congr 1;omega,g7,by simp;omega,l7,a7,pre++[(v:Int)],by rw[aE],?_⟩;rw[<-aF,Cg];congr 1;obtain⟨k,rfl⟩:∃k',k=k'+1:=⟨k-1,NH⟩;rw[agl,t,find_at O (by rw[vg,yM,V3,V3,A,E];exact c2) (fun i y hi Q=>by
   have aP:y∈(Zh n es).getD v []:=by rw[t];exact BS Q
   obtain⟨z,rfl,hz⟩:=Ru hR aP;have aT:=CA (show z<L.length by rw[P.len];exact hz);have:=aL i z hi Q;rw[ah9,yM,V3,V3,E];intro e;rw[aT]at this e;exact this (by congr 1))]
  simp
 .have dd:decide (lw=(k:Int)-1)=fF:=hGr;refine CO (bG (p w I) aj (p v hv) al aq dd) ?_;refine Sk (aaa j NH) ?_;refine tn (row.length-(j+1)) [(2,.int .i64 b),(8,r),(10,D),(11,N),(12,v),(43,uv),(44,row.length),(45,(j+1:Nat))] NH hAs ⟨j+1,rfl,H,rfl,rfl,fun i y hi Q=>?_⟩;by_cases e:i=j
  .subst e;rw[O]at Q;injection Q with Q;obtain rfl:w=y:=NH;grind
  grind
open Go.Proofs Go.ChangeShapes Go.WideShapes Go.RowKit Go.ChangeAt
open Go.Proofs.YtigllaheamfhaaaGreat
section
variable{H:Type}{enc:TypeId×vV->H}{W:World}
theorem vI:∀(n:Nat)(C:xLV),C.length=n*2->(∀i,i<n->∃a b,(C.drop (i*2)).take 2=[.int .i64 a,.int .i64 b])->∃ps:xLP,ps.length=n/\C=Iu ps
 |0,C,c,_=>⟨[],rfl,Bn NH⟩
 |n+1,C,c,h=>by
  have⟨a,b,e⟩:=h 0 NH;have⟨ps,d,h2⟩:=vI n (C.drop 2) (by simp;omega) fun i hi=>by grind[drop_drop]
  refine⟨(a,b)::ps,by simp[d],?_⟩;have:C=C.take 2++C.drop 2:=(qL89 2 C).symm;rw[this,h2];simp only[Nat.zero_mul,agm]at e;rw[e];rfl
theorem anY{fuel:Nat}{cs:xLV}{x:DataW H×List MemPlace}(h:DataW.trod enc pG W 0 (fun _=>tT) tT fuel 22 cs=Z x):∃v' v ps,cs=[v']/\tag v'=Z v/\PR (MR W) v ps:=by have⟨v',v,n,C,a,h2,h3,b⟩:=rd_sliceK AV Ji NH (rd_pair qS7 Ac Ji Ji) _ _ _ h;obtain⟨ps,c,rfl⟩:=vI n C h3.len b;exact⟨v',v,ps,a,h2,by grind[PR.eq_1]⟩
def aon{v:vV}{d:DataW H}{ps:List MemPlace}{b0:Nat}(b:vV.okWide pG W .any b0 22 v)(h:DataW.Trod enc pG W 0 (fun _=>tT) tT 22 v d ps)(m:abd):
  ∃u xs,VR 0 m u v/\PR (MR W) u xs:=by
 have⟨fuel,h⟩:=h;obtain⟨a,len,cap,rfl⟩:=okWide_slice AV b;have⟨g,r,R,c,e,f⟩:=anY h;simp[vV.cells]at c;subst c;exact⟨r,R,VR.akj e,f⟩
def afp{v:vV}{d:DataW H}{ps:List MemPlace}{b0:Nat}(c:vV.okWide pG W .any b0 24 v)(h:DataW.Trod enc pG W 0 (fun _=>tT) tT 24 v d ps)(m:abd):
  ∃u G,VR 0 m u v/\GR (MR W) u G:=by
 have⟨fuel,h⟩:=h;simp only[vV.okWide,qS5]at c;obtain⟨cs,rfl,e,_⟩:=c;have f:pG.cellsOf 24=2:=Ji;have p:pG.cellsOf 3=1:=Ji;have g:pG.cellsOf 22=1:=Ji;have⟨l⟩:=cs;rw[f]at e
 match l,e with
 |[x,y],_=>
  obtain⟨y0,y1,n,-,-,k,o⟩:=trod_struct2 qS5 h;simp only[p,g,vV.cells,agm,drop_succ_cons,aeA,qL232,drop_nil,take_nil]at k o;have⟨a,ea,_,_⟩:=DataW.trod_int Ac k;have⟨v',v,V,j,t1,q⟩:=anY o;injection ea with ea;injection j with j;subst ea j;refine⟨_,⟨a,V⟩,?_,v,rfl,q⟩;refine .agg Ma fun i a b ha hb=>?_
  match i with
  |0=>simp at ha hb;subst ha hb;exact .flat rfl
  |1=>simp at ha hb;subst ha hb;exact VR.akj t1
  |i+2=>simp at ha
def tcons{P:Program}{w:World}{base:Nat}{spare:Nat->Bool}{held:Bool}{t:TypeId}{b:List TypeId}{v:vV}{vs:xLV}{d:DataW H}{ds:List (DataW H)}{p a:List MemPlace}(h:DataW.Trod enc P w base spare held t v d p)(hs:DataW.TrodAll enc P w base spare held b vs ds a):DataW.TrodAll enc P w base spare held (t::b) (v::vs) (d::ds) (p++a):=⟨p,a,h,hs,rfl⟩
end
end
end Go.Fw
namespace Go.Proofs
open Go.Shelf
def Tryz.sortP_ren:Go.Shelf.Ren:=⟨fun | 6=>86 | 15=>55 | 14=>108 | 28=>81 | 29=>82 | 20=>121 | 21=>122 | 22=>123 | 23=>124 | 24=>125 | 25=>126 | 26=>127 | 27=>128 | 46=>134 | 47=>103 | 48=>104 | 49=>135 | 50=>136 | 57=>137 | n=>n,fun | 22=>22 | 24=>37 | 25=>57 | 3=>3 | 39=>89 | 0=>0 | 53=>118 | 55=>120 | 4=>4 | 46=>112 | 45=>111 | 50=>68 | 5=>5 | 9=>9 | 66=>139 | 70=>143 | 76=>157 | 77=>158 | n=>n,fun | n=>n⟩
theorem Tryz.aa5:Go.Proofs.SlLaysF0.n6 Tryz.prog Tryz.sortP_ren:={
 mixed:=by kernel_rfl
 f6:=⟨Tryz.f86.name,by decide,Tryz.func86.trans (congrArg some (by kernel_rfl))⟩
 f14:=⟨Tryz.f108.name,by decide,Tryz.func108.trans (congrArg some (by kernel_rfl))⟩
 f15:=Tryz.func55.trans (congrArg some (by kernel_rfl))
 f20:=⟨Tryz.f121.name,by decide,Tryz.func121.trans (congrArg some (by kernel_rfl))⟩
 f21:=⟨Tryz.f122.name,by decide,Tryz.func122.trans (congrArg some (by kernel_rfl))⟩
 f22:=⟨Tryz.f123.name,by decide,Tryz.func123.trans (congrArg some (by kernel_rfl))⟩
 f23:=⟨Tryz.f124.name,by decide,Tryz.func124.trans (congrArg some (by kernel_rfl))⟩
 f24:=⟨Tryz.f125.name,by decide,Tryz.func125.trans (congrArg some (by kernel_rfl))⟩
 f25:=⟨Tryz.f126.name,by decide,Tryz.func126.trans (congrArg some (by kernel_rfl))⟩
 f26:=⟨Tryz.f127.name,by decide,Tryz.func127.trans (congrArg some (by kernel_rfl))⟩
 f27:=⟨Tryz.f128.name,by decide,Tryz.func128.trans (congrArg some (by kernel_rfl))⟩
 f28:=Tryz.func81.trans (congrArg some (by kernel_rfl))
 f29:=Tryz.func82.trans (congrArg some (by kernel_rfl))
 f46:=⟨Tryz.f134.name,by decide,Tryz.func134.trans (congrArg some (by kernel_rfl))⟩
 f47:=Tryz.func103.trans (congrArg some (by kernel_rfl))
 f48:=Tryz.func104.trans (congrArg some (by kernel_rfl))
 f49:=⟨Tryz.f135.name,by decide,Tryz.func135.trans (congrArg some (by kernel_rfl))⟩
 f50:=⟨Tryz.f136.name,by decide,Tryz.func136.trans (congrArg some (by kernel_rfl))⟩
 f57:=⟨Tryz.f137.name,by decide,Tryz.func137.trans (congrArg some (by kernel_rfl))⟩
 t0:=Tryz.underlying0
 a0:=Tryz.isAgg0
 z0:=Tryz.sizeOf0
 v0:=Tryz.zeroValue0
 t3:=Tryz.underlying3
 a3:=Tryz.isAgg3
 z3:=Tryz.sizeOf3
 v3:=Tryz.zeroValue3
 t4:=Tryz.underlying4
 a4:=Tryz.isAgg4
 z4:=Tryz.sizeOf4
 v4:=Tryz.zeroValue4
 t5:=Tryz.underlying5
 a5:=Tryz.isAgg5
 z5:=Tryz.sizeOf5
 v5:=Tryz.zeroValue5
 t9:=Tryz.underlying9
 a9:=Tryz.isAgg9
 z9:=Tryz.sizeOf9
 v9:=Tryz.zeroValue9
 t22:=Tryz.underlying22
 a22:=Tryz.isAgg22
 z22:=Tryz.sizeOf22
 v22:=Tryz.zeroValue22
 t25:=Tryz.underlying57
 a25:=Tryz.isAgg57
 z25:=Tryz.sizeOf57
 v25:=Tryz.zeroValue57
 t39:=Tryz.underlying89
 a39:=Tryz.isAgg89
 z39:=Tryz.sizeOf89
 v39:=Tryz.zeroValue89
 t45:=Tryz.underlying111
 a45:=Tryz.isAgg111
 z45:=Tryz.sizeOf111
 v45:=Tryz.zeroValue111
 t46:=Tryz.underlying112
 a46:=Tryz.isAgg112
 z46:=Tryz.sizeOf112
 v46:=Tryz.zeroValue112
 t50:=Tryz.underlying68
 a50:=Tryz.isAgg68
 z50:=Tryz.sizeOf68
 v50:=Tryz.zeroValue68
 t53:=Tryz.underlying118
 a53:=Tryz.isAgg118
 z53:=Tryz.sizeOf118
 v53:=Tryz.zeroValue118
 t55:=Tryz.underlying120
 a55:=Tryz.isAgg120
 z55:=Tryz.sizeOf120
 v55:=Tryz.zeroValue120
 t66:=Tryz.underlying139
 a66:=Tryz.isAgg139
 z66:=Tryz.sizeOf139
 v66:=Tryz.zeroValue139
 t70:=Tryz.underlying143
 a70:=Tryz.isAgg143
 z70:=Tryz.sizeOf143
 v70:=Tryz.zeroValue143
 t76:=Tryz.underlying157
 a76:=Tryz.isAgg157
 z76:=Tryz.sizeOf157
 v76:=Tryz.zeroValue157
 t77:=Tryz.underlying158
 a77:=Tryz.isAgg158
 z77:=Tryz.sizeOf158
 v77:=Tryz.zeroValue158 }
end Go.Proofs
namespace Go.Fw
open Go.Proofs
set_option maxHeartbeats 4000000
set_option maxRecDepth 10000
def ltP(p q:Pr):Bool:=decide (Nz p q<0)
def aa5(ps:xLP):xLP:=ps.mergeSort fun x y=>!ltP y x
theorem XW(p q:Pr):ltP p q=tT↔p.1<q.1\/p.1=q.1/\p.2<q.2:=by grind[ltP,Hv]
theorem ZS(ps:xLP):(aa5 ps).length=ps.length:=by simp[aa5]
theorem Wb(ps:xLP)(p:Pr):p∈aa5 ps↔p∈ps:=by simp[aa5]
def YA(ps:xLP):(aa5 ps).Perm ps:=mergeSort_perm _ _
theorem Nc(p q:Pr):ltP p q=fF↔q.1<p.1\/q.1=p.1/\q.2<=p.2:=by grind[XW]
theorem VH(ps:xLP):(aa5 ps).Pairwise fun x y=>x.1<y.1\/x.1=y.1/\x.2<=y.2:=by
 have:=qL215 (le:=fun x y:Pr=>!ltP y x) (fun a b c d h2=>by grind[Nc]) (fun a b=>by grind[Nc]) ps;exact this.imp (by grind[Nc])
theorem flatK_P(ps:xLP):Go.Sort.flatK xM 2 ps.toArray=(Iu ps).toArray:=by
 apply Array.ext
 .simp[Ta]
 .intro i c h2;have d:i<ps.length*2:=by simpa using c
  have hi:i / 2<ps.length:=NH;have⟨a,b⟩:=H5 ps (i / 2) _ (CA hi);simp only[Go.Sort.flatK,Array.getElem_map,Array.getElem_range];rw[getElem!_pos _ (i / 2) hGr];simp only[qL187];rcases Nat.mod_two_eq_zero_or_one i with h|h
  .rw[h];have e:i / 2*2=i:=NH;rw[e,qL7 hGr]at a;injection a with a;rw[a];rfl
  .rw[h];have e:i / 2*2+1=i:=NH;rw[e,qL7 hGr]at b;injection b with b;rw[b];rfl
def amj(ps:xLP):∀y∈Iu ps,flat y=tT/\y.oneCell'=tT:=by intro y a;rw[Iu,uu]at a;have⟨p,_,b⟩:=a;simp[xM]at b;rcases b with rfl|rfl<;>exact⟨rfl,rfl⟩
theorem GP.cases{h:aai}{v:vV}{ps:xLP}(g:GP h v ps)(b:ps.length<=100000):(∃a cap,v=.slice a 0 cap/\ps=[])\/∃id c cap,v=sL (Z ⟨id,0,Y⟩) ps.length cap/\h.own id=Z (.cells c)/\c.take (ps.length*2)=Iu ps/\(cap=UNK+2\/cap=ps.length/\ps.length<1000000000000)/\0<ps.length/\ps.length<=cap/\ps.length*2<=c.length:=by
 obtain⟨d,⟨rfl,e⟩|⟨id,c,cap,rfl,f,i,j⟩⟩:=g
 all_goals grind[UNK]
theorem valP_vrs(m:abd)(p q:Pr):AK 0 m [UI p,UI q] [UI p,UI q]:=by
 have one:∀p:Pr,VR 0 m (UI p) (UI p):=fun p=>.agg rfl fun i v v' h h'=>by rw[h]at h';injection h' with h';subst h';have:v∈[vV.int .i64 p.1,.int .i64 p.2]:=hGr;simp at this;rcases this with rfl|rfl<;>exact .flat rfl
 grind[AK.cons,AK.nil]
end Go.Fw
namespace Go.Fw
variable {es:List Pr} {n:Nat}
structure LowR (n:Nat) (ls:List Lw) (o:II):Prop where
 len:ls.length=n
 lt:∀v∈o,v<n
 Em:o.length<=n
 up:∀v,v<n->(Ro ls v).2.1<(n:Int)
def lowM_R(hR:InR n es):LowR n (Jz n es).1 (Jz n es).2:=by have⟨C,_⟩:=ZC hR n (qL0 _);refine⟨by rw[Jz,Qp,OQ];exact C.len,C.lt,C.toLowI.Em,fun v a=>?_⟩;rw[Jz,(ack _ _ v).2,(RK _ _ v).2];exact C.up v a
theorem z6(a b:Int):LZ (.int .i64 a) [b]=Z (.int .i64 (max a b)):=by grind[LZ]
def zD(ls:List Lw)(c:RZ)(v:Nat):RZ:=if 0<=(Ro ls v).2.1/\(Ro ls (Ro ls v).2.1.toNat).1<=(Ro ls v).2.2 then c.set (Ro ls v).2.1.toNat (c.getD (Ro ls v).2.1.toNat 0+1)else c
def cntM(ls:List Lw)(o:II)(n:Nat):RZ:=o.foldl (zD ls) (rP n 0)
theorem AX(ls:List Lw)(c:RZ)(v:Nat):(zD ls c v).length=c.length:=by grind[zD]
def isCut(ls:List Lw)(c:RZ)(v:Nat):Bool:=decide (c.getD v 0>1)||(decide (c.getD v 0=1)&&decide ((Ro ls v).2.1>=0))
def JL(n:Nat)(es:xLP):II:=(rG n).filter (isCut (Jz n es).1 (cntM (Jz n es).1 (Jz n es).2 n))
section
attribute [local irreducible] Kp MQ lU KO1 KO KN KX KE VK Kl ZJ TC aab
def pK(ls:List Lw)(p:Pr):Nat:=if(Ro ls p.1.toNat).1>(Ro ls p.2.toNat).1 then p.1.toNat else p.2.toNat
def hdS(ls:List Lw)(H:RZ)(v:Nat):RZ:=if 0<=(Ro ls v).2.1/\(Ro ls v).2.2<(Ro ls (Ro ls v).2.1.toNat).1 then(H.set v (v:Int)).set v ((H.set v (v:Int)).getD (Ro ls v).2.1.toNat 0)else H.set v (v:Int)
def hdM(ls:List Lw)(o:II)(n:Nat):RZ:=o.foldl (hdS ls) (rP n 0)
theorem IB(ls:List Lw)(c:RZ)(v:Nat):(hdS ls c v).length=c.length:=by grind[hdS]
theorem Cc(ls:List Lw):∀(o:II)(c:RZ),(o.foldl (hdS ls) c).length=c.length
 |[],c=>rfl
 |v::o,c=>by rw[iU,Cc ls o,IB]
def cQ(n:Nat)(es:xLP)(p:Pr):Int:=(hdM (Jz n es).1 (Jz n es).2 n).getD (pK (Jz n es).1 p) 0
def vq(n:Nat)(es:xLP):List xLP:=(aaX (fun p _=>cQ n es p) es [] es.length).map (·.2)
theorem lower_any(p:abw)(n L f a c:Nat)(ls:List Lw)(h:aai)(u:ls.length=n)(oV:h.own f=Z (.cells [sL (Z L) n n]))(oL:h.own L=Z (.cells (Wo ls)))(ha:a<n)(j:c<n):
  AC pG p 36 [UI ((a:Int),(c:Int)),pT (Z f)] h fun x h'=>x=.int .i64 (pK ls ((a:Int),(c:Int)):Nat)/\Le h h':=by
 have e:=fun(g:aai)(o:g.own f=Z (.cells [sL (Z L) n n]))=>(Fq (P:=pG) qS9 rfl o (off:=0):aaC pG g 59 ⟨f,0,Y⟩=_);simp only[MY]at e;refine AC.vF func36 ntmps36 results36 fun i=>?_;have⟨r,s,l1,w1,l⟩:=Tt i (xM ((a:Int),(c:Int)));have m1:=lK l;have m2:=HY l;simp only at m1 m2;have m:=V0 (ls:=ls) (v:=a) NH;have gc:=V0 (ls:=ls) (v:=c) NH;have b:=l1.own _ _ oL;have q:=e r (l1.own _ _ oV);simp only[HO,seval,Ci,s]
 generalize h.next=E at*
 by_cases k:(Ro ls a).1>(Ro ls c).1
 .have d:decide ((Ro ls a).1>(Ro ls c).1)=tT:=EL k;have t:pK ls ((a:Int),(c:Int))=a:=by grind[pK]
  refine gh (fRn 0 13 .done) ?_;simp only[HO,seval,Qg,Dh,Z0,Ip,DF,Gc,m1,m2,q,Is a ha,Is c j,fl0,Nh b m,Nh b gc,d];grind
 .have d:decide ((Ro ls a).1>(Ro ls c).1)=fF:=Sb k;have t:pK ls ((a:Int),(c:Int))=c:=by grind[pK]
  refine gh (fRn 0 13 .done) ?_;simp only[HO,seval,Qg,Dh,Z0,Ip,DF,Gc,m1,m2,q,Is a ha,Is c j,fl0,Nh b m,Nh b gc,d];grind
theorem Nn.PR:Nn PR:=fun _ _ _ _ r e=>PR.le r e
theorem Cw(W0:abw)(v:vV)(G:GM)(h:aai)(hg:GR h v G):
  AC pG W0 21 [v] h fun x h'=>Le h h'/\((¬bX G/\x=.tuple #[.slice Y 0 0,.int .i64 20])\/(bX G/\∃bv,x=.tuple #[bv,.int .i64 0]/\RL PR h' bv (vq G.n.toNat G.es))):=by
 have b8:=hg;have⟨gn,es⟩:=G
 obtain⟨ev,rfl,hp⟩:=hg.open
 refine AC.vF func21 ntmps21 results21 fun b9=>?_;obtain⟨h1,b1,aF,da,-,lA⟩:=r8 (n:=gn) b9 hp
 generalize h.next=B at*
 have cc:=lA h1 (Le.refl _);simp only[HO,seval,b1,cc.1];refine TC.intro PJ ⟨func35,rfl,WY⟩ (qX W0 _ _ h1 (b8.le aF)) ?_;rintro x h2 bk ⟨bm,aH⟩;have al:=ajY h2;have⟨h3,e3,l3,w3,o3⟩:=Tt bk [.slice Y 0 0];rw[e3]at al
 have nV:h2.own h2.next=Y:=(Le.refl h2).next bk (qL0 _)
 rcases aH with⟨hr,rfl⟩|⟨hr,L,ov,rfl,oL,nL,go,nb,ao⟩
 .have st:=QB (P:=pG) (t:=59) (x:=.slice Y 0 0) qS9 Ji o3 (off:=0) Ma rfl rfl;have d20:decide ((20:Int)=0)=fF:=by decide
  simp only[HO,seval,al,st,bne,d20];grind[Le.trans,Le.put]
 have h0:0<=gn:=hr.n0;obtain⟨n,rfl⟩:=WA h0;have c6:(n:Int)<=200:=hr.n1;have c9:es.length<=594:=hr.len;have hR:=hr.GD;have R:=lowM_R hr.GD;simp only[yM]at oL go ⊢;have hM:vq n es=(aaX (fun p _=>(hdM (Jz n es).1 (Jz n es).2 n).getD (pK (Jz n es).1 p) 0) es [] es.length).map (·.2):=rfl;generalize (Jz n es).1=ls at*;generalize (Jz n es).2=o at*;have db:=R.Em;have st:=QB (P:=pG) (t:=59) (x:=sL (Z L) n n) qS9 Ji o3 (off:=0) Ma rfl rfl;have w4:=w3.put (.cells ([vV.slice Y 0 0].set 0 (sL (Z L) n n))) (w3.lt o3);have l4:=l3.put (.cells ([vV.slice Y 0 0].set 0 (sL (Z L) n n))) nV
 have aJ:=aai.Y3 h3 h2.next (.cells ([vV.slice Y 0 0].set 0 (sL (Z L) n n)))
 simp only[aoF]at aJ l4 w4 st;have lo:=fun g=>go.rl.TA g;rw[y6]at lo;simp only[HO,seval,al,st,bne];clear st al e3 o3 w3 l3
 generalize h3.put h2.next (.cells [sL (Z L) n n])=h4 at*
 generalize h2.next=S at*
 clear h3;have bo:=lA h4 (bm.trans l4);have mk:=Ye (P:=pG) (t:=47) (z:=.int .i64 0) h4 Mb rfl rfl rfl rfl Ji Ac Ji n NH;have⟨h5,e5,l5,w5,o5⟩:=Tt w4 (rP n (.int .i64 0));rw[e5]at mk
 have nC:h4.own h4.next=Y:=(Le.refl h4).next w4 (qL0 _)
 simp only[HO,seval,Ii,Ip,Gc,bo.2.1,mk,lo]
 generalize h4.next=C at*
 have br:h5.own C=Z (.cells (Bp (rP n 0))):=by rw[o5];simp[Bp]
 have cd:=l4.own _ _ oL;have cf:=go.le l4;have aa:=fun(g:aai)(o:Le h4 g)=>(Fq (P:=pG) qS9 rfl (o.own _ _ aJ) (off:=0):aaC pG g 59 ⟨S,0,Y⟩=_);simp only[MY]at aa;have ae:∀(k:IntKind)(j:Nat),j<n->aao pG 47 (sL (Z C) n n) (.int k j)=Z (pT (Z ⟨C,j,Y⟩)):=fun k j hj=>by rw[Wc Mb Ac Ji j hj];simp[Ip]
 have bx:∀(g:aai)(c:RZ)(j:Nat),g.own C=Z (.cells (Bp c))->c.length=n->j<n->aaC pG g 3 ⟨C,j,Y⟩=Z (.int .i64 (c.getD j 0)):=fun g c j N hl hj=>by rw[Fq Ac rfl N,D4 NH];simp[Bp,CA (show j<c.length by omega)]
 refine aab.intro (fun k fr m=>∃(i:Nat),k=o.length-i/\i<=o.length/\fr=mkF [(1,pT (Z B)),(4,pT (Z S)),(7,sL (Z C) n n),(32,ov),(33,.int .i64 o.length),(34,i)]/\m.own C=Z (.cells (Bp ((o.take i).foldl (hdS ls) (rP n 0))))/\Le h4 m)
  o.length [(1,pT (Z B)),(4,pT (Z S)),(7,sL (Z C) n n),(32,ov),(33,.int .i64 o.length),(34,(0:Nat))] hAs ⟨0,rfl,Z6 _,rfl,br,l5⟩ ?_
 clear br o5 w5 l5 e5 mk lo bo;clear h5;rintro k fr m aK ⟨i,rfl,hi,rfl,oC,leq⟩;have aL:((o.take i).foldl (hdS ls) (rP n 0)).length=n:=by grind[Cc]
 refine Uy ?_;refine Kl.intro (fun ht=>?_) (fun hf=>?_)
 .have d:i<o.length:=acb ht;clear ht;have bz:=CA d;have ad:=go.rl.DH i (by rw[y6];exact d);have ld:=(cf.le leq).rl.Uc i (by rw[y6];exact d);rw[sY d]at ld;have cg:o.take (i+1)=o.take i++[o[i]]:=XJ d;generalize o[i]=w at bz ld cg;have O:=R.lt w (BS bz);have gw:=V0 (ls:=ls) (v:=w) (by grind[LowR.len]);have A:(o.take (i+1)).foldl (hdS ls) (rP n 0)=hdS ls ((o.take i).foldl (hdS ls) (rP n 0)) w:=hGr;generalize (o.take i).foldl (hdS ls) (rP n 0)=H at*;have st1:=QB (P:=pG) (t:=3) (x:=w) Ac Ji oC (off:=w) (by simp[Bp];omega) rfl rfl;rw[yy]at st1;have r:=leq.put (.cells (Bp (H.set w (w:Int)))) nC;have ag:=aai.Y3 m C (.cells (Bp (H.set w (w:Int))));have bA:(H.set w (w:Int)).length=n:=hGr;generalize m.put C (.cells (Bp (H.set w (w:Int))))=h6 at*;have T:=r.own _ _ cd;simp only[HO,seval,ad,ld,ae _ w O,st1,aa h6 r,Is w O,fl1,Ip,lUp T gw];by_cases c1:0<=(Ro ls w).2.1
  .obtain⟨u,s⟩:=WA c1;have ai:u<n:=by have:=R.up w O;omega
   have gu:=V0 (ls:=ls) (v:=u) (by grind[LowR.len]);have d1:decide ((u:Int)>=0)=tT:=EL NH;by_cases c2:(Ro ls w).2.2<(Ro ls u).1
   .have d2:decide ((Ro ls w).2.2<(Ro ls u).1)=tT:=EL c2;have hE:hdS ls H w=(H.set w (w:Int)).set w ((H.set w (w:Int)).getD u 0):=by grind[hdS,Int.toNat_natCast]
    have st:=QB (P:=pG) (t:=3) (x:=.int .i64 ((H.set w (w:Int)).getD u 0)) Ac Ji ag (off:=w) (by simp[Bp];omega) rfl rfl;rw[yy,<-hE,<-A]at st;simp only[s];refine gh (fRn 0 15 .done) ?_;simp only[HO,seval,Qg,d1,d2,aa h6 r,Is w O,Is u ai,fl0,fl2,Ip,DF,lLow T gw,Nh T gu,ae _ u ai,ae _ w O,bx h6 _ u ag bA ai,st,aaa i NH];exact tn (o.length-(i+1)) [(1,pT (Z B)),(4,pT (Z S)),(7,sL (Z C) n n),(32,ov),(33,.int .i64 o.length),(34,(i+1:Nat))] NH hAs ⟨i+1,rfl,d,rfl,aai.Y3 _ _ _,r.put _ nC⟩
   .have d2:decide ((Ro ls w).2.2<(Ro ls u).1)=fF:=Sb c2;have hE:hdS ls H w=H.set w (w:Int):=by grind[hdS,Int.toNat_natCast]
    simp only[s];refine gh (fRn 0 15 .done) ?_;simp only[HO,seval,Qg,d1,d2,aa h6 r,Is w O,Is u ai,fl0,fl2,Ip,DF,lLow T gw,Nh T gu,aaa i NH];exact tn (o.length-(i+1)) [(1,pT (Z B)),(4,pT (Z S)),(7,sL (Z C) n n),(32,ov),(33,.int .i64 o.length),(34,(i+1:Nat))] NH hAs ⟨i+1,rfl,d,rfl,by rw[A,hE];exact ag,r⟩
  .have d1:decide ((Ro ls w).2.1>=0)=fF:=Sb c1;have hE:hdS ls H w=H.set w (w:Int):=by grind[hdS]
   refine gh (fRn 0 15 .done) ?_;simp only[HO,seval,Qg,d1,aaa i NH];exact tn (o.length-(i+1)) [(1,pT (Z B)),(4,pT (Z S)),(7,sL (Z C) n n),(32,ov),(33,.int .i64 o.length),(34,(i+1:Nat))] NH hAs ⟨i+1,rfl,d,rfl,by rw[A,hE];exact ag,r⟩
 have aN:o.length<=i:=vp hf;rw[HV aN]at oC aL;have bB:o.foldl (hdS ls) (rP n 0)=hdM ls o n:=rfl;rw[bB]at oC aL;rw[hM];clear hM bB;generalize hdM ls o n=H at*
 obtain⟨Q,e7,y,U,o7⟩:∃Q,m.alloc (.map [])=Q/\Le m Q/\WF Q/\Q.own m.next=Z (.map []):=⟨_,rfl,(Le.refl m).alloc aK _,aK.alloc _,aai.zT _ _⟩
 have⟨h8,e8,aj,cj,o8⟩:=Tt U []
 have bF:aas pG Q 47 0 []=Z (sL (Z ⟨Q.next,0,Y⟩) 0 0,h8):=by rw[<-e8];rfl
 have nM:m.own m.next=Y:=(Le.refl m).next aK (qL0 _)
 have nD:m.own Q.next=Y:=y.next U (qL0 _)
 have bH:Q.next≠m.next:=fun e=>by have:=U.lt o7;omega
 have V:=bm.trans (l4.trans leq);have bI:=lA h8 (V.trans (y.trans aj));have ll:=fun g=>hp.len g;simp only[HO,seval,e7,bF,Di,Ip,Gc,bI.2.2,ll];have bN:=aj.own _ _ o7
 generalize m.next=M at*
 generalize Q.next=D at*
 have ck:=hp.le (aF.trans V);have cm:=(l4.trans leq).own _ _ oL;have cp:=leq.own _ _ aJ;generalize cq:(fun(p:Pr)(_:Nat)=>H.getD (pK ls p) 0)=fr at*;have R0:aaE m h8 M [] (aaX fr es [] 0):=⟨bN,rfl,fun j u g s=>by simp at s,fun j u s=>by simp at s,fun j k u u' b _ s=>by simp at s,fun j u s=>by simp at s,y.trans aj,nM⟩;have gC:GI h8 (sL (Z D) 0 0) (Ea (aaX fr es [] 0)):=GS.full o8 rfl WY;refine aab.intro (fun k W hh=>∃(i:Nat)(cv:vV)(us:xLV),k=es.length-i/\i<=es.length/\W=mkF [(7,sL (Z C) n n),(11,.func (.func 36) #[] #[pT (Z S)]),(12,.map (Z M)),(13,cv),(74,ev),(75,es.length),(76,i)]/\
   aaE m hh M us (aaX fr es [] i)/\GI hh cv (Ea (aaX fr es [] i))/\blk cv≠Z M/\(∀(j:Nat) u b,us[j]?=Z u->blk u=Z b->blk cv≠Z b)/\Z2 m cv)
  es.length [(7,sL (Z C) n n),(11,.func (.func 36) #[] #[pT (Z S)]),(12,.map (Z M)),(13,sL (Z D) 0 0),(74,ev),(75,es.length),(76,(0:Nat))] hAs
  ⟨0,_,[],rfl,Z6 _,rfl,R0,gC,by grind[blk],fun j u b s=>by simp at s,fun b hb=>by grind[blk]⟩ ?_
 clear R0 gC bN bI nD bH bF o8 cj aj e8 o7 U y e7;rintro k W hh aq ⟨i,cv,us,rfl,hi,rfl,Rg,gc,nc,dc,ac⟩;have aP:=Rg.le;refine Uy ?_;refine Kl.intro (fun ht=>?_) (fun hf=>?_)
 rotate_left
 .have aN:es.length<=i:=vp hf;obtain rfl:i=es.length:=NH;have⟨nd,bQ,aB,cx,bT⟩:=Pt fr es [] es.length;generalize aT:aaX fr es [] es.length=gs at*;have lc:=fun g=>gc.rl.TA g;have bW:(Ea gs).length=gs.length:=by simp[Ea]
  rw[bW]at lc;have mk:=Ye (P:=pG) (t:=40) (z:=.slice Y 0 0) hh sU B9 rfl rfl rfl Ji AV Ji gs.length NH;have⟨h9,e9,I,ar,o9⟩:=Tt aq (rP gs.length (.slice Y 0 0));rw[e9]at mk
  have nF:hh.own hh.next=Y:=(Le.refl hh).next aq (qL0 _)
  generalize hh.next=F at*
  simp only[HO,seval,lc,mk];refine aab.intro (fun k W hz=>∃(j:Nat)(cs:xLV),k=gs.length-j/\j<=gs.length/\W=mkF [(12,.map (Z M)),(17,sL (Z F) gs.length gs.length),(107,cv),(108,gs.length),(109,.int .i64 j)]/\
    Le hh hz/\hz.own F=Z (.cells cs)/\cs.length=gs.length/\∀(a:Nat) g,a<j->gs[a]?=Z g->∃x,cs[a]?=Z x/\PR hh x g.2)
   gs.length [(12,.map (Z M)),(17,sL (Z F) gs.length gs.length),(107,cv),(108,gs.length),(109,(0:Nat))] hAs
   ⟨0,_,rfl,Z6 _,rfl,I,o9,Ma,NH⟩ ?_
  clear e9 o9 ar I mk;clear h9;rintro k W hz dd ⟨j,cs,rfl,hj,rfl,av,oF,de,aV⟩;refine Uy ?_;refine Kl.intro (fun ht=>?_) (fun hf=>?_)
  rotate_left
  .have aN:gs.length<=j:=vp hf;refine Uy ?_;refine⟨(aF.trans V).trans (aP.trans av),.inr ⟨hr,_,rfl,cs,?_,(by grind),fun a f u ha s=>?_⟩⟩
   .grind[RS.whole]
   .rw[aiq]at ha;cases bY:gs[a]? with
    |none=>grind
    |some g=>grind[PR.le]
  have aW:j<gs.length:=acb ht;clear ht;have bZ:=CA aW;generalize gs[j]=g at bZ;have⟨f,l⟩:=g;have b0:(Ea gs)[j]?=Z f:=by grind[Ea]
  have b2:=(Ny.1 b0).1;have cz:=gc.rl.DH j b2;have b3:=(gc.rl.le Nn.RP av).Uc j b2;rw[(Ny.1 b0).2]at b3;have Rz:=Rg.up av;have⟨u,cC,aX⟩:=Rg.look f;rw[NI nd bZ]at aX;have s:acR pG hz 65 (.map (Z M)) (.int .i64 f) fF=Z u:=by rw[<-cC];simp only[acR,qS8,Ac,Rz.oM,Rg.oM]
  have cE:∀k:IntKind,aao pG 40 (sL (Z F) gs.length gs.length) (.int k j)=Z (pT (Z ⟨F,j,Y⟩)):=fun k=>by rw[Wc sU AV Ji j aW];simp[Ip]
  have stF:=QB (P:=pG) (t:=22) (x:=u) AV Ji oF (off:=j) NH (xO.cells aX.pr.sl) (xO.one aX.pr.sl);simp only[HO,seval,cz,b3,s,cE,stF,aaa j NH];refine tn (gs.length-(j+1)) [(12,.map (Z M)),(17,sL (Z F) gs.length gs.length),(107,cv),(108,gs.length),(109,(j+1:Nat))] NH hAs
   ⟨j+1,cs.set j u,rfl,aW,rfl,av.put _ nF,aai.Y3 _ _ _,(by grind),fun a g ha bY=>?_⟩
  by_cases e:a=j
  .grind[GP.pr]
  .obtain⟨x',q1,q2⟩:=aV a g NH bY;grind
 have d:i<es.length:=acb ht;clear ht;have ay:=CA d;generalize es[i]=p at ay;have cJ:=BS ay;have aC:=hR p cJ;have cK:=ck.le aP;have ad:=hp.addr (k:=.i64) i d;have ld:=cK.load ay;have⟨a,c⟩:=p;simp only at aC;obtain⟨a,rfl⟩:=WA aC.1;obtain⟨c,rfl⟩:=WA (show 0<=c by omega);have⟨df,Q,e7,cM,y,U,o7⟩:=Ut aq ((a:Int),(c:Int))
 have b4:hh.own hh.next=Y:=(Le.refl hh).next aq (qL0 _)
 have X:=aP.trans y;have R7:=Rg.up y;have cN:=gc.le y
 have dg:hh.next≠M:=fun e=>by have:=Rg.oM;grind
 have cP:blk cv≠Z hh.next:=fun e=>GS.Sy gc e b4
 have dj:∀(j:Nat) u,us[j]?=Z u->blk u≠Z hh.next:=fun j u s e=>by have aT:∃q,(aaX fr es [] i)[j]?=Z q:=⟨_,CA (by grind[aaE.len])⟩;have⟨q,m⟩:=aT;exact GS.Sy (Rg.gp j u q s m) e b4
 generalize hh.next=E at*
 have cR:=uM o7;simp only[HO,seval,ad,ld,e7,cM,cR];refine TC.intro PJ ⟨func36,rfl,WY⟩ (lower_any W0 n L S a c ls Q R.len (X.own _ _ cp) (X.own _ _ cm) NH NH) ?_;rintro x h9 ar ⟨rfl,I⟩;have hle:pK ls ((a:Int),(c:Int))<n:=by grind[pK]
 have aD:=X.trans I;have R9:=R7.up I;have a6:=cN.le I;have o9:=I.own _ _ o7;have a7:=bx h9 H _ (aD.own _ _ oC) aL hle;have c1:((a:Int),(c:Int))∉([]:xLP):=by simp
 have⟨nd,bQ,aB,cx,bT⟩:=Pt fr es [] i;have aE:=dh (fr:=fr) ay c1;have cU:fr ((a:Int),(c:Int)) i=H.getD (pK ls ((a:Int),(c:Int))) 0:=by rw[<-cq]
 rw[<-cU]at a7;have K:=RY (aaX fr es [] i) (fr ((a:Int),(c:Int)) i) ((a:Int),(c:Int));have b5:=rV (f:=fr ((a:Int),(c:Int)) i) bQ;have dk:=Ft (fr ((a:Int),(c:Int)) i) _ _ aB;have b6:=ae .i64 _ hle;generalize aT:aaX fr es [] i=gs at*;generalize fr ((a:Int),(c:Int)) i=f at*;generalize pK ls ((a:Int),(c:Int))=lw at*;have bW:(Ea gs).length<=1000:=by grind[Ea]
 have⟨u,s,gu⟩:=R9.look f;have lu:=fun g=>gu.pr.len g;have a8:∀(j:Nat) a b,us[j]?=Z a->blk a=Z b->∃o,h9.own b=Z o:=fun j a b ha hb=>by have m:∃q,gs[j]?=Z q:=⟨_,CA (by rw[<-R9.len];grind)⟩;have⟨q,m⟩:=m;exact N8.1 (GS.Sy (R9.gp j a q ha m) hb)
 by_cases c2:acU gs f=[]
 .have cW:∀g,aeh pG g 22 u=Z (.int .i64 0):=fun g=>by rw[lu g,c2];rfl
  have cZ:f∉Ea gs:=fun hm=>b5.1 hm c2;rw[abE cZ]at K;have⟨az,g4,g5,e4,e5,ba,w5,l4,c0,aA⟩:=a6.push ar f NH;have⟨l5,a5⟩:=c0 m aD ac;have R5:aaE m g5 M us gs:=R9.keep l5 fun b o N hb=>(aA b o N (by
   rcases hb with rfl|⟨j,a,ha,hb⟩
   .exact nc
   grind)).1
  have⟨c3,dm⟩:=aA E _ o9 cP;have bb:=(aA M _ R9.oM nc).2;have⟨u2,c4,q4,q5,q6,bg,eu,eb,ea,em,Rn,wn,c5,kq⟩:=R5.push w5 f ((a:Int),(c:Int)) (by rw[c2];simp);have bh:=uM c3;rw[<-K]at ba;have ku:∀(j:Nat) a b,us[j]?=Z a->blk a=Z b->blk az≠Z b:=fun j a b ha hb=>by have⟨o,N⟩:=a8 j a b ha hb;exact(aA b o N (dc j a b ha hb)).2
  have bj:GI q6 az (Ea (ab4 gs f ((a:Int),(c:Int)))):=GS.kept ba fun b o hb N=>(kq b o N (fun e=>bb (by grind)) (fun j a ha J=>ku j a b ha J hb)).2.1;simp only[HO,seval,b6,a7,s,cW,e4,e5,eu,bh,eb,ea,em,aaa i NH];refine tn (es.length-(i+1)) [(7,sL (Z C) n n),(11,.func (.func 36) #[] #[pT (Z S)]),(12,.map (Z M)),(13,az),(74,ev),(75,es.length),(76,(i+1:Nat))] NH hAs
   ⟨i+1,az,bg,rfl,d,rfl,?_⟩
  rw[aE];refine⟨Rn,bj,bb,fun j a b ha hb hc=>?_,a5⟩;have⟨o,N⟩:=N8.1 (GS.Sy ba hc);exact(kq b o N (fun e=>bb (by grind)) (fun j a ha J=>ku j a b ha J hc)).2.2 j a ha hb
 .have hz:(((acU gs f).length:Nat):Int)≠0:=by grind[length_eq_zero_iff]
  rw[abe (b5.2 c2)]at K;have⟨u2,c4,q4,q5,q6,bg,eu,eb,ea,em,Rn,wn,c5,kq⟩:=R9.push ar f ((a:Int),(c:Int)) NH;obtain rfl:u=u2:=hGr;have bh:=uM o9;have bj:GI q6 cv (Ea (ab4 gs f ((a:Int),(c:Int)))):=by rw[K];exact GS.kept a6 fun b o hb N=>(kq b o N (fun e=>nc (by grind)) (fun j a ha J=>dc j a b ha J hb)).2.1
  simp only[HO,seval,b6,a7,s,lu,eq_false hz,bh,eb,ea,em,aaa i NH];refine tn (es.length-(i+1)) [(7,sL (Z C) n n),(11,.func (.func 36) #[] #[pT (Z S)]),(12,.map (Z M)),(13,cv),(74,ev),(75,es.length),(76,(i+1:Nat))] NH hAs
   ⟨i+1,cv,bg,rfl,d,rfl,?_⟩
  rw[aE];refine⟨Rn,bj,nc,fun j a b ha hb hc=>?_,ac⟩;have⟨o,N⟩:=N8.1 (GS.Sy a6 hc);exact(kq b o N (fun e=>nc (by grind)) (fun j a ha J=>dc j a b ha J hc)).2.2 j a ha hb
variable {a b c u v:Nat} {ls:List Lw} {num:Nat->Nat} {o:II} {p q:Pr} {up:Nat->Option Nat} {α:Type}
def low_lt(S:aay n es ls o num up)(a:v<n)(c:up v=Z u):((Ro ls v).2.2<(Ro ls u).1↔ym es num up u v):=by have b:=((S.fo.Kd v u a c).1.lt S.fo.rD).1;have⟨x,d,h2⟩:=S.low v a;rw[d,S.fO u b,<-S.fo.low_bey a c h2];omega
theorem up_of(S:aay n es ls o num up)(a:v<n):(0<=(Ro ls v).2.1/\∃u,up v=Z u/\(Ro ls v).2.1=(u:Int))\/(¬0<=(Ro ls v).2.1/\up v=Y):=by
 by_cases c:0<=(Ro ls v).2.1
 .obtain⟨u,b⟩:=WA c;exact .inl ⟨c,u,by rw[<-S.ups v a,b,acm],b⟩
 .exact .inr ⟨c,by rw[<-S.ups v a];grind[upI]⟩
def Cl(n:Nat)(es:xLP)(v:Nat):Nat:=((hdM (Jz n es).1 (Jz n es).2 n).getD v 0).toNat
theorem hd_fold(S:aay n es ls o num up):∀k,k<=n->
  ∃hd:Nat->Nat,(∀(j v:Nat),j<k->o[j]?=Z v->((o.take k).foldl (hdS ls) (rP n 0)).getD v 0=(hd v:Int)/\
   (up v=Y->hd v=v)/\(∀u,up v=Z u->ym es num up u v->hd v=hd u)/\(∀u,up v=Z u->¬ym es num up u v->hd v=v)):=by
 intro k
 induction k with
 |zero=>intro _;exact⟨id,hGr⟩
 |succ k D=>
  intro J;have⟨hd,H⟩:=D NH;have h:k<o.length:=by rw[S.Em];omega
  have r:o.take (k+1)=o.take k++[o[k]]:=XJ h;have a:=CA h;generalize o[k]=w at r a;have b:=(S.mem w).1 (BS a);have K:((o.take k).foldl (hdS ls) (rP n 0)).length=n:=by grind[Cc]
  have d:(o.take (k+1)).foldl (hdS ls) (rP n 0)=hdS ls ((o.take k).foldl (hdS ls) (rP n 0)) w:=hGr;rw[d];generalize (o.take k).foldl (hdS ls) (rP n 0)=L at*;have s:∀(j v:Nat),j<k->o[j]?=Z v->v≠w:=fun j v B g e=>by grind[List.getElem?_inj,aay.nd]
  have t:∀u,up w=Z u->∃j,j<k/\o[j]?=Z u:=fun u f=>by have⟨C,h2⟩:=S.fo.Kd w u b f;have⟨j,B⟩:=vZ.1 ((S.mem u).2 (C.lt S.fo.rD).1);grind[aay.ord]
  let x:Nat:=match up w with
   |none=>w
   |some u=>if 0<=(Ro ls w).2.1/\(Ro ls w).2.2<(Ro ls (Ro ls w).2.1.toNat).1 then hd u else w
  have E:(hdS ls L w).getD w 0=(x:Int)/\(∀v,v≠w->(hdS ls L w).getD v 0=L.getD v 0)/\(up w=Y->x=w)/\(∀u,up w=Z u->ym es num up u w->x=hd u)/\(∀u,up w=Z u->¬ym es num up u w->x=w):=by
   rcases up_of S b with⟨c,u,f,F⟩|⟨c,f⟩
   .have p:x=if 0<=(Ro ls w).2.1/\(Ro ls w).2.2<(Ro ls (Ro ls w).2.1.toNat).1 then hd u else w:=hGr
    have hb:=low_lt S b f;by_cases q:ym es num up u w
    .have i:0<=(Ro ls w).2.1/\(Ro ls w).2.2<(Ro ls (Ro ls w).2.1.toNat).1:=by grind[Int.toNat_natCast]
     have⟨j,l,m⟩:=t u f;have y:=(H j u l m).1;have G:=s j u l m;rw[p,abe i];refine⟨?_,fun v g=>?_,hGr,hGr,hGr⟩
     .unfold hdS;rw[abe i,cA,abe hGr,F,yM,cA,abE hGr];exact y
     .unfold hdS;rw[abe i,cA,abE hGr,cA,abE hGr]
    .have i:¬(0<=(Ro ls w).2.1/\(Ro ls w).2.2<(Ro ls (Ro ls w).2.1.toNat).1):=by grind[Int.toNat_natCast]
     rw[p,abE i];refine⟨?_,fun v g=>?_,fun _=>rfl,hGr,fun u' e _=>rfl⟩
     .grind[hdS]
     grind[hdS]
   .have p:x=w:=hGr;rw[p];refine⟨?_,fun v g=>?_,fun _=>rfl,hGr,hGr⟩
    .grind[hdS]
    grind[hdS]
  have⟨M,N,O,P,Q⟩:=E
  refine⟨fun v=>if v=w then x else hd v,fun j v B g=>?_⟩
  by_cases e:v=w
  .grind
  .have z:j<k:=hGr;have⟨C,h2,h3,I⟩:=H j v z g;simp only[abE e];refine⟨hGr,h2,fun u f hb=>?_,I⟩;have A:=(S.mem v).1 (BS g);have⟨R,T⟩:=S.fo.Kd v u A f;have:u≠w:=by grind[aay.ord]
   grind
theorem FY(S:aay n es (Jz n es).1 (Jz n es).2 num up):Fo.abi n es num up (Cl n es)/\∀v,v<n->(hdM (Jz n es).1 (Jz n es).2 n).getD v 0=(Cl n es v:Int):=by
 have⟨hd,H⟩:=hd_fold S n (qL0 _);rw[HV (by grind[aay.Em])]at H;have ex:∀v,v<n->∃j,j<n/\(Jz n es).2[j]?=Z v:=fun v a=>by have⟨j,d⟩:=vZ.1 ((S.mem v).2 a);grind[aay.Em]
 have e:∀v,v<n->Cl n es v=hd v:=by grind[Cl,hdM]
 have ev:∀v,v<n->(hdM (Jz n es).1 (Jz n es).2 n).getD v 0=(Cl n es v:Int):=fun v a=>by have⟨j,c,h2⟩:=ex v a;have:=(H j v c h2).1;rw[e v a];exact this
 refine⟨⟨fun v a b=>?_,fun v u a b hb=>?_,fun v u a b hb=>?_⟩,ev⟩
 .grind
 .rw[e v a,e u ((S.fo.Kd v u a b).1.lt S.fo.rD).1];grind
 grind
theorem keyE_hd(S:aay n es (Jz n es).1 (Jz n es).2 num up)(ha:a<n)(d:c<n):cQ n es ((a:Int),(c:Int))=(Cl n es (Fo.lower num a c):Int):=by
 have e:pK (Jz n es).1 ((a:Int),(c:Int))=Fo.lower num a c:=by simp only[pK,yM,Fo.lower,S.fO a ha,S.fO c d];grind
 have b:Fo.lower num a c<n:=by grind[Fo.lower]
 rw[cQ,e,(FY S).2 _ b]
theorem Ab(h:num a≠num b):Fo.lower num a b=Fo.lower num b a:=by grind[Fo.lower]
theorem jm(S:aay n es (Jz n es).1 (Jz n es).2 num up)(h:Jp es a b):cQ n es (GW a b)=(Cl n es (Fo.lower num a b):Int):=by have c:=S.fo.JD h;have d:=h.lt S.fo.rD;grind[ac0,keyE_hd,Ab]
theorem dR(c:InR n es)(ha:Jp es v a)(hb:Jp es v b):cQ n es (GW v a)=cQ n es (GW v b)↔Cn (wo v) es a b:=by have⟨num,up,S⟩:=Ob c;rw[jm S ha,jm S hb,<-S.fo.Hp (FY S).1 ha hb];grind
theorem adg(k:InR n es)(of:Pr->α)(j:∀v a b,Jp es v a->Jp es v b->Cn (wo v) es a b->of (GW v a)=of (GW v b))(i:p∈es)(l:q∈es)(h:cQ n es p=cQ n es q):of p=of q:=by
 have⟨num,up,S⟩:=Ob k;have ex:∀p∈es,∃a b:Nat,Jp es a b/\p=GW a b:=fun p i=>by have e:=k p i;have⟨x,y⟩:=p;obtain⟨a,rfl⟩:=WA e.1;obtain⟨c,rfl⟩:=WA (show 0<=y by omega);exact⟨a,c,.inl i,by unfold GW;rw[Int.min_eq_left NH,Int.max_eq_right NH]⟩
 obtain⟨a,b,f,rfl⟩:=ex p i;obtain⟨c,d,g,rfl⟩:=ex q l;rw[jm S f,jm S g]at h;exact S.fo.link2 (FY S).1 (fun x y=>of (GW x y)) (by grind[so]) j f g (Int.ofNat.inj h)
def fkS(key:Pr->Int)(ks:RZ)(p:Pr):RZ:=if key p∈ks then ks else ks++[key p]
def CY(key:Pr->Int)(es:xLP):RZ:=es.foldl (fkS key) []
def Mr(key:Pr->Int)(es:xLP)(p:Pr):CY key (es++[p])=fkS key (CY key es) p:=by simp[CY]
theorem ahE(key:Pr->Int):∀(k:Nat)(es:xLP),es.length=k->(CY key es).Nodup/\∀x,x∈CY key es↔∃p∈es,key p=x:=by
 intro k
 induction k with
 |zero=>grind[CY]
 |succ k b=>
  intro es h;obtain⟨es,p,rfl⟩:∃a p,es=a++[p]:=by
   rcases ah1 es with rfl|⟨a,p,h'⟩
   all_goals grind
  rw[Mr];unfold fkS;by_cases q:key p∈CY key es
  .grind
  .refine⟨?_,fun x=>?_⟩
   .grind
   grind
theorem HK(F:Int->xLP)(f:Int)(p:Pr):∀(ks:RZ),ks.Nodup->ab4 (ks.map fun k=>(k,F k)) f p=if f∈ks then ks.map (fun k=>(k,if k=f then F k++[p]else F k))else ks.map (fun k=>(k,F k))++[(f,[p])]
 |[],_=>by simp[ab4]
 |k::ks,a=>by rw[VU]at a;have b:=HK F f p ks a.2;grind[ab4,map_congr_left]
theorem anZ(key:Pr->Int)(es:xLP):∀m,m<=es.length->aaX (fun p _=>key p) es [] m=(CY key (es.take m)).map fun k=>(k,(es.take m).filter fun p=>decide (key p=k))
 |0,_=>by simp[aaX,CY]
 |m+1,h=>by
  have b:m<es.length:=h;have c:=CA b;have a:es.take (m+1)=es.take m++[es[m]]:=XJ b;generalize es[m]=p at c a;have⟨d,h2⟩:=ahE key _ (es.take m) rfl;rw[dh c Ma,anZ key es m NH,HK _ _ _ _ d,a,Mr];unfold fkS;by_cases q:key p∈CY key (es.take m)
  .grind
  .rw[abE q,abE q,akG];congr 1
   .grind[map_congr_left]
   grind[filter_eq_nil_iff]
theorem aaB(n:Nat)(es:xLP):vq n es=(CY (cQ n es) es).map fun k=>es.filter fun p=>decide (cQ n es p=k):=by rw[vq,anZ _ _ _ (qL0 _),JR,KG];rfl
theorem fk_first(key:Pr->Int):∀(k:Nat)(es:xLP),es.length=k->∀(i j:Nat) a b,i<j->(CY key es)[i]?=Z a->(CY key es)[j]?=Z b->∃(x:Nat)(p:Pr),es[x]?=Z p/\key p=a/\∀(y:Nat) q,es[y]?=Z q->key q=b->x<y:=by
 intro k
 induction k with
 |zero=>grind[CY]
 |succ k l=>
  intro es h i j a b f hi d;obtain⟨es,p,rfl⟩:∃g p,es=g++[p]:=by
   rcases ah1 es with rfl|⟨g,p,h'⟩
   all_goals grind
  have l:=l es (by simpa using h);have⟨z,h2⟩:=ahE key _ es rfl;rw[Mr]at hi d;have lift:∀a b,(∃(x:Nat)(p:Pr),es[x]?=Z p/\key p=a/\∀(y:Nat) q,es[y]?=Z q->key q=b->x<y)->∃(x:Nat)(r:Pr),(es++[p])[x]?=Z r/\key r=a/\∀(y:Nat) q,(es++[p])[y]?=Z q->key q=b->x<y:=by
   rintro a b ⟨x,r,t,u,e3⟩;have o:=(Ny.1 t).1;refine⟨x,r,hGr,u,fun y q m A=>?_⟩;by_cases c:y<es.length
   .grind
   .omega
  unfold fkS at hi d;by_cases q:key p∈CY key es
  .rw[abe q]at hi d;exact lift a b (l i j a b f hi d)
  .rw[abE q]at hi d;rcases ur j (CY key es).length with c|c
   .rw[si c]at d;rw[si NH]at hi;exact lift a b (l i j a b f hi d)
   .have n:=(Ny.1 d).1;simp at n;have:j=(CY key es).length:=NH;subst this;simp at d;subst d;rw[si f]at hi;have⟨r,v,e⟩:=(h2 a).1 (BS hi);have⟨x,o⟩:=vZ.1 v;have w:=(Ny.1 o).1;refine⟨x,r,hGr,e,fun y s m hs=>?_⟩;by_cases c:y<es.length
    .rw[si c]at m;exact absurd ((h2 _).2 ⟨s,BS m,hs⟩) q
    .omega
open Classical in
theorem Mo{n:Nat}{es:xLP}{ls:List Lw}{o:II}{num:Nat->Nat}{up:Nat->Option Nat}(S:aay n es ls o num up)(v:Nat)(d:v<n):∀(l:II),(∀x∈l,x<n)->∀c:RZ,c.length=n->
  (l.foldl (zD ls) c).getD v 0=c.getD v 0+((l.filter fun x=>decide (up x=Z v/\¬ym es num up v x)).length:Int)
 |[],_,c,_=>by simp
 |w::l,e,c,f=>by
  have a:=e w Ma;rw[iU,Mo S v d l hGr _ (by grind[AX])]
  have key:(zD ls c w).getD v 0=c.getD v 0+if up w=Z v/\¬ym es num up v w then 1 else 0:=by
   rcases up_of S a with⟨h,u,b,g⟩|⟨h,b⟩
   .have hb:=low_lt S a b;unfold zD;by_cases q:ym es num up u w
    .grind
    grind
   grind[zD]
  grind
theorem Cv(s:InR n es)(o:v<n):isCut (Jz n es).1 (cntM (Jz n es).1 (Jz n es).2 n) v=tT↔Fo.Cut2 es v:=by
 classical
 have⟨num,up,S⟩:=Ob s;rw[S.fo.cut_iff v o];have q:=Mo S v o (Jz n es).2 (fun x t=>(S.mem x).1 t) (rP n 0) Ma;have u:(rP n (0:Int)).getD v 0=0:=hGr;rw[u,Int.zero_add]at q;have b:=S.nd.sublist (EP (p:=fun x=>decide (up x=Z v/\¬ym es num up v x)));have a:∀x,x∈(Jz n es).2.filter (fun x=>decide (up x=Z v/\¬ym es num up v x))↔x<n/\up x=Z v/\¬ym es num up v x:=fun x=>by rw[K4,S.mem,vg]
 have e:(Ro (Jz n es).1 v).2.1>=0↔up v≠Y:=by grind[up_of]
 have j:cntM (Jz n es).1 (Jz n es).2 n=(Jz n es).2.foldl (zD (Jz n es).1) (rP n 0):=rfl;simp only[isCut,Dj,rY,vg,j,q,e];generalize (Jz n es).2.filter (fun x=>decide (up x=Z v/\¬ym es num up v x))=L at*;constructor
 .rintro(h|⟨w,h2⟩)
  .match L,h,b,a with
   |[],h,_,_=>simp at h
   |[_],h,_,_=>simp at h
   |x::y::r,_,b,a=>have⟨a1,a2,z⟩:=(a x).1 Ma;have⟨A,B,C⟩:=(a y).1 Ma;grind
  .match L,w,a with
   |[],h,_=>simp at h
   |x::r,_,a=>have⟨a1,a2,z⟩:=(a x).1 Ma;grind
 .rintro(⟨c,d,f,k,ne,g,l,i,m⟩|⟨c,f,g,i,D⟩)
  .have m1:=(a c).2 ⟨f,g,i⟩;have m2:=(a d).2 ⟨k,l,m⟩;left
   match L,m1,m2 with
   |[],m1,_=>simp at m1
   |[x],m1,m2=>grind
   |x::y::r,_,_=>grind
  grind
theorem OI(a:InR n es)(v:Nat):v∈JL n es↔v<n/\Fo.Cut2 es v:=by grind[JL.eq_1,Cv]
attribute [local instance] Classical.propDecidable
def ZH(l:II):xLP:=(rG l.length).map fun i=>GW (l.getD i 0) (l.getD ((i+1)%l.length) 0)
theorem dN{l:II}(nd:l.Nodup){j:Nat}(a:j<l.length):nx l (l.getD j 0)=l.getD ((j+1)%l.length) 0:=by grind[nx_idx]
theorem mem_ringW{l:II}(nd:l.Nodup){v w:Nat}:GW v w∈ZH l↔Ei l v w:=by
 unfold ZH;rw[aev];constructor
 .rintro⟨i,hi,e⟩;rw[j3]at hi;have c:l.getD i 0∈l:=hGr;rcases Dc e with⟨a,h2⟩|⟨a,h2⟩
  .rw[<-a,<-h2];exact .inl (by grind[dN])
  .rw[<-a,<-h2];exact .inr (by grind[dN])
 .have go:∀{v w},v∈l->nx l v=w->∃i∈rG l.length,GW (l.getD i 0) (l.getD ((i+1)%l.length) 0)=GW v w:=fun{v w} b e=>by
   obtain⟨i,hi,rfl⟩:=Yi.1 b;refine⟨i,j3.2 hi,?_⟩;grind[dN]
  rintro(⟨a,h2⟩|⟨a,h2⟩)
  all_goals grind[so]
structure Ho (n:Nat) (es:xLP) (l:II):Prop where
 nd:l.Nodup
 h3:3<=l.length
 Jp:∀v∈l,Jp es v (nx l v)
noncomputable def Mw(n:Nat)(es:xLP)(l:II)(L:RZ):ShM:=⟨tV (rP n fF) l,[l,l.reverse],(LJ n es (aa5 (ZH l)) L).map fun f=>⟨f.zp,f.Fm,zh [l,l.reverse] f.Fm [0,1]⟩⟩
section
variable{n:Nat}{es:List Pr}{l:II}{L:RZ}
theorem Ho.lt(R:Ho n es l)(hR:InR n es){v:Nat}(a:v∈l):v<n:=((R.Jp v a).lt hR).1
theorem Ho.ik(R:Ho n es l)(hR:InR n es){e:Pr}(a:e∈ZH l):e∈es:=by grind[ZH,dN,Ho.nd,T0,Ho.Jp]
theorem Ho.nodup(R:Ho n es l):(ZH l).Nodup:=by unfold ZH;rw[iy,Vn];refine(iy.1 uV).imp_of_mem fun{i j} hi b a e=>?_;grind[dN,Ho.nd,Dc,getElem_inj,fz,Ho.h3,c7]
theorem Ho.web(R:Ho n es l)(hR:InR n es):CU es (aa5 (ZH l)):=by refine⟨fun i p q hi a=>?_,(by grind[Ho.ik,Wb])⟩;have b:=VH (ZH l);have h2:=iy.1 ((YA (ZH l)).nodup_iff.2 R.nodup);have h:=(b.and h2);rw[Lm]at h;have⟨a1,c⟩:=Ny.1 hi;have⟨a2,d⟩:=Ny.1 a;have:=h i (i+1) a1 a2 NH;rw[c,d]at this;rw[Hv];grind
theorem Ho.mem(R:Ho n es l){v w:Nat}:GW v w∈aa5 (ZH l)↔Ei l v w:=by rw[Wb,mem_ringW R.nd]
theorem rng_on(nd:l.Nodup){v:Nat}:(∃w,Ei l v w)↔v∈l:=by
 constructor
 .rintro⟨w,h|h⟩
  all_goals grind[ZP]
 .intro h;exact⟨_,.inl ⟨h,rfl⟩⟩
theorem Ho.offl(R:Ho n es l)(hR:InR n es){v:Nat}:¬off (eN n es) (Ei l) v↔v∈l:=by
 constructor
 .grind[Q7,rng_on,Ho.nd]
 .intro h q;exact q _ ((vD hR).2 (R.Jp v h)) (.inl ⟨h,rfl⟩)
theorem Ho.wOn(R:Ho n es l){v:Nat}:onW (aa5 (ZH l)) v↔v∈l:=by
 constructor
 .rintro⟨e,a,h⟩;rw[Wb]at a;unfold ZH at a;grind[Sl,Nat.mod_lt]
 .intro h;refine⟨GW v (nx l v),R.mem.2 (.inl ⟨h,rfl⟩),?_⟩;grind[Sl]
theorem Ho.fOn(R:Ho n es l){v:Nat}(a:v<n):Qw n (aa5 (ZH l)) v=tT↔v∈l:=by grind[Cb,Ho.wOn]
theorem Ho.start(R:Ho n es l)(hR:InR n es)(hA:D3 es)(G:wx n (Qw n (aa5 (ZH l))) es L):Z8 n es (Ei l) (Mw n es l L):=by
 have E:=MG hR hA;have hs:∀v w,Ei l v w->Ei l w v:=by grind[ki]
 have s:∀v,v<n->(Qw n (aa5 (ZH l)) v=tT↔¬off (eN n es) (Ei l) v):=by grind[Ho.fOn,Ho.offl]
 have T:=Yn (n:=n) (web:=aa5 (ZH l)) (same:=FW (Qw n (aa5 (ZH l))) es) hA.nodup fun j M e e' o t _ _=>K2 hR hA.nodup G o t;have z:∀v w,GW v w∈es->GW v w∉aa5 (ZH l)->Un (eN n es) (Ei l) v w:=fun v w b h2=>by refine⟨(vD hR).2 (Mf (fun e=>?_) b),fun q=>h2 (R.mem.2 q)⟩;subst e;have:=(hR _ b).2.1;grind[ac0]
 have A:LJ n es (aa5 (ZH l)) L=((aaX (Zo n (Qw n (aa5 (ZH l))) L) es (aa5 (ZH l)) es.length).map (·.2)).map fun g=>⟨g,YJ (Qw n (aa5 (ZH l))) g⟩:=by unfold LJ;rw[KG];rfl
 refine⟨PU.start R.nd R.h3 E (by grind[vD,Ho.Jp]),?_,fun v H=>?_,fun p m=>?_,fun v w r=>?_,?_,?_⟩
 .show(tV (rP n fF) l).length=n;grind[Pe]
 .show Wg (tV (rP n fF) l) v=tT↔_;grind[mQ,Ho.offl]
 .obtain⟨f,hf,rfl⟩:=aev.1 m;rw[A]at hf;obtain⟨g,hg,rfl⟩:=aev.1 hf;clear hf m;have a:=T.sub g hg;have one:∀{v w x y:Nat},Un (eN n es) (Ei l) x y->GW v w∈g->(GW x y∈g↔QI (eN n es) (Ei l) x y=QI (eN n es) (Ei l) v w):=fun{v w x y} k B=>
   Nj hR hA hs (fun e o=>o) s T z (fun v w x y r _ _ _=>⟨un_in hR r,fun q=>r.2 (R.mem.1 q)⟩) hg k B
  have un:∀{v w},GW v w∈g->Un (eN n es) (Ei l) v w:=by grind[GrpE.inP]
  have F:=feet_eq (web:=aa5 (ZH l)) hR fun p m=>a.subset m;have I:∀u:Nat,(u:Int)∈YJ (Qw n (aa5 (ZH l))) g↔¬off (eN n es) (Ei l) u/\∃w,Un (eN n es) (Ei l) u w/\GW u w∈g:=fun u=>by
   rw[F,E7];constructor
   .rintro⟨v,H,e,b,h2⟩;obtain rfl:u=v:=NH;have⟨e,o,k⟩:=DX.1 h2;have⟨p,m,J⟩:=DX.1 b;refine⟨(R.offl hR).2 (R.wOn.1 ⟨p,m,by grind[aO]⟩),?_⟩;obtain⟨c,d,rfl,C,hd⟩:=jB hR (a.subset o);have N:((c:Int),(d:Int))=GW c d:=(Ix C).symm;simp only[aO,Dj,vg]at k;rcases k with k|k
    .obtain rfl:c=u:=NH;grind
    grind[so]
   .rintro⟨b,w,h2,h3⟩;have⟨p,m,k⟩:=R.wOn.2 ((R.offl hR).1 b);refine⟨u,E.lt _ _ h2.1,rfl,(by grind[DX,aO]),DX.2 ⟨_,h3,?_⟩⟩;grind[GW,aO]
  refine⟨T.ne g hg,a,fun v w h=>(un h).2,hGr,I,fun x k=>?_,?_,fun i=>?_,?_⟩
  .grind[E7]
  .simp only;rw[F,kz,iy,Vn];unfold cX;exact(iy.1 (by grind[nodup_range])).imp hGr
  .simp only;rw[WV];have K:(Mw n es l L).Jv.length=2:=rfl;rw[K];constructor
   .rintro⟨b,h2⟩;refine⟨?_,h2⟩;simp at b;omega
   .rintro⟨b,h2⟩;refine⟨?_,h2⟩;simp;omega
  .exact qL203 EP Ma
 .have B:=un_in hR r;have⟨g,hg,D⟩:=T.cov _ B fun q=>r.2 (R.mem.1 q);refine⟨⟨g,YJ (Qw n (aa5 (ZH l))) g,zh [l,l.reverse] (YJ (Qw n (aa5 (ZH l))) g) [0,1]⟩,?_,D⟩;show _∈(LJ n es (aa5 (ZH l)) L).map _;grind
 .show((LJ n es (aa5 (ZH l)) L).map _).Pairwise _;grind[GrpE.TE]
 .show 2+OW es (Ei l)<=es.length+2;grind[OW]
end
end
def alloc45'(h:aai):abO pG h 37=Z (pT (Z h.next),h.alloc (.cells [.int .i64 0,.int .i64 0])):=rfl
structure AtS (n:Int) (es:xLP) (bs:List xLP):Prop where
 ne:∀b∈bs,b≠[]
 right:∀b∈bs,bX ⟨n,b⟩
 q9:∀(i:Nat) b b' p q,bs[i]?=Z b->bs[i+1]?=Z b'->b[0]?=Z p->b'[0]?=Z q->p.1<q.1\/p.1=q.1/\p.2<q.2
 mem:∀b∈bs,∀p∈b,p∈es
 TE:∀(i j:Nat) b b' p,bs[i]?=Z b->bs[j]?=Z b'->p∈b->p∈b'->i=j
 all:∀p∈es,∃b∈bs,p∈b
 len:bs.length<=1000
def Met(bs:List xLP)(i j:Nat)(p:Pr)(x:Int):Prop:=∃(k:Nat)(b:xLP),bs[k]?=Z b/\x=(k:Int)/\(k<i/\p∈b\/k=i/\p∈b.take j)
variable {b es:List Pr} {i n:Nat} {p:Pr}
theorem Nl:D3 es↔es.Pairwise fun x y=>x.1<y.1\/x.1=y.1/\x.2<y.2:=by
 rw[Lm];constructor
 .intro ha i j hi b a;exact ha.lt a (qL7 hi) (qL7 b)
 .intro h i j p q a hi b;have⟨a1,a2⟩:=Ny.1 hi;have⟨d,c⟩:=Ny.1 b;rw[Hv,<-a2,<-c];grind
theorem bX.of(a:n<=200)(c:es.length<=594)(d:InR n es)(ha:D3 es):bX ⟨(n:Int),es⟩:=⟨Ma,hGr,c,fun i hi p b=>⟨d p (BS b),fun q f e=>ha (i-1) i q p NH e b⟩⟩
theorem bX.sub{es a:xLP}(h:bX ⟨(n:Int),es⟩)(hs:a.Sublist es):bX ⟨(n:Int),a⟩:=bX.of (by have:(n:Int)<=200:=h.n1;omega) (jz hs.length_le h.len) (fun p b=>h.GD p (hs.subset b)) (Nl.2 ((Nl.1 h.q9).sublist hs))
theorem Jh(h:(vq n es)[i]?=Z b):∃k,(CY (cQ n es) es)[i]?=Z k/\b=es.filter fun p=>decide (cQ n es p=k):=by grind[aaB]
theorem blocks_in(h:(vq n es)[i]?=Z b){k:Int}(a:(CY (cQ n es) es)[i]?=Z k):p∈b↔p∈es/\cQ n es p=k:=by grind[Jh]
theorem XF(h:bX ⟨(n:Int),es⟩):AtS (n:Int) es (vq n es):=by
 have⟨nd,c⟩:=ahE (cQ n es) _ es rfl;have l:∀b∈vq n es,b≠[]:=fun b hb=>by have⟨i,hi⟩:=vZ.1 hb;obtain⟨k,m,rfl⟩:=Jh hi;have⟨p,d,e⟩:=(c k).1 (BS m);have:p∈es.filter fun p=>decide (cQ n es p=k):=hGr;grind
 refine⟨l,fun b hb=>?_,fun i b B p q hb sZ d C=>?_,fun b hb p d=>?_,fun i j b B p hb sZ d D=>?_,fun p d=>?_,?_⟩
 .grind[mem_iff_getElem?,Jh,bX.sub,filter_sublist]
 .obtain⟨k,m,e⟩:=Jh hb;have⟨E,f,e'⟩:=Jh sZ;have⟨x,r,w,h2,h3⟩:=fk_first (cQ n es) _ es rfl i (i+1) k E NH m f;have g:=(blocks_in sZ f).1 (BS C);have⟨y,A⟩:=vZ.1 g.1;have o:=h3 y q A g.2;have s:=h.q9.lt o w A;have a:r∈b:=by grind[mem_of_getElem?]
  have u:b.Pairwise fun x y=>x.1<y.1\/x.1=y.1/\x.2<y.2:=by rw[e];exact(Nl.1 h.q9).filter _
  cases b with
  |nil=>cases a
  |cons z t=>
   simp at d;subst d;rw[ajX]at u;rw[Og]at a;rcases a with rfl|a
   .exact s
   grind
 .grind[mem_iff_getElem?,Jh]
 .grind[Jh,List.getElem?_inj]
 .obtain⟨i,hi⟩:=vZ.1 ((c _).2 ⟨p,d,rfl⟩);have v:(vq n es)[i]?=Z (es.filter fun q=>decide (cQ n es q=cQ n es p)):=by grind[aaB]
  exact⟨_,BS v,hGr⟩
 .rw[aaB,wI];have w:(CY (cQ n es) es).length<=(es.map (cQ n es)).length:=nd.length_le_of_subset hGr;have h2:es.length<=594:=h.len;grind
theorem Zg(d:bX ⟨(n:Int),es⟩)(e:p∈es):∃(k:Nat)(b:xLP),(vq n es)[k]?=Z b/\p∈b/\Met (vq n es) (vq n es).length 0 p (k:Int):=by have⟨b,hb,a⟩:=(XF d).all p e;have⟨k,c⟩:=vZ.1 hb;exact⟨k,b,c,a,k,b,c,rfl,.inl ⟨(Ny.1 c).1,a⟩⟩
def AN(v:Int)(p:Pr):Bool:=decide (p.1=v)||decide (p.2=v)
def woV(es:xLP)(v:Nat):xLP:=es.filter fun p=>!AN (v:Int) p
theorem rI{v x y:Nat}:Jp (woV es v) x y↔Jp es x y/\x≠v/\y≠v:=by grind[Jp,woV,AN]
theorem anB{v a b:Nat}(ha:a≠v):Pu (woV es v) a b↔Cn (wo v) es a b:=by
 constructor
 .intro h
  induction h with
  |refl _=>exact .refl (iO ha)
  |step _ a _ d=>exact d.step (rI.1 a).1 (by grind[rI])
 .intro h
  induction h with
  |refl _=>grind[Pu.refl]
  |step c a o d=>exact .step d (by grind[rI,Cn.aom]) rfl
theorem ends(e:InR n es)(d:p∈es):∃a c:Nat,p=((a:Int),(c:Int))/\a<c/\c<n/\Jp es a c:=by have b:=e p d;have⟨x,y⟩:=p;obtain⟨a,rfl⟩:=WA b.1;obtain⟨c,rfl⟩:=WA (show 0<=y by omega);exact⟨a,c,rfl,NH,NH,.inl d⟩
section
attribute [local irreducible] Kp MQ lU KO1 KO KN KX KE VK Kl ZJ TC aab
variable {X:Nat} {ev:Value} {h:aai} {ps:List Pr}
theorem GX.an0{n:Int}(g:GX h X n ev ps)(hw:WF h)(p:Pr)(m:ps.length+1<=100000):
  ∃v' d c e,aas pG h 22 1 [(0,UI p)]=Z (sL (Z h.next) 1 1,d)/\aaR pG d 22 22 ev (sL (Z h.next) 1 1)=Z (v',c)/\aaK pG c 22 (pT (Z ⟨X,1,Y⟩)) v'=Z e/\
   GX e X n v' (ps++[p])/\WF e/\Le h d/\(∀f,Le f h->f.own X=Y->Z2 f ev->Le f e/\Z2 f v')/\(∀b o,h.own b=Z o->b≠X->blk ev≠Z b->e.own b=Z o/\blk v'≠Z b)/\
   (∀f,Le f h->Z2 f ev->Le f c)/\c.own X=Z (.cells [n,ev]):=by
 have⟨v',d,c,e4,q,j,k,l4,hf,r⟩:=g.gp.push hw p m;have⟨a,i⟩:=r X _ g.ox g.ne;have one:=j.pr.sl.one;have s:v'.cells=#[v']:=by obtain⟨_,_,rfl,_⟩:=j.pr.sl;rfl
 have st:=QB (P:=pG) (t:=22) (x:=v') AV Ji a (off:=1) Ma s one;refine⟨v',d,c,_,e4,q,st,⟨aai.Y3 _ _ _,GS.put j _ i,i⟩,k.put _ (k.lt a),l4,fun f l u af=>?_,fun b o hb v w=>?_,fun f l af=>(hf f l af).1,a⟩
 all_goals grind[Le.put,aai.By]
theorem anC(W0:abw)(v:vV)(n w:Nat)(es:xLP)(h:aai)(hg:GR h v ⟨(n:Int),es⟩)(hn:es.length<=1000):
  AC pG W0 41 [v,.int .i64 (w:Int)] h fun x h'=>∃ev,x=.agg #[.int .i64 (n:Int),ev]/\GP h' ev (woV es w)/\Le h h'/\Z2 h ev:=by
 have ai:=hg
 obtain⟨ev,rfl,u⟩:=hg.open
 refine AC.vF func41 ntmps41 results41 fun K=>?_;obtain⟨f,b1,j,y,-,z⟩:=r8 (n:=(n:Int)) K u
 generalize h.next=B at*
 obtain⟨h2,e2,l2,w2,o2⟩:=Tt y [.int .i64 0,.slice Y 0 0];have A:=z h2 l2
 have nR:f.own f.next=Y:=(Le.refl f).next y (qL0 _)
 obtain⟨h3,h4,e3,e4,l4,w4,nX,C⟩:=GX.new w2 (n:Int);have L:=z h4 (l2.trans l4)
 have D:h2.next≠f.next:=fun e=>by grind
 have E:=l4.own _ _ o2;have hlen:=fun g=>u.len g;have al:=Lo f;rw[e2]at al;refine Sk (Pj b1 al @Ii @Di @Ip.eq_1 @Gc A.2.1 @ait e3 e4) ?_;have M:=l2.none nX
 generalize h2.next=X at*
 generalize f.next=R at*
 have aX:Z2 f (.slice Y 0 0):=fun b hb=>by cases hb
 refine lIn (fun k fr m=>∃(i:Nat)(a:vV),k=es.length-i/\i<=es.length/\fr=mkF [(1,.int .i64 (w:Int)),(2,pT (Z ⟨B,0,Y⟩)),(4,pT (Z ⟨R,0,Y⟩)),(5,pT (Z ⟨X,0,Y⟩)),(6,.int .i64 i)]/\
   GX m X (n:Int) a ((es.take i).filter fun p=>!AN (w:Int) p)/\Le f m/\Z2 f a/\m.own R=Z (.cells [.int .i64 0,.slice Y 0 0])/\blk a≠Z R) ⟨0,_,rfl,Z6 _,rfl,C,l2.trans l4,aX,E,by simp[blk]⟩ ?_
 clear C aX E L w4 l4 e4 e3 o2 e2 A;clear h3 h4;rintro k fr m N ⟨i,a,rfl,hi,rfl,s,leq,ax,oR,o⟩;have l:=z m leq;simp only[HO,seval,Di,Ip,Gc,l.2.2,hlen];refine Kl.intro (fun ht=>?_) (fun hf=>?_)
 .have c:i<es.length:=acb ht;clear ht;have d:=CA c;have O:es.take (i+1)=es.take i++[es[i]]:=XJ c;generalize es[i]=p at d O;have ad:=u.addr (k:=.i64) i c;have q:=u.le (j.trans leq);have ld:=q.load d;have F:=q.l0 d;have P:=q.l1 d;simp only[Ip]at F P;simp only[DF]at F;have skip:AN (w:Int) p=tT->(es.take (i+1)).filter (fun p=>!AN (w:Int) p)=(es.take i).filter (fun p=>!AN (w:Int) p):=fun hb=>by grind
  by_cases c1:p.1=(w:Int)
  .have d1:decide (p.1=(w:Int))=tT:=EL c1;simp only[HO,seval,bne,Di,Ip,Gc,DF,l.2.2,ad,Dh,F,d1,aaa i NH];exact lgA NH ⟨i+1,a,rfl,c,rfl,by grind[AN],leq,ax,oR,o⟩
  have d1:decide (p.1=(w:Int))=fF:=Sb c1;by_cases c2:p.2=(w:Int)
  .have d2:decide (p.2=(w:Int))=tT:=EL c2;simp only[HO,seval,bne,Di,Ip,Gc,DF,l.2.2,ad,Dh,Z0,F,P,d1,d2,aaa i NH];exact lgA NH ⟨i+1,a,rfl,c,rfl,by grind[AN],leq,ax,oR,o⟩
  have d2:decide (p.2=(w:Int))=fF:=Sb c2;have aj:(es.take (i+1)).filter (fun p=>!AN (w:Int) p)=(es.take i).filter (fun p=>!AN (w:Int) p)++[p]:=by grind[AN]
  have aq:((es.take i).filter fun p=>!AN (w:Int) p).length<=i:=hGr;obtain⟨v',g4,g5,g6,q4,q5,q6,ar,w9,t,f9,k9,f5,Q⟩:=s.an0 N p NH;have G:=f5 f leq ax;have S:=z g5 G;have H:aaC pG g5 22 ⟨X,1,Y⟩=Z a:=Fq AV rfl Q;have T:=(u.le (j.trans G)).load d;obtain⟨l9,a9⟩:=f9 f leq M ax;obtain⟨U,V⟩:=k9 R _ oR (EH D) o;have W:=s.ld;have I:=z g4 (leq.trans t);have J:=(s.le t).ld;have aa:=(q.le t).load d;simp only[HO,seval,bne,Di,Ip,Gc,DF,l.2.2,ad,Dh,Z0,F,P,d1,d2];refine gh (fRn 0 7 (JQ 7 [6] (JQ 8 [1,7] (tA [9] (JQ 10 [0,1,2,3,4,5,6,7,8,9] .done))))) ?_;simp only[HO,seval,Qg,Di,Ip,Gc,DF,W.2.2,J.2.2,H,l.2.2,I.2.2,S.2.2,ad,ld,aa,T,q4,q5,q6,aaa i NH];exact lgA NH ⟨i+1,v',rfl,c,rfl,hGr,l9,a9,U,V⟩
 .have ae:es.length<=i:=vp hf;rw[HV ae]at s;have W:=s.ld;have r:UA pG 24=2:=Ji;have one:=s.gp.pr.sl.one;have st:aaK pG m 24 (pT (Z ⟨R,0,Y⟩)) (.agg #[.int .i64 (n:Int),a])=Z (m.put R (.cells [.int .i64 (n:Int),a])):=by
   have hc:(vV.agg #[.int .i64 (n:Int),a]).cells=#[.int .i64 (n:Int),a]:=rfl;have h0:(vV.int IntKind.i64 (n:Int)).oneCell'=tT:=rfl;simp[aaK,oR,hc,r,putCells,qS5,one,h0]
  have oo:=aai.Y3 m R (.cells [.int .i64 (n:Int),a]);have ag:aaC pG (m.put R (.cells [.int .i64 (n:Int),a])) 24 ⟨R,0,Y⟩=Z (.agg #[.int .i64 (n:Int),a]):=by rw[Wx qS5 rfl r oo Ma];rfl
  simp only[HO,seval,W.1,st,ag];exact⟨a,rfl,GS.put s.gp _ o,(j.trans leq).put _ (j.none nR),fun b hb=>j.none (ax b hb)⟩
def Ct(v:vV)(n:Nat):Prop:=∃a cap,v=.slice a n cap/\((cap<UNK/\n<=cap)\/(cap=UNK+2/\a.isSome))
theorem GP.ct{v:vV}(g:GP h v ps):Ct v ps.length:=by
 obtain⟨_,⟨rfl,b⟩|⟨id,c,cap,rfl,_,_,a⟩⟩:=g
 .exact⟨Y,0,by rw[b],.inl ⟨WY,NH⟩⟩
 .refine⟨_,cap,rfl,?_⟩;rcases a with a|⟨rfl,d⟩
  .exact hGr
  .exact .inl ⟨V9 d WY,qL0 _⟩
theorem afq(ps:xLP)(i:Nat):Iu (ps.take i)=(Iu ps).take (i*2):=by
 induction ps generalizing i with
 |nil=>simp[Iu]
 |cons p ps a=>
  cases i with
  |zero=>simp[Iu]
  |succ i=>have e:Iu (p::ps)=.int .i64 p.1::.int .i64 p.2::Iu ps:=rfl;have e':Iu (p::ps.take i)=.int .i64 p.1::.int .i64 p.2::Iu (ps.take i):=rfl;rw[aeA,e',e,a,show(i+1)*2=i*2+1+1 by omega,aeA,aeA]
theorem za(ps:xLP)(i:Nat):Iu (ps.drop i)=(Iu ps).drop (i*2):=by
 induction ps generalizing i with
 |nil=>simp[Iu]
 |cons p ps a=>
  cases i with
  |zero=>simp[Iu]
  |succ i=>have e:Iu (p::ps)=.int .i64 p.1::.int .i64 p.2::Iu ps:=rfl;grind
variable {v x:Nat}
theorem KH(h:Pu es v x)(g:x≠v):∃a,Jp es v a/\Pu (woV es v) a x:=by
 induction h with
 |refl _=>grind
 |@step w x c a _ d=>
  by_cases e:w=v
  .grind[Pu.refl]
  .obtain⟨b,hb,f⟩:=d e;exact⟨b,hb,.step f (by grind[rI]) rfl⟩
theorem MS{α:Type}(p:α->Bool):∀(l:List α),l.length=(l.filter p).length+(l.filter fun x=>!p x).length
 |[]=>rfl
 |x::l=>by have:=MS p l;grind
theorem Cq{l:II}(nd:l.Nodup)(c:x∈l)(h:∀y∈l,y=x):l.length=1:=by
 cases l with
 |nil=>cases c
 |cons a l=>
  cases l with
  |nil=>rfl
  |cons b l=>have d:=h a Ma;have h2:=h b Ma;grind
variable {f:Pr->Int} {k:Nat} {q:Pr}
def jo(p:Pr)(v:Int):Int:=if p.1=v then p.2 else if p.2=v then p.1 else-1
theorem XH(d:InR n es)(e:p∈es)(v:Nat):
  (∃a:Nat,a<n/\jo p (v:Int)=(a:Int)/\Jp es v a/\p=GW v a)\/(jo p (v:Int)=-1/\∀a,p≠GW v a):=by
 obtain⟨a,c,rfl,f,g,b⟩:=ends d e;unfold jo;by_cases h:a=v
 .grind[ac0]
 .by_cases h2:c=v
  .grind[Jp.symm,ac0]
  .grind[ac0]
def LK(es:xLP)(v:Nat)(p q:Pr):Prop:=∃a b,Jp es v a/\Jp es v b/\p=GW v a/\q=GW v b/\Cn (wo v) es a b
theorem LK.symm{es:xLP}{v:Nat}{p q:Pr}(h:LK es v p q):LK es v q p:=by have⟨a,b,c,h2,h3,d,e⟩:=h;exact⟨b,a,h2,c,d,h3,e.symm⟩
def LK.key(c:InR n es)(h:LK es v p q):cQ n es p=cQ n es q:=by obtain⟨a,b,d,h2,rfl,rfl,e⟩:=h;exact(dR c d h2).2 e
def aoo(f:Pr->Int)(a b:Int)(p:Pr):Int:=if f p=a then b else f p
structure OF (n:Nat) (es:xLP) (f:Pr->Int) (v i k:Nat):Prop where
 snd:∀p∈es,∀q∈es,f p=f q->cQ n es p=cQ n es q
 vs:∀v'<v,∀p∈es,∀q∈es,LK es v' p q->f p=f q
 is:∀(i' k':Nat) p q,i'<i->k'<i'->es[i']?=Z p->es[k']?=Z q->LK es v p q->f p=f q
 ks:∀(k':Nat) p q,k'<k->es[i]?=Z p->es[k']?=Z q->LK es v p q->f p=f q
theorem OF.start(h:∀p∈es,∀q∈es,f p=f q->p=q):OF n es f 0 0 0:=⟨fun p a q b e=>by rw[h p a q b e],fun v' g=>by omega,fun i c p q d=>by omega,fun c p q d=>by omega⟩
def OF.nextV(o:OF n es f v i 0)(hi:es.length<=i):OF n es f (v+1) 0 0:=by
 refine⟨o.snd,fun v' g p c q d l=>?_,fun m j p q k=>by omega,fun j p q k=>by omega⟩;by_cases e:v'=v
 .subst e;have⟨x,b⟩:=qL236 c;have⟨y,a⟩:=qL236 d;have r:=(Ny.1 b).1;have s:=(Ny.1 a).1;rcases anM x y with h|h|h
  .exact(o.is y x q p NH h a b l.symm).symm
  .subst h;rw[b]at a;injection a with a;rw[a]
  .exact o.is x y p q NH h b a l
 .exact o.vs v' NH p c q d l
def OF.nextI(o:OF n es f v i k)(h:i<=k):OF n es f v (i+1) 0:=by
 refine⟨o.snd,o.vs,fun b a p q g h2 c d l=>?_,fun a p q g=>by omega⟩;by_cases e:b=i
 .subst e;exact o.ks a p q NH c d l
 .exact o.is b a p q NH h2 c d l
def OF.skipI(o:OF n es f v i 0)(j:es[i]?=Z p)(h:∀a,p≠GW v a):OF n es f v (i+1) 0:=by
 refine⟨o.snd,o.vs,fun d g k q m h2 c r l=>?_,fun g p q m=>by omega⟩;by_cases e:d=i
 .subst e;rw[j]at c;injection c with c;subst c;have⟨a,b,_,_,h3,_⟩:=l;exact absurd h3 (h a)
 .exact o.is d g k q NH h2 c r l
def OF.skipK(o:OF n es f v i k)(d:es[i]?=Z p)(g:es[k]?=Z q)(h:¬LK es v p q):OF n es f v i (k+1):=by
 refine⟨o.snd,o.vs,o.is,fun c j m r a b l=>?_⟩;by_cases e:c=k
 .subst e;rw[d]at a;rw[g]at b;injection a with a;injection b with b;subst a;subst b;exact absurd l h
 .exact o.ks c j m NH a b l
def anD{a b:Int}(h:f p=f q):aoo f a b p=aoo f a b q:=by unfold aoo;rw[h]
def OF.link(A:InR n es)(o:OF n es f v i k)(t:es[i]?=Z p)(u:es[k]?=Z q)(h:LK es v p q):OF n es (aoo f (f p) (f q)) v i (k+1):=by
 have d:=BS t;have j:=BS u;have w:=h.key A;refine⟨fun x g y c e=>?_,fun v' s x g y c l=>anD (o.vs v' s x g y c l),fun B m x y r h2 g c l=>anD (o.is B m x y r h2 g c l),fun m C D r a b l=>?_⟩
 .unfold aoo at e;split at e
  .rename_i r;have z:=o.snd x g p d r;split at e
   .rename_i h2;rw[z,o.snd y c p d h2]
   .rw[z,w];exact o.snd q j y c e
  .split at e
   .rename_i h2;rw[o.snd y c p d h2,w];exact o.snd x g q j e
   .exact o.snd x g y c e
 .by_cases e:m=k
  .subst e;rw[t]at a;rw[u]at b;injection a with a;injection b with b;subst a;subst b;unfold aoo;rw[abe rfl];split<;>rfl
  .exact anD (o.ks m C D NH a b l)
theorem OF.fin(c:InR n es)(o:OF n es f v 0 0)(i:n<=v)(d:p∈es)(e:q∈es):f p=f q↔cQ n es p=cQ n es q:=by refine⟨o.snd p d q e,fun h=>?_⟩;refine adg c f (fun v' a b ha hb g=>?_) d e h;exact o.vs v' (by have:=(ha.lt c).1;omega) _ (T0 c ha) _ (T0 c hb) ⟨a,b,ha,hb,rfl,rfl,g⟩
def fk_reps{f g:Pr->Int}(h:∀p∈es,∀q∈es,f p=f q↔g p=g q):∀(k:Nat),∃a:xLP,(∀r∈a,r∈es)/\CY f (es.take k)=a.map f/\CY g (es.take k)=a.map g:=by
 intro k
 induction k with
 |zero=>exact⟨[],Ma,rfl,rfl⟩
 |succ k l=>
  have⟨a,d,h2,h3⟩:=l;by_cases j:k<es.length
  .have i:=aaf j;rw[XJ j,Mr,Mr,h2,h3];generalize es[k]=p at*;have e:f p∈a.map f↔g p∈a.map g:=by
    rw[aev,aev];exact⟨fun⟨r,b,e⟩=>⟨r,b,(h r (d r b) p i).1 e⟩,fun⟨r,b,e⟩=>⟨r,b,(h r (d r b) p i).2 e⟩⟩
   unfold fkS;by_cases c:f p∈a.map f
   .rw[abe c,abe (e.1 c)];exact⟨a,d,rfl,rfl⟩
   .rw[abE c,abE (fun k=>c (e.2 k))];refine⟨a++[p],fun r b=>?_,Ma,Ma⟩;rw[aax,xD]at b;rcases b with b|rfl
    .exact d r b
    .exact i
  .rw[HV NH]at*;exact⟨a,d,h2,h3⟩
def alV(f:Pr->Int)(es:xLP)(k:Nat):List xLP:=(CY f (es.take k)).map fun x=>es.filter fun p=>decide (f p=x)
def anE(h:∀p∈es,∀q∈es,f p=f q↔cQ n es p=cQ n es q):alV f es es.length=vq n es:=by have⟨a,b,h2,h3⟩:=fk_reps h es.length;rw[aaB,alV,h2];rw[JR]at h3;rw[h3,KG,KG];refine Qn fun r c=>?_;refine Uz fun p d=>?_;rw[TV,vg,vg];exact h p d r (b r c)
def rowsF_old(hi:i<es.length)(h:f es[i]∈(es.map f).take i):alV f es (i+1)=alV f es i:=by unfold alV;rw[XJ hi,Mr,fkS,abe];rw[((ahE f _ (es.take i) rfl).2 _)];rw[<-qL178,aev]at h;exact h
def rowsF_new(hi:i<es.length)(h:f es[i]∉(es.map f).take i):alV f es (i+1)=alV f es i++[(es.drop i).filter fun p=>decide (f p=f es[i])]:=by
 unfold alV;rw[XJ hi,Mr,fkS,abE]
 .rw[akG,QD,qL245];congr 2;generalize f es[i]=y at*
  conv=>lhs;rw[<-qL89 i es]
  rw[Db];have:(es.take i).filter (fun p=>decide (f p=y))=[]:=by rw[qL72];intro p a e;rw[vg]at e;exact h (by rw[<-qL178,aev];exact⟨p,a,e⟩)
  rw[this,Cj]
 .rw[((ahE f _ (es.take i) rfl).2 _)];rw[<-qL178,aev]at h;exact h
def am1(d:abw)(p:Pr)(v:Int)(h:aai):AC pG d 42 [UI p,v] h fun x h'=>x=.int .i64 (jo p v)/\Le h h':=by
 refine AC.vF func42 ntmps42 results42 fun a=>?_;have⟨e,b,l1,w1,c⟩:=Tt a (xM p);have m0:=lK c;have m1:=HY c;by_cases c1:p.1=v
 .have d1:decide (p.1=v)=tT:=EL c1;refine Sk (aoh @Ci b @Dh @Z0 @Ip.eq_1 @Gc m0 m1 d1) ?_;exact⟨by rw[jo,abe c1],l1⟩
 have d1:decide (p.1=v)=fF:=Sb c1;by_cases c2:p.2=v
 .have d2:decide (p.2=v)=tT:=EL c2;refine Sk (Pj @Ci b @Dh @Z0 @Ip.eq_1 @Gc m0 m1 d1 @d2) ?_;exact⟨by rw[jo,abE c1,abe c2],l1⟩
 have d2:decide (p.2=v)=fF:=Sb c2;refine Sk (Pj @Ci b @Dh @Z0 @Ip.eq_1 @Gc m0 m1 d1 @d2) ?_;exact⟨by rw[jo,abE c1,abE c2],l1⟩
def Rone_any(C:abw)(v:vV)(xs:RZ)(a b:Int)(h:aai)(n:RL RP h v xs)(I:xs.length<=10000):
  AC pG C 44 [v,a,.int .i64 b] h fun r h'=>GI h' r (xs.map fun x=>if x=a then b else x)/\Le h h'/\Z2 h r:=by
 refine AC.vF func44 ntmps44 results44 fun D=>?_;have E:=fun g=>n.TA g;have o:Z2 h (.slice Y 0 0):=fun b hb=>by cases hb
 refine Uy ?_
 refine lIn (fun k fr p=>∃(j:Nat)(m:vV),k=xs.length-j/\j<=xs.length/\fr=mkF [(0,v),(1,a),(2,.int .i64 b),(7,m),(8,j)]/\GI p m ((xs.take j).map fun x=>if x=a then b else x)/\Le h p/\Z2 h m) ⟨0,_,rfl,Z6 _,rfl,GI.nil _,Le.refl _,o⟩ ?_
 rintro k fr p l ⟨j,m,rfl,J,rfl,go,leq,ao⟩;refine Sk E ?_;refine Kl.intro (fun B=>?_) (fun hf=>?_)
 .have e:j<xs.length:=acb B;clear B;have f:xs.take (j+1)=xs.take j++[xs[j]]:=XJ e;have ad:=n.DH j e;have ld:=(n.le Nn.RP leq).Uc j e;generalize xs[j]=y at f ld;by_cases c:y=a
  .have d:decide (y=a)=tT:=EL c;have⟨v',F,G,q,s,i,t,u,w,H⟩:=go.push l b (by simp;omega);have⟨z,ax⟩:=w h leq ao;simp only[HO,seval,ad,ld,d,q,s,aaa j NH];exact lgA NH ⟨j+1,v',rfl,e,rfl,by rw[f,akG];simpa[c]using i,z,ax⟩
  .have d:decide (y=a)=fF:=Sb c;have⟨v',F,G,q,s,i,t,u,w,H⟩:=go.push l y (by simp;omega);have⟨z,ax⟩:=w h leq ao;simp only[HO,seval,ad,ld,d,q,s,aaa j NH];exact lgA NH ⟨j+1,v',rfl,e,rfl,by rw[f,akG];simpa[c]using i,z,ax⟩
 .have A:xs.length<=j:=vp hf;rw[HV A]at go;refine Uy ?_;exact⟨go,leq,ao⟩
def am2(q:abw)(v:vV)(xs:RZ)(i:Nat)(h:aai)(l:RL RP h v xs)(w:xs.length<=100000)(hi:i<xs.length):AC pG q 45 [v,i] h fun r h'=>r=.bool (decide (xs[i]∉xs.take i))/\h'=h:=by
 refine AC.vF func45 ntmps45 results45 fun s=>?_;have b:=l.DH i hi;have e:=l.Uc i hi;generalize xs[i]=x at*;refine Uy ?_;refine lIn (fun k fr n=>∃j:Nat,k=i-j/\j<=i/\fr=mkF [(0,v),(1,i),(5,j)]/\n=h/\x∉xs.take j) ⟨0,rfl,Z6 _,rfl,rfl,Ma⟩ ?_;rintro k fr n t ⟨j,rfl,z,rfl,rfl,f⟩;refine Uy ?_;refine Kl.intro (fun o=>?_) (fun hf=>?_)
 .have m:j<i:=acb o;clear o;have a:j<xs.length:=NH;have g:xs.take (j+1)=xs.take j++[xs[j]]:=XJ a;have ad:=l.DH j a;have ld:=l.Uc j a;have p:xs[j]∈xs.take i:=by rw[mem_take_iff_getElem];exact⟨j,NH,rfl⟩
  generalize xs[j]=y at g ld p;refine Uy ?_;refine gh (fRn 0 9 .done) ?_;by_cases c:y=x
  .have d:decide (y=x)=tT:=EL c;simp only[HO,seval,Qg,ad,ld,b,e,d];rw[Sb (fun k=>k (c▸p))]
  .have d:decide (y=x)=fF:=Sb c;simp only[HO,seval,Qg,ad,ld,b,e,d,aaa j NH];exact lgA NH ⟨j+1,rfl,m,rfl,rfl,by
    rw[g,aax,xD];rintro(h|h)
    .exact f h
    .exact c h.symm⟩
 .have u:i<=j:=vp hf;obtain rfl:i=j:=NH;refine Uy ?_;exact⟨by rw[EL f],trivial⟩
end
end Go.Fw
