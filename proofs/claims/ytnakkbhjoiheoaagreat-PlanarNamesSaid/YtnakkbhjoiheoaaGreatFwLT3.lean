/- A text. -/
import Derived.Deep.Strs
import Derived.Test.YtnakkbhjoiheoaaGreatRows
import Derived.Shelf.SlLaysF0
import Derived.Shelf.SlSortCmp.NoneTotal
import Derived.Test.YtnakkbhjoiheoaaGreatFwLW3
set_option linter.all false
set_option maxRecDepth 99999
set_option maxHeartbeats 9999999
open Go.Proofs
open Option renaming some→Z,none→Y
open Bool renaming true→tT,false→fF
open List renaming replicate→rP,range→rG
open Go.Value renaming slice→sL,pointer→pT
open Go renaming Value→vV
open Go.Proofs.Tryz renaming prog→pG
open Go.Proofs.Tryz
open List
namespace Go.Fw
variable {a b i n s u:Nat} {es:List Pr} {ls:List Lw} {o:II} {up:RZ}
def upI(x:Int):Option Nat:=if 0<=x then Z x.toNat else Y
def Yp(up:RZ)(v:Nat):Option Nat:=upI (up.getD v (-1))
theorem acm(u:Nat):upI (u:Int)=Z u:=by simp[upI]
theorem bA{x:Int}(h:upI x=Z u):x=(u:Int):=by grind[upI]
structure DI (es:xLP) (s:Nat) (o:II) (up:RZ):Prop where
 root:Yp up s=Y
 mem:∀v u,Yp up v=Z u->v∈o
 Kd:∀(k v:Nat),o[k]?=Z v->v=s\/∃j u,j<k/\o[j]?=Z u/\Yp up v=Z u/\Jp es u v
 open_:∀x∈o,¬Full es o x->∀l,o.getLast?=Z l->pJ (Yp up) x l
 anc:∀(j k a b:Nat),j<k->o[j]?=Z a->o[k]?=Z b->Jp es a b->pJ (Yp up) a b
theorem DI.idx(d:DI es s o up)(nd:o.Nodup)(h:pJ (Yp up) a b):∀(k:Nat),o[k]?=Z b->∃j:Nat,j<=k/\o[j]?=Z a:=by
 induction h<;>grind[DI.Kd,DI.root]
theorem pJ.mono{up d:Nat->Option Nat}(h:pJ up a b)(k:∀c u,up c=Z u->d c=Z u):pJ d a b:=by
 induction h with
 |refl=>exact .refl _
 |step h e f=>exact .step f (k _ _ e)
theorem du.di(N:aV n es)(d:du n es s o up):DI es s o up:=by
 induction d with
 |start=>
  have O:∀v,Yp (rP n (-1)) v=Y:=fun v=>by simp only[Yp,Eh,List.getElem?_replicate];split<;>rfl
  refine⟨O s,hGr,fun k v h=>?_,fun x m _ l B=>?_,fun j k a b L h2 h3=>?_⟩
  .grind
  .simp at m B;subst m;subst B;exact .refl _
  grind
 |@step o up k v w d M ha hw X hf C=>
  have P:=(ha.lt N).2;have Q:up.length=n:=d.len.2;have F:=d.nodup
  have hu:∀x,Yp (up.set w (v:Int)) x=if x=w then Z v else Yp up x:=by grind[Yp,acm]
  have g:∀c u,Yp up c=Z u->Yp (up.set w (v:Int)) c=Z u:=by grind[DI.mem]
  have R:w≠s:=fun e=>by subst e;exact hw (BS d.head)
  have S:=(Ny.1 M).1;have G:o≠[]:=fun e=>by grind
  obtain⟨l,B⟩:∃l,o.getLast?=Z l:=⟨_,List.getLast?_eq_some_getLast G⟩;have H:=C.open_ v (BS M) (fun f=>hw (f w ha)) l B;have p:∀x∈o,¬Full es o x->pJ (Yp up) x v:=fun x m z=>by
   have I:=C.open_ x m z l B;rcases I.chain H with h|h
   .exact h
   .obtain⟨i,hi⟩:=Og.1 m;have⟨j,T,U⟩:=C.idx F h i hi;grind[List.getElem?_inj]
  refine⟨by grind[DI.root],fun x u h=>?_,fun i x m=>?_,fun x m z l' r=>?_,fun i j a b J hi t D=>?_⟩
  .grind[DI.mem]
  .rcases aeP i o.length with q|q
   .rw[EP q]at m;rcases C.Kd i x m with h|⟨j,u,L,h2,h3,V⟩
    .exact .inl h
    .exact .inr ⟨j,u,L,hGr,g _ _ h3,V⟩
   .rw[jf q]at m;have:=(Ny.1 m).1;simp at this;have K:i-o.length=0:=NH;rw[K]at m;simp at m;subst m;exact .inr ⟨k,v,NH,hGr,hGr,ha⟩
  .rw[List.getLast?_concat]at r;injection r with r;subst r;rw[vZ,iy]at m;rcases m with m|rfl
   .have E:¬Full es o x:=fun f=>z fun y W=>bC _ (f y W);exact((p x m E).mono g).step hGr
   .exact .refl _
  .have q:i<o.length:=by
    have:=(Ny.1 t).1;grind
   rw[EP q]at hi;rcases aeP j o.length with A|A
   .rw[EP A]at t;exact(C.anc i j a b J hi t D).mono g
   .rw[jf A]at t;have:=(Ny.1 t).1;simp at this;have K:j-o.length=0:=NH;rw[K]at t;simp at t;subst t;exact((p a (BS hi) fun f=>hw (f w D)).mono g).step hGr
def upL(ls:List Lw)(v:Nat):Option Nat:=upI (Ro ls v).2.1
structure FoI (es:xLP) (ls:List Lw) (o:II):Prop where
 num:∀(k v:Nat),o[k]?=Z v->(Ro ls v).1=((k+1:Nat):Int)/\(Ro ls v).2.2=((k+1:Nat):Int)
 up:∀(k v:Nat),o[k]?=Z v->(Ro ls v).2.1=-1\/∃j u:Nat,j<k/\o[j]?=Z u/\(Ro ls v).2.1=(u:Int)/\Jp es u v
 anc:∀(j k a b:Nat),j<k->o[j]?=Z a->o[k]?=Z b->Jp es a b->pJ (upL ls) a b
theorem JK{n:Nat}{up:RZ}:∀(l:II){ls:List Lw}{o:II},ls.length=n->l.Nodup->(∀v∈l,v<n)->
  (∀(k v:Nat),l[k]?=Z v->Ro (acA up l (ls,o)).1 v=(((o.length+k+1:Nat):Int),up.getD v 0,((o.length+k+1:Nat):Int)))/\∀v,v∉l->Ro (acA up l (ls,o)).1 v=Ro ls v
 |[],ls,o,_,_,_=>⟨hGr,fun v _=>rfl⟩
 |x::r,ls,o,c,b,a=>by
  rw[eR]at b;obtain⟨f,g⟩:=JK r (ls:=ls.set x (((o.length+1:Nat):Int),up.getD x 0,((o.length+1:Nat):Int))) (o:=o++[x]) (by simp[c]) b.2 fun v d=>a v (by simp[d]);refine⟨fun k v e=>?_,fun v d=>?_⟩
  .cases k with
   |zero=>simp at e;subst e;rw[acA,g x b.1,Uw,Sb ⟨rfl,by rw[c];exact a x Ma⟩]
   |succ k=>rw[acA,f k v hGr];grind[length_singleton]
  grind[acA.eq_2,Uw]
theorem FoI.xG{ls d:List Lw}(F:FoI es ls o)(hs:∀v∈o,Ro d v=Ro ls v)(h:pJ (upL ls) a b):b∈o->pJ (upL d) a b:=by
 induction h with
 |refl=>exact fun _=>.refl _
 |@step b c h e g=>
  intro i;have⟨k,l⟩:=Og.1 i;have e':upL d c=Z b:=by grind[upL]
  rcases F.up k c l with f|⟨j,u,f,h2,h3,_⟩
  .unfold upL at e;rw[f]at e;cases e
  .unfold upL at e;rw[h3,acm]at e;injection e with e;subst e;exact(g (BS h2)).step e'
theorem du.upm(d:du n es s o up):∀v,-1<=up.getD v (-1):=by
 induction d with
 |start=>grind
 |step d _ _ _ _ _ a=>intro v;have:=a v;grind
theorem fromA_F(q:aV n es)(I:cV n es ls o)(F:FoI es ls o)(hi:i<n):FoI es (jl n es i (ls,o)).1 (jl n es i (ls,o)).2:=by
 unfold jl;split
 .rename_i z;have⟨t,A⟩:=TY q I hi z;have D:=Te q hi;have⟨_,B⟩:=Rx (D.KP.upR q hi) (K9 n es i).1 I.toLowI t A;have C:=D.KP.len.2;have di:=D.KP.di q;have⟨w,K⟩:=JK (up:=(K9 n es i).2) (K9 n es i).1 (ls:=ls) (o:=o) I.len t hGr;have x:∀v∈o,Ro (acA (K9 n es i).2 (K9 n es i).1 (ls,o)).1 v=Ro ls v:=hGr;rw[B];generalize (acA (K9 n es i).2 (K9 n es i).1 (ls,o)).1=l at*;generalize (K9 n es i).1=P at*;generalize (K9 n es i).2=up at*;have m:∀v∈P,up.getD v 0=up.getD v (-1):=hGr;have p:∀{a b:Nat},pJ (Yp up) a b->b∈P->pJ (upL l) a b:=by
   intro a b h
   induction h with
   |refl=>exact fun _=>.refl _
   |@step b c h e E=>
    intro y;have⟨k,d⟩:=Og.1 y;have e':upL l c=Z b:=by unfold upL;rw[w k c d];rw[m c y];exact e
    rcases di.Kd k c d with g|⟨j,u,g,h2,h3,_⟩
    .grind[DI.root]
    .rw[h3]at e;injection e with e;subst e;exact(E (BS h2)).step e'
  refine⟨fun k v d=>?_,fun k v d=>?_,fun j k a b G r d s=>?_⟩
  .rcases aeP k o.length with h|h
   .grind[FoI.num]
   grind
  .rcases aeP k o.length with h|h
   .rw[EP h]at d;rw[x v (BS d)];rcases F.up k v d with g|⟨j,u,g,h2,h3⟩
    .exact .inl g
    .exact .inr ⟨j,u,g,hGr,h3⟩
   .rw[jf h]at d;rw[w _ v d];simp only;have H:=BS d;rw[m v H];rcases di.Kd _ v d with g|⟨j,u,g,h2,h3,J⟩
    .subst g;have f:=di.root;unfold Yp upI at f;split at f
     .cases f
     .have:=D.KP.upm v;omega
    .exact .inr ⟨o.length+j,u,NH,by rw[jf NH];simpa using h2,bA h3,J⟩
  .rcases aeP k o.length with h|h
   .rw[EP h]at d;rw[EP NH]at r;exact F.xG x (by grind[FoI.anc]) (BS d)
   .rw[jf h]at d;rcases aeP j o.length with h'|h'
    .grind[cV.cl]
    .rw[jf h']at r;exact p (di.anc _ _ a b NH r d s) (BS d)
 .exact F
theorem PG{n:Nat}{es:xLP}(a:aV n es):∀i,i<=n->FoI es (aba n es i).1 (aba n es i).2
 |0,_=>⟨by grind[aba],(by grind[aba]),(by grind[aba])⟩
 |i+1,hi=>fromA_F a (by grind[ZC]) (PG a i NH) NH
def Vu(ls:List Lw)(v:Nat):Nat:=(Ro ls v).1.toNat
theorem metM_fo(d:aV n es):Fo n es (Vu (aba n es n).1) (upL (aba n es n).1):=by
 have F:=PG d n (qL0 _);have⟨C,i⟩:=ZC d n (qL0 _);have ex:∀v,v<n->∃k,(aba n es n).2[k]?=Z v/\Vu (aba n es n).1 v=k+1:=fun v f=>by grind[mem_iff_getElem?,Vu,FoI.num]
 refine⟨d,fun u v o f e=>?_,fun v u f e=>?_,fun a b c h=>?_⟩
 .grind
 .obtain⟨k,g,h2⟩:=ex v f;unfold upL at e;rcases F.up k v g with h|⟨j,w,h3,l,m,p⟩
  .rw[h]at e;cases e
  .rw[m,acm]at e;grind[Vu,FoI.num]
 .obtain⟨k,g,h2⟩:=ex a (c.lt d).1;have⟨j,h3,l⟩:=ex b (c.lt d).2;exact F.anc k j a b NH g h3 c
variable {D:Nat->Nat->Prop} {c v x y:Nat} {es':List Pr} {num:Nat->Nat} {up:Nat->Option Nat}
theorem aj0{x:Int}:upI x=Z u↔x=(u:Int):=by grind[bA,acm]
theorem Iw.congr(L:Iw es num up D v x)(h:∀u w,D v u->(Nt es' up u w↔Nt es up u w)):Iw es' num up D v x:=⟨L.self,fun u w d k=>L.back u w d ((h u w d).1 k),(by grind[Iw.some_])⟩
theorem Iw.add(L:Iw es num up (fun a b=>a=b) v x)(h:∀w,Nt es' up v w↔Nt es up v w\/w=c):Iw es' num up (fun a b=>a=b) v (min x (num c)):=by
 refine⟨by grind[Iw.self],?_,?_⟩
 all_goals grind[Iw.back,Iw.some_]
theorem Iw.join(a:aV n es){D b f:Nat->Nat->Prop}(L:Iw es num up b v x)(M:Iw es num up f c y)(g:num v<=num c)(h:∀u,u<n->(D v u↔b v u\/f c u)):Iw es num up D v (min x y):=by
 refine⟨by grind[Iw.self],?_,?_⟩
 .intro u w d k;rcases(h u (k.1.lt a).1).1 d with d|d
  .grind[Iw.back]
  .have:=M.back u w d k;omega
 .by_cases q:x<=y
  .rw[air q];exact L.some_.imp id fun⟨u,w,d,k,e⟩=>⟨u,w,(h u (k.1.lt a).1).2 (.inl d),k,e⟩
  .rw[aka NH];rcases M.some_ with e|⟨u,w,d,k,e⟩
   .have:=L.self;omega
   .exact .inr ⟨u,w,(h u (k.1.lt a).1).2 (.inr d),k,e⟩
structure Same (n:Nat) (num:Nat->Nat) (up:Nat->Option Nat) (ls:List Lw):Prop where
 len:ls.length=n
 fO:∀v,v<n->(Ro ls v).1=(num v:Int)
 ups:∀v,v<n->upI (Ro ls v).2.1=up v
structure jF (n:Nat) (es:xLP) (num:Nat->Nat) (up:Nat->Option Nat) (D:Nat->Nat->Prop) (ls:List Lw):Prop extends Same n num up ls where
 low:∀v,v<n->∃x:Nat,(Ro ls v).2.2=(x:Int)/\Iw es num up D v x
theorem vz:Jp (es++[((a:Int),(c:Int))]) x y↔Jp es x y\/isE a c x y:=by grind[Jp,isE]
theorem edgeB_S(e:a<n)(f:c<n)(l:a≠c)(S:jF n es num up (fun a b=>a=b) ls):
  jF n (es++[((a:Int),(c:Int))]) num up (fun a b=>a=b) (bS ls ((a:Int),(c:Int))):=by
 have B:∀x y:Nat,x<n->((Ro ls x).2.1=(y:Int)↔up x=Z y):=fun x y C=>by rw[<-S.ups x C,aj0]
 have D:Same n num up (bS ls ((a:Int),(c:Int))):=⟨by rw[acj];exact S.len,fun v g=>by rw[(ab7 ls _ v).1];exact S.fO v g,fun v g=>by rw[(ab7 ls _ v).2];exact S.ups v g⟩;refine⟨D,fun v g=>?_⟩;by_cases t:up a=Z c\/up c=Z a
 .have m:bS ls ((a:Int),(c:Int))=ls:=by grind[bS,Int.toNat_natCast]
  rw[m];have⟨x,z,h2⟩:=S.low v g;refine⟨x,z,h2.congr fun u w _=>?_⟩;simp only[Nt,vz];constructor
  .rintro⟨h|h,k1,k2⟩
   .grind
   .rcases h with⟨rfl,rfl⟩|⟨rfl,rfl⟩<;>rcases t with t|t<;>first|exact absurd t k1|grind
  grind
 .have o:∀u w,Nt (es++[((a:Int),(c:Int))]) up u w↔Nt es up u w\/isE a c u w:=fun u w=>by
   simp only[Nt,vz];constructor
   .grind
   .rintro(⟨h,k⟩|h)
    .grind
    .refine⟨.inr h,?_⟩;rcases h with⟨rfl,rfl⟩|⟨rfl,rfl⟩
     all_goals grind
  have⟨x,z,h2⟩:=S.low v g;have⟨xa,p,q⟩:=S.low a e;have⟨A,r,s⟩:=S.low c f
  have m:(Ro (bS ls ((a:Int),(c:Int))) v).2.2=if v=c then min (A:Int) (num a:Int)else if v=a then min (xa:Int) (num c:Int)else(x:Int):=by
   simp only[bS,yM];rw[WA hGr];simp only[Uw,WZ,S.len,e,f,and_true];by_cases i:v=c
   .subst i;simp[l,r,S.fO a e]
   .rw[WA (wI i),WA i];by_cases j:v=a
    .subst j;simp[p,S.fO c f]
    grind
  rw[m];by_cases i:v=c
  .subst i;refine⟨min A (num a),NH,s.add fun w=>?_⟩;rw[o];constructor
   .rintro(h|⟨h,_⟩|⟨_,h⟩)
    all_goals grind
   .rintro(h|rfl)
    .exact .inl h
    .exact .inr (.inr ⟨rfl,rfl⟩)
  .rw[WA i];by_cases j:v=a
   .subst j;refine⟨min xa (num c),NH,q.add fun w=>?_⟩;rw[o];constructor
    .rintro(h|⟨_,h⟩|⟨h,_⟩)
     all_goals grind
    .rintro(h|rfl)
     .exact .inl h
     .exact .inr (.inl ⟨rfl,rfl⟩)
   .rw[WA j];refine⟨x,rfl,h2.congr fun u w d=>?_⟩;rw[o];constructor
    .rintro(h|⟨h,_⟩|⟨h,_⟩)
     all_goals grind
    .exact .inl
theorem aj1{n:Nat}{num:Nat->Nat}{up:Nat->Option Nat}:∀(rest es:xLP)(ls:List Lw),aV n rest->jF n es num up (fun a b=>a=b) ls->jF n (es++rest) num up (fun a b=>a=b) (rest.foldl bS ls)
 |[],es,ls,_,S=>by simpa using S
 |(a,c)::rest,es,ls,d,S=>by have e:=d (a,c) Ma;obtain⟨a,rfl⟩:=qL7 e.1;obtain⟨c,rfl⟩:=qL7 (show 0<=c by omega);have:=aj1 rest (es++[((a:Int),(c:Int))]) _ (fun q f=>d q (by simp[f])) (edgeB_S NH NH NH S);grind
def DT_(up:Nat->Option Nat)(T:II)(v u:Nat):Prop:=u=v\/∃c∈T,up c=Z v/\pJ up c u
theorem ups_S{n:Nat}{es:xLP}{num:Nat->Nat}{up:Nat->Option Nat}(F:Fo n es num up){ls:List Lw}:∀(T pre:II),(∀v,v<n->v∈pre++T)->(pre++T).Pairwise (fun a b=>num a<num b)->(∀v∈pre++T,v<n)->
  jF n es num up (fun a b=>a=b) ls->jF n es num up (DT_ up T) (T.foldr (fun x y=>Ke y x) ls)
 |[],pre,_,_,_,S=>by
  refine⟨S.toSame,fun v i=>?_⟩;have⟨x,E,h2⟩:=S.low v i;refine⟨x,E,h2.self,fun u w d=>?_,?_⟩
  .rcases d with rfl|⟨c,I,_⟩
   .exact h2.back _ w rfl
   .simp at I
  .exact h2.some_.imp id fun⟨u,w,d,k,e⟩=>⟨u,w,.inl d.symm,k,e⟩
 |c::T,pre,G,R,o,J=>by
  have S:=ups_S F T (pre++[c]) hGr hGr hGr J;rw[foldr_cons];generalize T.foldr (fun x y=>Ke y x) ls=l1 at*;have f:c<n:=o c Ma;have K:Same n num up (Ke l1 c):=⟨by rw[bq];exact S.len,fun v i=>by rw[(tU l1 _ v).1];exact S.fO v i,fun v i=>by rw[(tU l1 _ v).2];exact S.ups v i⟩;refine⟨K,fun v i=>?_⟩;have⟨x,E,h2⟩:=S.low v i;have r:∀d,up d=Z c->d<n->d∈T:=fun d hd s=>by have H:=(F.Kd d c s hd).2;grind
  have l:up c≠Z v->Iw es num up (DT_ up (c::T)) v x:=fun L=>by
   refine⟨h2.self,fun u w d=>h2.back u w ?_,h2.some_.imp id fun⟨u,w,d,k⟩=>⟨u,w,?_,k⟩⟩
   .rcases d with rfl|⟨d,hd,j,g⟩
    .exact .inl rfl
    .rw[HV]at hd;rcases hd with rfl|hd
     .grind
     .exact .inr hGr
   .exact d.imp id (by grind[mem_cons_of_mem])
  cases m:up c with
  |none=>
   have:Ke l1 c=l1:=by have:=S.ups c f;grind[upI,Ke]
   grind
  |some p=>
   have t:=F.Kd c p f m;have A:=(t.1.lt F.rD).1;have⟨y,M,B⟩:=S.low c f;have⟨z,N,C⟩:=S.low p A;have D:(Ro l1 c).2.1=(p:Int):=aj0.1 ((S.ups c f).trans m)
   have O:(Ro (Ke l1 c) v).2.2=if v=p then min (z:Int) (y:Int)else(x:Int):=by simp only[Ke,D];rw[Sb NH,yM,Uw,S.len];grind
   rw[O];by_cases e:v=p
   .subst e;refine⟨min z y,NH,C.join F.rD B NH fun u U=>?_⟩;constructor
    .rintro(rfl|⟨d,hd,j,g⟩)
     .exact .inl (.inl rfl)
     .rw[HV]at hd;rcases hd with rfl|hd
      .by_cases q:d=u
       .subst q;exact .inr (.inl rfl)
       .obtain⟨k,P,Q⟩:=g.child q;exact .inr (.inr (by grind[Fo.yO]))
      .exact .inl (.inr hGr)
    .rintro(h|h)
     .exact h.imp id (by grind[mem_cons_of_mem])
     .rcases h with rfl|⟨d,hd,j,g⟩
      .exact .inr ⟨u,Ma,m,.refl _⟩
      .exact .inr ⟨c,Ma,m,(pJ.one j).trans g⟩
   grind
structure aay (n:Nat) (es:xLP) (ls:List Lw) (o:II) (num:Nat->Nat) (up:Nat->Option Nat):Prop extends jF n es num up (pJ up) ls where
 fo:Fo n es num up
 ord:∀(k v:Nat),o[k]?=Z v->num v=k+1
 mem:∀v,v∈o↔v<n
 nd:o.Nodup
 Em:o.length=n
 upr:∀v,v<n->-1<=(Ro ls v).2.1/\(Ro ls v).2.1<(n:Int)
theorem DT_all(F:Fo n es num up){T:II}(b:∀v,v<n->v∈T)(d:u<n):DT_ up T v u↔pJ up v u:=by
 constructor
 .rintro(rfl|⟨c,_,a,h2⟩)
  .exact .refl _
  .exact(pJ.one a).trans h2
 .intro h;by_cases e:v=u
  .exact .inl e.symm
  .obtain⟨c,a,h2⟩:=h.child e;exact .inr (by grind[Fo.yO])
theorem Iw.congrD(a:aV n es){D b:Nat->Nat->Prop}(L:Iw es num up D v x)(h:∀u,u<n->(b v u↔D v u)):Iw es num up b v x:=⟨L.self,fun u w d k=>L.back u w ((h u (k.1.lt a).1).1 d) k,L.some_.imp id fun⟨u,w,d,k,e⟩=>⟨u,w,(h u (k.1.lt a).1).2 d,k,e⟩⟩
theorem Ob(o:aV n es):∃num up,aay n es (Jz n es).1 (Jz n es).2 num up:=by
 have⟨C,c⟩:=ZC o n (qL0 _);have F:=PG o n (qL0 _);have fo:=metM_fo o;have l:∀v,v∈(aba n es n).2↔v<n:=fun v=>⟨C.lt v,c v⟩;have d:∀(k v:Nat),(aba n es n).2[k]?=Z v->Vu (aba n es n).1 v=k+1:=fun k v h=>by grind[Vu,FoI.num]
 have r:jF n [] (Vu (aba n es n).1) (upL (aba n es n).1) (fun a b=>a=b) (aba n es n).1:=by
  refine⟨⟨C.len,fun v f=>?_,fun v f=>rfl⟩,fun v f=>?_⟩
  .grind[mem_iff_getElem?,FoI.num]
  .obtain⟨k,p⟩:=Og.1 (c v f);refine⟨k+1,by grind[FoI.num],⟨hGr,fun u w _ h=>?_,.inl (d k v p).symm⟩⟩;rcases h.1 with h|h<;>simp at h
 have q:=aj1 es [] _ o r;rw[aiM]at q;have g:((aba n es n).2).Pairwise fun a b=>Vu (aba n es n).1 a<Vu (aba n es n).1 b:=by rw[Yi];intro i j hi s t;rw[d i _ (Gc hi),d j _ (Gc s)];omega
 have z:=ups_S fo (aba n es n).2 [] c g C.lt q;have m:(Jz n es).1=(aba n es n).2.foldr (fun x y=>Ke y x) (es.foldl bS (aba n es n).1):=by grind[Jz.eq_1]
 refine⟨Vu (aba n es n).1,upL (aba n es n).1,⟨⟨?_,fun v f=>?_⟩,fo,d,l,C.nd,?_,fun v f=>?_⟩⟩
 .grind[jF.toSame]
 .grind[jF.low,Iw.congrD,DT_all]
 .have A:=C.toLowI.Em;have h2:=(Hs (n:=n)).length_le_of_subset (l₂:=(aba n es n).2) hGr;simp at h2;show(aba n es n).2.length=n;omega
 .rw[m];have⟨k,p⟩:=Og.1 (c v f);have e:(Ro ((aba n es n).2.foldr (fun x y=>Ke y x) (es.foldl bS (aba n es n).1)) v).2.1=(Ro (aba n es n).1 v).2.1:=by grind[Jz.eq_1,ack,RK]
  rw[e];refine⟨?_,C.up v f⟩;grind[FoI.up]
section
attribute [local irreducible] Kp MQ lU KO1 KO KN KX KE VK Kl ZJ TC aab
variable {h:aai} {xs ys:RZ}
theorem GI.join{v x:vV}(g:GI h v xs)(c:WF h)(d:RL RP h x ys)(i:xs.length+ys.length<=1000000000):
  ∃v' a,aaR pG h 28 28 v x=Z (v',a)/\GI a v' (xs++ys)/\WF a/\
   (∀f,Le f h->Z2 f v->Le f a/\Z2 f v')/\(∀b o,h.own b=Z o->blk v≠Z b->a.own b=Z o/\blk v'≠Z b):=by
 have j:CS 1 h x ys.length (Bp ys):=by have:=RS.cs d.cellsI;grind[Bp]
 have⟨v',a,m,n,hf⟩:=GS.append (P:=pG) (t:=28) (xt:=28) (k:=1) Ji g (fun e l=>CS.src l j) (yG _) (yG _) (by simp[Bp]) i;grind[xr,aG,Bp,GI.eq_1]
variable {j:Nat}
def mk2I(h:aai)(x y:Int):aas pG h 28 2 [(0,x),(1,y)]=Z (sL (Z h.next) 2 2,h.alloc (.cells [x,y])):=rfl
def agl(rows:AM)(L:RZ):Nat->Nat->RZ
  |0,v=>[(v:Int)]
  |k+1,v=>(v:Int)::match(rows.getD v []).find? (fun w=>decide (L.getD w.toNat 0=L.getD v 0-1))with
    |some w=>agl rows L k w.toNat
    |none=>[]
def DO(n:Nat)(es:xLP)(a b:Nat):RZ:=agl (Zh n es) (NY (Zh n es) n b) ((NY (Zh n es) n b).getD a 0).toNat a
theorem find_at{p:Int->Bool}{l:RZ}{x:Int}(b:l[j]?=Z x)(c:p x=tT)(a:∀(i:Nat) y,i<j->l[i]?=Z y->p y=fF):l.find? p=Z x:=by grind[List.find?_eq_some_iff_getElem]
theorem Path_fun(W0:LA)(v:vV)(G:GM)(a b:Int)(h:aai)(hg:GR h v G):
  AC pG W0 124 [v,a,.int .i64 b] h fun x h'=>Le h h'/\∃r e,x=.tuple #[r,.int .i64 e]/\r.oneCell'=tT/\
   (bX G->0<=a->a<G.n->0<=b->b<G.n->(e=0↔Pu G.es b.toNat a.toNat)/\(e=0->GI h' r (DO G.n.toNat G.es a.toNat b.toNat)/\Z2 h r/\Far G.n.toNat G.es b.toNat (NY (Zh G.n.toNat G.es) G.n.toNat b.toNat))):=by
 have az:=hg;have⟨gn,es⟩:=G
 obtain⟨ev,rfl,hp⟩:=hg.open
 refine AC.vF func124 ntmps124 results124 fun aC=>?_;obtain⟨h1,b1,R,aD,-,lA⟩:=r8 (n:=gn) aC hp
 generalize h.next=B at*
 have aF:=lA h1 (Le.refl _);have⟨h2,e2,l2,w2,o2⟩:=Tt aD [a,.int .i64 b]
 have rs:RL RP h2 (sL (Z ⟨h1.next,0,Y⟩) 2 2) [a,b]:=RL.Wh (RS.whole o2 rfl)
 refine Sk (xU b1 aF.1 @mk2I e2) ?_
 generalize vV.slice (Z ⟨h1.next,0,Y⟩) 2 2=sv at*
 refine kCi func52 (N7 W0 _ sv ⟨gn,es⟩ [a,b] h2 (az.le (R.trans l2)) rs Ma) ?_;rintro x h3 bk ⟨aH,r,e,rfl,hc⟩;have d:=(R.trans l2).trans aH;rcases hc with⟨aJ,rfl,rfl⟩|⟨J,bm,rfl,rfl⟩|⟨J,hs,rfl,c⟩
 .refine Sk (XC @bne.eq_1.{0} @d20) ?_
  exact⟨d,_,_,rfl,rfl,fun J=>absurd J aJ⟩
 .refine Sk (XC @bne.eq_1.{0} @d2) ?_
  exact⟨d,_,_,rfl,rfl,fun _ h1 h2 h3 o=>by grind⟩
 have h0:0<=gn:=J.n0;obtain⟨n,rfl⟩:=qL7 h0;have bg:(n:Int)<=200:=J.n1;have bh:es.length<=594:=J.len;have hR:=J.GD;have ha:=hs a Ma;have hb:=hs b Ma;simp only at ha hb;obtain⟨a,rfl⟩:=qL7 ha.1;obtain⟨b,rfl⟩:=qL7 hb.1;have C:a<n:=NH;have aK:b<n:=NH;clear hs ha hb;simp only[yM]at c ⊢;refine Sk @bne.eq_1.{0} ?_
 refine kCi func157 (away_fun W0 r n b es h3 c hR NH NH aK) ?_;rintro D o S ⟨L,hL,P,s,eL⟩;have p:∀u,u<n->aao pG 28 D (.int .i64 u)=Z (pT (Z (aaq D u))):=fun u hu=>hL.DH u (by rw[P.len];exact hu);have K:∀g,Le o g->∀u l,u<n->L[u]?=Z l->aaC pG g 3 (aaq D u)=Z (.int .i64 l):=fun g lg u l hu hl=>by have:=(hL.le Nn.RP lg).Uc u (by rw[P.len];exact hu);grind
 have q:=CA (show a<L.length by grind[Far.len]);generalize L[a]'(by grind)=la at q
 have T:=K o (Le.refl _) a la C q;have U:=P.pos a la q;by_cases c0:la<0
 .refine Sk (Yb (p a C) T c0) ?_;exact⟨d.trans s,_,_,rfl,rfl,fun _ _ _ _ _=>⟨⟨(fun h=>by cases h),fun h=>by grind⟩,fun h=>by cases h⟩⟩
 obtain⟨k0,rfl⟩:=qL7 (show 0<=la by omega);have⟨h5,e5,l5,w5,o5⟩:=Tt S [a];refine Sk (IX (p a C) T c0 @DQ e5) ?_
 have nW:o.own o.next=Y:=(Le.refl o).next S (qL0 _)
 have g5:GI h5 (sL (Z ⟨o.next,0,Y⟩) 1 1) [(a:Int)]:=GS.full o5 rfl (show 1<1000000000000 by decide)
 have V:Z2 o (sL (Z ⟨o.next,0,Y⟩) 1 1):=fun b hb=>by grind[blk]
 generalize vV.slice (Z ⟨o.next,0,Y⟩) 1 1=M at*
 have W:=(P.bd a _ q).2;refine aab.intro (fun k fr X=>∃(v:Nat)(N:vV)(xs:RZ),fr=mkF [(2,.int .i64 b),(8,r),(10,D),(11,N),(12,v)]/\v<n/\L[v]?=Z (k:Int)/\GI X N xs/\xs.length+k<=300/\Le o X/\Z2 o N/\∃pre,xs=pre++[(v:Int)]/\pre++agl (Zh n es) L k v=agl (Zh n es) L k0 a)
  k0 [(2,.int .i64 b),(8,r),(10,D),(11,M),(12,a)] fD ⟨a,M,[(a:Int)],rfl,C,q,g5,by simp;omega,l5,V,[],rfl,rfl⟩ ?_
 clear V g5 nW o5 w5 l5 e5;clear h5 M;rintro k fr X bo ⟨v,N,xs,rfl,hv,E,gw,br,leq,aa,pre,aL,aN⟩;by_cases c1:(v:Int)=(b:Int)
 .obtain rfl:v=b:=NH;have cc:decide ((v:Int)=(v:Int))=tT:=by simp
  refine Sk (XC @bne.eq_1.{0} cc) ?_
  refine⟨(d.trans s).trans leq,_,_,rfl,gw.rl.one,fun _ _ _ _ _=>⟨⟨fun _=>U.1 NH,fun _=>rfl⟩,fun _=>⟨?_,fun b hb=>(d.trans s).none (aa b hb),hGr⟩⟩⟩;have W:k=0:=by grind[Far.self]
  subst W;have e1:DO n es a v=agl (Zh n es) L k0 a:=by unfold DO;rw[<-eL,Eh,q];rfl
  grind[agl]
 have hk:0<k:=by
  rcases Nat.eq_zero_or_pos k with rfl|h
  all_goals grind[Far.zero]
 have cc:decide ((v:Int)=(b:Int))=fF:=hGr;have F:v<(Zh n es).length:=by grind[Xq]
 have aP:=c.Wm v F;have⟨uv,aT,f⟩:=c.NS v F;have t:(Zh n es).getD v []=(Zh n es)[v]:=D4 F;generalize (Zh n es)[v]=row at f t;have lr:=fun g=>f.TA g;have bx:row.length<=3000:=by have:=bV n es row (by rw[<-t,D4 F];grind);omega
 simp only[HO,seval,bne,cc,aP,aT X (s.trans leq),lr];refine aab.intro (fun m fr hh=>∃j:Nat,m=row.length-j/\j<=row.length/\fr=mkF [(2,.int .i64 b),(8,r),(10,D),(11,N),(12,v),(43,uv),(44,row.length),(45,j)]/\hh=X/\∀(i:Nat)(w:Nat),i<j->row[i]?=Z (w:Int)->L[w]?≠Z ((k:Int)-1))
  row.length [(2,.int .i64 b),(8,r),(10,D),(11,N),(12,v),(43,uv),(44,row.length),(45,(0:Nat))] fD ⟨0,rfl,aax _,rfl,rfl,NH⟩ ?_
 rintro m fr hh aW ⟨j,rfl,hj,rfl,rfl,aX⟩;refine Uy ?_;refine Kl.intro (fun ht=>?_) (fun hf=>?_)
 rotate_left
 .have bB:row.length<=j:=vp hf;exfalso;have⟨w,a6,A⟩:=P.pre v k E NH;have hm:=(EW hR v w).2 a6;rw[t]at hm;have⟨i,hi⟩:=Og.1 hm;grind
 have H:j<row.length:=acb ht;clear ht;have O:=CA H;have ae:=f.DH j H;have ai:=(f.le Nn.RP (s.trans leq)).Uc j H;have aj:row[j]∈(Zh n es).getD v []:=hGr;generalize row[j]=x at ai O aj;obtain⟨w,rfl,I⟩:=Ru hR aj;have A:=CA (show w<L.length by grind[Far.len]);generalize L[w]'(by grind)=lw at A
 have aq:=K hh leq w lw I A;have ar:=K hh leq v k hv E;have av:aaY .i64 ((k:Int)-1)=(k:Int)-1:=ie _ NH NH;refine Sk (XC ae ai) ?_;refine gh (fRn 0 10 .done) ?_;by_cases c2:lw=(k:Int)-1
 .have dd:decide (lw=(k:Int)-1)=tT:=hGr;have⟨ay,h6,h7,e6,e7,g7,w7,l6,hf,bF⟩:=gw.push aW (w:Int) NH;have⟨l7,a7⟩:=hf o leq aa;refine CO (bG (p w I) aq (p v hv) ar av dd) ?_;refine Sk (XC e6 e7) ?_;refine tn (k-1) [(2,.int .i64 b),(8,r),(10,D),(11,ay),(12,w)] NH fD ⟨w,ay,_,rfl,I,by rw[A,c2];congr 1;omega,g7,by simp;omega,l7,a7,pre++[(v:Int)],by rw[aL],?_⟩;rw[<-aN,ah6];congr 1;obtain⟨k,rfl⟩:∃k',k=k'+1:=⟨k-1,NH⟩;rw[agl,t,find_at O (by rw[abV,yM,Eh,Eh,A,E];exact c2) (fun i y hi Q=>by
   have a8:y∈(Zh n es).getD v []:=by rw[t];exact BS Q
   obtain⟨z,rfl,hz⟩:=Ru hR a8;have bb:=CA (show z<L.length by rw[P.len];exact hz);have:=aX i z hi Q;rw[TN,yM,Eh,Eh,E];intro e;rw[bb]at this e;exact this (by congr 1))]
  simp
 .have dd:decide (lw=(k:Int)-1)=fF:=hGr;refine CO (bG (p w I) aq (p v hv) ar av dd) ?_;refine Sk (aaa j NH) ?_;refine tn (row.length-(j+1)) [(2,.int .i64 b),(8,r),(10,D),(11,N),(12,v),(43,uv),(44,row.length),(45,(j+1:Nat))] NH fD ⟨j+1,rfl,H,rfl,rfl,fun i y hi Q=>?_⟩;by_cases e:i=j
  .subst e;rw[O]at Q;injection Q with Q;obtain rfl:w=y:=NH;grind
  grind
open Go.Proofs Go.ChangeShapes Go.WideShapes Go.RowKit Go.ChangeAt
open Go.Proofs.YtnakkbhjoiheoaaGreat
section
variable{H:Type}{enc:TypeId×vV->H}{W:World}
theorem vI:∀(n:Nat)(C:xLV),C.length=n*2->(∀i,i<n->∃a b,(C.drop (i*2)).take 2=[.int .i64 a,.int .i64 b])->∃ps:xLP,ps.length=n/\C=Iu ps
 |0,C,c,_=>⟨[],rfl,im NH⟩
 |n+1,C,c,h=>by
  have⟨a,b,e⟩:=h 0 NH;have⟨ps,d,h2⟩:=vI n (C.drop 2) (by simp;omega) fun i hi=>by grind[drop_drop]
  refine⟨(a,b)::ps,by simp[d],?_⟩;have:C=C.take 2++C.drop 2:=(qL79 2 C).symm;rw[this,h2];simp only[Nat.zero_mul,aiU]at e;rw[e];rfl
theorem rd_pairs{fuel:Nat}{cs:xLV}{x:DataW H×List MemPlace}(h:DataW.trod enc pG W 0 (fun _=>tT) tT fuel 22 cs=Z x):∃v' v ps,cs=[v']/\tag v'=Z v/\PR (MR W) v ps:=by have⟨v',v,n,C,a,h2,h3,b⟩:=rd_sliceK eY Ji NH (rd_pair qS5 Ac Ji Ji) _ _ _ h;obtain⟨ps,c,rfl⟩:=vI n C h3.len b;exact⟨v',v,ps,a,h2,by grind[PR.eq_1]⟩
theorem ak1{v:vV}{d:DataW H}{ps:List MemPlace}{b0:Nat}(b:vV.okWide pG W .any b0 28 v)(h:DataW.Trod enc pG W 0 (fun _=>tT) tT 28 v d ps)(m:abd):
  ∃u xs,VR 0 m u v/\RL RP (MR W) u xs:=by
 have⟨fuel,h⟩:=h;obtain⟨a,len,cap,rfl⟩:=okWide_slice Mb b;have⟨e,r,R,c,f,g⟩:=rd_slice Mb Ji (rd_i64 Ac) _ _ _ h;simp[vV.cells]at c;grind[VR.akj]
def afp{v:vV}{d:DataW H}{ps:List MemPlace}{b0:Nat}(c:vV.okWide pG W .any b0 24 v)(h:DataW.Trod enc pG W 0 (fun _=>tT) tT 24 v d ps)(m:abd):
  ∃u G,VR 0 m u v/\GR (MR W) u G:=by
 have⟨fuel,h⟩:=h;simp only[vV.okWide,qS7]at c;obtain⟨cs,rfl,e,_⟩:=c;have f:pG.cellsOf 24=2:=Ji;have p:pG.cellsOf 3=1:=Ji;have g:pG.cellsOf 22=1:=Ji;have⟨l⟩:=cs;rw[f]at e
 match l,e with
 |[x,y],_=>
  obtain⟨y0,y1,n,-,-,k,o⟩:=trod_struct2 qS7 h;simp only[p,g,vV.cells,aiU,drop_succ_cons,ak5,ame,drop_nil,take_nil]at k o;have⟨a,ea,_,_⟩:=DataW.trod_int Ac k;have⟨v',v,V,j,t1,q⟩:=rd_pairs o;injection ea with ea;injection j with j;subst ea j;refine⟨_,⟨a,V⟩,?_,v,rfl,q⟩;refine .agg Ma fun i a b ha hb=>?_
  match i with
  |0=>simp at ha hb;subst ha hb;exact .flat rfl
  |1=>simp at ha hb;subst ha hb;exact VR.akj t1
  |i+2=>simp at ha
def tcons{P:Program}{w:World}{base:Nat}{spare:Nat->Bool}{held:Bool}{t:TypeId}{b:List TypeId}{v:vV}{vs:xLV}{d:DataW H}{ds:List (DataW H)}{p a:List MemPlace}(h:DataW.Trod enc P w base spare held t v d p)(hs:DataW.TrodAll enc P w base spare held b vs ds a):DataW.TrodAll enc P w base spare held (t::b) (v::vs) (d::ds) (p++a):=⟨p,a,h,hs,rfl⟩
end
end
end Go.Fw
namespace Go.Proofs
open Go.Shelf
def Tryz.sortP_ren:Go.Shelf.Ren:=⟨fun | 6=>49 | 15=>79 | 14=>78 | 28=>110 | 29=>111 | 20=>102 | 21=>103 | 22=>104 | 23=>105 | 24=>106 | 25=>107 | 26=>108 | 27=>109 | 46=>147 | 47=>148 | 48=>149 | 49=>150 | 50=>151 | 57=>174 | n=>n,fun | 22=>22 | 24=>49 | 25=>81 | 3=>3 | 39=>114 | 0=>0 | 53=>148 | 55=>150 | 4=>4 | 46=>142 | 45=>141 | 50=>79 | 5=>5 | 9=>9 | 66=>181 | 70=>185 | 76=>204 | 77=>205 | n=>n,fun | n=>n⟩
theorem Tryz.aa5:Go.Proofs.SlLaysF0.n6 Tryz.prog Tryz.sortP_ren:={
 mixed:=by kernel_rfl
 f6:=⟨Tryz.f49.name,by decide,Tryz.func49.trans (congrArg some (by kernel_rfl))⟩
 f14:=⟨Tryz.f78.name,by decide,Tryz.func78.trans (congrArg some (by kernel_rfl))⟩
 f15:=Tryz.func79.trans (congrArg some (by kernel_rfl))
 f20:=⟨Tryz.f102.name,by decide,Tryz.func102.trans (congrArg some (by kernel_rfl))⟩
 f21:=⟨Tryz.f103.name,by decide,Tryz.func103.trans (congrArg some (by kernel_rfl))⟩
 f22:=⟨Tryz.f104.name,by decide,Tryz.func104.trans (congrArg some (by kernel_rfl))⟩
 f23:=⟨Tryz.f105.name,by decide,Tryz.func105.trans (congrArg some (by kernel_rfl))⟩
 f24:=⟨Tryz.f106.name,by decide,Tryz.func106.trans (congrArg some (by kernel_rfl))⟩
 f25:=⟨Tryz.f107.name,by decide,Tryz.func107.trans (congrArg some (by kernel_rfl))⟩
 f26:=⟨Tryz.f108.name,by decide,Tryz.func108.trans (congrArg some (by kernel_rfl))⟩
 f27:=⟨Tryz.f109.name,by decide,Tryz.func109.trans (congrArg some (by kernel_rfl))⟩
 f28:=Tryz.func110.trans (congrArg some (by kernel_rfl))
 f29:=Tryz.func111.trans (congrArg some (by kernel_rfl))
 f46:=⟨Tryz.f147.name,by decide,Tryz.func147.trans (congrArg some (by kernel_rfl))⟩
 f47:=Tryz.func148.trans (congrArg some (by kernel_rfl))
 f48:=Tryz.func149.trans (congrArg some (by kernel_rfl))
 f49:=⟨Tryz.f150.name,by decide,Tryz.func150.trans (congrArg some (by kernel_rfl))⟩
 f50:=⟨Tryz.f151.name,by decide,Tryz.func151.trans (congrArg some (by kernel_rfl))⟩
 f57:=⟨Tryz.f174.name,by decide,Tryz.func174.trans (congrArg some (by kernel_rfl))⟩
 t0:=Tryz.underlying0
 a0:=Tryz.isAgg0
 z0:=Tryz.sizeOf0
 v0:=Tryz.zeroValue0
 t3:=Tryz.underlying3
 a3:=Tryz.isAgg3
 z3:=Tryz.sizeOf3
 v3:=Tryz.zeroValue3
 t4:=Tryz.underlying4
 a4:=Tryz.isAgg4
 z4:=Tryz.sizeOf4
 v4:=Tryz.zeroValue4
 t5:=Tryz.underlying5
 a5:=Tryz.isAgg5
 z5:=Tryz.sizeOf5
 v5:=Tryz.zeroValue5
 t9:=Tryz.underlying9
 a9:=Tryz.isAgg9
 z9:=Tryz.sizeOf9
 v9:=Tryz.zeroValue9
 t22:=Tryz.underlying22
 a22:=Tryz.isAgg22
 z22:=Tryz.sizeOf22
 v22:=Tryz.zeroValue22
 t25:=Tryz.underlying81
 a25:=Tryz.isAgg81
 z25:=Tryz.sizeOf81
 v25:=Tryz.zeroValue81
 t39:=Tryz.underlying114
 a39:=Tryz.isAgg114
 z39:=Tryz.sizeOf114
 v39:=Tryz.zeroValue114
 t45:=Tryz.underlying141
 a45:=Tryz.isAgg141
 z45:=Tryz.sizeOf141
 v45:=Tryz.zeroValue141
 t46:=Tryz.underlying142
 a46:=Tryz.isAgg142
 z46:=Tryz.sizeOf142
 v46:=Tryz.zeroValue142
 t50:=Tryz.underlying79
 a50:=Tryz.isAgg79
 z50:=Tryz.sizeOf79
 v50:=Tryz.zeroValue79
 t53:=Tryz.underlying148
 a53:=Tryz.isAgg148
 z53:=Tryz.sizeOf148
 v53:=Tryz.zeroValue148
 t55:=Tryz.underlying150
 a55:=Tryz.isAgg150
 z55:=Tryz.sizeOf150
 v55:=Tryz.zeroValue150
 t66:=Tryz.underlying181
 a66:=Tryz.isAgg181
 z66:=Tryz.sizeOf181
 v66:=Tryz.zeroValue181
 t70:=Tryz.underlying185
 a70:=Tryz.isAgg185
 z70:=Tryz.sizeOf185
 v70:=Tryz.zeroValue185
 t76:=Tryz.underlying204
 a76:=Tryz.isAgg204
 z76:=Tryz.sizeOf204
 v76:=Tryz.zeroValue204
 t77:=Tryz.underlying205
 a77:=Tryz.isAgg205
 z77:=Tryz.sizeOf205
 v77:=Tryz.zeroValue205 }
end Go.Proofs
namespace Go.Fw
open Go.Proofs
set_option maxHeartbeats 4000000
set_option maxRecDepth 10000
def ltP(p q:Pr):Bool:=decide (Nz p q<0)
def aa5(ps:xLP):xLP:=ps.mergeSort fun x y=>!ltP y x
theorem XW(p q:Pr):ltP p q=tT↔p.1<q.1\/p.1=q.1/\p.2<q.2:=by grind[ltP,Hv]
theorem ZS(ps:xLP):(aa5 ps).length=ps.length:=by simp[aa5]
theorem Wb(ps:xLP)(p:Pr):p∈aa5 ps↔p∈ps:=by simp[aa5]
theorem YA(ps:xLP):(aa5 ps).Perm ps:=alO _ _
theorem Nc(p q:Pr):ltP p q=fF↔q.1<p.1\/q.1=p.1/\q.2<=p.2:=by grind[XW]
theorem VH(ps:xLP):(aa5 ps).Pairwise fun x y=>x.1<y.1\/x.1=y.1/\x.2<=y.2:=by
 have:=qL237 (le:=fun x y:Pr=>!ltP y x) (fun a b c d h2=>by grind[Nc]) (fun a b=>by grind[Nc]) ps;exact this.imp (by grind[Nc])
theorem ai0(ps:xLP):Go.Sort.flatK xM 2 ps.toArray=(Iu ps).toArray:=by
 apply Array.ext
 .simp[Ta]
 .intro i c h2;have d:i<ps.length*2:=by simpa using c
  have hi:i / 2<ps.length:=NH;have⟨a,b⟩:=H5 ps (i / 2) _ (CA hi);simp only[Go.Sort.flatK,Array.getElem_map,Array.getElem_range];rw[getElem!_pos _ (i / 2) hGr];simp only[qL207];rcases Nat.mod_two_eq_zero_or_one i with h|h
  .rw[h];have e:i / 2*2=i:=NH;rw[e,Gc hGr]at a;injection a with a;rw[a];rfl
  .rw[h];have e:i / 2*2+1=i:=NH;rw[e,Gc hGr]at b;injection b with b;rw[b];rfl
theorem Aq(ps:xLP):∀y∈Iu ps,flat y=tT/\y.oneCell'=tT:=by intro y a;rw[Iu,KG]at a;have⟨p,_,b⟩:=a;simp[xM]at b;rcases b with rfl|rfl<;>exact⟨rfl,rfl⟩
theorem swoP:Go.Sort.SWO (Go.Proofs.ltOf Nz):=by
 have e:∀p q,Go.Proofs.ltOf Nz p q=ltP p q:=fun _ _=>rfl;refine⟨fun x=>?_,fun x y z a h2=>?_,fun x y z a h2=>?_⟩
 all_goals grind[XW]
theorem GP.cases{h:aai}{v:vV}{ps:xLP}(g:GP h v ps)(b:ps.length<=100000):(∃a cap,v=.slice a 0 cap/\ps=[])\/∃id c cap,v=sL (Z ⟨id,0,Y⟩) ps.length cap/\h.own id=Z (.cells c)/\c.take (ps.length*2)=Iu ps/\(cap=UNK+2\/cap=ps.length/\ps.length<1000000000000)/\0<ps.length/\ps.length<=cap/\ps.length*2<=c.length:=by
 obtain⟨d,⟨rfl,e⟩|⟨id,c,cap,rfl,f,i,j⟩⟩:=g
 all_goals grind[UNK]
theorem ajc(m:abd)(p q:Pr):AK 0 m [UI p,UI q] [UI p,UI q]:=by
 have one:∀p:Pr,VR 0 m (UI p) (UI p):=fun p=>.agg rfl fun i v v' h h'=>by rw[h]at h';injection h' with h';subst h';have:v∈[vV.int .i64 p.1,.int .i64 p.2]:=hGr;simp at this;rcases this with rfl|rfl<;>exact .flat rfl
 grind[AK.cons,AK.nil]
theorem ai1(u:LA){h:aai}{v:vV}{ps:xLP}(g:GP h v ps)(z:ps.length<=100000)(b:FuncId)(A:∀args w,(callFunc b args).run pG w=.ok (.enter b args) w)(B:∀(W:World)(p q:Pr),AC pG (LA.of W) b [UI p,UI q] (MR W) fun v _=>v=.int .i64 (Nz p q)):
  AC pG u 49 [v,.func (.func b) #[] #[]] h fun x h'=>x=.tuple #[]/\GP h' v (aa5 ps)/\∀f,Le f h->Z2 f v->Le f h':=by
 rcases g.cases z with⟨a,cap,rfl,rfl⟩|⟨id,c,cap,rfl,C,D,i,E,j,l⟩
 .refine(AC.ajW fun a' cap' w=>AnyF.slices_SortFunc_none {Tryz.aa5 with} a' cap' (.func (.func b) #[] #[]) w).mono ?_;rintro x h' ⟨rfl,rfl⟩;exact⟨rfl,by simpa[aa5]using g,fun f o _=>o⟩
 .have key:=fun(blk off cap':Nat)(w:World) r hb (d:ps.length<=cap')=>
   AnyQ.slices_SortFunc_total (α:=Pr) Tryz.aa5 2 Tryz.isAgg49 Tryz.sizeOf49 xM (fun _=>rfl) (fun x v F=>(Aq [x] v (by simpa[Iu]using F)).2) Nz swoP b #[] blk off cap' ps.toArray w A
    (fun m os G _ x y=>AC.grown (args:=[UI x,UI y]) _ (B _ x y) (fun m=>ajc m x y)) r hb (by simp;omega)
    (fun x y t h2=>by have t:ltP x y=fF:=t;have h2:ltP y x=fF:=h2;grind[Nc])
  refine(AC.ofRowK (k:=2) (xs:=Iu ps) (ys:=Iu (aa5 ps)) C D (Ta _) (by rw[Ta,ZS]) l j E (by grind[Aq]) (Aq _) fun blk off cap' w r hb d=>?_).mono ?_
  .have s:Go.Sort.HoldsK xM 2 w blk off ps.toArray:=by
    unfold Go.Sort.HoldsK;rw[ai0];exact r
   refine(key blk off cap' w s hb d).mono ?_;rintro e w' ⟨rfl,n,os,rfl⟩;refine⟨rfl,n,os,?_⟩;unfold Go.Proofs.sortWorldK Go.Sort.putRowK;rw[ai0];rfl
  .rintro x h' ⟨rfl,rfl⟩;refine⟨rfl,?_,fun f o af=>o.put _ (af id rfl)⟩;rw[GP,ZS];refine⟨by rw[Ta,ZS],.inr ⟨id,_,cap,rfl,aai.Y3 _ _ _,?_,i⟩⟩;grind[Ta,ZS]
end Go.Fw
namespace Go.Fw
variable {es:List Pr} {n:Nat}
structure LowR (n:Nat) (ls:List Lw) (o:II):Prop where
 len:ls.length=n
 lt:∀v∈o,v<n
 Em:o.length<=n
 up:∀v,v<n->(Ro ls v).2.1<(n:Int)
def lowM_R(hR:aV n es):LowR n (Jz n es).1 (Jz n es).2:=by have⟨C,_⟩:=ZC hR n (qL0 _);refine⟨by rw[Jz,Qp,OQ];exact C.len,C.lt,C.toLowI.Em,fun v a=>?_⟩;rw[Jz,(ack _ _ v).2,(RK _ _ v).2];exact C.up v a
theorem z6(a b:Int):LZ (.int .i64 a) [b]=Z (.int .i64 (max a b)):=by grind[LZ]
def bP2(a b:Int):acB pG 49 [(0,a),(1,b)]=Z (UI (a,b)):=Ji
def zD(ls:List Lw)(c:RZ)(v:Nat):RZ:=if 0<=(Ro ls v).2.1/\(Ro ls (Ro ls v).2.1.toNat).1<=(Ro ls v).2.2 then c.set (Ro ls v).2.1.toNat (c.getD (Ro ls v).2.1.toNat 0+1)else c
def cntM(ls:List Lw)(o:II)(n:Nat):RZ:=o.foldl (zD ls) (rP n 0)
theorem AX(ls:List Lw)(c:RZ)(v:Nat):(zD ls c v).length=c.length:=by grind[zD]
def isCut(ls:List Lw)(c:RZ)(v:Nat):Bool:=decide (c.getD v 0>1)||(decide (c.getD v 0=1)&&decide ((Ro ls v).2.1>=0))
def JL(n:Nat)(es:xLP):II:=(rG n).filter (isCut (Jz n es).1 (cntM (Jz n es).1 (Jz n es).2 n))
def mkI0(h:aai):aas pG h 28 0 []=Z (sL (Z h.next) 0 0,h.alloc (.cells [])):=rfl
section
attribute [local irreducible] Kp MQ lU KO1 KO KN KX KE VK Kl ZJ TC aab
def pK(ls:List Lw)(p:Pr):Nat:=if(Ro ls p.1.toNat).1>(Ro ls p.2.toNat).1 then p.1.toNat else p.2.toNat
def hdS(ls:List Lw)(H:RZ)(v:Nat):RZ:=if 0<=(Ro ls v).2.1/\(Ro ls v).2.2<(Ro ls (Ro ls v).2.1.toNat).1 then(H.set v (v:Int)).set v ((H.set v (v:Int)).getD (Ro ls v).2.1.toNat 0)else H.set v (v:Int)
def hdM(ls:List Lw)(o:II)(n:Nat):RZ:=o.foldl (hdS ls) (rP n 0)
theorem IB(ls:List Lw)(c:RZ)(v:Nat):(hdS ls c v).length=c.length:=by grind[hdS]
theorem Cc(ls:List Lw):∀(o:II)(c:RZ),(o.foldl (hdS ls) c).length=c.length
 |[],c=>rfl
 |v::o,c=>by rw[gK,Cc ls o,IB]
def cQ(n:Nat)(es:xLP)(p:Pr):Int:=(hdM (Jz n es).1 (Jz n es).2 n).getD (pK (Jz n es).1 p) 0
def vq(n:Nat)(es:xLP):List xLP:=(aaX (fun p _=>cQ n es p) es [] es.length).map (·.2)
theorem lower_any(p:LA)(n L f a c:Nat)(ls:List Lw)(h:aai)(u:ls.length=n)(oV:h.own f=Z (.cells [sL (Z L) n n]))(oL:h.own L=Z (.cells (Wo ls)))(ha:a<n)(j:c<n):
  AC pG p 57 [UI ((a:Int),(c:Int)),pT (Z f)] h fun x h'=>x=.int .i64 (pK ls ((a:Int),(c:Int)):Nat)/\Le h h':=by
 have e:=fun(g:aai)(o:g.own f=Z (.cells [sL (Z L) n n]))=>(Fq (P:=pG) UP rfl o (off:=0):aaC pG g 90 ⟨f,0,Y⟩=_);simp only[pz]at e;refine AC.vF func57 ntmps57 results57 fun i=>?_;have⟨r,s,l1,w1,l⟩:=Tt i (xM ((a:Int),(c:Int)));have m1:=lK l;have m2:=HY l;simp only at m1 m2;have m:=V0 (ls:=ls) (v:=a) NH;have gc:=V0 (ls:=ls) (v:=c) NH;have b:=l1.own _ _ oL;have q:=e r (l1.own _ _ oV);simp only[HO,seval,Ci,s]
 generalize h.next=E at*
 by_cases k:(Ro ls a).1>(Ro ls c).1
 .have d:decide ((Ro ls a).1>(Ro ls c).1)=tT:=Z6 k;have t:pK ls ((a:Int),(c:Int))=a:=by grind[pK]
  refine gh (fRn 0 13 .done) ?_;simp only[HO,seval,Qg,Dh,Z0,Ip,Yq,EL,m1,m2,q,Is a ha,Is c j,fl0,Nh b m,Nh b gc,d];grind
 .have d:decide ((Ro ls a).1>(Ro ls c).1)=fF:=IE k;have t:pK ls ((a:Int),(c:Int))=c:=by grind[pK]
  refine gh (fRn 0 13 .done) ?_;simp only[HO,seval,Qg,Dh,Z0,Ip,Yq,EL,m1,m2,q,Is a ha,Is c j,fl0,Nh b m,Nh b gc,d];grind
theorem Cw(W0:LA)(v:vV)(G:GM)(h:aai)(hg:GR h v G):
  AC pG W0 34 [v] h fun x h'=>Le h h'/\((¬bX G/\x=.tuple #[.slice Y 0 0,.int .i64 20])\/(bX G/\∃bv,x=.tuple #[bv,.int .i64 0]/\RL PR h' bv (vq G.n.toNat G.es))):=by
 have cx:=hg;have⟨gn,es⟩:=G
 obtain⟨ev,rfl,hp⟩:=hg.open
 refine AC.vF func34 ntmps34 results34 fun cz=>?_;obtain⟨h1,b1,aL,dv,-,lA⟩:=r8 (n:=gn) cz hp
 generalize h.next=B at*
 have cC:=lA h1 (Le.refl _);simp only[HO,seval,b1,cC.1];refine TC.intro PJ ⟨func56,rfl,WY⟩ (qX W0 _ _ h1 (cx.le aL)) ?_;rintro x h2 bH ⟨bI,aN⟩;have al:=ajY h2;have⟨h3,e3,l3,w3,o3⟩:=Tt bH [.slice Y 0 0];rw[e3]at al
 have nV:h2.own h2.next=Y:=(Le.refl h2).next bH (qL0 _)
 rcases aN with⟨hr,rfl⟩|⟨hr,L,ov,rfl,oL,nL,go,nb,ao⟩
 .have st:=QB (P:=pG) (t:=90) (x:=.slice Y 0 0) UP Ji o3 (off:=0) Ma rfl rfl;have d20:decide ((20:Int)=0)=fF:=by decide
  simp only[HO,seval,al,st,bne,d20];grind[Le.trans,Le.put]
 have h0:0<=gn:=hr.n0;obtain⟨n,rfl⟩:=qL7 h0;have dq:(n:Int)<=200:=hr.n1;have dr:es.length<=594:=hr.len;have hR:=hr.GD;have R:=lowM_R hr.GD;simp only[yM]at oL go ⊢;have hM:vq n es=(aaX (fun p _=>(hdM (Jz n es).1 (Jz n es).2 n).getD (pK (Jz n es).1 p) 0) es [] es.length).map (·.2):=rfl;generalize (Jz n es).1=ls at*;generalize (Jz n es).2=o at*;have dw:=R.Em;have st:=QB (P:=pG) (t:=90) (x:=sL (Z L) n n) UP Ji o3 (off:=0) Ma rfl rfl;have w4:=w3.put (.cells ([vV.slice Y 0 0].set 0 (sL (Z L) n n))) (w3.lt o3);have l4:=l3.put (.cells ([vV.slice Y 0 0].set 0 (sL (Z L) n n))) nV
 have aP:=aai.Y3 h3 h2.next (.cells ([vV.slice Y 0 0].set 0 (sL (Z L) n n)))
 simp only[qL216]at aP l4 w4 st;have lo:=fun g=>go.rl.TA g;rw[y6]at lo;simp only[HO,seval,al,st,bne];clear st al e3 o3 w3 l3
 generalize h3.put h2.next (.cells [sL (Z L) n n])=h4 at*
 generalize h2.next=S at*
 clear h3;have bN:=lA h4 (bI.trans l4);have mk:=Ye (P:=pG) (t:=28) (z:=.int .i64 0) h4 Mb rfl rfl rfl rfl Ji Ac Ji n NH;have⟨h5,e5,l5,w5,o5⟩:=Tt w4 (rP n (.int .i64 0));rw[e5]at mk
 have nC:h4.own h4.next=Y:=(Le.refl h4).next w4 (qL0 _)
 simp only[HO,seval,Ii,Ip,EL,bN.2.1,mk,lo]
 generalize h4.next=C at*
 have bQ:h5.own C=Z (.cells (Bp (rP n 0))):=by rw[o5];simp[Bp]
 have cE:=l4.own _ _ oL;have cJ:=go.le l4;have aa:=fun(g:aai)(o:Le h4 g)=>(Fq (P:=pG) UP rfl (o.own _ _ aP) (off:=0):aaC pG g 90 ⟨S,0,Y⟩=_);simp only[pz]at aa;have ae:∀(k:IntKind)(j:Nat),j<n->aao pG 28 (sL (Z C) n n) (.int k j)=Z (pT (Z ⟨C,j,Y⟩)):=fun k j hj=>by rw[Wc Mb Ac Ji j hj];simp[Ip]
 have bW:∀(g:aai)(c:RZ)(j:Nat),g.own C=Z (.cells (Bp c))->c.length=n->j<n->aaC pG g 3 ⟨C,j,Y⟩=Z (.int .i64 (c.getD j 0)):=fun g c j N hl hj=>by rw[Fq Ac rfl N,D4 NH];simp[Bp,CA (show j<c.length by omega)]
 refine aab.intro (fun k fr m=>∃(i:Nat),k=o.length-i/\i<=o.length/\fr=mkF [(1,pT (Z B)),(4,pT (Z S)),(7,sL (Z C) n n),(32,ov),(33,.int .i64 o.length),(34,i)]/\m.own C=Z (.cells (Bp ((o.take i).foldl (hdS ls) (rP n 0))))/\Le h4 m)
  o.length [(1,pT (Z B)),(4,pT (Z S)),(7,sL (Z C) n n),(32,ov),(33,.int .i64 o.length),(34,(0:Nat))] fD ⟨0,rfl,aax _,rfl,bQ,l5⟩ ?_
 clear bQ o5 w5 l5 e5 mk lo bN;clear h5;rintro k fr m aT ⟨i,rfl,hi,rfl,oC,leq⟩;have aW:((o.take i).foldl (hdS ls) (rP n 0)).length=n:=by grind[Cc]
 refine Uy ?_;refine Kl.intro (fun ht=>?_) (fun hf=>?_)
 .have d:i<o.length:=acb ht;clear ht;have bY:=CA d;have ad:=go.rl.DH i (by rw[y6];exact d);have ld:=(cJ.le leq).rl.Uc i (by rw[y6];exact d);rw[sY d]at ld;have cK:o.take (i+1)=o.take i++[o[i]]:=XJ d;generalize o[i]=w at bY ld cK;have O:=R.lt w (BS bY);have gw:=V0 (ls:=ls) (v:=w) (by grind[LowR.len]);have A:(o.take (i+1)).foldl (hdS ls) (rP n 0)=hdS ls ((o.take i).foldl (hdS ls) (rP n 0)) w:=hGr;generalize (o.take i).foldl (hdS ls) (rP n 0)=H at*;have st1:=QB (P:=pG) (t:=3) (x:=w) Ac Ji oC (off:=w) (by simp[Bp];omega) rfl rfl;rw[yy]at st1;have r:=leq.put (.cells (Bp (H.set w (w:Int)))) nC;have ai:=aai.Y3 m C (.cells (Bp (H.set w (w:Int))));have bZ:(H.set w (w:Int)).length=n:=hGr;generalize m.put C (.cells (Bp (H.set w (w:Int))))=h6 at*;have T:=r.own _ _ cE;simp only[HO,seval,ad,ld,ae _ w O,st1,aa h6 r,Is w O,fl1,Ip,lUp T gw];by_cases c1:0<=(Ro ls w).2.1
  .obtain⟨u,s⟩:=qL7 c1;have aj:u<n:=by have:=R.up w O;omega
   have gu:=V0 (ls:=ls) (v:=u) (by grind[LowR.len]);have d1:decide ((u:Int)>=0)=tT:=Z6 NH;by_cases c2:(Ro ls w).2.2<(Ro ls u).1
   .have d2:decide ((Ro ls w).2.2<(Ro ls u).1)=tT:=Z6 c2;have hE:hdS ls H w=(H.set w (w:Int)).set w ((H.set w (w:Int)).getD u 0):=by grind[hdS,Int.toNat_natCast]
    have st:=QB (P:=pG) (t:=3) (x:=.int .i64 ((H.set w (w:Int)).getD u 0)) Ac Ji ai (off:=w) (by simp[Bp];omega) rfl rfl;rw[yy,<-hE,<-A]at st;simp only[s];refine gh (fRn 0 15 .done) ?_;simp only[HO,seval,Qg,d1,d2,aa h6 r,Is w O,Is u aj,fl0,fl2,Ip,Yq,lLow T gw,Nh T gu,ae _ u aj,ae _ w O,bW h6 _ u ai bZ aj,st,aaa i NH];exact tn (o.length-(i+1)) [(1,pT (Z B)),(4,pT (Z S)),(7,sL (Z C) n n),(32,ov),(33,.int .i64 o.length),(34,(i+1:Nat))] NH fD ⟨i+1,rfl,d,rfl,aai.Y3 _ _ _,r.put _ nC⟩
   .have d2:decide ((Ro ls w).2.2<(Ro ls u).1)=fF:=IE c2;have hE:hdS ls H w=H.set w (w:Int):=by grind[hdS,Int.toNat_natCast]
    simp only[s];refine gh (fRn 0 15 .done) ?_;simp only[HO,seval,Qg,d1,d2,aa h6 r,Is w O,Is u aj,fl0,fl2,Ip,Yq,lLow T gw,Nh T gu,aaa i NH];exact tn (o.length-(i+1)) [(1,pT (Z B)),(4,pT (Z S)),(7,sL (Z C) n n),(32,ov),(33,.int .i64 o.length),(34,(i+1:Nat))] NH fD ⟨i+1,rfl,d,rfl,by rw[A,hE];exact ai,r⟩
  .have d1:decide ((Ro ls w).2.1>=0)=fF:=IE c1;have hE:hdS ls H w=H.set w (w:Int):=by grind[hdS]
   refine gh (fRn 0 15 .done) ?_;simp only[HO,seval,Qg,d1,aaa i NH];exact tn (o.length-(i+1)) [(1,pT (Z B)),(4,pT (Z S)),(7,sL (Z C) n n),(32,ov),(33,.int .i64 o.length),(34,(i+1:Nat))] NH fD ⟨i+1,rfl,d,rfl,by rw[A,hE];exact ai,r⟩
 have aX:o.length<=i:=vp hf;rw[abe aX]at oC aW;have b0:o.foldl (hdS ls) (rP n 0)=hdM ls o n:=rfl;rw[b0]at oC aW;rw[hM];clear hM b0;generalize hdM ls o n=H at*
 obtain⟨Q,e7,y,U,o7⟩:∃Q,m.alloc (.map [])=Q/\Le m Q/\WF Q/\Q.own m.next=Z (.map []):=⟨_,rfl,(Le.refl m).alloc aT _,aT.alloc _,aai.zT _ _⟩
 have⟨h8,e8,aq,cM,o8⟩:=Tt U []
 have b2:aas pG Q 28 0 []=Z (sL (Z ⟨Q.next,0,Y⟩) 0 0,h8):=by rw[<-e8];rfl
 have nM:m.own m.next=Y:=(Le.refl m).next aT (qL0 _)
 have nD:m.own Q.next=Y:=y.next U (qL0 _)
 have b3:Q.next≠m.next:=fun e=>by have:=U.lt o7;omega
 have V:=bI.trans (l4.trans leq);have b4:=lA h8 (V.trans (y.trans aq));have ll:=fun g=>hp.len g;simp only[HO,seval,e7,b2,Di,Ip,EL,b4.2.2,ll];have b5:=aq.own _ _ o7
 generalize m.next=M at*
 generalize Q.next=D at*
 have cN:=hp.le (aL.trans V);have cP:=(l4.trans leq).own _ _ oL;have cR:=leq.own _ _ aP;generalize cU:(fun(p:Pr)(_:Nat)=>H.getD (pK ls p) 0)=fr at*;have R0:aaE m h8 M [] (aaX fr es [] 0):=⟨b5,rfl,fun j u g s=>by simp at s,fun j u s=>by simp at s,fun j k u u' b _ s=>by simp at s,fun j u s=>by simp at s,y.trans aq,nM⟩;have gC:GI h8 (sL (Z D) 0 0) (Ea (aaX fr es [] 0)):=GS.full o8 rfl WY;refine aab.intro (fun k W hh=>∃(i:Nat)(cv:vV)(us:xLV),k=es.length-i/\i<=es.length/\W=mkF [(7,sL (Z C) n n),(11,.func (.func 57) #[] #[pT (Z S)]),(12,.map (Z M)),(13,cv),(74,ev),(75,es.length),(76,i)]/\
   aaE m hh M us (aaX fr es [] i)/\GI hh cv (Ea (aaX fr es [] i))/\blk cv≠Z M/\(∀(j:Nat) u b,us[j]?=Z u->blk u=Z b->blk cv≠Z b)/\Z2 m cv)
  es.length [(7,sL (Z C) n n),(11,.func (.func 57) #[] #[pT (Z S)]),(12,.map (Z M)),(13,sL (Z D) 0 0),(74,ev),(75,es.length),(76,(0:Nat))] fD
  ⟨0,_,[],rfl,aax _,rfl,R0,gC,by grind[blk],fun j u b s=>by simp at s,fun b hb=>by grind[blk]⟩ ?_
 clear R0 gC b5 b4 nD b3 b2 o8 cM aq e8 o7 U y e7;rintro k W hh ar ⟨i,cv,us,rfl,hi,rfl,Rg,gc,nc,dc,ac⟩;have a6:=Rg.le;refine Uy ?_;refine Kl.intro (fun ht=>?_) (fun hf=>?_)
 rotate_left
 .have aX:es.length<=i:=vp hf;obtain rfl:i=es.length:=NH;have⟨nd,b6,aF,cW,b8⟩:=Pt fr es [] es.length;generalize a7:aaX fr es [] es.length=gs at*;have lc:=fun g=>gc.rl.TA g;have b9:(Ea gs).length=gs.length:=by simp[Ea]
  rw[b9]at lc;have mk:=Ye (P:=pG) (t:=64) (z:=.slice Y 0 0) hh alD B9 rfl rfl rfl Ji eY Ji gs.length NH;have⟨h9,e9,I,av,o9⟩:=Tt ar (rP gs.length (.slice Y 0 0));rw[e9]at mk
  have nF:hh.own hh.next=Y:=(Le.refl hh).next ar (qL0 _)
  generalize hh.next=F at*
  simp only[HO,seval,lc,mk];refine aab.intro (fun k W hz=>∃(j:Nat)(cs:xLV),k=gs.length-j/\j<=gs.length/\W=mkF [(12,.map (Z M)),(17,sL (Z F) gs.length gs.length),(107,cv),(108,gs.length),(109,.int .i64 j)]/\
    Le hh hz/\hz.own F=Z (.cells cs)/\cs.length=gs.length/\∀(a:Nat) g,a<j->gs[a]?=Z g->∃x,cs[a]?=Z x/\PR hh x g.2)
   gs.length [(12,.map (Z M)),(17,sL (Z F) gs.length gs.length),(107,cv),(108,gs.length),(109,(0:Nat))] fD
   ⟨0,_,rfl,aax _,rfl,I,o9,Ma,NH⟩ ?_
  clear e9 o9 av I mk;clear h9;rintro k W hz dy ⟨j,cs,rfl,hj,rfl,ay,oF,dz,a8⟩;refine Uy ?_;refine Kl.intro (fun ht=>?_) (fun hf=>?_)
  rotate_left
  .have aX:gs.length<=j:=vp hf;refine Uy ?_;refine⟨(aL.trans V).trans (a6.trans ay),.inr ⟨hr,_,rfl,cs,?_,(by grind),fun a f u ha s=>?_⟩⟩
   .grind[RS.whole]
   .rw[Q4]at ha;cases cc:gs[a]? with
    |none=>grind
    |some g=>grind[PR.le]
  have bb:j<gs.length:=acb ht;clear ht;have cd:=CA bb;generalize gs[j]=g at cd;have⟨f,l⟩:=g;have cf:(Ea gs)[j]?=Z f:=by grind[Ea]
  have cg:=(Ny.1 cf).1;have cZ:=gc.rl.DH j cg;have ck:=(gc.rl.le Nn.RP ay).Uc j cg;rw[(Ny.1 cf).2]at ck;have Rz:=Rg.up ay;have⟨u,c0,bg⟩:=Rg.look f;rw[NI nd cd]at bg;have s:acR pG hz 96 (.map (Z M)) (.int .i64 f) fF=Z u:=by rw[<-c0];simp only[acR,qS9,Ac,Rz.oM,Rg.oM]
  have c3:∀k:IntKind,aao pG 64 (sL (Z F) gs.length gs.length) (.int k j)=Z (pT (Z ⟨F,j,Y⟩)):=fun k=>by rw[Wc alD eY Ji j bb];simp[Ip]
  have stF:=QB (P:=pG) (t:=22) (x:=u) eY Ji oF (off:=j) NH (xO.cells bg.pr.sl) (xO.one bg.pr.sl);simp only[HO,seval,cZ,ck,s,c3,stF,aaa j NH];refine tn (gs.length-(j+1)) [(12,.map (Z M)),(17,sL (Z F) gs.length gs.length),(107,cv),(108,gs.length),(109,(j+1:Nat))] NH fD
   ⟨j+1,cs.set j u,rfl,bb,rfl,ay.put _ nF,aai.Y3 _ _ _,(by grind),fun a g ha cc=>?_⟩
  by_cases e:a=j
  .grind[GP.pr]
  .obtain⟨x',q1,q2⟩:=a8 a g NH cc;grind
 have d:i<es.length:=acb ht;clear ht;have az:=CA d;generalize es[i]=p at az;have c4:=BS az;have aH:=hR p c4;have c5:=cN.le a6;have ad:=hp.addr (k:=.i64) i d;have ld:=c5.load az;have⟨a,c⟩:=p;simp only at aH;obtain⟨a,rfl⟩:=qL7 aH.1;obtain⟨c,rfl⟩:=qL7 (show 0<=c by omega);have⟨dA,Q,e7,c6,y,U,o7⟩:=Ut ar ((a:Int),(c:Int))
 have cm:hh.own hh.next=Y:=(Le.refl hh).next ar (qL0 _)
 have X:=a6.trans y;have R7:=Rg.up y;have c9:=gc.le y
 have dB:hh.next≠M:=fun e=>by have:=Rg.oM;grind
 have da:blk cv≠Z hh.next:=fun e=>GS.Sy gc e cm
 have dE:∀(j:Nat) u,us[j]?=Z u->blk u≠Z hh.next:=fun j u s e=>by have a7:∃q,(aaX fr es [] i)[j]?=Z q:=⟨_,CA (by grind[aaE.len])⟩;have⟨q,m⟩:=a7;exact GS.Sy (Rg.gp j u q s m) e cm
 generalize hh.next=E at*
 have db:=uM o7;simp only[HO,seval,ad,ld,e7,c6,db];refine TC.intro PJ ⟨func57,rfl,WY⟩ (lower_any W0 n L S a c ls Q R.len (X.own _ _ cR) (X.own _ _ cP) NH NH) ?_;rintro x h9 av ⟨rfl,I⟩;have hle:pK ls ((a:Int),(c:Int))<n:=by grind[pK]
 have aJ:=X.trans I;have R9:=R7.up I;have bh:=c9.le I;have o9:=I.own _ _ o7;have bk:=bW h9 H _ (aJ.own _ _ oC) aW hle;have c1:((a:Int),(c:Int))∉([]:xLP):=by simp
 have⟨nd,b6,aF,cW,b8⟩:=Pt fr es [] i;have aK:=dh (fr:=fr) az c1;have dd:fr ((a:Int),(c:Int)) i=H.getD (pK ls ((a:Int),(c:Int))) 0:=by rw[<-cU]
 rw[<-dd]at bk;have K:=RY (aaX fr es [] i) (fr ((a:Int),(c:Int)) i) ((a:Int),(c:Int));have cp:=rV (f:=fr ((a:Int),(c:Int)) i) b6;have dF:=Ft (fr ((a:Int),(c:Int)) i) _ _ aF;have cq:=ae .i64 _ hle;generalize a7:aaX fr es [] i=gs at*;generalize fr ((a:Int),(c:Int)) i=f at*;generalize pK ls ((a:Int),(c:Int))=lw at*;have b9:(Ea gs).length<=1000:=by grind[Ea]
 have⟨u,s,gu⟩:=R9.look f;have lu:=fun g=>gu.pr.len g;have bm:∀(j:Nat) a b,us[j]?=Z a->blk a=Z b->∃o,h9.own b=Z o:=fun j a b ha hb=>by have m:∃q,gs[j]?=Z q:=⟨_,CA (by rw[<-R9.len];grind)⟩;have⟨q,m⟩:=m;exact uV.1 (GS.Sy (R9.gp j a q ha m) hb)
 by_cases c2:acU gs f=[]
 .have de:∀g,aeh pG g 22 u=Z (.int .i64 0):=fun g=>by rw[lu g,c2];rfl
  have dg:f∉Ea gs:=fun hm=>cp.1 hm c2;rw[WA dg]at K;have⟨aC,g4,g5,e4,e5,bo,w5,l4,dj,aD⟩:=bh.push av f NH;have⟨l5,a5⟩:=dj m aJ ac;have R5:aaE m g5 M us gs:=R9.keep l5 fun b o N hb=>(aD b o N (by
   rcases hb with rfl|⟨j,a,ha,hb⟩
   .exact nc
   grind)).1
  have⟨dk,dH⟩:=aD E _ o9 da;have br:=(aD M _ R9.oM nc).2;have⟨u2,dm,q4,q5,q6,bx,eu,eb,ea,em,Rn,wn,dp,kq⟩:=R5.push w5 f ((a:Int),(c:Int)) (by rw[c2];simp);have bB:=uM dk;rw[<-K]at bo;have ku:∀(j:Nat) a b,us[j]?=Z a->blk a=Z b->blk aC≠Z b:=fun j a b ha hb=>by have⟨o,N⟩:=bm j a b ha hb;exact(aD b o N (dc j a b ha hb)).2
  have bF:GI q6 aC (Ea (ab4 gs f ((a:Int),(c:Int)))):=GS.kept bo fun b o hb N=>(kq b o N (fun e=>br (by grind)) (fun j a ha J=>ku j a b ha J hb)).2.1;simp only[HO,seval,cq,bk,s,de,e4,e5,eu,bB,eb,ea,em,aaa i NH];refine tn (es.length-(i+1)) [(7,sL (Z C) n n),(11,.func (.func 57) #[] #[pT (Z S)]),(12,.map (Z M)),(13,aC),(74,ev),(75,es.length),(76,(i+1:Nat))] NH fD
   ⟨i+1,aC,bx,rfl,d,rfl,?_⟩
  rw[aK];refine⟨Rn,bF,br,fun j a b ha hb hc=>?_,a5⟩;have⟨o,N⟩:=uV.1 (GS.Sy bo hc);exact(kq b o N (fun e=>br (by grind)) (fun j a ha J=>ku j a b ha J hc)).2.2 j a ha hb
 .have hz:(((acU gs f).length:Nat):Int)≠0:=by grind[length_eq_zero_iff]
  rw[Sb (cp.2 c2)]at K;have⟨u2,dm,q4,q5,q6,bx,eu,eb,ea,em,Rn,wn,dp,kq⟩:=R9.push av f ((a:Int),(c:Int)) NH;obtain rfl:u=u2:=hGr;have bB:=uM o9;have bF:GI q6 cv (Ea (ab4 gs f ((a:Int),(c:Int)))):=by rw[K];exact GS.kept bh fun b o hb N=>(kq b o N (fun e=>nc (by grind)) (fun j a ha J=>dc j a b ha J hb)).2.1
  simp only[HO,seval,cq,bk,s,lu,eq_false hz,bB,eb,ea,em,aaa i NH];refine tn (es.length-(i+1)) [(7,sL (Z C) n n),(11,.func (.func 57) #[] #[pT (Z S)]),(12,.map (Z M)),(13,cv),(74,ev),(75,es.length),(76,(i+1:Nat))] NH fD
   ⟨i+1,cv,bx,rfl,d,rfl,?_⟩
  rw[aK];refine⟨Rn,bF,nc,fun j a b ha hb hc=>?_,ac⟩;have⟨o,N⟩:=uV.1 (GS.Sy bh hc);exact(kq b o N (fun e=>nc (by grind)) (fun j a ha J=>dc j a b ha J hc)).2.2 j a ha hb
variable {a b c u v:Nat} {ls:List Lw} {num:Nat->Nat} {o:II} {up:Nat->Option Nat} {α:Type}
def low_lt(S:aay n es ls o num up)(a:v<n)(c:up v=Z u):((Ro ls v).2.2<(Ro ls u).1↔ym es num up u v):=by have b:=((S.fo.Kd v u a c).1.lt S.fo.rD).1;have⟨x,d,h2⟩:=S.low v a;rw[d,S.fO u b,<-S.fo.low_bey a c h2];omega
theorem up_of(S:aay n es ls o num up)(a:v<n):(0<=(Ro ls v).2.1/\∃u,up v=Z u/\(Ro ls v).2.1=(u:Int))\/(¬0<=(Ro ls v).2.1/\up v=Y):=by
 by_cases c:0<=(Ro ls v).2.1
 .obtain⟨u,b⟩:=qL7 c;exact .inl ⟨c,u,by rw[<-S.ups v a,b,acm],b⟩
 .exact .inr ⟨c,by rw[<-S.ups v a];grind[upI]⟩
def Cl(n:Nat)(es:xLP)(v:Nat):Nat:=((hdM (Jz n es).1 (Jz n es).2 n).getD v 0).toNat
theorem hd_fold(S:aay n es ls o num up):∀k,k<=n->
  ∃hd:Nat->Nat,(∀(j v:Nat),j<k->o[j]?=Z v->((o.take k).foldl (hdS ls) (rP n 0)).getD v 0=(hd v:Int)/\
   (up v=Y->hd v=v)/\(∀u,up v=Z u->ym es num up u v->hd v=hd u)/\(∀u,up v=Z u->¬ym es num up u v->hd v=v)):=by
 intro k
 induction k with
 |zero=>intro _;exact⟨id,hGr⟩
 |succ k D=>
  intro J;have⟨hd,H⟩:=D NH;have h:k<o.length:=by rw[S.Em];omega
  have r:o.take (k+1)=o.take k++[o[k]]:=XJ h;have a:=CA h;generalize o[k]=w at r a;have b:=(S.mem w).1 (BS a);have K:((o.take k).foldl (hdS ls) (rP n 0)).length=n:=by grind[Cc]
  have d:(o.take (k+1)).foldl (hdS ls) (rP n 0)=hdS ls ((o.take k).foldl (hdS ls) (rP n 0)) w:=hGr;rw[d];generalize (o.take k).foldl (hdS ls) (rP n 0)=L at*;have s:∀(j v:Nat),j<k->o[j]?=Z v->v≠w:=fun j v B g e=>by grind[List.getElem?_inj,aay.nd]
  have t:∀u,up w=Z u->∃j,j<k/\o[j]?=Z u:=fun u f=>by have⟨C,h2⟩:=S.fo.Kd w u b f;have⟨j,B⟩:=Og.1 ((S.mem u).2 (C.lt S.fo.rD).1);grind[aay.ord]
  let x:Nat:=match up w with
   |none=>w
   |some u=>if 0<=(Ro ls w).2.1/\(Ro ls w).2.2<(Ro ls (Ro ls w).2.1.toNat).1 then hd u else w
  have E:(hdS ls L w).getD w 0=(x:Int)/\(∀v,v≠w->(hdS ls L w).getD v 0=L.getD v 0)/\(up w=Y->x=w)/\(∀u,up w=Z u->ym es num up u w->x=hd u)/\(∀u,up w=Z u->¬ym es num up u w->x=w):=by
   rcases up_of S b with⟨c,u,f,F⟩|⟨c,f⟩
   .have p:x=if 0<=(Ro ls w).2.1/\(Ro ls w).2.2<(Ro ls (Ro ls w).2.1.toNat).1 then hd u else w:=hGr
    have hb:=low_lt S b f;by_cases q:ym es num up u w
    .have i:0<=(Ro ls w).2.1/\(Ro ls w).2.2<(Ro ls (Ro ls w).2.1.toNat).1:=by grind[Int.toNat_natCast]
     have⟨j,l,m⟩:=t u f;have y:=(H j u l m).1;have G:=s j u l m;rw[p,Sb i];refine⟨?_,fun v g=>?_,hGr,hGr,hGr⟩
     .unfold hdS;rw[Sb i,cA,Sb hGr,F,yM,cA,WA hGr];exact y
     .unfold hdS;rw[Sb i,cA,WA hGr,cA,WA hGr]
    .have i:¬(0<=(Ro ls w).2.1/\(Ro ls w).2.2<(Ro ls (Ro ls w).2.1.toNat).1):=by grind[Int.toNat_natCast]
     rw[p,WA i];refine⟨?_,fun v g=>?_,fun _=>rfl,hGr,fun u' e _=>rfl⟩
     .grind[hdS]
     grind[hdS]
   .have p:x=w:=hGr;rw[p];refine⟨?_,fun v g=>?_,fun _=>rfl,hGr,hGr⟩
    .grind[hdS]
    grind[hdS]
  have⟨M,N,O,P,Q⟩:=E
  refine⟨fun v=>if v=w then x else hd v,fun j v B g=>?_⟩
  by_cases e:v=w
  .grind
  .have z:j<k:=hGr;have⟨C,h2,h3,I⟩:=H j v z g;simp only[WA e];refine⟨hGr,h2,fun u f hb=>?_,I⟩;have A:=(S.mem v).1 (BS g);have⟨R,T⟩:=S.fo.Kd v u A f;have:u≠w:=by grind[aay.ord]
   grind
theorem FY(S:aay n es (Jz n es).1 (Jz n es).2 num up):Fo.abi n es num up (Cl n es)/\∀v,v<n->(hdM (Jz n es).1 (Jz n es).2 n).getD v 0=(Cl n es v:Int):=by
 have⟨hd,H⟩:=hd_fold S n (qL0 _);rw[abe (by grind[aay.Em])]at H;have ex:∀v,v<n->∃j,j<n/\(Jz n es).2[j]?=Z v:=fun v a=>by have⟨j,d⟩:=Og.1 ((S.mem v).2 a);grind[aay.Em]
 have e:∀v,v<n->Cl n es v=hd v:=by grind[Cl,hdM]
 have ev:∀v,v<n->(hdM (Jz n es).1 (Jz n es).2 n).getD v 0=(Cl n es v:Int):=fun v a=>by have⟨j,c,h2⟩:=ex v a;have:=(H j v c h2).1;rw[e v a];exact this
 refine⟨⟨fun v a b=>?_,fun v u a b hb=>?_,fun v u a b hb=>?_⟩,ev⟩
 .grind
 .rw[e v a,e u ((S.fo.Kd v u a b).1.lt S.fo.rD).1];grind
 grind
theorem keyE_hd(S:aay n es (Jz n es).1 (Jz n es).2 num up)(ha:a<n)(d:c<n):cQ n es ((a:Int),(c:Int))=(Cl n es (Fo.lower num a c):Int):=by
 have e:pK (Jz n es).1 ((a:Int),(c:Int))=Fo.lower num a c:=by simp only[pK,yM,Fo.lower,S.fO a ha,S.fO c d];grind
 have b:Fo.lower num a c<n:=by grind[Fo.lower]
 rw[cQ,e,(FY S).2 _ b]
theorem Ab(h:num a≠num b):Fo.lower num a b=Fo.lower num b a:=by grind[Fo.lower]
theorem jm(S:aay n es (Jz n es).1 (Jz n es).2 num up)(h:Jp es a b):cQ n es (GW a b)=(Cl n es (Fo.lower num a b):Int):=by have c:=S.fo.JD h;have d:=h.lt S.fo.rD;grind[bj,keyE_hd,Ab]
theorem dR(c:aV n es)(ha:Jp es v a)(hb:Jp es v b):cQ n es (GW v a)=cQ n es (GW v b)↔Cn (wo v) es a b:=by have⟨num,up,S⟩:=Ob c;rw[jm S ha,jm S hb,<-S.fo.Hp (FY S).1 ha hb];grind
theorem adg(k:aV n es)(of:Pr->α)(j:∀v a b,Jp es v a->Jp es v b->Cn (wo v) es a b->of (GW v a)=of (GW v b)){p q:Pr}(i:p∈es)(l:q∈es)(h:cQ n es p=cQ n es q):of p=of q:=by
 have⟨num,up,S⟩:=Ob k;have ex:∀p∈es,∃a b:Nat,Jp es a b/\p=GW a b:=fun p i=>by have e:=k p i;have⟨x,y⟩:=p;obtain⟨a,rfl⟩:=qL7 e.1;obtain⟨c,rfl⟩:=qL7 (show 0<=y by omega);exact⟨a,c,.inl i,by unfold GW;rw[qL241 NH,qL230 NH]⟩
 obtain⟨a,b,f,rfl⟩:=ex p i;obtain⟨c,d,g,rfl⟩:=ex q l;rw[jm S f,jm S g]at h;exact S.fo.link2 (FY S).1 (fun x y=>of (GW x y)) (by grind[so]) j f g (Int.ofNat.inj h)
def fkS(key:Pr->Int)(ks:RZ)(p:Pr):RZ:=if key p∈ks then ks else ks++[key p]
def CY(key:Pr->Int)(es:xLP):RZ:=es.foldl (fkS key) []
def Mr(key:Pr->Int)(es:xLP)(p:Pr):CY key (es++[p])=fkS key (CY key es) p:=by simp[CY]
theorem ahE(key:Pr->Int):∀(k:Nat)(es:xLP),es.length=k->(CY key es).Nodup/\∀x,x∈CY key es↔∃p∈es,key p=x:=by
 intro k
 induction k with
 |zero=>grind[CY]
 |succ k b=>
  intro es h;obtain⟨es,p,rfl⟩:∃a p,es=a++[p]:=by
   rcases Cj es with rfl|⟨a,p,h'⟩
   all_goals grind
  rw[Mr];unfold fkS;by_cases q:key p∈CY key es
  .grind
  .refine⟨?_,fun x=>?_⟩
   .grind
   grind
theorem HK(F:Int->xLP)(f:Int)(p:Pr):∀(ks:RZ),ks.Nodup->ab4 (ks.map fun k=>(k,F k)) f p=if f∈ks then ks.map (fun k=>(k,if k=f then F k++[p]else F k))else ks.map (fun k=>(k,F k))++[(f,[p])]
 |[],_=>by simp[ab4]
 |k::ks,a=>by rw[eR]at a;have b:=HK F f p ks a.2;grind[ab4,map_congr_left]
theorem ba(key:Pr->Int)(es:xLP):∀m,m<=es.length->aaX (fun p _=>key p) es [] m=(CY key (es.take m)).map fun k=>(k,(es.take m).filter fun p=>decide (key p=k))
 |0,_=>by simp[aaX,CY]
 |m+1,h=>by
  have b:m<es.length:=h;have c:=CA b;have a:es.take (m+1)=es.take m++[es[m]]:=XJ b;generalize es[m]=p at c a;have⟨d,h2⟩:=ahE key _ (es.take m) rfl;rw[dh c Ma,ba key es m NH,HK _ _ _ _ d,a,Mr];unfold fkS;by_cases q:key p∈CY key (es.take m)
  .grind
  .rw[WA q,WA q,abZ];congr 1
   .grind[map_congr_left]
   grind[filter_eq_nil_iff]
theorem aaB(n:Nat)(es:xLP):vq n es=(CY (cQ n es) es).map fun k=>es.filter fun p=>decide (cQ n es p=k):=by rw[vq,ba _ _ _ (qL0 _),ags,Lm];rfl
theorem fk_first(key:Pr->Int):∀(k:Nat)(es:xLP),es.length=k->∀(i j:Nat) a b,i<j->(CY key es)[i]?=Z a->(CY key es)[j]?=Z b->∃(x:Nat)(p:Pr),es[x]?=Z p/\key p=a/\∀(y:Nat) q,es[y]?=Z q->key q=b->x<y:=by
 intro k
 induction k with
 |zero=>grind[CY]
 |succ k l=>
  intro es h i j a b f hi d;obtain⟨es,p,rfl⟩:∃g p,es=g++[p]:=by
   rcases Cj es with rfl|⟨g,p,h'⟩
   all_goals grind
  have l:=l es (by simpa using h);have⟨z,h2⟩:=ahE key _ es rfl;rw[Mr]at hi d;have lift:∀a b,(∃(x:Nat)(p:Pr),es[x]?=Z p/\key p=a/\∀(y:Nat) q,es[y]?=Z q->key q=b->x<y)->∃(x:Nat)(r:Pr),(es++[p])[x]?=Z r/\key r=a/\∀(y:Nat) q,(es++[p])[y]?=Z q->key q=b->x<y:=by
   rintro a b ⟨x,r,t,u,e3⟩;have o:=(Ny.1 t).1;refine⟨x,r,hGr,u,fun y q m A=>?_⟩;by_cases c:y<es.length
   .grind
   .omega
  unfold fkS at hi d;by_cases q:key p∈CY key es
  .rw[Sb q]at hi d;exact lift a b (l i j a b f hi d)
  .rw[WA q]at hi d;rcases aeP j (CY key es).length with c|c
   .rw[EP c]at d;rw[EP NH]at hi;exact lift a b (l i j a b f hi d)
   .have n:=(Ny.1 d).1;simp at n;have:j=(CY key es).length:=NH;subst this;simp at d;subst d;rw[EP f]at hi;have⟨r,v,e⟩:=(h2 a).1 (BS hi);have⟨x,o⟩:=Og.1 v;have w:=(Ny.1 o).1;refine⟨x,r,hGr,e,fun y s m hs=>?_⟩;by_cases c:y<es.length
    .rw[EP c]at m;exact absurd ((h2 _).2 ⟨s,BS m,hs⟩) q
    .omega
open Classical in
theorem Mo{n:Nat}{es:xLP}{ls:List Lw}{o:II}{num:Nat->Nat}{up:Nat->Option Nat}(S:aay n es ls o num up)(v:Nat)(d:v<n):∀(l:II),(∀x∈l,x<n)->∀c:RZ,c.length=n->
  (l.foldl (zD ls) c).getD v 0=c.getD v 0+((l.filter fun x=>decide (up x=Z v/\¬ym es num up v x)).length:Int)
 |[],_,c,_=>by simp
 |w::l,e,c,f=>by
  have a:=e w Ma;rw[gK,Mo S v d l hGr _ (by grind[AX])]
  have key:(zD ls c w).getD v 0=c.getD v 0+if up w=Z v/\¬ym es num up v w then 1 else 0:=by
   rcases up_of S a with⟨h,u,b,g⟩|⟨h,b⟩
   .have hb:=low_lt S a b;unfold zD;by_cases q:ym es num up u w
    .grind
    grind
   grind[zD]
  grind
theorem Cv(s:aV n es)(o:v<n):isCut (Jz n es).1 (cntM (Jz n es).1 (Jz n es).2 n) v=tT↔Fo.Cut2 es v:=by
 classical
 have⟨num,up,S⟩:=Ob s;rw[S.fo.cut_iff v o];have q:=Mo S v o (Jz n es).2 (fun x t=>(S.mem x).1 t) (rP n 0) Ma;have u:(rP n (0:Int)).getD v 0=0:=hGr;rw[u,Int.zero_add]at q;have b:=S.nd.sublist (Tn (p:=fun x=>decide (up x=Z v/\¬ym es num up v x)));have a:∀x,x∈(Jz n es).2.filter (fun x=>decide (up x=Z v/\¬ym es num up v x))↔x<n/\up x=Z v/\¬ym es num up v x:=fun x=>by rw[xD,S.mem,abV]
 have e:(Ro (Jz n es).1 v).2.1>=0↔up v≠Y:=by grind[up_of]
 have j:cntM (Jz n es).1 (Jz n es).2 n=(Jz n es).2.foldl (zD (Jz n es).1) (rP n 0):=rfl;simp only[isCut,ai4,Cg,abV,j,q,e];generalize (Jz n es).2.filter (fun x=>decide (up x=Z v/\¬ym es num up v x))=L at*;constructor
 .rintro(h|⟨w,h2⟩)
  .match L,h,b,a with
   |[],h,_,_=>simp at h
   |[_],h,_,_=>simp at h
   |x::y::r,_,b,a=>have⟨a1,a2,z⟩:=(a x).1 Ma;have⟨A,B,C⟩:=(a y).1 Ma;grind
  .match L,w,a with
   |[],h,_=>simp at h
   |x::r,_,a=>have⟨a1,a2,z⟩:=(a x).1 Ma;grind
 .rintro(⟨c,d,f,k,ne,g,l,i,m⟩|⟨c,f,g,i,D⟩)
  .have m1:=(a c).2 ⟨f,g,i⟩;have m2:=(a d).2 ⟨k,l,m⟩;left
   match L,m1,m2 with
   |[],m1,_=>simp at m1
   |[x],m1,m2=>grind
   |x::y::r,_,_=>grind
  grind
theorem OI(a:aV n es)(v:Nat):v∈JL n es↔v<n/\Fo.Cut2 es v:=by grind[JL.eq_1,Cv]
theorem aiv:∀(a b:xLP),a.Pairwise (fun x y=>x.1<y.1\/x.1=y.1/\x.2<y.2)->b.Pairwise (fun x y=>x.1<y.1\/x.1=y.1/\x.2<y.2)->(∀x,x∈a↔x∈b)->a=b
 |[],[],_,_,_=>rfl
 |[],y::b,_,_,h=>by have:=(h y).2 Ma;simp at this
 |x::a,[],_,_,h=>by have:=(h x).1 Ma;simp at this
 |x::a,y::b,ha,hb,h=>by rw[afC]at ha hb;have e:x=y:=hGr;subst e;rw[aiv a b ha.2 hb.2 fun z=>?_];grind
attribute [local instance] Classical.propDecidable
def ZH(l:II):xLP:=(rG l.length).map fun i=>GW (l.getD i 0) (l.getD ((i+1)%l.length) 0)
theorem dN{l:II}(nd:l.Nodup){j:Nat}(a:j<l.length):nx l (l.getD j 0)=l.getD ((j+1)%l.length) 0:=by grind[ajw]
theorem mem_ringW{l:II}(nd:l.Nodup){v w:Nat}:GW v w∈ZH l↔Ei l v w:=by
 unfold ZH;rw[si];constructor
 .rintro⟨i,hi,e⟩;rw[Db]at hi;have c:l.getD i 0∈l:=hGr;rcases Dc e with⟨a,h2⟩|⟨a,h2⟩
  .rw[<-a,<-h2];exact .inl (by grind[dN])
  .rw[<-a,<-h2];exact .inr (by grind[dN])
 .have go:∀{v w},v∈l->nx l v=w->∃i∈rG l.length,GW (l.getD i 0) (l.getD ((i+1)%l.length) 0)=GW v w:=fun{v w} b e=>by
   obtain⟨i,hi,rfl⟩:=Bx.1 b;refine⟨i,Db.2 hi,?_⟩;grind[dN]
  rintro(⟨a,h2⟩|⟨a,h2⟩)
  all_goals grind[so]
structure Ho (n:Nat) (es:xLP) (l:II):Prop where
 nd:l.Nodup
 h3:3<=l.length
 Jp:∀v∈l,Jp es v (nx l v)
noncomputable def Mw(n:Nat)(es:xLP)(l:II)(L:RZ):ShM:=⟨tV (rP n fF) l,[l,l.reverse],(LJ n es (aa5 (ZH l)) L).map fun f=>⟨f.zp,f.Fm,zh [l,l.reverse] f.Fm [0,1]⟩⟩
section
variable{n:Nat}{es:List Pr}{l:II}{L:RZ}
theorem Ho.lt(R:Ho n es l)(hR:aV n es){v:Nat}(a:v∈l):v<n:=((R.Jp v a).lt hR).1
theorem Ho.ik(R:Ho n es l)(hR:aV n es){e:Pr}(a:e∈ZH l):e∈es:=by grind[ZH,dN,Ho.nd,T0,Ho.Jp]
theorem Ho.nodup(R:Ho n es l):(ZH l).Nodup:=by unfold ZH;rw[AE,V3];refine(AE.1 Hs).imp_of_mem fun{i j} hi b a e=>?_;grind[dN,Ho.nd,Dc,getElem_inj,fz,Ho.h3,c7]
theorem Ho.web(R:Ho n es l)(hR:aV n es):CU es (aa5 (ZH l)):=by refine⟨fun i p q hi a=>?_,(by grind[Ho.ik,Wb])⟩;have b:=VH (ZH l);have h2:=AE.1 ((YA (ZH l)).nodup_iff.2 R.nodup);have h:=(b.and h2);rw[Yi]at h;have⟨a1,c⟩:=Ny.1 hi;have⟨a2,d⟩:=Ny.1 a;have:=h i (i+1) a1 a2 NH;rw[c,d]at this;rw[Hv];grind
theorem Ho.mem(R:Ho n es l){v w:Nat}:GW v w∈aa5 (ZH l)↔Ei l v w:=by rw[Wb,mem_ringW R.nd]
theorem rng_on(nd:l.Nodup){v:Nat}:(∃w,Ei l v w)↔v∈l:=by
 constructor
 .rintro⟨w,h|h⟩
  all_goals grind[ZP]
 .intro h;exact⟨_,.inl ⟨h,rfl⟩⟩
theorem Ho.offl(R:Ho n es l)(hR:aV n es){v:Nat}:¬off (eN n es) (Ei l) v↔v∈l:=by
 constructor
 .grind[Q7,rng_on,Ho.nd]
 .intro h q;exact q _ ((vD hR).2 (R.Jp v h)) (.inl ⟨h,rfl⟩)
theorem Ho.wOn(R:Ho n es l){v:Nat}:onW (aa5 (ZH l)) v↔v∈l:=by
 constructor
 .rintro⟨e,a,h⟩;rw[Wb]at a;unfold ZH at a;grind[Sl,Nat.mod_lt]
 .intro h;refine⟨GW v (nx l v),R.mem.2 (.inl ⟨h,rfl⟩),?_⟩;grind[Sl]
theorem Ho.fOn(R:Ho n es l){v:Nat}(a:v<n):Qw n (aa5 (ZH l)) v=tT↔v∈l:=by grind[Cb,Ho.wOn]
theorem Ho.start(R:Ho n es l)(hR:aV n es)(hA:D3 es)(G:wx n (Qw n (aa5 (ZH l))) es L):Z8 n es (Ei l) (Mw n es l L):=by
 have E:=MG hR hA;have hs:∀v w,Ei l v w->Ei l w v:=by grind[ki]
 have s:∀v,v<n->(Qw n (aa5 (ZH l)) v=tT↔¬off (eN n es) (Ei l) v):=by grind[Ho.fOn,Ho.offl]
 have T:=Yn (n:=n) (web:=aa5 (ZH l)) (same:=FW (Qw n (aa5 (ZH l))) es) hA.nodup fun j M e e' o t _ _=>K2 hR hA.nodup G o t;have z:∀v w,GW v w∈es->GW v w∉aa5 (ZH l)->Un (eN n es) (Ei l) v w:=fun v w b h2=>by refine⟨(vD hR).2 (Mf (fun e=>?_) b),fun q=>h2 (R.mem.2 q)⟩;subst e;have:=(hR _ b).2.1;grind[bj]
 have A:LJ n es (aa5 (ZH l)) L=((aaX (Zo n (Qw n (aa5 (ZH l))) L) es (aa5 (ZH l)) es.length).map (·.2)).map fun g=>⟨g,YJ (Qw n (aa5 (ZH l))) g⟩:=by unfold LJ;rw[Lm];rfl
 refine⟨PU.start R.nd R.h3 E (by grind[vD,Ho.Jp]),?_,fun v H=>?_,fun p m=>?_,fun v w r=>?_,?_,?_⟩
 .show(tV (rP n fF) l).length=n;grind[Pe]
 .show Wg (tV (rP n fF) l) v=tT↔_;grind[mQ,Ho.offl]
 .obtain⟨f,hf,rfl⟩:=si.1 m;rw[A]at hf;obtain⟨g,hg,rfl⟩:=si.1 hf;clear hf m;have a:=T.sub g hg;have one:∀{v w x y:Nat},Un (eN n es) (Ei l) x y->GW v w∈g->(GW x y∈g↔QI (eN n es) (Ei l) x y=QI (eN n es) (Ei l) v w):=fun{v w x y} k B=>
   Nj hR hA hs (fun e o=>o) s T z (fun v w x y r _ _ _=>⟨un_in hR r,fun q=>r.2 (R.mem.1 q)⟩) hg k B
  have un:∀{v w},GW v w∈g->Un (eN n es) (Ei l) v w:=by grind[GrpE.inP]
  have F:=feet_eq (web:=aa5 (ZH l)) hR fun p m=>a.subset m;have I:∀u:Nat,(u:Int)∈YJ (Qw n (aa5 (ZH l))) g↔¬off (eN n es) (Ei l) u/\∃w,Un (eN n es) (Ei l) u w/\GW u w∈g:=fun u=>by
   rw[F,E7];constructor
   .rintro⟨v,H,e,b,h2⟩;obtain rfl:u=v:=NH;have⟨e,o,k⟩:=DX.1 h2;have⟨p,m,J⟩:=DX.1 b;refine⟨(R.offl hR).2 (R.wOn.1 ⟨p,m,by grind[aO]⟩),?_⟩;obtain⟨c,d,rfl,C,hd⟩:=jB hR (a.subset o);have N:((c:Int),(d:Int))=GW c d:=(Ix C).symm;simp only[aO,ai4,abV]at k;rcases k with k|k
    .obtain rfl:c=u:=NH;grind
    grind[so]
   .rintro⟨b,w,h2,h3⟩;have⟨p,m,k⟩:=R.wOn.2 ((R.offl hR).1 b);refine⟨u,E.lt _ _ h2.1,rfl,(by grind[DX,aO]),DX.2 ⟨_,h3,?_⟩⟩;grind[GW,aO]
  refine⟨T.ne g hg,a,fun v w h=>(un h).2,hGr,I,fun x k=>?_,?_,fun i=>?_,?_⟩
  .grind[E7]
  .simp only;rw[F,kz,AE,V3];unfold cX;exact(AE.1 (by grind[nodup_range])).imp hGr
  .simp only;rw[WV];have K:(Mw n es l L).Jv.length=2:=rfl;rw[K];constructor
   .rintro⟨b,h2⟩;refine⟨?_,h2⟩;simp at b;omega
   .rintro⟨b,h2⟩;refine⟨?_,h2⟩;simp;omega
  .exact qL218 Tn Ma
 .have B:=un_in hR r;have⟨g,hg,D⟩:=T.cov _ B fun q=>r.2 (R.mem.1 q);refine⟨⟨g,YJ (Qw n (aa5 (ZH l))) g,zh [l,l.reverse] (YJ (Qw n (aa5 (ZH l))) g) [0,1]⟩,?_,D⟩;show _∈(LJ n es (aa5 (ZH l)) L).map _;grind
 .show((LJ n es (aa5 (ZH l)) L).map _).Pairwise _;grind[GrpE.TE]
 .show 2+OW es (Ei l)<=es.length+2;grind[OW]
end
end
def fT(v:vV)(i:Nat):Addr:=aaq v (i*3)
def alloc45'(h:aai):abO pG h 49=Z (pT (Z h.next),h.alloc (.cells [.int .i64 0,.int .i64 0])):=rfl
variable {es:List Pr}
structure AtS (n:Int) (es:xLP) (bs:List xLP):Prop where
 ne:∀b∈bs,b≠[]
 right:∀b∈bs,bX ⟨n,b⟩
 q9:∀(i:Nat) b b' p q,bs[i]?=Z b->bs[i+1]?=Z b'->b[0]?=Z p->b'[0]?=Z q->p.1<q.1\/p.1=q.1/\p.2<q.2
 mem:∀b∈bs,∀p∈b,p∈es
 TE:∀(i j:Nat) b b' p,bs[i]?=Z b->bs[j]?=Z b'->p∈b->p∈b'->i=j
 all:∀p∈es,∃b∈bs,p∈b
 len:bs.length<=1000
def Met(bs:List xLP)(i j:Nat)(p:Pr)(x:Int):Prop:=∃(k:Nat)(b:xLP),bs[k]?=Z b/\x=(k:Int)/\(k<i/\p∈b\/k=i/\p∈b.take j)
theorem bX.nodup{n:Int}(h:bX ⟨n,es⟩):es.Nodup:=by have hA:=h.q9;rw[List.Nodup,Yi];intro i j hi b a e;have:=hA.lt a (Gc hi) (Gc b);grind
variable {b fs:List Pr} {i n v x y:Nat} {p:Pr}
theorem Nl:D3 es↔es.Pairwise fun x y=>x.1<y.1\/x.1=y.1/\x.2<y.2:=by
 rw[Yi];constructor
 .intro ha i j hi b a;exact ha.lt a (Gc hi) (Gc b)
 .intro h i j p q a hi b;have⟨a1,a2⟩:=Ny.1 hi;have⟨d,c⟩:=Ny.1 b;rw[Hv,<-a2,<-c];grind
theorem bX.of(a:n<=200)(c:es.length<=594)(d:aV n es)(ha:D3 es):bX ⟨(n:Int),es⟩:=⟨Ma,hGr,c,fun i hi p b=>⟨d p (BS b),fun q f e=>ha (i-1) i q p NH e b⟩⟩
theorem bX.sub(h:bX ⟨(n:Int),es⟩)(hs:fs.Sublist es):bX ⟨(n:Int),fs⟩:=bX.of (by have:(n:Int)<=200:=h.n1;omega) (ff hs.length_le h.len) (fun p a=>h.GD p (hs.subset a)) (Nl.2 ((Nl.1 h.q9).sublist hs))
theorem Jh(h:(vq n es)[i]?=Z b):∃k,(CY (cQ n es) es)[i]?=Z k/\b=es.filter fun p=>decide (cQ n es p=k):=by grind[aaB]
theorem blocks_in(h:(vq n es)[i]?=Z b){k:Int}(a:(CY (cQ n es) es)[i]?=Z k):p∈b↔p∈es/\cQ n es p=k:=by grind[Jh]
theorem XF(h:bX ⟨(n:Int),es⟩):AtS (n:Int) es (vq n es):=by
 have⟨nd,c⟩:=ahE (cQ n es) _ es rfl;have l:∀b∈vq n es,b≠[]:=fun b hb=>by have⟨i,hi⟩:=Og.1 hb;obtain⟨k,m,rfl⟩:=Jh hi;have⟨p,d,e⟩:=(c k).1 (BS m);have:p∈es.filter fun p=>decide (cQ n es p=k):=hGr;grind
 refine⟨l,fun b hb=>?_,fun i b B p q hb sZ d C=>?_,fun b hb p d=>?_,fun i j b B p hb sZ d D=>?_,fun p d=>?_,?_⟩
 .grind[mem_iff_getElem?,Jh,bX.sub,filter_sublist]
 .obtain⟨k,m,e⟩:=Jh hb;have⟨E,f,e'⟩:=Jh sZ;have⟨x,r,w,h2,h3⟩:=fk_first (cQ n es) _ es rfl i (i+1) k E NH m f;have g:=(blocks_in sZ f).1 (BS C);have⟨y,A⟩:=Og.1 g.1;have o:=h3 y q A g.2;have s:=h.q9.lt o w A;have a:r∈b:=by grind[mem_of_getElem?]
  have u:b.Pairwise fun x y=>x.1<y.1\/x.1=y.1/\x.2<y.2:=by rw[e];exact(Nl.1 h.q9).filter _
  cases b with
  |nil=>cases a
  |cons z t=>
   simp at d;subst d;rw[afC]at u;rw[HV]at a;rcases a with rfl|a
   .exact s
   grind
 .grind[mem_iff_getElem?,Jh]
 .grind[Jh,List.getElem?_inj]
 .obtain⟨i,hi⟩:=Og.1 ((c _).2 ⟨p,d,rfl⟩);have v:(vq n es)[i]?=Z (es.filter fun q=>decide (cQ n es q=cQ n es p)):=by grind[aaB]
  exact⟨_,BS v,hGr⟩
 .rw[aaB,vg];have w:(CY (cQ n es) es).length<=(es.map (cQ n es)).length:=nd.length_le_of_subset hGr;have h2:es.length<=594:=h.len;grind
theorem Zg(d:bX ⟨(n:Int),es⟩)(e:p∈es):∃(k:Nat)(b:xLP),(vq n es)[k]?=Z b/\p∈b/\Met (vq n es) (vq n es).length 0 p (k:Int):=by have⟨b,hb,a⟩:=(XF d).all p e;have⟨k,c⟩:=Og.1 hb;exact⟨k,b,c,a,k,b,c,rfl,.inl ⟨(Ny.1 c).1,a⟩⟩
def AN(v:Int)(p:Pr):Bool:=decide (p.1=v)||decide (p.2=v)
def woV(es:xLP)(v:Nat):xLP:=es.filter fun p=>!AN (v:Int) p
theorem rI:Jp (woV es v) x y↔Jp es x y/\x≠v/\y≠v:=by grind[Jp,woV,AN]
theorem woV_con{v a b:Nat}(ha:a≠v):Pu (woV es v) a b↔Cn (wo v) es a b:=by
 constructor
 .intro h
  induction h with
  |refl _=>exact .refl (iO ha)
  |step _ a _ d=>exact d.step (rI.1 a).1 (by grind[rI])
 .intro h
  induction h with
  |refl _=>grind[Pu.refl]
  |step c a o d=>exact .step d (by grind[rI,Cn.AB]) rfl
theorem ends(e:aV n es)(d:p∈es):∃a c:Nat,p=((a:Int),(c:Int))/\a<c/\c<n/\Jp es a c:=by have b:=e p d;have⟨x,y⟩:=p;obtain⟨a,rfl⟩:=qL7 b.1;obtain⟨c,rfl⟩:=qL7 (show 0<=y by omega);exact⟨a,c,rfl,NH,NH,.inl d⟩
variable {h:aai} {ps:List Pr}
def Ct(v:vV)(n:Nat):Prop:=∃a cap,v=.slice a n cap/\((cap<UNK/\n<=cap)\/(cap=UNK+2/\a.isSome))
theorem GP.ct{v:vV}(g:GP h v ps):Ct v ps.length:=by
 obtain⟨_,⟨rfl,b⟩|⟨id,c,cap,rfl,_,_,a⟩⟩:=g
 .exact⟨Y,0,by rw[b],.inl ⟨WY,NH⟩⟩
 .refine⟨_,cap,rfl,?_⟩;rcases a with a|⟨rfl,d⟩
  .exact hGr
  .exact .inl ⟨ahD d WY,qL0 _⟩
theorem afq(ps:xLP)(i:Nat):Iu (ps.take i)=(Iu ps).take (i*2):=by
 induction ps generalizing i with
 |nil=>simp[Iu]
 |cons p ps a=>
  cases i with
  |zero=>simp[Iu]
  |succ i=>have e:Iu (p::ps)=.int .i64 p.1::.int .i64 p.2::Iu ps:=rfl;have e':Iu (p::ps.take i)=.int .i64 p.1::.int .i64 p.2::Iu (ps.take i):=rfl;rw[ak5,e',e,a,show(i+1)*2=i*2+1+1 by omega,ak5,ak5]
theorem za(ps:xLP)(i:Nat):Iu (ps.drop i)=(Iu ps).drop (i*2):=by
 induction ps generalizing i with
 |nil=>simp[Iu]
 |cons p ps a=>
  cases i with
  |zero=>simp[Iu]
  |succ i=>have e:Iu (p::ps)=.int .i64 p.1::.int .i64 p.2::Iu ps:=rfl;grind
variable {l:II}
theorem KH(h:Pu es v x)(g:x≠v):∃a,Jp es v a/\Pu (woV es v) a x:=by
 induction h with
 |refl _=>grind
 |@step w x c a _ d=>
  by_cases e:w=v
  .grind[Pu.refl]
  .obtain⟨b,hb,f⟩:=d e;exact⟨b,hb,.step f (by grind[rI]) rfl⟩
theorem MS{α:Type}(p:α->Bool):∀(l:List α),l.length=(l.filter p).length+(l.filter fun x=>!p x).length
 |[]=>rfl
 |x::l=>by have:=MS p l;grind
theorem Cq(nd:l.Nodup)(c:x∈l)(h:∀y∈l,y=x):l.length=1:=by
 cases l with
 |nil=>cases c
 |cons a l=>
  cases l with
  |nil=>rfl
  |cons b l=>have d:=h a Ma;have h2:=h b Ma;grind
def jo(p:Pr)(v:Int):Int:=if p.1=v then p.2 else if p.2=v then p.1 else-1
theorem XH(d:aV n es)(e:p∈es)(v:Nat):
  (∃a:Nat,a<n/\jo p (v:Int)=(a:Int)/\Jp es v a/\p=GW v a)\/(jo p (v:Int)=-1/\∀a,p≠GW v a):=by
 obtain⟨a,c,rfl,f,g,b⟩:=ends d e;unfold jo;by_cases h:a=v
 .grind[bj]
 .by_cases h2:c=v
  .grind[Jp.symm,bj]
  .grind[bj]
variable {a:Nat} {k:Int} {α:Type}
theorem aj5{l:List α}(nd:l.Nodup):1<l.length↔∃x y,x∈l/\y∈l/\x≠y:=by
 constructor
 .intro h
  match l,h with
  |x::y::r,_=>rw[eR]at nd;exact⟨x,y,Ma,Ma,hGr⟩
 .rintro⟨x,y,c,e,d⟩
  match l with
  |[]=>cases c
  |[a]=>grind
  |a::b::r=>simp
def atB(v:Int)(b:xLP):Bool:=b.any (AN v)
theorem inc_pair(b:aV n es)(c:p∈es)(h:AN (v:Int) p=tT):∃a,Jp es v a/\p=GW v a:=by
 rcases XH b c v with⟨a,_,_,d,h2⟩|⟨d,_⟩
 .grind
 .have:=b p c;grind[jo,AN]
theorem zo:AN (v:Int) (GW v a)=tT:=by grind[AN,GW]
theorem at_iff(b:aV n es):atB (v:Int) (es.filter fun p=>decide (cQ n es p=k))=tT↔∃a,Jp es v a/\cQ n es (GW v a)=k:=by grind[atB,inc_pair,T0,zo]
def Sq(n:Nat)(es:xLP)(v:Nat):Nat:=((vq n es).filter (atB (v:Int))).length
def I7(n:Nat)(es:xLP)(v:Nat):RZ:=(CY (cQ n es) es).filter fun k=>atB (v:Int) (es.filter fun p=>decide (cQ n es p=k))
def JW(n:Nat)(es:xLP)(v:Nat):Sq n es v=(I7 n es v).length:=by rw[Sq,aaB,amc,vg];rfl
theorem PS(n:Nat)(es:xLP)(v:Nat):(I7 n es v).Nodup:=(ahE (cQ n es) _ es rfl).1.sublist Tn
theorem dG(b:aV n es):k∈I7 n es v↔∃a,Jp es v a/\cQ n es (GW v a)=k:=by rw[I7,xD,at_iff b];refine⟨fun h=>h.2,fun⟨a,ha,c⟩=>⟨((ahE (cQ n es) _ es rfl).2 k).2 (by grind[T0]),a,ha,c⟩⟩
theorem YH(c:aV n es)(v:Nat):1<Sq n es v↔Fo.Cut2 es v:=by
 rw[JW,aj5 (PS n es v)];constructor
 .rintro⟨x,y,d,f,g⟩;obtain⟨a,ha,rfl⟩:=(dG c).1 d;obtain⟨b,hb,rfl⟩:=(dG c).1 f;exact⟨a,b,ha,hb,(by grind[dR])⟩
 .rintro⟨a,b,ha,hb,h⟩;exact⟨_,_,(dG c).2 ⟨a,ha,rfl⟩,(dG c).2 ⟨b,hb,rfl⟩,fun e=>h ((dR c ha hb).1 e)⟩
end Go.Fw
