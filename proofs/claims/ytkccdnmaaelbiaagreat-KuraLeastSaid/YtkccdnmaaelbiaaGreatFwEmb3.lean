/- A text. -/
import Derived.Test.YtkccdnmaaelbiaaGreatFwPla
set_option linter.all false
set_option maxRecDepth 99999
set_option maxHeartbeats 9999999
namespace Go.Fw
attribute [local instance] Classical.propDecidable
def half (a:Nat) (A:II) (b:Nat) (inn:II):II:=a::(A++b::inn.reverse)
theorem ZN {l:II} {i x y:Nat} (c:l[i]?=some x) (h2:l[i+1]?=some y):∃u v,l=u++x::y::v:=by
 obtain⟨a1,d⟩:=qL0.1 c;obtain⟨a2,e⟩:=qL0.1 h2;refine⟨l.take i,l.drop (i+2),?_⟩
 grind [List.drop_eq_getElem_cons,List.take_append_drop]
structure Xf (f:II) (a b:Nat) (inn A:II) (one:II):Prop where
 nd:one.Nodup
 mem:∀v,v∈one↔v=a\/v∈A\/v=b\/v∈inn
 fwd:∀v,v=a\/v∈A->nx one v=nx f v/\(nx f v∈A\/nx f v=b)
 back:∀(i p x:Nat),(nr a inn b)[i]?=some p->(nr a inn b)[i+1]?=some x->nx one x=p
def Cyc (f g:II):Prop:=∃u v,f=u++v/\g=v++u
theorem Cyc.refl (f:II):Cyc f f:=⟨[],f,rfl,Ma⟩
theorem Cyc.shift {f x y:II} (h:Cyc f (x++y)):Cyc f (y++x):=by
 obtain⟨u,v,rfl,e⟩:=h;rcases List.append_eq_append_iff.1 e with⟨c,d,h2⟩|⟨c,d,h2⟩
 .subst d h2
  exact⟨u++x,c,Ma,Ma⟩
 .subst d h2
  exact⟨c,y++v,Ma,Ma⟩
theorem Cyc.perm {f g:II} (h:Cyc f g):f.Perm g:=by
 obtain⟨u,v,rfl,rfl⟩:=h;grind
theorem Cyc.nx {f g:II} (h:Cyc f g) (nd:f.Nodup) {y:Nat} (c:y∈f):nx f y=nx g y:=by
 obtain⟨u,v,rfl,rfl⟩:=h;grind [aR]
def Cyc.front {f:II} {a:Nat} (h:a∈f):∃c,Cyc f (a::c):=by
 obtain⟨u,v,rfl,_⟩:=sC h;exact⟨v++u,u,a::v,rfl,rfl⟩
theorem tB {f:II} {a b:Nat} {inn A B:II} (s:f.Nodup) (hf:Cyc f ((a::A)++(b::B))) (t:(nr a inn b).Nodup) (hd:∀x∈inn,x∉f):Xf f a b inn A (half a A b inn):=by
 have n0:(a::(A++b::B)).Nodup:=hf.perm.nodup_iff.1 s;have d:∀v∈f,nx f v=nx (a::(A++b::B)) v:=fun v j=>hf.nx s j;have k:∀v,v∈f↔v=a\/v∈A\/v=b\/v∈B:=fun v=>by rw[hf.perm.mem_iff];simp
 rw[xD,yM,WA,Z6]at n0;obtain⟨a1,nA,nB,E⟩:=n0;rw[xD]at nB;rw[nr,xD,WA,Eh,yM]at t;obtain⟨N,O,_,P⟩:=t;have l:(half a A b inn).Nodup:=by grind [half,Gv]
 refine⟨l,fun v=>?_,fun v j=>?_,fun i g x G h2=>?_⟩
 .grind [half]
 .have m : v ∈ f := (k v).2 (j.elim .inl fun h => .inr (.inl h))
  rw[d v m];have o:v∈a::A:=pw;obtain⟨u,w,e,y⟩:=sC o;have H:half a A b inn=u++v::(w++b::inn.reverse):=by grind [half]
  have I:a::(A++b::B)=u++v::(w++b::B):=pw;rw[H,I];refine⟨Cz y,?_⟩;rw[ZL y];cases w with
  |nil=>grind
  |cons z w=>
   left;have:z∈a::A:=by rw[e];simp
   rcases Z6.1 this with h|h
   .subst h
    have p:(z::A).Nodup:=pw;rw[e]at p;cases u<;>grind
   .exact h
 .have J := (qL0.1 h2).1
  rw[Eo]at J;have C:(nr b inn.reverse a)[inn.length-i]?=some x:=by rw[<-Ec,Ry (by grind [Eo]),Eo,<-h2];grind
  have D:(nr b inn.reverse a)[inn.length-i+1]?=some g:=by rw[<-Ec,Ry (by grind [Eo]),Eo,<-G];grind
  by_cases c:i=0
  .subst c
   have K:g=a:=by grind [yT]
   subst K;have q:∃u,b::inn.reverse=u++[x]:=by
    have:(b::inn.reverse)[inn.length]?=some x:=by grind [nr]
    have L:(b::inn.reverse).length=inn.length+1:=by simp
    obtain⟨Q,R⟩:=qL0.1 this;refine⟨(b::inn.reverse).take inn.length,?_⟩
    grind [List.take_append_drop,List.drop_eq_getElem_cons]
   obtain⟨u,M⟩:=q;have e:half g A b inn=g::((A++u)++[x]):=by grind [half]
   grind [vB]
  .have q:∃u w,b::inn.reverse=u++x::g::w:=by
    have e:nr b inn.reverse a=(b::inn.reverse)++[a]:=rfl;rw[e,fR (by simp;omega)]at C D;exact ZN C D
   obtain⟨u,w,M⟩:=q
   grind [half,Nu]
section
variable {n : Nat} {r r' : Nat → List Nat} {F : List (List Nat)} {a b : Nat} {inn : List Nat}
theorem qm {a b:Nat} {inn:II} {v:Nat} (h:v=b\/v∈inn):∃i p:Nat,(nr a inn b)[i]?=some p/\(nr a inn b)[i+1]?=some v:=by
 have c:v∈inn++[b]:=pw;obtain⟨i,hi⟩:=Og.1 c;have d:=(qL0.1 hi).1;have:i<(nr a inn b).length:=by grind [Eo]
 exact⟨i,_,XJ this,hi⟩
structure HalfR (r r':Nat->II) (f:II) (a:Nat) (A:II) (one:II):Prop where
 bz:∀v∈one,nx one v∈r' v
 step:∀v∈one,nx (r' (nx one v)) v=nx one (nx one v)
 qi:∀v∈one,nx one v∈r v->v=a\/v∈A
theorem Lay.halfR (L:Lay n r r' a b inn) (O:FO r F) {f:II} (j:f∈F) {A B one:II} (cy:Cyc f ((a::A)++(b::B))) (H:Xf f a b inn A one)
  (nb:nx (r' b) (pv f b)=(inn.reverse++[a]).headD 0) (D:nx f a=nx (r' a) ((inn++[b]).headD 0)):HalfR r r' f a A one:=by
 have E:=O.nd f j;have t:∀v,v∈f↔(v=a\/v∈A)\/(v=b\/v∈B):=fun v=>by rw[cy.perm.mem_iff];grind
 have n0:((a::A)++(b::B)).Nodup:=cy.perm.nodup_iff.1 E;rw[yM]at n0;have k:∀v,v=a\/v∈A->v∈f:=fun v h=>(t v).2 (.inl h);have TE:∀v,v=a\/v∈A->¬(v=b\/v∈B):=fun v g h2=>n0.2.2 v (Z6.2 g) v (Z6.2 h2) rfl;have u:a∉A:=(xD.1 n0.1).1;have m:∀x∈inn,x∉f:=fun x G h=>by
  have:=O.bz f j x h
  grind [Lay.off]
 have d:∀v∈one,(v=a\/v∈A)\/∃i p:Nat,(nr a inn b)[i]?=some p/\(nr a inn b)[i+1]?=some v:=fun v l=>by
  rcases(H.mem v).1 l with h|h|h
  .grind
  .grind
  .exact .inr (qm h)
 refine⟨fun v l=>?_,fun v l=>?_,fun v l z=>?_⟩
 .rcases d v l with h | ⟨i, p, g, h2⟩
  .rw[(H.fwd v h).1];exact L.sub (O.bz f j v (k v h))
  .rw[H.back i p v g h2];exact L.R'.sy _ _ (L.UQ g h2)
 .rcases d v l with h | ⟨i, p, g, h2⟩
  .obtain ⟨o, c⟩ := H.fwd v h
   rw[o];have hs:=O.step f j v (k v h);rcases c with c|c
   .have w : nx f v ≠ b := fun e => TE _ (.inr c) (.inl e)
    have y:nx f v≠a:=fun e=>u (e▸c);rw[L.Wn _ y w fun h=>m _ h (k _ (.inr c)),hs,(H.fwd _ (.inr c)).1]
   .rw [c]
    have:pv f b=v:=by grind [c7]
    rw[<-this,nb];obtain⟨q,s⟩:=Fg a b inn
    grind [Xf.back]
  .rw [H.back i p v g h2]
   cases i with
   |zero=>
    obtain⟨q,s⟩:=yT a b inn;have o:=g.symm.trans q;have c:=h2.symm.trans s;injection o with o;injection c with c;subst o c;rw[<-D,(H.fwd _ (.inl rfl)).1]
   |succ i=>
    have I:=(qL0.1 g).1;have C:(nr a inn b)[i]?=some ((nr a inn b)[i]'(by omega)):=XJ NH
    rw[(L.mid i _ p v C g h2).2.1,H.back i _ p C g]
 .rcases (H.mem v).1 l with h | h | h | h
  .exact .inl h
  .exact .inr h
  .exfalso
   subst h;obtain⟨q,s⟩:=Fg a v inn;rw[H.back _ _ _ s q]at z;exact L.swap.sna z
  grind [Lay.off]
theorem Lay.gY (L:Lay n r r' a b inn) (O:FO r F) {f:II} (d:f∈F) {A B:II} (cy:Cyc f ((a::A)++(b::B)))
  (Z:nx (r' a) (pv f a)=(inn++[b]).headD 0) (nb:nx (r' b) (pv f b)=(inn.reverse++[a]).headD 0) (da:nx f a=nx (r' a) ((inn++[b]).headD 0)) (db:nx f b=nx (r' b) ((inn.reverse++[a]).headD 0)):
  FO r' (half a A b inn::half b B a inn.reverse::F.erase f):=by
 have H:=O.nd f d;have s:∀x∈inn,x∉f:=fun x X h=>by
  have:=O.bz f d x h
  grind [Lay.off]
 have H1:Xf f a b inn A (half a A b inn):=tB H cy L.ndP s;have H2:Xf f b a inn.reverse B (half b B a inn.reverse):=tB H cy.shift L.swap.ndP fun x X=>s x (Qn.1 X);have m:∀v,v∈f↔(v=a\/v∈A)\/(v=b\/v∈B):=fun v=>by rw[cy.perm.mem_iff];grind
 have n0:((a::A)++(b::B)).Nodup:=cy.perm.nodup_iff.1 H;rw[yM]at n0;have I:a∈f:=(m a).2 (.inl (.inl rfl));have J:b∈f:=(m b).2 (.inr (.inl rfl));have ae:∀v,v=a\/v∈A->v∈f:=fun v h=>(m v).2 (.inl h);have ag:∀v,v=b\/v∈B->v∈f:=fun v h=>(m v).2 (.inr h);have TE:∀v,v=a\/v∈A->¬(v=b\/v∈B):=fun v y h2=>n0.2.2 v (Z6.2 y) v (Z6.2 h2) rfl;have aj:a∉A:=(xD.1 n0.1).1;have al:b∉B:=(xD.1 n0.2.1).1;have K:=L.halfR O d cy H1 nb da;have M:=L.swap.halfR O d cy.shift H2 pw db;have m1:∀{v},v∈half a A b inn->nx (half a A b inn) v∈r v->nx (half a A b inn) v=nx f v/\(v=a\/v∈A):=fun l z=>⟨(H1.fwd _ (K.qi _ l z)).1,K.qi _ l z⟩;have m2:∀{v},v∈half b B a inn.reverse->nx (half b B a inn.reverse) v∈r v->nx (half b B a inn.reverse) v=nx f v/\(v=b\/v∈B):=fun l z=>⟨(H2.fwd _ (M.qi _ l z)).1,M.qi _ l z⟩;obtain⟨p1,p2⟩:=yT a b inn;obtain⟨z1,z2⟩:=Fg a b inn;obtain⟨y1,Y⟩:=Fg b a inn.reverse;rw[qL122]at Y;have N:nx (half a A b inn) b=(inn.reverse++[a]).headD 0:=H1.back _ _ _ z2 z1;have P:nx (half b B a inn.reverse) a=(inn++[b]).headD 0:=H2.back _ _ _ Y y1;have b1:b∈half a A b inn:=(H1.mem b).2 (.inr (.inr (.inl rfl)));have a2:a∈half b B a inn.reverse:=(H2.mem a).2 (.inr (.inr (.inl rfl)));have a1:a∈half a A b inn:=(H1.mem a).2 (.inl rfl);have t:∀v,v∈half a A b inn->v∈half b B a inn.reverse->nx (half a A b inn) v≠nx (half b B a inn.reverse) v:=fun v y h2 e=>by
  rcases(H1.mem v).1 y with h|h|h|h
  .subst h
   rw[P,(H1.fwd v (.inl rfl)).1]at e
   grind [FO.bz]
  .rcases (H2.mem v).1 h2 with g | g | g | g
   all_goals grind
  .subst h
   rw[N,(H2.fwd v (.inl rfl)).1]at e
   grind [FO.bz]
  .obtain ⟨i, p, Q, C⟩ := qm (a := a) (b := b) (.inr h)
   obtain⟨j,p',D,S⟩:=qm (a:=b) (b:=a) (inn:=inn.reverse) (.inr (Qn.2 h));rw[H1.back i p v Q C,H2.back j p' v D S]at e;subst e;have T:=(qL0.1 S).1;rw[<-Ec,ti]at T;rw[<-Ec,Ry NH]at D S
   grind [X6,Lay.ndP]
 have E:∀g∈F.erase f,g∈F/\g≠f:=fun g hg=>⟨List.mem_of_mem_erase hg,fun e=>O.nodup.not_mem_erase (e▸hg)⟩;have aq:half a A b inn∉F.erase f:=fun h=>by grind [FO.bz]
 have ar:half b B a inn.reverse∉F.erase f:=fun h=>by grind [FO.bz]
 have u1:∀g∈F.erase f,∀v,v∈half a A b inn->v∈g->nx (half a A b inn) v=nx g v->False:=fun g hg v y h2 e=>by grind [FO.bz,FO.uniq]
 have u2:∀g∈F.erase f,∀v,v∈half b B a inn.reverse->v∈g->nx (half b B a inn.reverse) v=nx g v->False:=fun g hg v y h2 e=>by grind [FO.bz,FO.uniq]
 have av:half a A b inn≠half b B a inn.reverse:=fun e=>t a a1 a2 (by rw[e]);have ay:∀g∈F.erase f,∀v∈g,nx (r' (nx g v)) v=nx g (nx g v):=fun g hg v l=>by
  obtain⟨o,G⟩:=E g hg;have hd:=O.bz g o v l;have hs:=O.step g o v l;by_cases c1:nx g v=a
  .rw [c1] at hs hd ⊢
   have U:v≠pv f a:=fun e=>G (O.uniq g o f d v l (by grind [BJ]) (by grind [G5]));rw[<-hs];have k:v∈r a:=L.R.sy _ _ hd;have u:v≠(inn++[b]).headD 0:=fun e=>L.sna (e▸k);have:=Hn (L.R'.nd a) L.sa (L.sub k) u;rw[L.ea]at this;rw[this,if_neg fun e=>U (C9 (L.R'.nd a) (L.sub k) (L.sub (O.df L.R d I)) (e.trans Z.symm))]
  by_cases c2:nx g v=b
  .rw [c2] at hs hd ⊢
   have V:v≠pv f b:=fun e=>G (O.uniq g o f d v l (by grind [BJ]) (by grind [G5]));rw[<-hs];have k:v∈r b:=L.R.sy _ _ hd;have u:v≠(inn.reverse++[a]).headD 0:=fun e=>L.swap.sna (e▸k);have:=Hn (L.R'.nd b) L.sb (L.sub k) u;rw[L.eb]at this;rw[this,if_neg fun e=>V (C9 (L.R'.nd b) (L.sub k) (L.sub (O.df L.R d J)) (e.trans nb.symm))]
  .rw [L.Wn _ c1 c2 fun h => ?_, hs]
   have h3:=L.R.sy _ _ hd
   grind [Lay.off]
 refine⟨fun g hg=>?_,fun g hg=>?_,fun g hg=>?_,fun g hg=>?_,fun v w hw=>?_,fun g hg g' q v y h2 e=>?_,?_⟩
 .rcases Z6.1 hg with rfl | hg
  .exact H1.nd
  rcases Z6.1 hg with rfl|hg
  all_goals grind [Xf.nd,FO.nd]
 .rcases Z6.1 hg with rfl | hg
  .simp[half]
  rcases Z6.1 hg with rfl|hg
  all_goals grind [FO.ne]
 .rcases Z6.1 hg with rfl | hg
  .exact K.bz
  rcases Z6.1 hg with rfl|hg
  .exact M.bz
  .exact fun v l=>L.sub (O.bz g (E g hg).1 v l)
 .rcases Z6.1 hg with rfl | hg
  all_goals grind [HalfR.step]
 .by_cases c : w ∈ r v
  .obtain ⟨g, hg, l, e⟩ := O.cover v w c
   by_cases cg:g=f
   .subst cg
    rcases(m v).1 l with h|h
    .exact⟨_,N8,(H1.mem v).2 (h.elim .inl fun h=>.inr (.inl h)),by rw[(H1.fwd v h).1,e]⟩
    .exact⟨_,ZT _ N8,(H2.mem v).2 (h.elim .inl fun h=>.inr (.inl h)),by rw[(H2.fwd v h).1,e]⟩
   grind
  .by_cases c1 : v = a
   .grind [Lay.ea,List.mem_cons_self]
   by_cases c2:v=b
   .grind [Lay.eb]
   by_cases W:v∈inn
   .obtain ⟨i, p, Q, C⟩ := qm (a := a) (b := b) (.inr W)
    have az:=(qL0.1 C).1;have hi:i+2<(nr a inn b).length:=by grind [Eo]
    have D:(nr a inn b)[i+2]?=some ((nr a inn b)[i+2]'hi):=XJ hi
    rcases((L.mid i p v _ Q C D).2.2 w).1 hw with h|h
    .exact⟨_,N8,(H1.mem v).2 (.inr (.inr (.inr W))),by grind [Xf.back]⟩
    .refine ⟨_, ZT _ N8, (H2.mem v).2 (.inr (.inr (.inr (Qn.2 W)))), ?_⟩
     have aD:=Eo a b inn;have g1:(nr b inn.reverse a)[inn.length+2-1-(i+2)]?=some ((nr a inn b)[i+2]'hi):=by rw[<-Ec,Ry NH,<-D];congr 1;omega
     have g2:(nr b inn.reverse a)[inn.length+2-1-(i+2)+1]?=some v:=by rw[<-Ec,Ry NH,<-C];congr 1;omega
     grind [Xf.back]
   grind [Lay.Wn]
 .rcases Z6.1 hg with rfl | hg
  .grind
  rcases Z6.1 hg with rfl|hg
  .grind
  .rcases Z6.1 q with rfl | q
   .grind
   rcases Z6.1 q with rfl|q
   all_goals grind [FO.uniq]
 .rw [xD, Z6, xD]
  grind [FO.nodup]
end
end Go.Fw
namespace Go.Fw
attribute [local instance] Classical.propDecidable
def Cyc.filter {f g:II} (h:Cyc f g) (p:Nat->Bool):Cyc (f.filter p) (g.filter p):=by
 obtain⟨u,v,rfl,rfl⟩:=h;exact⟨u.filter p,v.filter p,Db ..,Db ..⟩
theorem oW {A B:II} {x y:Nat} (nd:((A++[x])++(B++[y])).Nodup):
  (∀p∈A,nx ((A++[x])++(B++[y])) p=nx (A++[x]) p)/\nx ((A++[x])++(B++[y])) x=nx (B++[y]) y:=by
 have n1:=(yM.1 nd).1;have a:=(yM.1 nd).2.1;constructor
 .intro p b
  obtain⟨s,q,rfl,f⟩:=sC b
  grind [Cz]
 .have c : x ∉ A := fun h => (yM.1 n1).2.2 x h x Ma rfl
  have d:y∉B:=fun h=>(yM.1 a).2.2 y h y Ma rfl;have e:(A++[x])++(B++[y])=A++x::(B++[y]):=by simp
  rw[e,ZL c,ZL d];cases B with
  |nil=>rfl
  |cons z B=>rfl
structure Hh (n:Nat) (R:Nat->II) (EX:Nat->Nat->Prop) (u w:Nat) (A:II) (x:Nat) (B:II) (y:Nat) (A':II) (x':Nat) (B':II) (y':Nat):Prop where
 Rl:V7 n R
 sym:∀a b,EX a b->EX b a
 uw:u≠w
 Wn:∀v,v≠u->v≠w->(∀a∈R v,EX v a)\/(∀a∈R v,¬EX v a)
 cu:Cyc (R u) ((A++[x])++(B++[y]))
 au:∀a∈A++[x],EX u a
 bu:∀b∈B++[y],¬EX u b
 cw:Cyc (R w) ((A'++[x'])++(B'++[y']))
 aw:∀a∈A'++[x'],EX w a
 bw:∀b∈B'++[y'],¬EX w b
section
variable {n : Nat} {R : Nat → List Nat} {EX : Nat → Nat → Prop} {u w : Nat} {A B A' B' : List Nat} {x y x' y' : Nat}
theorem IJ {r:Nat->II} {P:Nat->Nat->Prop} {v:Nat} (h:∀w∈r v,P v w):Om P r v=r v:=by grind [Om,List.filter_eq_self]
theorem aa8 {l:II} {C D:II} {p:Nat->Prop} (h:Cyc l (C++D)) (c:∀a∈C,p a) (d:∀b∈D,¬p b):Cyc (l.filter fun a=>decide (p a)) C:=by
 have:=h.filter fun a=>decide (p a);have e:C.filter (fun a=>decide (p a))=C:=b7.2 fun a ha=>by grind
 grind [List.filter_eq_nil_iff]
theorem Hh.dY (T:Hh n R EX u w A x B y A' x' B' y'):Hh n R EX w u A' x' B' y' A x B y:=
 ⟨T.Rl,T.sym,Hs T.uw,fun v a h2=>T.Wn v h2 a,T.cw,T.aw,T.bw,T.cu,T.au,T.bu⟩
theorem Hh.rx (T:Hh n R EX u w A x B y A' x' B' y'):V7 n (Om EX R):=OG T.Rl T.sym
theorem Hh.ry (T:Hh n R EX u w A x B y A' x' B' y'):V7 n (Om (fun a b=>¬EX a b) R):=OG T.Rl fun a b h q=>h (T.sym _ _ q)
theorem Hh.parts (T:Hh n R EX u w A x B y A' x' B' y'):Oi (dl n R) (dl n (Om EX R)) (dl n (Om (fun a b=>¬EX a b) R)) (fun d=>EX d.1 d.2) (Nv (Om EX R)) (Nv (Om (fun a b=>¬EX a b) R)):=by
 refine⟨yR (J8 T.Rl) ?_ fun d=>?_,fun d hd=>(EM.1 ((IP T.rx).1 hd)).2,fun d hd=>(EM.1 ((IP T.ry).1 hd)).2,TG T.rx,TG T.ry⟩
 all_goals grind [J8,Hh.rx,Hh.ry,EM,IP,Hh.Rl]
theorem zU {α:Type} {f g:α->α} {a b x:α} (c:f a=g a) (h2:f b=g b) (h3:f x=g x):swp f a b x=swp g a b x:=by grind [swp]
theorem Hh.at (T:Hh n R EX u w A x B y A' x' B' y'):(∀p∈A,nx (R u) p=nx (Om EX R u) p)/\(∀p∈B,nx (R u) p=nx (Om (fun a b=>¬EX a b) R u) p)/\
  nx (R u) x=nx (Om (fun a b=>¬EX a b) R u) y/\nx (R u) y=nx (Om EX R u) x:=by
 have nd:=T.Rl.nd u;have n0:=T.cu.perm.nodup_iff.1 nd;have n1:((B++[y])++(A++[x])).Nodup:=ab2.nodup_iff.1 n0;have e:Cyc (Om EX R u) (A++[x]):=aa8 T.cu T.au T.bu;have d:Cyc (Om (fun a b=>¬EX a b) R u) (B++[y]):=aa8 T.cu.shift T.bu fun a ha=>not_not_intro (T.au a ha);have nX:=T.rx.nd u;have f:=T.ry.nd u;obtain⟨k,h⟩:=oW n0;obtain⟨i,j⟩:=oW n1;have m1:∀p∈A++[x],p∈R u/\p∈Om EX R u:=fun p c=>⟨T.cu.perm.mem_iff.2 (mJ _ c),e.perm.mem_iff.2 c⟩;have m2:∀p∈B++[y],p∈R u/\p∈Om (fun a b=>¬EX a b) R u:=fun p c=>⟨T.cu.perm.mem_iff.2 (Ki _ c),d.perm.mem_iff.2 c⟩;refine⟨fun p c=>?_,fun p c=>?_,?_,?_⟩
 .obtain ⟨g, h2⟩ := m1 p (by simp [c])
  grind [Hh.cu,Cyc.nx]
 .obtain ⟨g, h2⟩ := m2 p (by simp [c])
  rw[T.cu.shift.nx nd g,i p c,d.nx f h2]
 .rw[T.cu.nx nd (m1 x Ma).1,h,d.nx f (m2 y Ma).2]
 .rw[T.cu.shift.nx nd (m2 y Ma).1,j,e.nx nX (m1 x Ma).2]
theorem Hh.phi (T:Hh n R EX u w A x B y A' x' B' y') {d:H8} (hd:d∈dl n R):
  Nv R d=swp (swp (Go.Fw.two (fun d=>EX d.1 d.2) (Nv (Om EX R)) (Nv (Om (fun a b=>¬EX a b) R))) (x,u) (y,u)) (x',w) (y',w) d:=by
 have uw:=T.uw;have g:∀{u w:Nat} {A B A' B':II} {x y x' y':Nat} (T:Hh n R EX u w A x B y A' x' B' y') {p:Nat},p∈R u->
   Nv R (p,u)=swp (Go.Fw.two (fun d=>EX d.1 d.2) (Nv (Om EX R)) (Nv (Om (fun a b=>¬EX a b) R))) (x,u) (y,u) (p,u):=fun{u w A B A' B' x y x' y'} T {p} f=>by
  obtain⟨k,h2,h3,l⟩:=T.at;have n0:=T.cu.perm.nodup_iff.1 (T.Rl.nd u);have c:=T.cu.perm.mem_iff.1 f;have i:EX x u:=T.sym _ _ (T.au x Ma);have j:¬EX y u:=fun h=>T.bu y Ma (T.sym _ _ h);rw[yM,yM,yM]at n0;rcases WA.1 c with c|c
  .have hex : EX p u := T.sym _ _ (T.au p c)
   rcases WA.1 c with hA|hA
   .grind [Q3,Prod.mk.inj,two.eq_1,Nv.eq_1]
   grind [C5,two.eq_1,Nv.eq_1]
  .have hex : ¬ EX p u := fun h => T.bu p c (T.sym _ _ h)
   rcases WA.1 c with hB|hB
   .grind [Q3,Prod.mk.inj,two.eq_1,Nv.eq_1]
   grind [dX,two.eq_1,Nv.eq_1]
 obtain⟨p,v⟩:=d;have f:p∈R v:=T.Rl.sy _ _ ((IP T.Rl).1 hd);by_cases c1:v=u
 .grind [Prod.mk.inj,Q3]
 by_cases c2:v=w
 .grind [Hh.dY,Q3,Prod.mk.inj,zU]
 .have m : ∀ q z : Nat, ((p, v) : H8) ≠ (q, u) /\ ((p, v) : H8) ≠ (z, w) := fun q z => ⟨fun e => c1 (PN e).2, fun e => c2 (PN e).2⟩
  rw[Q3 (m 0 x').2 (m 0 y').2,Q3 (m x 0).1 (m y 0).1];rcases T.Wn v c1 c2 with h|h
  .rw [Go.Fw.two, if_pos (T.sym _ _ (h p f)), Nv, Nv]
   grind [IJ]
  .rw [Go.Fw.two, if_neg fun q => h p f (T.sym _ _ q), Nv, Nv]
   grind [IJ]
end
end Go.Fw
namespace Go.Fw
attribute [local instance] Classical.propDecidable
theorem Cyc.symm {f g:II} (h:Cyc f g):Cyc g f:=by
 obtain⟨u,v,rfl,rfl⟩:=h;exact⟨v,u,rfl,rfl⟩
theorem Cyc.trans {f g k:II} (h:Cyc f g) (h':Cyc g k):Cyc f k:=by
 obtain⟨u,v,rfl,rfl⟩:=h';exact h.shift
def Cyc.reverse {f g:II} (h:Cyc f g):Cyc f.reverse g.reverse:=by
 obtain⟨u,v,rfl,rfl⟩:=h;exact⟨v.reverse,u.reverse,aeD,aeD⟩
theorem Cyc.nil {f:II} (h:Cyc f []):f=[]:=by
 have:=h.perm.length_eq;grind
def pP (s t:Nat->II):Prop:=∀v,Cyc (s v) (t v)
section
variable {n : Nat} {s t : Nat → List Nat}
theorem pP.mem (h:pP s t) {v w:Nat}:w∈s v↔w∈t v:=(h v).perm.mem_iff
theorem pP.symm (h:pP s t):pP t s:=fun v=>(h v).symm
theorem pP.Rl (h:pP s t) (S:V7 n s):V7 n t:=
 ⟨fun v=>(h v).perm.nodup_iff.1 (S.nd v),fun v w q=>S.lt v w (h.mem.2 q),fun v w q=>h.mem.1 (S.sy v w (h.mem.2 q)),fun v q=>S.ir v (h.mem.2 q)⟩
theorem pP.phi (h:pP s t) (S:V7 n s) {d:H8} (hd:d∈dl n s):Nv s d=Nv t d:=by
 have:=S.sy _ _ ((IP S).1 hd);rw[Nv,Nv,(h d.2).nx (S.nd _) this]
theorem pP.dl (h:pP s t) (S:V7 n s):(dl n s).Perm (dl n t):=
 yR (J8 S) (J8 (h.Rl S)) fun d=>by rw[IP S,IP (h.Rl S),h.mem]
theorem pP.orb (h:pP s t) (S:V7 n s) {d e:H8} (hd:d∈Go.Fw.dl n s) (a:e∈Go.Fw.dl n s):WD (Nv s) d e↔WD (Nv t) d e:=
 ER (TG S) (fun _ b=>h.phi S b) d hd e a
theorem pP.cls (h:pP s t) (S:V7 n s):cls (WD (Nv s)) (Go.Fw.dl n s)=cls (WD (Nv t)) (Go.Fw.dl n t):=by
 rw[IZ fun d hd e a=>h.orb S hd a]
 grind [Yy,pP.dl,TG,pP.Rl,Pm.eqv]
theorem pP.flat (h:pP s t) (S:V7 n s):Flat n s↔Flat n t:=by
 have a:mj n s=mj n t:=by
  rw[mj,mj,h.cls S];congr 2;refine qH fun v _=>?_;rw[decide_eq_decide];constructor
  .intro q;have:=h v;grind [Cyc.nil,Cyc.symm]
  .intro q;have:=h v;grind [Cyc.nil]
 have b:iJ n s=iJ n t:=IZ fun x _ y _=>⟨fun c=>c.mono fun v w q=>h.mem.1 q,fun c=>c.mono fun v w q=>h.mem.2 q⟩;rw[Flat,Flat,a,b,(h.dl S).length_eq]
end
section
variable {n : Nat} {R : Nat → List Nat} {EX : Nat → Nat → Prop} {u w : Nat} {A B A' B' : List Nat} {x y x' y' : Nat}
theorem Hh.Ff (T:Hh n R EX u w A x B y A' x' B' y'):((x,u):H8)∈dl n (Om EX R):=by
 rw[IP T.rx];refine T.rx.sy _ _ (EM.2 ⟨T.cu.perm.mem_iff.2 Ma,T.au x Ma⟩)
def Hh.QH (T:Hh n R EX u w A x B y A' x' B' y'):((y,u):H8)∈dl n (Om (fun a b=>¬EX a b) R):=by
 rw[IP T.ry];refine T.ry.sy _ _ (EM.2 ⟨T.cu.perm.mem_iff.2 Ma,T.bu y Ma⟩)
theorem Hh.cls (T:Hh n R EX u w A x B y A' x' B' y'):
  ((WD (Nv (Om EX R)) (x',w) (x,u)/\WD (Nv (Om (fun a b=>¬EX a b) R)) (y,u) (y',w))->cls (WD (Nv R)) (dl n R)=cls (WD (Nv (Om EX R))) (dl n (Om EX R))+cls (WD (Nv (Om (fun a b=>¬EX a b) R))) (dl n (Om (fun a b=>¬EX a b) R)))/\
  (¬(WD (Nv (Om EX R)) (x',w) (x,u)/\WD (Nv (Om (fun a b=>¬EX a b) R)) (y,u) (y',w))->cls (WD (Nv R)) (dl n R)+2=cls (WD (Nv (Om EX R))) (dl n (Om EX R))+cls (WD (Nv (Om (fun a b=>¬EX a b) R))) (dl n (Om (fun a b=>¬EX a b) R))):=by
 have h:=T.parts.join2 T.Ff T.QH T.dY.Ff T.dY.QH
 grind [IZ,ER,TG,Hh.Rl,Hh.phi]
noncomputable def Qu (R:Nat->II) (EX:Nat->Nat->Prop) (u w:Nat) (L K b c:II):Nat->II:=fun v=>
 if v=u then L.reverse++K else if v=w then b.reverse++c else if∃a∈R v,EX v a then(R v).reverse else R v
theorem BK (A:II) (x:Nat):∃h t,A++[x]=h::t/\(A++[x]).reverse=t.reverse++[h]/\nx (A++[x]) x=if x∈A then nx (A++[x]) x else h:=by
 cases A with
 |nil=>exact⟨x,[],rfl,rfl,by simp[nx,nxF]⟩
 |cons h t=>
  refine⟨h,t++[x],rfl,Ma,?_⟩
  grind [vB]
theorem Jr (T:Hh n R EX u w A x B y A' x' B' y') {v a:Nat}:a∈Qu R EX u w (A++[x]) (B++[y]) (A'++[x']) (B'++[y']) v↔a∈R v:=by
 unfold Qu;by_cases c1:v=u
 .subst c1;rw[if_pos rfl,T.cu.perm.mem_iff];grind
 .rw [if_neg c1]
  by_cases c2:v=w
  .subst c2;rw[if_pos rfl,T.cw.perm.mem_iff];grind
  .rw [if_neg c2]
   split
   all_goals grind
def Hh.tp (T:Hh n R EX u w A x B y A' x' B' y'):V7 n (Qu R EX u w (A++[x]) (B++[y]) (A'++[x']) (B'++[y'])):=by
 refine⟨fun v=>?_,fun v a h=>T.Rl.lt v a ((Jr T).1 h),fun v a h=>(Jr T).2 (T.Rl.sy v a ((Jr T).1 h)),fun v h=>T.Rl.ir v ((Jr T).1 h)⟩;unfold Qu;by_cases c1:v=u
 .subst c1
  rw[if_pos rfl];exact((Yl _).append_right _).nodup_iff.2 (T.cu.perm.nodup_iff.1 (T.Rl.nd v))
 .rw [if_neg c1]
  by_cases c2:v=w
  .subst c2
   rw[if_pos rfl];exact((Yl _).append_right _).nodup_iff.2 (T.cw.perm.nodup_iff.1 (T.Rl.nd v))
  .rw [if_neg c2]
   split
   .exact Gv (T.Rl.nd v)
   .exact T.Rl.nd v
theorem Hh.flip (T:Hh n R EX u w A x B y A' x' B' y'):∃h t h' b,A++[x]=h::t/\A'++[x']=h'::b/\Hh n (Qu R EX u w (A++[x]) (B++[y]) (A'++[x']) (B'++[y'])) EX u w t.reverse h B y b.reverse h' B' y':=by
 obtain⟨h,t,d,g,_⟩:=BK A x;obtain⟨h',b,c,e,_⟩:=BK A' x';refine⟨h,t,h',b,d,c,T.tp,T.sym,T.uw,fun v f h2=>?_,?_,fun a ha=>T.au a ?_,T.bu,?_,fun a ha=>T.aw a ?_,T.bw⟩
 .rcases T.Wn v f h2 with q | q
  all_goals grind [Jr]
 all_goals grind [Qu,Cyc.refl,Hh.uw]
theorem Hh.flipX (T:Hh n R EX u w A x B y A' x' B' y'):pP (Om EX (Qu R EX u w (A++[x]) (B++[y]) (A'++[x']) (B'++[y']))) (qI (Om EX R)):=fun v=>by
 have QI:∀{l K L:II} {v:Nat},Cyc l (L++K)->(∀a∈L,EX v a)->(∀a∈K,¬EX v a)->Cyc ((L.reverse++K).filter fun a=>decide (EX v a)) (l.filter fun a=>decide (EX v a)).reverse:=fun{l K L v} b c d=>by
  have e:=(aa8 (p:=fun a=>EX v a) b c d).reverse;have f:(L.reverse++K).filter (fun a=>decide (EX v a))=L.reverse:=by rw[Db,b7.2 fun a ha=>by grind,zm.2 fun a ha=>by grind,cJ]
  grind [Cyc.symm]
 unfold qI Om Qu;by_cases c1:v=u
 .subst c1;rw[if_pos rfl];exact QI T.cu T.au T.bu
 .rw [if_neg c1]
  by_cases c2:v=w
  .subst c2;rw[if_pos rfl];exact QI T.cw T.aw T.bw
  .rw [if_neg c2]
   split
   all_goals grind [Cyc.refl,List.filter_eq_nil_iff]
theorem Hh.flipN (T:Hh n R EX u w A x B y A' x' B' y') {c:Nat->Nat->Prop} (f:∀a b,c a b↔¬EX a b):pP (Om c (Qu R EX u w (A++[x]) (B++[y]) (A'++[x']) (B'++[y']))) (Om c R):=fun v=>by
 have QI:∀{l K L:II} {v:Nat},Cyc l (L++K)->(∀a∈L,EX v a)->(∀a∈K,¬EX v a)->Cyc ((L.reverse++K).filter fun a=>decide (c v a)) (l.filter fun a=>decide (c v a)):=fun{l K L v} g h i=>by
  have d:∀a∈L,¬c v a:=fun a ha q=>(f v a).1 q (h a ha);have e:∀a∈K,c v a:=fun a ha=>(f v a).2 (i a ha);have j:=aa8 (p:=fun a=>c v a) g.shift e d;have e3:L.reverse.filter (fun a=>decide (c v a))=[]:=zm.2 fun a ha=>by grind
  grind [List.filter_eq_self,Cyc.symm]
 unfold Om Qu;by_cases c1:v=u
 .subst c1;rw[if_pos rfl];exact QI T.cu T.au T.bu
 .rw [if_neg c1]
  by_cases c2:v=w
  .subst c2;rw[if_pos rfl];exact QI T.cw T.aw T.bw
  .rw [if_neg c2]
   split
   .rename_i hex
    rcases T.Wn v c1 c2 with q|q
    all_goals grind [List.filter_eq_nil_iff,Cyc.refl]
   grind [Cyc.refl]
def Hh.flipY (T:Hh n R EX u w A x B y A' x' B' y'):pP (Om (fun a b=>¬EX a b) (Qu R EX u w (A++[x]) (B++[y]) (A'++[x']) (B'++[y']))) (Om (fun a b=>¬EX a b) R):=T.flipN fun _ _=>Iff.rfl
theorem Hh.Zv (T:Hh n R EX u w A x B y A' x' B' y'):Flat n (Qu R EX u w (A++[x]) (B++[y]) (A'++[x']) (B'++[y']))↔Flat n R:=by
 obtain⟨h,t,h',G,r,j,f⟩:=T.flip;have l:=T.flipX;have m:=T.flipY;have c1:=T.cls;have c2:=f.cls;have g:=T.rx;have H:=Xn g;rw[l.cls f.rx,m.cls f.ry,jX g]at c2;have head:∀{A B A' B':II} {x y x' y' u w h:Nat} {t:II},Hh n R EX u w A x B y A' x' B' y'->A++[x]=h::t->inv (Nv (Om EX R) (x,u))=(h,u):=fun{A B A' B' x y x' y' u w h t} T e=>by
  have nd:=T.rx.nd u;have o:Cyc (Om EX R u) (A++[x]):=aa8 T.cu T.au T.bu;have I:x∈Om EX R u:=o.perm.mem_iff.2 Ma;have J:x∉A:=fun q=>by
   have:=o.perm.nodup_iff.1 nd
   grind
  have:nx (A++[x]) x=h:=by
   cases A<;>grind [nx,nxF,vB]
  show(nx (Om EX R u) x,u)=(h,u)
  grind [Cyc.nx]
 have z:=head T r;have k:=head T.dY j;have K:=(TG g).mem _ T.Ff;have C:=(TG g).mem _ T.dY.Ff;have k1:WD (Nv (Om EX (Qu R EX u w (A++[x]) (B++[y]) (A'++[x']) (B'++[y'])))) (h',w) (h,u)↔WD (Nv (Om EX R)) (x',w) (x,u):=by
  rw[l.orb f.rx f.dY.Ff f.Ff,<-z,<-k,SY g C];have p:=TG g;constructor
  all_goals grind [WD.one,WD.trans,Pm.xw,Hh.Ff,Hh.dY]
 have k2:WD (Nv (Om (fun a b=>¬EX a b) (Qu R EX u w (A++[x]) (B++[y]) (A'++[x']) (B'++[y'])))) (y,u) (y',w)↔WD (Nv (Om (fun a b=>¬EX a b) R)) (y,u) (y',w):=
  m.orb f.ry f.QH f.dY.QH
 rw[k1,k2]at c2;have i:Go.Fw.cls (WD (Nv (Qu R EX u w (A++[x]) (B++[y]) (A'++[x']) (B'++[y'])))) (dl n (Qu R EX u w (A++[x]) (B++[y]) (A'++[x']) (B'++[y'])))=Go.Fw.cls (WD (Nv R)) (dl n R):=pw;have D:(dl n (Qu R EX u w (A++[x]) (B++[y]) (A'++[x']) (B'++[y']))).length=(dl n R).length:=(yR (J8 f.Rl) (J8 T.Rl) fun d=>by grind [IP,Hh.Rl,Jr]).length_eq;have E:iJ n (Qu R EX u w (A++[x]) (B++[y]) (A'++[x']) (B'++[y']))=iJ n R:=IZ fun x _ y _=>⟨fun c=>c.mono fun v w q=>(Jr T).1 q,fun c=>c.mono fun v w q=>(Jr T).2 q⟩;have F:mj n (Qu R EX u w (A++[x]) (B++[y]) (A'++[x']) (B'++[y']))=mj n R:=by
  rw[mj,mj,i];congr 2;refine qH fun v _=>?_;rw[decide_eq_decide,Vn,Vn];exact⟨fun q a ha=>q a ((Jr T).2 ha),fun q a ha=>q a ((Jr T).1 ha)⟩
 grind [Flat.eq_1]
end
end Go.Fw
