/- A text. -/
import Derived.Test.YtkccdnmaaelbiaaGreatFwEmb8
set_option linter.all false
set_option maxRecDepth 99999
set_option maxHeartbeats 9999999
namespace Go.Fw
attribute [local instance] Classical.propDecidable
def insA:II->Nat->Nat->II
 |[],_,_=>[]
 |z::l,x,y=>if z=x then z::y::l else z::insA l x y
theorem Ch {p q:II} {x y:Nat} (h:x∉p):insA (p++x::q) x y=p++x::y::q:=by
 induction p<;>grind [insA.eq_2]
theorem sM {l:II} {x y:Nat} (nd:l.Nodup) (i:x∈l) (d:y∉l):
  (insA l x y).Nodup/\(∀z,z∈insA l x y↔z=y\/z∈l)/\(insA l x y).erase y=l/\nx (insA l x y) x=y/\nx (insA l x y) y=nx l x/\(insA l x y).length=l.length+1:=by
 obtain⟨p,q,rfl,g⟩:=sC i;rw[Ch g];have hyp:y∉p:=fun h=>d (by simp[h]);have j:y≠x:=fun e=>d (by simp[e]);have c:(p++x::y::q).Perm (y::(p++x::q)):=pw;refine⟨c.nodup_iff.2 (iy.2 ⟨d,nd⟩),fun z=>by rw[c.mem_iff,IE],?_,Nu g,?_,pw⟩
 .grind
 .have e : p ++ x :: y :: q = (p ++ [x]) ++ y :: q := by simp
  grind [ZL]
noncomputable def EO (r:Nat->II) (f:II) (a b:Nat) (inn:II):Nat->II:=fun x=>
 if x=a then insA (r a) (pv f a) ((inn++[b]).headD 0)
 else if x=b then insA (r b) (pv f b) ((inn.reverse++[a]).headD 0)
 else if x∈inn then[pv (nr a inn b) x,nx (nr a inn b) x]
 else r x
theorem pv_adj {p rest:II} {v z:Nat} (nd:(p++v::z::rest).Nodup):pv (p++v::z::rest) z=v:=by grind [c7,Nu]
theorem aZ {L:II} (nd:L.Nodup) {i x y:Nat} (c:L[i]?=some x) (h2:L[i+1]?=some y):nx L x=y/\pv L y=x:=by grind [ZN,Nu,pv_adj]
theorem ss {p q:Nat} (h:p≠q):nx [p,q] p=q/\nx [p,q] q=p:=by
 refine⟨Nu (p:=[]) Ma,?_⟩;exact vB (p:=[]) (x:=p) (v:=q) pw
section
variable {n : Nat} {r : Nat → List Nat} {F : List (List Nat)} {f : List Nat} {a b : Nat} {inn : List Nat}
structure UN (n:Nat) (r:Nat->II) (f:II) (a b:Nat) (inn:II):Prop where
 ab:a≠b
 af:a∈f
 bf:b∈f
 nd:inn.Nodup
 off:∀x∈inn,r x=[]
 lt:∀x∈inn,x<n
 chord:inn=[]->b∉r a
theorem UN.ra (C:UN n r f a b inn) (O:FO r F) (hf:f∈F):r a≠[]/\r b≠[]:=
 ⟨(fun h=>by have:=O.bz f hf a C.af;grind),(fun h=>by have:=O.bz f hf b C.bf;grind)⟩
theorem UN.ndP (C:UN n r f a b inn) (O:FO r F) (hf:f∈F):(nr a inn b).Nodup:=by grind [UN.ra,nr.eq_1,UN.off,UN.ab,UN.nd]
def UN.s_new (C:UN n r f a b inn) (R:V7 n r):(inn++[b]).headD 0∉r a:=by
 cases inn with
 |nil=>exact C.chord rfl
 |cons x l=>
  intro h;have:=R.sy _ _ h;rw[C.off _ Ma]at this;cases this
def UN.t_new (C:UN n r f a b inn) (R:V7 n r):(inn.reverse++[a]).headD 0∉r b:=by
 cases c:inn.reverse with
 |nil=>
  have:inn=[]:=by simpa using c
  exact fun h=>C.chord this (R.sy _ _ h)
 |cons x l=>
  intro h;have:=R.sy _ _ h;rw[C.off _ (fj.1 (by rw[c];simp))]at this;cases this
theorem UN.lay (C:UN n r f a b inn) (R:V7 n r) (O:FO r F) (hf:f∈F):Lay n r (EO r f a b inn) a b inn/\
  nx (EO r f a b inn a) (pv f a)=(inn++[b]).headD 0/\nx (EO r f a b inn b) (pv f b)=(inn.reverse++[a]).headD 0/\nx f a=nx (EO r f a b inn a) ((inn++[b]).headD 0)/\nx f b=nx (EO r f a b inn b) ((inn.reverse++[a]).headD 0):=by
 have nP:=C.ndP O hf;obtain⟨ra,rb⟩:=C.ra O hf;have hs:=C.s_new R;have G:=C.t_new R;have pa:=O.df R hf C.af;have pb:=O.df R hf C.bf;have ea:EO r f a b inn a=insA (r a) (pv f a) ((inn++[b]).headD 0):=if_pos rfl;have eb:EO r f a b inn b=insA (r b) (pv f b) ((inn.reverse++[a]).headD 0):=by grind [EO,UN.ab]
 have ain:a∉inn:=fun h=>ra (C.off a h);have bin:b∉inn:=fun h=>rb (C.off b h);have H:∀x∈inn,EO r f a b inn x=[pv (nr a inn b) x,nx (nr a inn b) x]:=fun x m=>by grind [EO]
 have B:∀x,x≠a->x≠b->x∉inn->EO r f a b inn x=r x:=fun x d h2 h3=>by grind [EO]
 obtain⟨K,L,M,N,P,_⟩:=sM (R.nd a) pa hs;obtain⟨Q,I,S,T,U,_⟩:=sM (R.nd b) pb G;have l:∀x∈inn,∃i p q:Nat,(nr a inn b)[i]?=some p/\(nr a inn b)[i+1]?=some x/\(nr a inn b)[i+2]?=some q:=fun x m=>by
  obtain⟨i,p,d,h2⟩:=qm (a:=a) (b:=b) (.inr m);have u:=(qL0.1 h2).1;have hi:i+2<(nr a inn b).length:=by grind [Eo,Fg]
  grind
 have o:∀(i p x q:Nat),(nr a inn b)[i]?=some p->(nr a inn b)[i+1]?=some x->(nr a inn b)[i+2]?=some q->x∈inn/\p≠q/\EO r f a b inn x=[p,q]:=fun i p x q d h2 h3=>by
  have m:x∈inn:=by
   have z:=(qL0.1 h3).1;rw[Eo]at z;have e:nr a inn b=a::(inn++[b]):=rfl
   grind [List.mem_of_getElem?]
  refine⟨m,fun e=>?_,?_⟩
  .grind [X6]
  .rw[H x m,(aZ nP d h2).2,(aZ nP h2 h3).1]
 have g:∀(i p x q:Nat),(nr a inn b)[i]?=some p->(nr a inn b)[i+1]?=some x->(nr a inn b)[i+2]?=some q->nx (EO r f a b inn x) p=q/\nx (EO r f a b inn x) q=p/\∀y,y∈EO r f a b inn x↔y=p\/y=q:=fun i p x q d h2 h3=>by
  obtain⟨_,k,e⟩:=o i p x q d h2 h3;rw[e];exact⟨(ss k).1,(ss k).2,fun y=>by simp⟩
 have A:∀(i x y:Nat),(nr a inn b)[i]?=some x->(nr a inn b)[i+1]?=some y->y∈EO r f a b inn x/\x∈EO r f a b inn y:=fun i x y d h2=>by
  have u:=(qL0.1 h2).1;constructor
  .cases i with
   |zero=>
    grind [yT]
   |succ i=>
    have J:(nr a inn b)[i]?=some ((nr a inn b)[i]'(by omega)):=BS NH
    exact((g i _ x y J d h2).2.2 y).2 (.inr rfl)
  .by_cases c : i + 2 < (nr a inn b).length
   .exact((g i x y _ d h2 (BS c)).2.2 x).2 (.inl rfl)
   grind [Eo,Fg]
 have j:∀v w,w∈EO r f a b inn v->w∈r v\/∃i:Nat,((nr a inn b)[i]?=some v/\(nr a inn b)[i+1]?=some w)\/((nr a inn b)[i]?=some w/\(nr a inn b)[i+1]?=some v):=fun v w h=>by
  by_cases c1:v=a
  .grind [yT]
  by_cases c2:v=b
  .subst c2
   rw[eb,I]at h;rcases h with h|h
   .obtain ⟨V, W⟩ := Fg a v inn
    grind
   grind
  by_cases s:v∈inn
  .obtain ⟨i, p, q, d, h2, h3⟩ := l v s
   rcases((g i p v q d h2 h3).2.2 w).1 h with e|e
   .exact .inr ⟨i,.inr ⟨pw,h2⟩⟩
   .exact .inr ⟨i+1,.inl ⟨h2,pw⟩⟩
  grind
 have D:∀v w,w∈r v->w∈EO r f a b inn v:=fun v w h=>by
  by_cases c1:v=a
  .grind
  by_cases c2:v=b
  .grind
  by_cases s:v∈inn
  .grind [UN.off]
  grind
 have E:∀(i x:Nat),(nr a inn b)[i]?=some x->x<n:=fun i x h=>by
  have t:=Gc h;rw[nr,IE,yY,si]at t;rcases t with rfl|t|rfl
  .exact R.lt _ _ pa
  .exact C.lt x t
  .exact R.lt _ _ pb
 have R':V7 n (EO r f a b inn):=by
  refine⟨fun v=>?_,fun v w h=>?_,fun v w h=>?_,fun v h=>?_⟩
  .by_cases c1 : v = a
   .grind
   by_cases c2:v=b
   .grind
   by_cases s:v∈inn
   .obtain ⟨i, p, q, d, h2, h3⟩ := l v s
    obtain⟨_,k,e⟩:=o i p v q d h2 h3;rw[e];simp[k]
   .rw[B v c1 c2 s];exact R.nd v
  .rcases j v w h with h | ⟨i, ⟨d, _⟩ | ⟨_, h2⟩⟩
   .exact R.lt _ _ h
   .grind
   grind
  .rcases j v w h with h | ⟨i, ⟨d, h2⟩ | ⟨d, h2⟩⟩
   .grind [V7.sy]
   .grind
   grind
  .rcases j v v h with h | ⟨i, ⟨d, h2⟩ | ⟨d, h2⟩⟩
   .exact R.ir v h
   .grind [X6]
   grind [X6]
 refine⟨⟨R,R',C.ab,ra,rb,C.nd,C.off,B,pw,pw,pw,pw,g⟩,pw,pw,?_,?_⟩
 .grind [FO.pv,UN.af]
 grind [FO.pv,UN.bf]
end
end Go.Fw
namespace Go.Fw
attribute [local instance] Classical.propDecidable
def Vj (l:II) (x y:Nat):Prop:=∃i:Nat,l[i]?=some x/\l[i+1]?=some y
def Ay (a:Nat) (inn:II) (b:Nat) (x y:Nat):Prop:=Vj (nr a inn b) x y\/Vj (nr a inn b) y x
theorem R8 {l:II} {x y:Nat}:Vj l.reverse x y↔Vj l y x:=by grind [Vj,List.reverse_reverse]
theorem Ef {a b:Nat} {inn:II} {x y:Nat} (h:Ay a inn b x y):Ay a inn b y x:=h.symm
theorem Ha {a b:Nat} {inn:II} {x y:Nat}:Ay b inn.reverse a x y↔Ay a inn b x y:=by grind [Ay,Ec,R8]
theorem Za {l:II} (nd:l.Nodup) {p q:Nat->Prop} {s:Nat} (c:¬p s) (h:∀y∈l,q y↔p y\/y=s):(l.filter fun y=>decide (q y)).erase s=l.filter fun y=>decide (p y):=by
 rw[(nd.sublist kc).erase_eq_filter,qQ]
 grind [List.filter_congr]
structure Ka (R:Nat->II) (H:Nat->Nat->Prop) (a:Nat) (inn:II) (b:Nat):Prop where
 nd:(nr a inn b).Nodup
 UQ:∀(i x y:Nat),(nr a inn b)[i]?=some x->(nr a inn b)[i+1]?=some y->y∈R x/\¬H x y
 off:∀x∈inn,∀w∈R x,¬H x w
 JX:∃w∈R a,H a w
 sN:∃w∈R b,H b w
section
variable {n : Nat} {R : Nat → List Nat} {H : Nat → Nat → Prop} {a b : Nat} {inn : List Nat}
theorem Ka.rev (W:Ka R H a inn b) (f:V7 n R) (hs:∀v w,H v w->H w v):Ka R H b inn.reverse a:=by
 refine⟨by grind [Ec,Ka.nd],fun i x y g h2=>?_,fun x c=>W.off x (fj.1 c),W.sN,W.JX⟩;have:Vj (nr a inn b).reverse x y:=⟨i,by grind [Ec],by grind [Ec]⟩;obtain⟨j,d,e⟩:=R8.1 this;obtain⟨k1,k2⟩:=W.UQ j y x d e
 grind [V7.sy]
theorem Ka.ab (W:Ka R H a inn b):a≠b:=fun e=>by
 have:=W.nd
 grind [nr.eq_1]
theorem Ka.wE (W:Ka R H a inn b) (d:V7 n R) (hs:∀v w,H v w->H w v) {x y:Nat} (h:Ay a inn b x y):y∈R x/\¬H x y:=by
 rcases h with⟨i,c,h2⟩|⟨i,c,h2⟩
 .grind [Ka.UQ]
 .obtain ⟨k1, k2⟩ := W.UQ i y x c h2
  grind [V7.sy]
theorem dC {x y:Nat} (h:Ay a inn b x y):x=a\/x=b\/x∈inn:=by
 have:x∈nr a inn b:=by
  rcases h with⟨i,c,_⟩|⟨i,_,h2⟩
  all_goals grind
 grind [nr.eq_1]
theorem Ka.Fp (W:Ka R H a inn b) {y:Nat}:Ay a inn b a y↔y=(inn++[b]).headD 0:=by
 obtain⟨c,d⟩:=yT a b inn;constructor
 .rintro (⟨i, e, h2⟩ | ⟨i, e, h2⟩)
  all_goals grind [X6,Ka.nd]
 .rintro rfl
  exact .inl ⟨0,c,d⟩
theorem Ka.Kk (W:Ka R H a inn b) (c:V7 n R) (hs:∀v w,H v w->H w v) {y:Nat}:Ay a inn b b y↔y=(inn.reverse++[a]).headD 0:=by rw[<-Ha];exact(W.rev c hs).Fp
theorem ZZ {l:II} {p q:Nat} (nd:l.Nodup) (c:p≠q) (h:∀y,y∈l↔y=p\/y=q):nx l p=q/\nx l q=p:=by
 have pm:l.Perm [p,q]:=yR nd (by simp[c]) fun y=>by rw[h];simp
 have d:=pm.length_eq
 match l,d with
 |[x,y],_=>
  grind [ss]
noncomputable def Jt (R:Nat->II) (H:Nat->Nat->Prop) (a:Nat) (inn:II) (b:Nat):Nat->II:=Om (fun x y=>H x y\/Ay a inn b x y) R
theorem Ka.lay (W:Ka R H a inn b) (d:V7 n R) (hs:∀v w,H v w->H w v):Lay n (Om H R) (Jt R H a inn b) a b inn:=by
 have f:∀v w,(H v w\/Ay a inn b v w)->H w v\/Ay a inn b w v:=fun v w h=>h.imp (hs v w) Ef;have c:∀{v:Nat},(∃w∈R v,H v w)->Om H R v≠[]:=fun{v} ⟨w,g,h2⟩ e=>by
  have:w∈Om H R v:=EM.2 ⟨g,h2⟩
  grind
 have ends:∀{a b:Nat} {inn:II} (_:Ka R H a inn b),(Jt R H a inn b a).erase ((inn++[b]).headD 0)=Om H R a/\(inn++[b]).headD 0∈Jt R H a inn b a:=fun{a b inn} W=>by
  obtain⟨k1,k2⟩:=W.wE d hs (W.Fp.2 rfl);refine⟨Za (d.nd a) k2 fun y _=>or_congr Iff.rfl W.Fp,?_⟩;exact EM.2 ⟨k1,.inr (W.Fp.2 rfl)⟩
 have s:Jt R H b inn.reverse a=Jt R H a inn b:=by grind [Jt,Ha]
 obtain⟨t,u⟩:=ends W;obtain⟨l,m⟩:=ends (W.rev d hs);rw[s]at l m;refine⟨OG d hs,OG d f,W.ab,c W.JX,c W.sN,?_,fun x o=>?_,fun x g h2 h3=>?_,t,u,l,m,fun i p x q g h2 h3=>?_⟩
 .have := W.nd
  grind [nr.eq_1]
 .exact FD.2 fun w hw=>by grind [Ka.off]
 .refine mJ fun y _ => ?_
  grind [dC]
 .have o : x ∈ inn := by grind [nr]
  have k:p≠q:=fun e=>by grind [X6,Ka.nd]
  have r:∀y,y∈Jt R H a inn b x↔y=p\/y=q:=fun y=>by
   unfold Jt;rw[EM];constructor
   .rintro ⟨k1, k2⟩
    rcases k2.resolve_left (W.off x o y k1)with⟨j,z,A⟩|⟨j,z,A⟩
    all_goals grind [X6,Ka.nd]
   .rintro (rfl | rfl)
    .have : Ay a inn b x y := .inr ⟨i, g, h2⟩
     grind [Ka.wE]
    .have : Ay a inn b x y := .inl ⟨i + 1, h2, h3⟩
     grind [Ka.wE]
  obtain⟨k1,k2⟩:=ZZ ((OG d f).nd x) k r;exact⟨k1,k2,r⟩
theorem Ka.Ui (W:Ka R H a inn b):Jt R H a inn b a=(R a).filter fun y=>decide (H a y\/y=(inn++[b]).headD 0):=by
 refine mJ fun y _=>?_
 grind [Ka.Fp]
end
end Go.Fw
namespace Go.Fw
attribute [local instance] Classical.propDecidable
structure Ctx (n:Nat) (R:Nat->II) (H:Nat->Nat->Prop) (F:Cs):Prop where
 Rl:V7 n R
 sym:∀v w,H v w->H w v
 fl:Flat n R
 O:FO (Om H R) F
 bp:∀v w,Om H R v≠[]->Om H R w≠[]->Cr (Om H R) v w
noncomputable def cl (R:Nat->II) (H:Nat->Nat->Prop) (u x:Nat):II:=(R u).filter fun w=>decide (H u w\/w=x)
noncomputable def OY (R:Nat->II) (H:Nat->Nat->Prop) (u x y:Nat):II:=(R u).filter fun w=>decide ((H u w\/w=x)\/w=y)
structure WQ (R:Nat->II) (H:Nat->Nat->Prop) (g:II) (u x:Nat):Prop where
 ug:u∈g
 at_:nx (cl R H u x) (pv g u)=x
section
variable {n : Nat} {R : Nat → List Nat} {H : Nat → Nat → Prop} {F : List (List Nat)} {a b : Nat} {inn : List Nat}
theorem Ka.fst (W:Ka R H a inn b) (c:V7 n R) (hs:∀v w,H v w->H w v):(inn++[b]).headD 0∈R a/\¬H a ((inn++[b]).headD 0):=W.wE c hs (W.Fp.2 rfl)
def Ka.lst (W:Ka R H a inn b) (c:V7 n R) (hs:∀v w,H v w->H w v):(inn.reverse++[a]).headD 0∈R b/\¬H b ((inn.reverse++[a]).headD 0):=(W.rev c hs).fst c hs
theorem Ctx.drawn (C:Ctx n R H F) (W:Ka R H a inn b):∃f∈F,WQ R H f a ((inn++[b]).headD 0)/\WQ R H f b ((inn.reverse++[a]).headD 0)/\
  nx f a=nx (Jt R H a inn b a) ((inn++[b]).headD 0)/\nx f b=nx (Jt R H a inn b b) ((inn.reverse++[a]).headD 0):=by
 have L:=W.lay C.Rl C.sym;have c:Flat n (Jt R H a inn b):=C.fl.keep C.Rl fun v w h=>h.imp (C.sym v w) Ef;obtain⟨f,hf,d,h2,h3,i,e,g⟩:=L.EI C.O c (C.bp _ _ L.ra L.rb);have j:Jt R H a inn b b=cl R H b ((inn.reverse++[a]).headD 0):=by
  refine mJ fun y _=>?_;rw[decide_eq_decide];exact or_congr Iff.rfl (W.Kk C.Rl C.sym)
 exact⟨f,hf,⟨d,by grind [cl.eq_1,Ka.Ui]⟩,⟨h2,pw⟩,e,g⟩
theorem Ctx.HT (C:Ctx n R H F) {g:II} (hg:g∈F) {u x:Nat} (c:u∈g):pv g u∈cl R H u x/\H u (pv g u):=by
 have:=C.O.df (OG C.Rl C.sym) hg c
 grind [EM,cl]
theorem Ctx.YQ (C:Ctx n R H F) {g d:II} (hg:g∈F) (c:d∈F) {u x:Nat} (h:WQ R H g u x) (h':WQ R H d u x):g=d:=by
 obtain⟨f,j,_⟩:=C.O.pv hg h.ug;obtain⟨i,k,_⟩:=C.O.pv c h'.ug;have e:=C9 ((C.Rl.nd u).sublist kc) (C.HT hg h.ug).1 (C.HT c h'.ug).1 (h.at_.trans h'.at_.symm);exact C.O.uniq g hg d c (pv g u) f (e▸i) pw
theorem Ctx.aeA (C:Ctx n R H F) {g:II} (hg:g∈F) {u j k x y:Nat} {c d A B:II} (J:Ka R H u c j) (t:Ka R H u d k)
  (U:(c++[j]).headD 0=x) (hy:(d++[k]).headD 0=y) (TE:∀v∈c,v∉d) (ad:x≠y) (hc:WQ R H g u x)
  (o1:nx (OY R H u x y) x=y) (cy:Cyc g ((u::A)++(j::B))):k∈A\/k=j:=by
 have z:=C.Rl;have hs:=C.sym;have V:=J.lay z hs;obtain⟨f,hf,c1,c2,d1,d2⟩:=C.drawn J;rw[U]at c1;have:=C.YQ hf hg c1 hc;subst this;have er:Jt R H u c j j=cl R H j ((c.reverse++[u]).headD 0):=by
  refine mJ fun y _=>?_
  grind [Ka.Kk]
 have D:=V.gY C.O hf cy (by rw[J.Ui,U];exact c1.at_) (by grind [WQ.at_]) d1 d2;have r:∀v w,(H v w\/Ay u c j v w)->H w v\/Ay u c j w v:=fun v w h=>h.imp (hs v w) Ef;have L:∀{v:Nat},(∃w∈R v,H v w)->v∉c/\v∉d:=fun{v} ⟨w,m,h2⟩=>⟨fun q=>J.off v q w m h2,fun q=>t.off v q w m h2⟩;have M:∀p q,Ay u c j p q->¬Ay u d k p q:=fun p q m h2=>by
  have n2:∀{p:Nat},p=u\/p=k\/p∈d->p∉c:=fun{p} h hp=>by grind [Ka.JX,Ka.sN]
  have m1:=(dC m);have m2:=(dC (Ef m))
  grind [dC,Ef,Ka.Fp,V7.ir,Ka.wE]
 have E:Ka R (fun v w=>H v w\/Ay u c j v w) u d k:=by
  refine⟨t.nd,fun i p q m h2=>⟨(t.UQ i p q m h2).1,fun h=>h.elim (t.UQ i p q m h2).2 fun h=>M p q h (.inl ⟨i,m,h2⟩)⟩,fun v hv w hw h=>h.elim (t.off v hv w hw) fun h=>?_,?_,?_⟩
  all_goals grind [dC,Ka.JX,Ka.sN]
 have L2:=E.lay z r;have G:Flat n (Jt R (fun v w=>H v w\/Ay u c j v w) u d k):=C.fl.keep z fun v w h=>h.imp (r v w) Ef;have I:Cr (Om (fun v w=>H v w\/Ay u c j v w) R) u k:=by
  have h0:Cr (Om H R) u k:=by
   obtain⟨w,m,h2⟩:=t.sN;refine C.bp _ _ V.ra fun e=>?_;have:w∈Om H R k:=EM.2 ⟨m,h2⟩
   grind
  grind [Cr.mono,EM]
 obtain⟨K,s,W,e2,X,_⟩:=L2.EI D G I;have N:Jt R (fun v w=>H v w\/Ay u c j v w) u d k u=OY R H u x y:=by
  rw[E.Ui];refine mJ fun w _=>?_
  grind [Ka.Fp]
 rw[N,hy]at X;have P:(OY R H u x y).Nodup:=(z.nd u).sublist kc;have Q:x∈OY R H u x y:=by grind [OY,Ka.fst]
 have S:pv K u∈OY R H u x y:=by
  have:=D.df (OG z r) s W
  grind [EM,OY,Ka.Fp]
 have T:pv K u=x:=C9 P S Q (X.trans o1.symm);obtain⟨Y,Z,_⟩:=D.pv s W;rw[T]at Y Z;have ag:=D.nd _ (eR (a:=half u A j c));have o:x∈half u A j c/\nx (half u A j c) x=u:=by
  rcases MA c.reverse with e|⟨l,q,e⟩
  .grind [half,vB]
  grind [half,vB]
 have ef:K=half u A j c:=D.uniq K s _ eR x Y o.1 (Z.trans o.2.symm)
 grind [half,Ka.ab,Ka.sN]
end
end Go.Fw
namespace Go.Fw
attribute [local instance] Classical.propDecidable
theorem aeB {r:Nat->II} {a b:Nat} (h:Cr r a b):∃l:II,l.Nodup/\(∃t,l=a::t)/\(∃s,l=s++[b])/\(∀(i x y:Nat),l[i]?=some x->l[i+1]?=some y->y∈r x)/\∀v∈l,Cr r a v:=by
 induction h with
 |refl=>exact⟨[a],Ma,⟨[],rfl⟩,⟨[],rfl⟩,fun i x y _ h2=>by simp at h2,fun v d=>by rw[si.1 d];exact .refl _⟩
 |@step b c hb g j=>
  obtain⟨l,nd,⟨t,o⟩,⟨s,es⟩,ch,f⟩:=j;by_cases m:c∈l
  .obtain ⟨p, q, e, z⟩ := sC m
   have e':l=(p++[c])++q:=by rw[e];simp
   refine⟨p++[c],?_,?_,⟨p,rfl⟩,fun i x y u h2=>?_,fun v d=>f v pw⟩
   .grind
   .cases p<;>grind
   .have k2 := (qL0.1 h2).1
    refine ch i x y ?_ ?_
    all_goals grind
  .refine ⟨l ++ [c], ?_, ⟨t ++ [c], by rw [o]; rfl⟩, ⟨l, rfl⟩, fun i x y u h2 => ?_, fun v d => ?_⟩
   .grind
   .by_cases k : i + 1 < l.length
    .grind
    .have w := (qL0.1 h2).1
     rw[jf,V3]at w;have hi:i+1=l.length:=NH;rw[hi,WA (Ny _)]at h2
     grind
   .rcases yY.1 d with h | h
    .exact f v h
    .rw[si.1 h];exact hb.step g
def off (R:Nat->II) (H:Nat->Nat->Prop) (v:Nat):Prop:=∀w∈R v,¬H v w
theorem Q7 {R:Nat->II} {H:Nat->Nat->Prop} {v:Nat} (h:¬off R H v):∃w∈R v,H v w:=
 fR fun q=>h fun w a h2=>q ⟨w,a,h2⟩
noncomputable def Mm (R:Nat->II) (H:Nat->Nat->Prop):Nat->II:=Om (fun v w=>off R H v/\off R H w) R
noncomputable def lo (R:Nat->II) (H:Nat->Nat->Prop) (v:Nat):Nat:=Classical.epsilon fun w=>Cr (Mm R H) v w
noncomputable def QI (R:Nat->II) (H:Nat->Nat->Prop) (v w:Nat):Nat×Nat×Nat:=
 if off R H v then(0,lo R H v,0)else if off R H w then(0,lo R H w,0)else(1,min v w,max v w)
section
variable {n : Nat} {R : Nat → List Nat} {H : Nat → Nat → Prop}
def QM (a:V7 n R):V7 n (Mm R H):=OG a fun _ _ h=>⟨h.2,h.1⟩
def yc (v:Nat):Cr (Mm R H) v (lo R H v):=Classical.epsilon_spec (p:=fun w=>Cr (Mm R H) v w) ⟨v,.refl _⟩
theorem fX (a:V7 n R) {v w:Nat}:lo R H v=lo R H w↔Cr (Mm R H) v w:=by
 constructor
 .intro e
  have b:=yc (R:=R) (H:=H) v;have h2:=yc (R:=R) (H:=H) w;rw[e]at b;exact b.trans (h2.symm (QM a))
 .intro h
  unfold lo;congr 1;funext z;exact propext ⟨fun q=>(h.symm (QM a)).trans q,fun q=>h.trans q⟩
theorem M6 {v w:Nat} (h:off R H v):QI R H v w=(0,lo R H v,0):=if_pos h
theorem Jn {v w:Nat} (h:¬off R H v) (h2:off R H w):QI R H v w=(0,lo R H w,0):=by grind [QI]
theorem rj {v w:Nat} (h:¬off R H v) (h2:¬off R H w):QI R H v w=(1,min v w,max v w):=by grind [QI]
theorem RX (a:V7 n R) {v w:Nat} (hw:w∈R v):QI R H v w=QI R H w v:=by
 by_cases c1:off R H v
 .by_cases c2 : off R H w
  .rw [M6 c1, M6 c2, (fX a).2]
   exact(Cr.refl _).step (EM.2 ⟨hw,c1,c2⟩)
  grind [M6,Jn]
 grind [off,M6,Jn,rj]
theorem ZW (j:V7 n R) (hs:∀v w,H v w->H w v) {u x z y:Nat} (f:¬off R H u) (g:¬off R H z) (m:u≠z) (D:x∈R u) (o:¬H u x) (E:y∈R z) (ny:¬H z y) (c:QI R H u x=QI R H z y):
  ∃inn,Ka R H u inn z/\(inn++[z]).headD 0=x/\(inn.reverse++[u]).headD 0=y/\∀v∈inn,off R H v/\QI R H u x=(0,lo R H v,0):=by
 by_cases c1:off R H x
 .rw [Jn f c1] at c
  have c2:off R H y:=fR fun q=>by grind [rj]
  rw[Jn g c2]at c;have r:Cr (Mm R H) x y:=(fX j).1 pw;obtain⟨l,nd,⟨t,A⟩,⟨s,es⟩,ch,B⟩:=aeB r;have a:∀v∈l,off R H v:=fun v b=>by
   cases B v b with
   |refl=>exact c1
   |step _ hw=>exact(EM.1 hw).2.2
  refine⟨l,⟨?_,fun i p q d h2=>?_,fun v b=>a v b,Q7 f,Q7 g⟩,by rw[A];rfl,by rw[es];simp,fun v b=>⟨a v b,by grind [Jn,fX]⟩⟩
  .grind [nr.eq_1]
  .have h := (qL0.1 h2).1
   rw[Eo]at h;cases i with
   |zero=>
    grind [yT]
   |succ i=>
    have e:nr u l z=u::(l++[z]):=rfl;rw[e,KG]at d h2;rw[AE NH]at d;have C:=a p (Gc d);by_cases k:i+1<l.length
    .rw [AE k] at h2
     have:=EM.1 (ch i p q d h2);exact⟨this.1,C q this.1⟩
    .have hi : i + 1 = l.length := NH
     rw[hi,WA (Ny _)]at h2
     grind [List.length_append,V7.sy]
 .rw [rj f c1] at c
  have c2:¬off R H y:=fun q=>by grind [Jn]
  rw[rj g c2]at c;injection c with _ c;injection c with d h2;have:z=x/\y=u:=NH;obtain⟨rfl,rfl⟩:=this;refine⟨[],⟨by grind [nr],fun i p q d h2=>?_,fun v b=>absurd b uV,Q7 f,Q7 g⟩,rfl,rfl,fun v b=>absurd b uV⟩;have h:=(qL0.1 h2).1
  grind [Eo,yT]
end
end Go.Fw
