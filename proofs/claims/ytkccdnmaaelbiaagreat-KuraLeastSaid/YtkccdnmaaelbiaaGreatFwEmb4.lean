/- A text. -/
import Derived.Test.YtkccdnmaaelbiaaGreatFwEmb8
set_option linter.all false
set_option maxRecDepth 99999
set_option maxHeartbeats 9999999
namespace Go.Fw
attribute [local instance] Classical.propDecidable
def insA:II->Nat->Nat->II
 |[],_,_=>[]
 |z::l,x,y=>if z=x then z::y::l else z::insA l x y
theorem Ch {p q:II} {x y:Nat} (h:x∉p):insA (p++x::q) x y=p++x::y::q:=by
 induction p<;>grind [insA.eq_2]
theorem sM {l:II} {x y:Nat} (nd:l.Nodup) (i:x∈l) (d:y∉l):
  (insA l x y).Nodup/\(∀z,z∈insA l x y↔z=y\/z∈l)/\(insA l x y).erase y=l/\nx (insA l x y) x=y/\nx (insA l x y) y=nx l x/\(insA l x y).length=l.length+1:=by
 obtain⟨p,q,rfl,g⟩:=sC i;rw[Ch g];have hyp:y∉p:=fun h=>d (by simp[h]);have j:y≠x:=fun e=>d (by simp[e]);have c:(p++x::y::q).Perm (y::(p++x::q)):=pw;refine⟨c.nodup_iff.2 (xD.2 ⟨d,nd⟩),fun z=>by rw[c.mem_iff,Z6],?_,Nu g,?_,pw⟩
 .grind
 .have e : p ++ x :: y :: q = (p ++ [x]) ++ y :: q := by simp
  grind [ZL]
noncomputable def EO (r:Nat->II) (f:II) (a b:Nat) (inn:II):Nat->II:=fun x=>
 if x=a then insA (r a) (pv f a) ((inn++[b]).headD 0)
 else if x=b then insA (r b) (pv f b) ((inn.reverse++[a]).headD 0)
 else if x∈inn then[pv (nr a inn b) x,nx (nr a inn b) x]
 else r x
theorem pv_adj {p rest:II} {v z:Nat} (nd:(p++v::z::rest).Nodup):pv (p++v::z::rest) z=v:=by grind [c7,Nu]
theorem aZ {L:II} (nd:L.Nodup) {i x y:Nat} (c:L[i]?=some x) (h2:L[i+1]?=some y):nx L x=y/\pv L y=x:=by grind [ZN,Nu,pv_adj]
theorem ss {p q:Nat} (h:p≠q):nx [p,q] p=q/\nx [p,q] q=p:=by
 refine⟨Nu (p:=[]) Ma,?_⟩;exact vB (p:=[]) (x:=p) (v:=q) pw
section
variable {n : Nat} {r : Nat → List Nat} {F : List (List Nat)} {f : List Nat} {a b : Nat} {inn : List Nat}
structure UN (n:Nat) (r:Nat->II) (f:II) (a b:Nat) (inn:II):Prop where
 ab:a≠b
 af:a∈f
 bf:b∈f
 nd:inn.Nodup
 off:∀x∈inn,r x=[]
 lt:∀x∈inn,x<n
 chord:inn=[]->b∉r a
theorem UN.ra (C:UN n r f a b inn) (O:FO r F) (hf:f∈F):r a≠[]/\r b≠[]:=
 ⟨(fun h=>by have:=O.bz f hf a C.af;grind),(fun h=>by have:=O.bz f hf b C.bf;grind)⟩
theorem UN.ndP (C:UN n r f a b inn) (O:FO r F) (hf:f∈F):(nr a inn b).Nodup:=by grind [UN.ra,nr.eq_1,UN.off,UN.ab,UN.nd]
def UN.s_new (C:UN n r f a b inn) (R:V7 n r):(inn++[b]).headD 0∉r a:=by
 cases inn with
 |nil=>exact C.chord rfl
 |cons x l=>
  intro h;have:=R.sy _ _ h;rw[C.off _ Ma]at this;cases this
def UN.t_new (C:UN n r f a b inn) (R:V7 n r):(inn.reverse++[a]).headD 0∉r b:=by
 cases c:inn.reverse with
 |nil=>
  have:inn=[]:=by simpa using c
  exact fun h=>C.chord this (R.sy _ _ h)
 |cons x l=>
  intro h;have:=R.sy _ _ h;rw[C.off _ (Qn.1 (by rw[c];simp))]at this;cases this
theorem UN.lay (C:UN n r f a b inn) (R:V7 n r) (O:FO r F) (hf:f∈F):Lay n r (EO r f a b inn) a b inn/\
  nx (EO r f a b inn a) (pv f a)=(inn++[b]).headD 0/\nx (EO r f a b inn b) (pv f b)=(inn.reverse++[a]).headD 0/\nx f a=nx (EO r f a b inn a) ((inn++[b]).headD 0)/\nx f b=nx (EO r f a b inn b) ((inn.reverse++[a]).headD 0):=by
 have nP:=C.ndP O hf;obtain⟨ra,rb⟩:=C.ra O hf;have hs:=C.s_new R;have G:=C.t_new R;have pa:=O.df R hf C.af;have pb:=O.df R hf C.bf;have ea:EO r f a b inn a=insA (r a) (pv f a) ((inn++[b]).headD 0):=if_pos rfl;have eb:EO r f a b inn b=insA (r b) (pv f b) ((inn.reverse++[a]).headD 0):=by grind [EO,UN.ab]
 have ain:a∉inn:=fun h=>ra (C.off a h);have bin:b∉inn:=fun h=>rb (C.off b h);have H:∀x∈inn,EO r f a b inn x=[pv (nr a inn b) x,nx (nr a inn b) x]:=fun x m=>by grind [EO]
 have B:∀x,x≠a->x≠b->x∉inn->EO r f a b inn x=r x:=fun x d h2 h3=>by grind [EO]
 obtain⟨K,L,M,N,P,_⟩:=sM (R.nd a) pa hs;obtain⟨Q,I,S,T,U,_⟩:=sM (R.nd b) pb G;have l:∀x∈inn,∃i p q:Nat,(nr a inn b)[i]?=some p/\(nr a inn b)[i+1]?=some x/\(nr a inn b)[i+2]?=some q:=fun x m=>by
  obtain⟨i,p,d,h2⟩:=qm (a:=a) (b:=b) (.inr m);have u:=(qL0.1 h2).1;have hi:i+2<(nr a inn b).length:=by grind [Eo,Fg]
  grind
 have o:∀(i p x q:Nat),(nr a inn b)[i]?=some p->(nr a inn b)[i+1]?=some x->(nr a inn b)[i+2]?=some q->x∈inn/\p≠q/\EO r f a b inn x=[p,q]:=fun i p x q d h2 h3=>by
  have m:x∈inn:=by
   have z:=(qL0.1 h3).1;rw[Eo]at z;have e:nr a inn b=a::(inn++[b]):=rfl
   grind [List.mem_of_getElem?]
  refine⟨m,fun e=>?_,?_⟩
  .grind [X6]
  .rw[H x m,(aZ nP d h2).2,(aZ nP h2 h3).1]
 have g:∀(i p x q:Nat),(nr a inn b)[i]?=some p->(nr a inn b)[i+1]?=some x->(nr a inn b)[i+2]?=some q->nx (EO r f a b inn x) p=q/\nx (EO r f a b inn x) q=p/\∀y,y∈EO r f a b inn x↔y=p\/y=q:=fun i p x q d h2 h3=>by
  obtain⟨_,k,e⟩:=o i p x q d h2 h3;rw[e];exact⟨(ss k).1,(ss k).2,fun y=>by simp⟩
 have A:∀(i x y:Nat),(nr a inn b)[i]?=some x->(nr a inn b)[i+1]?=some y->y∈EO r f a b inn x/\x∈EO r f a b inn y:=fun i x y d h2=>by
  have u:=(qL0.1 h2).1;constructor
  .cases i with
   |zero=>
    grind [yT]
   |succ i=>
    have J:(nr a inn b)[i]?=some ((nr a inn b)[i]'(by omega)):=XJ NH
    exact((g i _ x y J d h2).2.2 y).2 (.inr rfl)
  .by_cases c : i + 2 < (nr a inn b).length
   .exact((g i x y _ d h2 (XJ c)).2.2 x).2 (.inl rfl)
   grind [Eo,Fg]
 have j:∀v w,w∈EO r f a b inn v->w∈r v\/∃i:Nat,((nr a inn b)[i]?=some v/\(nr a inn b)[i+1]?=some w)\/((nr a inn b)[i]?=some w/\(nr a inn b)[i+1]?=some v):=fun v w h=>by
  by_cases c1:v=a
  .grind [yT]
  by_cases c2:v=b
  .subst c2
   rw[eb,I]at h;rcases h with h|h
   .obtain ⟨V, W⟩ := Fg a v inn
    grind
   grind
  by_cases s:v∈inn
  .obtain ⟨i, p, q, d, h2, h3⟩ := l v s
   rcases((g i p v q d h2 h3).2.2 w).1 h with e|e
   .exact .inr ⟨i,.inr ⟨pw,h2⟩⟩
   .exact .inr ⟨i+1,.inl ⟨h2,pw⟩⟩
  grind
 have D:∀v w,w∈r v->w∈EO r f a b inn v:=fun v w h=>by
  by_cases c1:v=a
  .grind
  by_cases c2:v=b
  .grind
  by_cases s:v∈inn
  .grind [UN.off]
  grind
 have E:∀(i x:Nat),(nr a inn b)[i]?=some x->x<n:=fun i x h=>by
  have t:=Gc h;rw[nr,Z6,WA,Eh]at t;rcases t with rfl|t|rfl
  .exact R.lt _ _ pa
  .exact C.lt x t
  .exact R.lt _ _ pb
 have R':V7 n (EO r f a b inn):=by
  refine⟨fun v=>?_,fun v w h=>?_,fun v w h=>?_,fun v h=>?_⟩
  .by_cases c1 : v = a
   .grind
   by_cases c2:v=b
   .grind
   by_cases s:v∈inn
   .obtain ⟨i, p, q, d, h2, h3⟩ := l v s
    obtain⟨_,k,e⟩:=o i p v q d h2 h3;rw[e];simp[k]
   .rw[B v c1 c2 s];exact R.nd v
  .rcases j v w h with h | ⟨i, ⟨d, _⟩ | ⟨_, h2⟩⟩
   .exact R.lt _ _ h
   .grind
   grind
  .rcases j v w h with h | ⟨i, ⟨d, h2⟩ | ⟨d, h2⟩⟩
   .grind [V7.sy]
   .grind
   grind
  .rcases j v v h with h | ⟨i, ⟨d, h2⟩ | ⟨d, h2⟩⟩
   .exact R.ir v h
   .grind [X6]
   grind [X6]
 refine⟨⟨R,R',C.ab,ra,rb,C.nd,C.off,B,pw,pw,pw,pw,g⟩,pw,pw,?_,?_⟩
 .grind [FO.pv,UN.af]
 grind [FO.pv,UN.bf]
end
end Go.Fw
namespace Go.Fw
attribute [local instance] Classical.propDecidable
def Vj (l:II) (x y:Nat):Prop:=∃i:Nat,l[i]?=some x/\l[i+1]?=some y
def Ay (a:Nat) (inn:II) (b:Nat) (x y:Nat):Prop:=Vj (nr a inn b) x y\/Vj (nr a inn b) y x
theorem R8 {l:II} {x y:Nat}:Vj l.reverse x y↔Vj l y x:=by grind [Vj,List.reverse_reverse]
theorem Ef {a b:Nat} {inn:II} {x y:Nat} (h:Ay a inn b x y):Ay a inn b y x:=h.symm
theorem Ha {a b:Nat} {inn:II} {x y:Nat}:Ay b inn.reverse a x y↔Ay a inn b x y:=by grind [Ay,Ec,R8]
theorem Za {l:II} (nd:l.Nodup) {p q:Nat->Prop} {s:Nat} (c:¬p s) (h:∀y∈l,q y↔p y\/y=s):(l.filter fun y=>decide (q y)).erase s=l.filter fun y=>decide (p y):=by
 rw[(nd.sublist jf).erase_eq_filter,jV]
 grind [List.filter_congr]
structure Ka (R:Nat->II) (H:Nat->Nat->Prop) (a:Nat) (inn:II) (b:Nat):Prop where
 nd:(nr a inn b).Nodup
 UQ:∀(i x y:Nat),(nr a inn b)[i]?=some x->(nr a inn b)[i+1]?=some y->y∈R x/\¬H x y
 off:∀x∈inn,∀w∈R x,¬H x w
 JX:∃w∈R a,H a w
 sN:∃w∈R b,H b w
section
variable {n : Nat} {R : Nat → List Nat} {H : Nat → Nat → Prop} {a b : Nat} {inn : List Nat}
theorem Ka.rev (W:Ka R H a inn b) (f:V7 n R) (hs:∀v w,H v w->H w v):Ka R H b inn.reverse a:=by
 refine⟨by grind [Ec,Ka.nd],fun i x y g h2=>?_,fun x c=>W.off x (Qn.1 c),W.sN,W.JX⟩;have:Vj (nr a inn b).reverse x y:=⟨i,by grind [Ec],by grind [Ec]⟩;obtain⟨j,d,e⟩:=R8.1 this;obtain⟨k1,k2⟩:=W.UQ j y x d e
 grind [V7.sy]
theorem Ka.ab (W:Ka R H a inn b):a≠b:=fun e=>by
 have:=W.nd
 grind [nr.eq_1]
theorem Ka.wE (W:Ka R H a inn b) (d:V7 n R) (hs:∀v w,H v w->H w v) {x y:Nat} (h:Ay a inn b x y):y∈R x/\¬H x y:=by
 rcases h with⟨i,c,h2⟩|⟨i,c,h2⟩
 .grind [Ka.UQ]
 .obtain ⟨k1, k2⟩ := W.UQ i y x c h2
  grind [V7.sy]
theorem dC {x y:Nat} (h:Ay a inn b x y):x=a\/x=b\/x∈inn:=by
 have:x∈nr a inn b:=by
  rcases h with⟨i,c,_⟩|⟨i,_,h2⟩
  all_goals grind
 grind [nr.eq_1]
theorem Ka.Fp (W:Ka R H a inn b) {y:Nat}:Ay a inn b a y↔y=(inn++[b]).headD 0:=by
 obtain⟨c,d⟩:=yT a b inn;constructor
 .rintro (⟨i, e, h2⟩ | ⟨i, e, h2⟩)
  all_goals grind [X6,Ka.nd]
 .rintro rfl
  exact .inl ⟨0,c,d⟩
theorem Ka.Kk (W:Ka R H a inn b) (c:V7 n R) (hs:∀v w,H v w->H w v) {y:Nat}:Ay a inn b b y↔y=(inn.reverse++[a]).headD 0:=by rw[<-Ha];exact(W.rev c hs).Fp
theorem ZZ {l:II} {p q:Nat} (nd:l.Nodup) (c:p≠q) (h:∀y,y∈l↔y=p\/y=q):nx l p=q/\nx l q=p:=by
 have pm:l.Perm [p,q]:=yR nd (by simp[c]) fun y=>by rw[h];simp
 have d:=pm.length_eq
 match l,d with
 |[x,y],_=>
  grind [ss]
noncomputable def Jt (R:Nat->II) (H:Nat->Nat->Prop) (a:Nat) (inn:II) (b:Nat):Nat->II:=Om (fun x y=>H x y\/Ay a inn b x y) R
theorem Ka.lay (W:Ka R H a inn b) (d:V7 n R) (hs:∀v w,H v w->H w v):Lay n (Om H R) (Jt R H a inn b) a b inn:=by
 have f:∀v w,(H v w\/Ay a inn b v w)->H w v\/Ay a inn b w v:=fun v w h=>h.imp (hs v w) Ef;have c:∀{v:Nat},(∃w∈R v,H v w)->Om H R v≠[]:=fun{v} ⟨w,g,h2⟩ e=>by
  have:w∈Om H R v:=EM.2 ⟨g,h2⟩
  grind
 have ends:∀{a b:Nat} {inn:II} (_:Ka R H a inn b),(Jt R H a inn b a).erase ((inn++[b]).headD 0)=Om H R a/\(inn++[b]).headD 0∈Jt R H a inn b a:=fun{a b inn} W=>by
  obtain⟨k1,k2⟩:=W.wE d hs (W.Fp.2 rfl);refine⟨Za (d.nd a) k2 fun y _=>or_congr Iff.rfl W.Fp,?_⟩;exact EM.2 ⟨k1,.inr (W.Fp.2 rfl)⟩
 have s:Jt R H b inn.reverse a=Jt R H a inn b:=by grind [Jt,Ha]
 obtain⟨a1,a2⟩:=ends W;obtain⟨l,m⟩:=ends (W.rev d hs);rw[s]at l m;refine⟨OG d hs,OG d f,W.ab,c W.JX,c W.sN,?_,fun x o=>?_,fun x g h2 h3=>?_,a1,a2,l,m,fun i p x q g h2 h3=>?_⟩
 .have := W.nd
  grind [nr.eq_1]
 .exact zm.2 fun w hw=>by grind [Ka.off]
 .refine qH fun y _ => ?_
  grind [dC]
 .have o : x ∈ inn := by grind [nr]
  have k:p≠q:=fun e=>by grind [X6,Ka.nd]
  have r:∀y,y∈Jt R H a inn b x↔y=p\/y=q:=fun y=>by
   unfold Jt;rw[EM];constructor
   .rintro ⟨k1, k2⟩
    rcases k2.resolve_left (W.off x o y k1)with⟨j,t,u⟩|⟨j,t,u⟩
    all_goals grind [X6,Ka.nd]
   .rintro (rfl | rfl)
    .have : Ay a inn b x y := .inr ⟨i, g, h2⟩
     grind [Ka.wE]
    .have : Ay a inn b x y := .inl ⟨i + 1, h2, h3⟩
     grind [Ka.wE]
  obtain⟨k1,k2⟩:=ZZ ((OG d f).nd x) k r;exact⟨k1,k2,r⟩
theorem Ka.Ui (W:Ka R H a inn b):Jt R H a inn b a=(R a).filter fun y=>decide (H a y\/y=(inn++[b]).headD 0):=by
 refine qH fun y _=>?_
 grind [Ka.Fp]
end
end Go.Fw
namespace Go.Fw
attribute [local instance] Classical.propDecidable
structure Ctx (n:Nat) (R:Nat->II) (H:Nat->Nat->Prop) (F:Cs):Prop where
 Rl:V7 n R
 sym:∀v w,H v w->H w v
 fl:Flat n R
 O:FO (Om H R) F
 bp:∀v w,Om H R v≠[]->Om H R w≠[]->Cr (Om H R) v w
noncomputable def cl (R:Nat->II) (H:Nat->Nat->Prop) (u x:Nat):II:=(R u).filter fun w=>decide (H u w\/w=x)
noncomputable def OY (R:Nat->II) (H:Nat->Nat->Prop) (u x y:Nat):II:=(R u).filter fun w=>decide ((H u w\/w=x)\/w=y)
structure WQ (R:Nat->II) (H:Nat->Nat->Prop) (g:II) (u x:Nat):Prop where
 ug:u∈g
 at_:nx (cl R H u x) (pv g u)=x
section
variable {n : Nat} {R : Nat → List Nat} {H : Nat → Nat → Prop} {F : List (List Nat)} {a b : Nat} {inn : List Nat}
theorem Ka.fst (W:Ka R H a inn b) (c:V7 n R) (hs:∀v w,H v w->H w v):(inn++[b]).headD 0∈R a/\¬H a ((inn++[b]).headD 0):=W.wE c hs (W.Fp.2 rfl)
def Ka.lst (W:Ka R H a inn b) (c:V7 n R) (hs:∀v w,H v w->H w v):(inn.reverse++[a]).headD 0∈R b/\¬H b ((inn.reverse++[a]).headD 0):=(W.rev c hs).fst c hs
theorem Ctx.drawn (C:Ctx n R H F) (W:Ka R H a inn b):∃f∈F,WQ R H f a ((inn++[b]).headD 0)/\WQ R H f b ((inn.reverse++[a]).headD 0)/\
  nx f a=nx (Jt R H a inn b a) ((inn++[b]).headD 0)/\nx f b=nx (Jt R H a inn b b) ((inn.reverse++[a]).headD 0):=by
 have L:=W.lay C.Rl C.sym;have c:Flat n (Jt R H a inn b):=C.fl.keep C.Rl fun v w h=>h.imp (C.sym v w) Ef;obtain⟨f,hf,d,h2,h3,i,e,g⟩:=L.EI C.O c (C.bp _ _ L.ra L.rb);have j:Jt R H a inn b b=cl R H b ((inn.reverse++[a]).headD 0):=by
  refine qH fun y _=>?_;rw[decide_eq_decide];exact or_congr Iff.rfl (W.Kk C.Rl C.sym)
 exact⟨f,hf,⟨d,by grind [cl.eq_1,Ka.Ui]⟩,⟨h2,pw⟩,e,g⟩
theorem Ctx.HT (C:Ctx n R H F) {g:II} (hg:g∈F) {u x:Nat} (c:u∈g):pv g u∈cl R H u x/\H u (pv g u):=by
 have:=C.O.df (OG C.Rl C.sym) hg c
 grind [EM,cl]
theorem Ctx.YQ (C:Ctx n R H F) {g d:II} (hg:g∈F) (c:d∈F) {u x:Nat} (h:WQ R H g u x) (h':WQ R H d u x):g=d:=by
 obtain⟨f,j,_⟩:=C.O.pv hg h.ug;obtain⟨i,k,_⟩:=C.O.pv c h'.ug;have e:=C9 ((C.Rl.nd u).sublist jf) (C.HT hg h.ug).1 (C.HT c h'.ug).1 (h.at_.trans h'.at_.symm);exact C.O.uniq g hg d c (pv g u) f (e▸i) pw
theorem Ctx.nocross (C:Ctx n R H F) {g:II} (hg:g∈F) {u j k x y:Nat} {c d A B:II} (J:Ka R H u c j) (t:Ka R H u d k)
  (U:(c++[j]).headD 0=x) (Z:(d++[k]).headD 0=y) (TE:∀v∈c,v∉d) (ae:x≠y) (hc:WQ R H g u x)
  (o1:nx (OY R H u x y) x=y) (cy:Cyc g ((u::A)++(j::B))):k∈A\/k=j:=by
 have z:=C.Rl;have hs:=C.sym;have V:=J.lay z hs;obtain⟨f,hf,c1,c2,d1,d2⟩:=C.drawn J;rw[U]at c1;have:=C.YQ hf hg c1 hc;subst this;have er:Jt R H u c j j=cl R H j ((c.reverse++[u]).headD 0):=by
  refine qH fun y _=>?_
  grind [Ka.Kk]
 have D:=V.gY C.O hf cy (by rw[J.Ui,U];exact c1.at_) (by grind [WQ.at_]) d1 d2;have r:∀v w,(H v w\/Ay u c j v w)->H w v\/Ay u c j w v:=fun v w h=>h.imp (hs v w) Ef;have L:∀{v:Nat},(∃w∈R v,H v w)->v∉c/\v∉d:=fun{v} ⟨w,m,h2⟩=>⟨fun q=>J.off v q w m h2,fun q=>t.off v q w m h2⟩;have M:∀p q,Ay u c j p q->¬Ay u d k p q:=fun p q m h2=>by
  have n2:∀{p:Nat},p=u\/p=k\/p∈d->p∉c:=fun{p} h hp=>by grind [Ka.JX,Ka.sN]
  have m1:=(dC m);have m2:=(dC (Ef m))
  grind [dC,Ef,Ka.Fp,V7.ir,Ka.wE]
 have E:Ka R (fun v w=>H v w\/Ay u c j v w) u d k:=by
  refine⟨t.nd,fun i p q m h2=>⟨(t.UQ i p q m h2).1,fun h=>h.elim (t.UQ i p q m h2).2 fun h=>M p q h (.inl ⟨i,m,h2⟩)⟩,fun v hv w hw h=>h.elim (t.off v hv w hw) fun h=>?_,?_,?_⟩
  all_goals grind [dC,Ka.JX,Ka.sN]
 have L2:=E.lay z r;have G:Flat n (Jt R (fun v w=>H v w\/Ay u c j v w) u d k):=C.fl.keep z fun v w h=>h.imp (r v w) Ef;have I:Cr (Om (fun v w=>H v w\/Ay u c j v w) R) u k:=by
  have h0:Cr (Om H R) u k:=by
   obtain⟨w,m,h2⟩:=t.sN;refine C.bp _ _ V.ra fun e=>?_;have:w∈Om H R k:=EM.2 ⟨m,h2⟩
   grind
  grind [Cr.mono,EM]
 obtain⟨K,s,W,e2,e3,_⟩:=L2.EI D G I;have N:Jt R (fun v w=>H v w\/Ay u c j v w) u d k u=OY R H u x y:=by
  rw[E.Ui];refine qH fun w _=>?_
  grind [Ka.Fp]
 rw[N,Z]at e3;have P:(OY R H u x y).Nodup:=(z.nd u).sublist jf;have Q:x∈OY R H u x y:=by grind [OY,Ka.fst]
 have S:pv K u∈OY R H u x y:=by
  have:=D.df (OG z r) s W
  grind [EM,OY,Ka.Fp]
 have T:pv K u=x:=C9 P S Q (e3.trans o1.symm);obtain⟨X,Y,_⟩:=D.pv s W;rw[T]at X Y;have ag:=D.nd _ (N8 (a:=half u A j c));have o:x∈half u A j c/\nx (half u A j c) x=u:=by
  rcases xH c.reverse with e|⟨l,q,e⟩
  .grind [half,vB]
  grind [half,vB]
 have ef:K=half u A j c:=D.uniq K s _ N8 x X o.1 (Y.trans o.2.symm)
 grind [half,Ka.ab,Ka.sN]
end
end Go.Fw
namespace Go.Fw
attribute [local instance] Classical.propDecidable
theorem cr_path {r:Nat->II} {a b:Nat} (h:Cr r a b):∃l:II,l.Nodup/\(∃t,l=a::t)/\(∃s,l=s++[b])/\(∀(i x y:Nat),l[i]?=some x->l[i+1]?=some y->y∈r x)/\∀v∈l,Cr r a v:=by
 induction h with
 |refl=>exact⟨[a],Ma,⟨[],rfl⟩,⟨[],rfl⟩,fun i x y _ h2=>by simp at h2,fun v d=>by rw[Eh.1 d];exact .refl _⟩
 |@step b c hb f g=>
  obtain⟨l,nd,⟨t,j⟩,⟨s,es⟩,ch,cr⟩:=g;by_cases m:c∈l
  .obtain ⟨p, q, e, w⟩ := sC m
   have e':l=(p++[c])++q:=by rw[e];simp
   refine⟨p++[c],?_,?_,⟨p,rfl⟩,fun i x y o h2=>?_,fun v d=>cr v pw⟩
   .grind
   .cases p<;>grind
   .have k2 := (qL0.1 h2).1
    refine ch i x y ?_ ?_
    all_goals grind
  .refine ⟨l ++ [c], ?_, ⟨t ++ [c], by rw [j]; rfl⟩, ⟨l, rfl⟩, fun i x y o h2 => ?_, fun v d => ?_⟩
   .grind
   .by_cases k : i + 1 < l.length
    .grind
    .have u := (qL0.1 h2).1
     rw[kc,QD]at u;have hi:i+1=l.length:=NH;rw[hi,qy (Ny _)]at h2
     grind
   .rcases WA.1 d with h | h
    .exact cr v h
    .rw[Eh.1 h];exact hb.step f
def off (R:Nat->II) (H:Nat->Nat->Prop) (v:Nat):Prop:=∀w∈R v,¬H v w
theorem Q7 {R:Nat->II} {H:Nat->Nat->Prop} {v:Nat} (h:¬off R H v):∃w∈R v,H v w:=
 IE fun q=>h fun w a h2=>q ⟨w,a,h2⟩
noncomputable def Mm (R:Nat->II) (H:Nat->Nat->Prop):Nat->II:=Om (fun v w=>off R H v/\off R H w) R
noncomputable def lo (R:Nat->II) (H:Nat->Nat->Prop) (v:Nat):Nat:=Classical.epsilon fun w=>Cr (Mm R H) v w
noncomputable def QI (R:Nat->II) (H:Nat->Nat->Prop) (v w:Nat):Nat×Nat×Nat:=
 if off R H v then(0,lo R H v,0)else if off R H w then(0,lo R H w,0)else(1,min v w,max v w)
section
variable {n : Nat} {R : Nat → List Nat} {H : Nat → Nat → Prop}
def QM (a:V7 n R):V7 n (Mm R H):=OG a fun _ _ h=>⟨h.2,h.1⟩
def yc (v:Nat):Cr (Mm R H) v (lo R H v):=Classical.epsilon_spec (p:=fun w=>Cr (Mm R H) v w) ⟨v,.refl _⟩
theorem fX (a:V7 n R) {v w:Nat}:lo R H v=lo R H w↔Cr (Mm R H) v w:=by
 constructor
 .intro e
  have b:=yc (R:=R) (H:=H) v;have h2:=yc (R:=R) (H:=H) w;rw[e]at b;exact b.trans (h2.symm (QM a))
 .intro h
  unfold lo;congr 1;funext z;exact propext ⟨fun q=>(h.symm (QM a)).trans q,fun q=>h.trans q⟩
theorem M6 {v w:Nat} (h:off R H v):QI R H v w=(0,lo R H v,0):=if_pos h
theorem Jn {v w:Nat} (h:¬off R H v) (h2:off R H w):QI R H v w=(0,lo R H w,0):=by grind [QI]
theorem rj {v w:Nat} (h:¬off R H v) (h2:¬off R H w):QI R H v w=(1,min v w,max v w):=by grind [QI]
theorem RX (a:V7 n R) {v w:Nat} (hw:w∈R v):QI R H v w=QI R H w v:=by
 by_cases c1:off R H v
 .by_cases c2 : off R H w
  .rw [M6 c1, M6 c2, (fX a).2]
   exact(Cr.refl _).step (EM.2 ⟨hw,c1,c2⟩)
  grind [M6,Jn]
 grind [off,M6,Jn,rj]
theorem ZW (j:V7 n R) (hs:∀v w,H v w->H w v) {u x z y:Nat} (f:¬off R H u) (g:¬off R H z) (m:u≠z) (C:x∈R u) (o:¬H u x) (D:y∈R z) (ny:¬H z y) (c:QI R H u x=QI R H z y):
  ∃inn,Ka R H u inn z/\(inn++[z]).headD 0=x/\(inn.reverse++[u]).headD 0=y/\∀v∈inn,off R H v/\QI R H u x=(0,lo R H v,0):=by
 by_cases c1:off R H x
 .rw [Jn f c1] at c
  have c2:off R H y:=IE fun q=>by grind [rj]
  rw[Jn g c2]at c;have r:Cr (Mm R H) x y:=(fX j).1 pw;obtain⟨l,nd,⟨t,A⟩,⟨s,es⟩,ch,cr⟩:=cr_path r;have a:∀v∈l,off R H v:=fun v b=>by
   cases cr v b with
   |refl=>exact c1
   |step _ hw=>exact(EM.1 hw).2.2
  refine⟨l,⟨?_,fun i p q d h2=>?_,fun v b=>a v b,Q7 f,Q7 g⟩,by rw[A];rfl,by rw[es];simp,fun v b=>⟨a v b,by grind [Jn,fX]⟩⟩
  .grind [nr.eq_1]
  .have h := (qL0.1 h2).1
   rw[Eo]at h;cases i with
   |zero=>
    grind [yT]
   |succ i=>
    have e:nr u l z=u::(l++[z]):=rfl;rw[e,FD]at d h2;rw[fR NH]at d;have B:=a p (Gc d);by_cases k:i+1<l.length
    .rw [fR k] at h2
     have:=EM.1 (ch i p q d h2);exact⟨this.1,B q this.1⟩
    .have hi : i + 1 = l.length := NH
     rw[hi,qy (Ny _)]at h2
     grind [List.length_append,V7.sy]
 .rw [rj f c1] at c
  have c2:¬off R H y:=fun q=>by grind [Jn]
  rw[rj g c2]at c;injection c with _ c;injection c with d h2;have:z=x/\y=u:=NH;obtain⟨rfl,rfl⟩:=this;refine⟨[],⟨by grind [nr],fun i p q d h2=>?_,fun v b=>absurd b ff,Q7 f,Q7 g⟩,rfl,rfl,fun v b=>absurd b ff⟩;have h:=(qL0.1 h2).1
  grind [Eo,yT]
end
end Go.Fw
namespace Go.Fw
attribute [local instance] Classical.propDecidable
theorem filter_none {l:II} {p:Nat->Bool} (h:∀z∈l,¬p z=true):l.filter p=[]:=zm.2 h
def filter_one {x:Nat} {p:Nat->Bool} (h:p x=true) {l:II}:(x::l).filter p=x::l.filter p:=List.filter_cons_of_pos h
theorem sort3 {kd:Nat->Nat}:∀{c:II},(∀x∈c,kd x<=2)->c.Pairwise (fun x y=>kd x<=kd y)->c=(c.filter fun x=>decide (kd x=0))++((c.filter fun x=>decide (kd x=1))++(c.filter fun x=>decide (kd x=2)))
 |[],_,_=>rfl
 |x::c,h,d=>by
  rw[y5]at d;have a:=sort3 (fun y b=>h y (ZT _ b)) d.2;have j:=h x N8;have f:0<kd x->(c.filter fun y=>decide (kd y=0))=[]:=fun q=>filter_none fun y b e=>by grind
  have i:1<kd x->(c.filter fun y=>decide (kd y=1))=[]:=fun q=>filter_none fun y b e=>by grind
  have cs:kd x=0\/kd x=1\/kd x=2:=NH;rcases cs with e|e|e
  .simp only [JR, e, decide_true, if_true, ab4, <- a]
   simp[<-a]
  .rw [f NH] at a
   simp only[JR,e]
   grind
  .rw [f NH, i NH] at a
   simp only[JR,e]
   grind
structure LX (R:Nat->II) (H:Nat->Nat->Prop) (U:Nat->Prop) (g:II) (u:Nat) (kd:Nat->Nat) (x z y:Nat):Prop where
 on:¬off R H z
 ne:u≠z
 zg:z∈g
 yz:y∈R z
 ny:¬H z y
 QI:QI R H u x=QI R H z y
 k0:kd x=0->¬U z/\∀A B,Cyc g ((u::A)++(z::B))->∀v∈B,¬U v
 k1:kd x=1->U z
 k2:kd x=2->¬U z/\∀A B,Cyc g ((u::A)++(z::B))->∀v∈A,¬U v
section
variable {n : Nat} {R : Nat → List Nat} {H : Nat → Nat → Prop} {F : List (List Nat)} {g : List Nat} {u : Nat} {U : Nat → Prop} {kd : Nat → Nat}
theorem Ctx.Ag (C:Ctx n R H F) (b:u∈g) {p q m:II} {x:Nat} (cy:Cyc (R u) ((p++x::q)++(m++[pv g u]))) (j:∀z∈p++x::q,¬H u z) (c:H u (pv g u)):WQ R H g u x:=by
 refine⟨b,?_⟩;have nd:=cy.perm.nodup_iff.1 (C.Rl.nd u);have n1:=(yM.1 nd).1;have d:x∉p:=fun h=>(yM.1 n1).2.2 x h x N8 rfl;have f:x∉q:=(xD.1 (yM.1 n1).2.1).1;have e:Cyc (cl R H u x) (x::((m.filter fun w=>decide (H u w\/w=x))++[pv g u])):=by
  have:=cy.filter fun w=>decide (H u w\/w=x);have k:∀l:II,(∀z∈l,¬H u z)->x∉l->l.filter (fun w=>decide (H u w\/w=x))=[]:=fun l r h2=>filter_none fun z a h=>(of_decide_eq_true h).elim (r z a) fun e=>h2 (e▸a);rw[Db,Db,Db,k p (fun z a=>j z (by simp[a])) d,filter_one (decide_eq_true (.inr rfl)),k q (fun z a=>j z (by simp[a])) f,filter_one (decide_eq_true (.inl c))]at this
  grind [cl]
 have i:(cl R H u x).Nodup:=(C.Rl.nd u).sublist jf;have o:=e.perm.nodup_iff.1 i
 grind [Cyc.perm,List.Perm.mem_iff,Cyc.nx,vB]
theorem Ctx.pairK (C:Ctx n R H F) (hg:g∈F) (a:u∈g) {p q s m:II} {x y:Nat} (cy:Cyc (R u) ((p++x::(q++y::s))++(m++[pv g u]))) (k:∀z∈p++x::(q++y::s),¬H u z)
  {r y1 P y2:Nat} (b:LX R H U g u kd x r y1) (f:LX R H U g u kd y P y2) (hw:∃w∈g,U w/\w≠u) (hk:kd x≠kd y->QI R H u x≠QI R H u y) (b1:kd x<=2):kd x<=kd y:=by
 obtain⟨_,t⟩:=C.HT hg a (x:=x);have D:¬off R H u:=fun h=>h _ (EM.1 (C.O.df (OG C.Rl C.sym) hg a)).1 t;have nd:=cy.perm.nodup_iff.1 (C.Rl.nd u);have n1:=(yM.1 nd).1;have J:=(yM.1 n1).2.1;rw[xD,WA,Z6]at J;have n3:=(yM.1 J.2);have Q:x≠y:=fun e=>J.1 (.inr (.inl e));have S:x∉p:=fun h=>(yM.1 n1).2.2 x h x N8 rfl;have hyp:y∉p:=fun h=>(yM.1 n1).2.2 y h y Ma rfl;have T:x∉q:=fun h=>J.1 (.inl h);have V:y∉q:=fun h=>n3.2.2 y h y Ma rfl;refine Nat.le_of_not_lt fun ag=>?_;have E:=hk NH;have mx:x∈R u:=cy.perm.mem_iff.2 Ma;have my:y∈R u:=cy.perm.mem_iff.2 Ma;obtain⟨i1,W1,e1,_,o1⟩:=ZW C.Rl C.sym D b.on b.ne mx (k x Ma) b.yz b.ny b.QI;obtain⟨i2,W2,e2,_,o2⟩:=ZW C.Rl C.sym D f.on f.ne my (k y Ma) f.yz f.ny f.QI;have TE:∀v∈i1,v∉i2:=fun v W h2=>E ((o1 v W).2.trans (o2 v h2).2.symm);have G:WQ R H g u x:=C.Ag a cy k t;have o:nx (OY R H u x y) x=y:=by
  have e:Cyc (OY R H u x y) (x::y::((s.filter fun w=>decide ((H u w\/w=x)\/w=y))++((m++[pv g u]).filter fun w=>decide ((H u w\/w=x)\/w=y)))):=by
   have:=cy.filter fun w=>decide ((H u w\/w=x)\/w=y);have hN:∀l:II,(∀z∈l,¬H u z)->x∉l->y∉l->l.filter (fun w=>decide ((H u w\/w=x)\/w=y))=[]:=fun l W h2 h3=>filter_none fun z i h=>(of_decide_eq_true h).elim (fun h=>h.elim (W z i) fun e=>h2 (e▸i)) fun e=>h3 (e▸i);rw[Db,Db,hN p (fun z i=>k z (by simp[i])) S hyp,filter_one (decide_eq_true (.inl (.inr rfl))),Db,hN q (fun z i=>k z (by simp[i])) T V,filter_one (decide_eq_true (.inr rfl))]at this
   grind [OY]
  have X:(OY R H u x y).Nodup:=(C.Rl.nd u).sublist jf;rw[e.nx X (e.perm.mem_iff.2 Ma)];exact Nu (p:=[]) Ma
 obtain⟨c,hc⟩:=Cyc.front a;have Y:r∈c:=by
  have:=hc.perm.mem_iff.1 b.zg
  grind [LX.ne]
 obtain⟨A,B,rfl,_⟩:=sC Y;have I:Cyc g ((u::A)++(r::B)):=pw;have nc:=C.nocross hg W1 W2 e1 e2 TE Q G o I;have d:P∈A->∃K L,Cyc g ((u::K)++(P::(L++r::B))):=fun h=>by
  obtain⟨K,L,rfl,_⟩:=sC h
  grind
 have j:(kd x=1/\kd y=0)\/(kd x=2/\kd y=1)\/(kd x=2/\kd y=0):=NH;rcases j with⟨M,N⟩|⟨M,N⟩|⟨M,N⟩
 .have u1 := b.k1 M
  have Z:=f.k0 N;rcases nc with h|h
  .obtain ⟨K, L, c2⟩ := d h
   exact Z.2 _ _ c2 r Ma u1
  grind
 .grind [LX.k2,LX.k1]
 .have u1 := b.k2 M
  have Z:=f.k0 N;obtain⟨w,w1,w2,w3⟩:=hw;have ae:w∈B:=by
   have:=I.perm.mem_iff.1 w1
   grind
  rcases nc with h|h
  .obtain ⟨K, L, c2⟩ := d h
   exact Z.2 _ _ c2 w (by simp[ae]) w2
  grind
theorem Ctx.sorted (C:Ctx n R H F) (hg:g∈F) (d:u∈g) {m:II} (hw:∃w∈g,U w/\w≠u):∀(c p:II),Cyc (R u) ((p++c)++(m++[pv g u]))->(∀z∈p++c,¬H u z)->
  (∀x∈c,∃z y,LX R H U g u kd x z y)->(∀x∈c,∀y∈c,kd x≠kd y->QI R H u x≠QI R H u y)->(∀x∈c,kd x<=2)->c.Pairwise fun x y=>kd x<=kd y
 |[],_,_,_,_,_,_=>List.Pairwise.nil
 |x::c,p,cy,j,f,h,hb=>by
  rw[y5];constructor
  .intro y i
   obtain⟨q,s,rfl,_⟩:=sC i
   grind [Ctx.pairK]
  .refine C.sorted hg d (m:=m) hw c (p++[x]) pw pw (fun z e=>f z (ZT _ e)) (fun a ha b hb=>h a (ZT _ ha) b (ZT _ hb)) fun z e=>hb z (ZT _ e)
end
end Go.Fw
namespace Go.Fw
attribute [local instance] Classical.propDecidable
theorem aL {U:Nat->Prop}:∀{l:II},(∃v∈l,U v)->∃s w t,l=s++w::t/\U w/\∀v∈s,¬U v
 |[],h=>by grind
 |x::l,h=>by
  by_cases c:U x
  .exact⟨[],x,l,rfl,c,fun v a=>absurd a ff⟩
  .obtain ⟨v, a, b⟩ := h
   rcases Z6.1 a with rfl|a
   .grind
   .obtain ⟨s, w, t, rfl, d, h2⟩ := aL ⟨v, a, b⟩
    grind
theorem last_ex {U:Nat->Prop} {l:II} (h:∃v∈l,U v):∃s w t,l=s++w::t/\U w/\∀v∈t,¬U v:=by
 obtain⟨v,a,b⟩:=h;obtain⟨s,w,t,e,c,h2⟩:=aL (l:=l.reverse) ⟨v,Qn.2 a,b⟩
 grind [List.reverse_reverse]
theorem MW {y:Nat}:∀{a b a' c:II},a++y::b=a'++y::c->y∉a->y∉a'->a=a'/\b=c
 |[],b,[],c,h,_,_=>by grind
 |[],b,x::a',c,h,_,h2=>by grind
 |x::a,b,[],c,h,d,_=>by grind
 |x::a,b,x'::a',c,h,d,h2=>by
  simp at h;obtain⟨e,h⟩:=h;obtain⟨k1,k2⟩:=MW h (fun q=>d (ZT _ q)) (fun q=>h2 (ZT _ q))
  grind
theorem IM (p:Nat->Prop):∀m:II,∃c b,m=c++b/\(∀z∈c,¬p z)/\(∀z t,b=z::t->p z)
 |[]=>⟨[],[],rfl,fun z d=>absurd d ff,fun z t h=>by cases h⟩
 |x::m=>by
  by_cases c:p x
  .exact⟨[],x::m,rfl,fun z d=>absurd d ff,fun z t h=>by grind⟩
  .obtain ⟨a, b, rfl, e, h2⟩ := IM p m
   refine⟨x::a,b,rfl,fun z d=>?_,h2⟩
   grind
theorem cyc_end {l s t:II} {x:Nat} (nd:l.Nodup) (c:Cyc l (s++[x])) (h2:Cyc l (t++[x])):s=t:=by
 obtain⟨u,v,d,e⟩:=c.symm.trans h2;have n1:=c.perm.nodup_iff.1 nd;rcases xH u with rfl|⟨u',a,rfl⟩
 .grind [List.append_inj_left']
 .rcases xH v with rfl | ⟨v', b, rfl⟩
  .simp_all
  .exfalso
   rw[qL225,qL225,<-Cg]at d e;have ha:=qL220 d rfl;have hb:=qL220 e rfl
   grind
theorem decomp {l A B:II} {x y:Nat} {p:Nat->Prop} (nd:l.Nodup) (h:Cyc (l.filter fun z=>decide (p z)) ((A++[x])++(B++[y]))):
  ∃c1 a c2 a1,Cyc l ((c1++(a++[y]))++(c2++(a1++[x])))/\(∀z∈c1,¬p z)/\(∀z∈c2,¬p z)/\(a.filter fun z=>decide (p z))=B/\(a1.filter fun z=>decide (p z))=A/\(∀z t,a=z::t->p z)/\(∀z t,a1=z::t->p z)/\p x/\p y:=by
 have d:x∈l.filter fun z=>decide (p z):=h.perm.mem_iff.2 Ma;have u:y∈l.filter fun z=>decide (p z):=h.perm.mem_iff.2 Ma;rw[iy]at d u;have v:=of_decide_eq_true d.2;have w:=of_decide_eq_true u.2;have b:(l.filter fun z=>decide (p z)).Nodup:=nd.sublist jf;have i:=h.perm.nodup_iff.1 b;have E:x≠y:=fun e=>(yM.1 i).2.2 x Ma y Ma e;obtain⟨m,G⟩:=Cyc.front d.1;have j:Cyc l (m++[x]):=Cyc.shift (x:=[x]) G;have hf:=j.filter fun z=>decide (p z);rw[Db,filter_one (decide_eq_true v)]at hf;have h2:Cyc (l.filter fun z=>decide (p z)) ((B++y::A)++[x]):=by grind [Cyc.shift]
 have e:=cyc_end b hf h2;have o:y∈m:=by grind [Cyc.perm,List.Perm.mem_iff]
 obtain⟨m1,m2,rfl,H⟩:=sC o;rw[Db,filter_one (decide_eq_true w)]at e;have s:y∉B:=fun q=>by grind
 obtain⟨I,J⟩:=MW e (fun q=>H (iy.1 q).1) s;obtain⟨c1,a,rfl,C,K⟩:=IM p m1;obtain⟨c2,a1,rfl,D,L⟩:=IM p m2;have k:∀{c:II},(∀z∈c,¬p z)->c.filter (fun z=>decide (p z))=[]:=fun{c} h=>filter_none fun z M q=>h z M (of_decide_eq_true q);rw[Db,k C]at I;rw[Db,k D]at J;exact⟨c1,a,c2,a1,pw,C,D,pw,pw,K,L,v,w⟩
section
variable {n : Nat} {r : Nat → List Nat} {F : List (List Nat)} {f g : List Nat} {A B : Nat → List Nat} {le : Nat → Nat → Nat}
theorem yx.walk (T:yx n r F f g) (L:Lab r f g A B le) {h:II} (hh:h∈F) {l w:Nat} {t:II}:∀(s X:II) (z:Nat),Cyc h (X++z::(s++w::t))->(∀v∈s,v∉Ul f g)->le z (nx h z)=l->le w (pv h w)=l
 |[],X,z,cy,_,e=>by
  have nd:=T.O.nd h hh;have a:=cy.perm.nodup_iff.1 nd;have b:z∈h:=cy.perm.mem_iff.2 Ma;have c:nx h z=w:=by grind [Cyc.nx,Nu]
  have d:pv h w=z:=by grind [c7]
  rw[d,L.sym w z,<-c]
  .exact e
  .have := T.R.sy _ _ (T.O.bz h hh z b)
   grind
 |v::s,X,z,cy,hs,e=>by
  have nd:=T.O.nd h hh;have a:=cy.perm.nodup_iff.1 nd;have b:z∈h:=cy.perm.mem_iff.2 Ma;have i:v∈h:=cy.perm.mem_iff.2 Ma;have c:nx h z=v:=by grind [Cyc.nx,Nu]
  have hd:=T.O.bz h hh z b;rw[c]at hd e;refine T.walk L hh s (X++[z]) v (by simpa using cy) (fun u j=>hs u (ZT _ j)) ?_;rw[L.same v (hs v N8) (nx h v) z (T.O.bz h hh v i) (T.R.sy _ _ hd),<-L.sym z v hd];exact e
structure WH (f g:II) (le:Nat->Nat->Nat) (h:II) (al be:Nat->Nat):Prop where
 outL:∀w∈Ul f g,le w (nx h w)=al w
 inL:∀w∈Ul f g,le w (pv h w)=be w
 ia:∀v∈Ul f g,∀w∈Ul f g,al v=al w->v=w
 ib:∀v∈Ul f g,∀w∈Ul f g,be v=be w->v=w
theorem yx.TH (T:yx n r F f g):∀v∈Ul f g,∀w∈Ul f g,pv (Ul f g) v=pv (Ul f g) w->v=w:=fun v a w hw e=>by grind [G5,yx.ndU]
theorem yx.faceLg (T:yx n r F f g) (C:Wa r f g A B) (L:Lab r f g A B le):WH f g le g (fun w=>pv (Ul f g) w) fun w=>w:=by
 refine⟨fun w hw=>L.inn w hw _ ?_,fun w hw=>L.out w hw _ Ma,T.TH,fun v _ w _ e=>e⟩
 grind [Wa.hB,BX]
theorem yx.faceLf (T:yx n r F f g) (C:Wa r f g A B) (L:Lab r f g A B le):WH f g le f (fun w=>w) fun w=>pv (Ul f g) w:=by
 refine⟨fun w hw=>L.out w hw _ ?_,fun w hw=>L.inn w hw _ Ma,fun v _ w _ e=>e,T.TH⟩
 grind [Wa.hA,BX]
theorem yx.aft (T:yx n r F f g) (L:Lab r f g A B le) {h:II} (hh:h∈F) {i be:Nat->Nat} (D:WH f g le h i be) {u z:Nat} (j:u∈Ul f g) (k:le z (nx h z)=be u):∀a b,Cyc h ((u::a)++(z::b))->∀v∈b,v∉Ul f g:=fun a b cy v l c=>by
 obtain⟨s,w,t,rfl,d,h2⟩:=aL (U:=fun v=>v∈Ul f g) ⟨v,l,c⟩;have e:=T.walk L hh s (u::a) z cy h2 k;rw[D.inL w d]at e;have:=D.ib w d u j e;subst this;have nd:=cy.perm.nodup_iff.1 (T.O.nd h hh)
 grind
theorem yx.bef (T:yx n r F f g) (L:Lab r f g A B le) {h:II} (hh:h∈F) {b be:Nat->Nat} (D:WH f g le h b be) {u z:Nat} (m:u∈Ul f g) (c:z∉Ul f g) (o:le z (nx h z)=b u):∀d j,Cyc h ((u::d)++(z::j))->∀v∈d,v∉Ul f g:=fun d j cy v p i=>by
 obtain⟨s,w,t,rfl,k,h2⟩:=last_ex (U:=fun v=>v∈Ul f g) ⟨v,p,i⟩;have a:z∈h:=cy.perm.mem_iff.2 Ma;have e:=T.walk L hh (l:=b w) t (u::s) w (by simpa using cy) h2 (D.outL w k);have q:=T.O.df T.R hh a;rw[L.same z c _ (nx h z) q (T.O.bz h hh z a),o]at e;have:=D.ia u m w k e;subst this;have nd:=cy.perm.nodup_iff.1 (T.O.nd h hh)
 grind
end
end Go.Fw
namespace Go.Fw
attribute [local instance] Classical.propDecidable
structure QP (R:Nat->II) (H:Nat->Nat->Prop) (u x:Nat):Prop where
 on:¬off R H u
 mem:x∈R u
 nh:¬H u x
def Fits (R:Nat->II) (H:Nat->Nat->Prop) (k:Nat×Nat×Nat) (h:II):Prop:=∀u x,QP R H u x->QI R H u x=k->u∈h
structure Pg (n:Nat) (R:Nat->II) (H:Nat->Nat->Prop) (F:Cs):Prop where
 C:Ctx n R H F
 two:∀u x,QP R H u x->∃z y,QP R H z y/\u≠z/\QI R H u x=QI R H z y
 one:∀v w,w∈R v->¬H v w->∃u x,QP R H u x/\QI R H v w=QI R H u x
def SK (R:Nat->II) (H:Nat->Nat->Prop) (f g:II) (k:Nat×Nat×Nat):Prop:=
 Fits R H k f/\Fits R H k g/\∃u x,QP R H u x/\QI R H u x=k/\(WQ R H f u x\/WQ R H g u x)
noncomputable def Sz (R:Nat->II) (H:Nat->Nat->Prop) (le:Nat->Nat->Nat) (hm:Nat×Nat×Nat->II) (v w:Nat):Nat:=
 if H v w then le v w else le ((hm (QI R H v w)).headD 0) (nx (hm (QI R H v w)) ((hm (QI R H v w)).headD 0))
structure Mv (n:Nat) (R:Nat->II) (H:Nat->Nat->Prop) (F:Cs) (f g:II) (A B:Nat->II) (le:Nat->Nat->Nat) (hm:Nat×Nat×Nat->II):Prop where
 P:Pg n R H F
 T:yx n (Om H R) F f g
 C:Wa (Om H R) f g A B
 L:Lab (Om H R) f g A B le
 h2:∀u∈Ul f g,nx (Ul f g) u≠u
 home:∀u x,QP R H u x->¬SK R H f g (QI R H u x)->hm (QI R H u x)∈F/\hm (QI R H u x)≠f/\hm (QI R H u x)≠g/\Fits R H (QI R H u x) (hm (QI R H u x))/\∀h'∈F,WQ R H h' u x->h'≠f->h'≠g->h'=hm (QI R H u x)
section
variable {n : Nat} {R : Nat → List Nat} {H : Nat → Nat → Prop} {F : List (List Nat)}
theorem Pg.EI (P:Pg n R H F) {u x:Nat} (d:QP R H u x):∃h∈F,∀z y,QP R H z y->QI R H z y=QI R H u x->WQ R H h z y:=by
 have C:=P.C;have two:∀{u x z y:Nat},QP R H u x->QP R H z y->u≠z->QI R H u x=QI R H z y->∃h∈F,WQ R H h u x/\WQ R H h z y:=fun{u x z y} b h2 a c=>by
  obtain⟨inn,W,e,i,_⟩:=ZW C.Rl C.sym b.on h2.on a b.mem b.nh h2.mem h2.nh c
  grind [Ctx.drawn]
 obtain⟨z,y,j,a,c⟩:=P.two u x d
 grind [Ctx.YQ]
def Ctx.BB (C:Ctx n R H F) {h:II} (hh:h∈F) {u:Nat} (a:u∈h):¬off R H u:=fun q=>by
 obtain⟨b,h2⟩:=EM.1 (C.O.df (OG C.Rl C.sym) hh a);exact q _ b h2
theorem Ctx.pre_cor (C:Ctx n R H F) {h:II} (hh:h∈F) {u z e:Nat} {q s m c:II} (i:WQ R H h u z) (cy:Cyc (R u) ((q++z::s)++m)) (r:¬H u z) (t:(q.filter fun w=>decide (H u w))=c++[e]):pv h u=e:=by
 have nd:=cy.perm.nodup_iff.1 (C.Rl.nd u);have n1:=(yM.1 nd).1;have l:z∉q:=fun k=>(yM.1 n1).2.2 z k z N8 rfl;have d:=cy.filter fun w=>decide (H u w\/w=z);have o:q.filter (fun w=>decide (H u w\/w=z))=c++[e]:=by grind [List.filter_congr]
 rw[Db,Db,o,filter_one (decide_eq_true (.inr rfl))]at d;have b:(cl R H u z).Nodup:=(C.Rl.nd u).sublist jf;have a:Cyc (cl R H u z) (c++e::z::((s.filter fun w=>decide (H u w\/w=z))++(m.filter fun w=>decide (H u w\/w=z)))):=by grind [cl]
 have j:e∈cl R H u z:=a.perm.mem_iff.2 Ma;have p:nx (cl R H u z) e=z:=by
  rw[a.nx b j];exact Nu fun k=>(yM.1 (a.perm.nodup_iff.1 b)).2.2 e k e Ma rfl
 exact C9 b (C.HT hh i.ug).1 j (i.at_.trans p.symm)
variable {f g : List Nat} {A B : Nat → List Nat} {le : Nat → Nat → Nat} {hm : Nat × Nat × Nat → List Nat}
def Mv.S_cor (M:Mv n R H F f g A B le hm) {u x:Nat} (c:QP R H u x) (d:SK R H f g (QI R H u x)):WQ R H f u x\/WQ R H g u x:=by
 obtain⟨_,_,z,y,e,i,b⟩:=d;obtain⟨h,hh,a⟩:=M.P.EI c;have k1:=a z y e i;have k2:=a u x c rfl;rcases b with b|b
 .exact .inl (M.P.C.YQ M.T.hf hh b k1▸k2)
 .exact .inr (M.P.C.YQ M.T.hg hh b k1▸k2)
def Mv.U6 (M:Mv n R H F f g A B le hm) {u x:Nat} (a:QP R H u x) (c:¬SK R H f g (QI R H u x)) {z:Nat} (d:z∈hm (QI R H u x)):Sz R H le hm u x=le z (nx (hm (QI R H u x)) z):=by
 obtain⟨b,h2,h3,_⟩:=M.home u x a c;unfold Sz;rw[if_neg a.nh];exact M.L.Jv M.T M.C b h2 h3 (Lt (M.T.O.ne _ b)) d
def Mv.tl_at (M:Mv n R H F f g A B le hm) {u x:Nat} (c:QP R H u x) (d:¬SK R H f g (QI R H u x)) {z y:Nat} (e:QP R H z y) (h:QI R H u x=QI R H z y) (b:z∉Ul f g) {w:Nat} (hw:w∈Om H R z):Sz R H le hm u x=le z w:=by
 obtain⟨i,h2,h3,j,_⟩:=M.home u x c d;have a:=j z y e h.symm;rw[M.U6 c d a];exact M.L.same z b _ _ (M.T.O.bz _ i z a) hw
def Mv.tl_or (M:Mv n R H F f g A B le hm) {u x:Nat} (b:QP R H u x) (e:¬SK R H f g (QI R H u x)) (d:u∈Ul f g):Sz R H le hm u x=u\/Sz R H le hm u x=pv (Ul f g) u:=by
 obtain⟨i,h2,h3,j,_⟩:=M.home u x b e;have a:=j u x b rfl;rw[M.U6 b e a];have hd:=M.T.O.bz _ i u a;rcases WA.1 ((M.C.c u d).perm.mem_iff.1 hd)with h|h
 .exact .inl (M.L.out u d _ h)
 .exact .inr (M.L.inn u d _ h)
noncomputable def xZ (R:Nat->II) (H:Nat->Nat->Prop) (f g:II) (le:Nat->Nat->Nat) (hm:Nat×Nat×Nat->II) (be:Nat->Nat) (u x:Nat):Nat:=
 if SK R H f g (QI R H u x)then 1 else if Sz R H le hm u x=be u then 0 else 2
theorem Mv.zI (M:Mv n R H F f g A B le hm) {h o:II} (I:(h=f/\o=g)\/(h=g/\o=f)) {X be:Nat->Nat} (D:WH f g le h X be) {u:Nat} (t:u∈Ul f g) (S:∀v,v=u\/v=pv (Ul f g) u->v=X u\/v=be u)
  {c m:II} (cy:Cyc (R u) (c++(m++[pv h u]))) (Y:∀z∈c,¬H u z):
  c=(c.filter fun x=>decide (xZ R H f g le hm be u x=0))++((c.filter fun x=>decide (xZ R H f g le hm be u x=1))++(c.filter fun x=>decide (xZ R H f g le hm be u x=2))):=by
 have Cx:=M.P.C;have hh:h∈F:=I.elim (fun q=>q.1▸M.T.hf) fun q=>q.1▸M.T.hg;have i:∀v,v∈Ul f g↔v∈h/\v∈o:=fun v=>by grind [zq]
 have s:=((i u).1 t).1;have hb:∀x∈c,xZ R H f g le hm be u x<=2:=fun x _=>by grind [xZ]
 refine sort3 hb (Cx.sorted (U:=fun v=>v∈Ul f g) hh s (m:=m) ⟨nx (Ul f g) u,((i _).1 (ZP t)).1,ZP t,M.h2 u t⟩ c [] pw pw (fun x Q=>?_) (fun x Q y hy j d=>j ?_) hb)
 .have E : QP R H u x := ⟨Cx.BB hh s, cy.perm.mem_iff.2 (by simp [Q]), Y x Q⟩
  have l:WQ R H h u x:=by
   obtain⟨p,q,rfl,_⟩:=sC Q;exact Cx.Ag s cy Y (Cx.HT hh s (x:=x)).2
  by_cases G:SK R H f g (QI R H u x)
  .obtain ⟨z, y, a, j, d⟩ := M.P.two u x E
   have b:z∈Ul f g:=zq.2 ⟨G.1 z y a d.symm,G.2.1 z y a d.symm⟩;have k:xZ R H f g le hm be u x=1:=by grind [xZ]
   exact⟨z,y,a.on,j,((i z).1 b).1,a.mem,a.nh,d,(fun e=>by grind),(fun _=>b),fun e=>by grind⟩
  .obtain ⟨h', V, w⟩ := M.P.EI E
   have e':=Cx.YQ V hh (w u x E rfl) l;subst e';have r:Fits R H (QI R H u x) h':=fun z y a d=>(w z y a d).ug;have W:¬Fits R H (QI R H u x) o:=fun q=>by
    rcases I with⟨e,e'⟩|⟨e,e'⟩
    .subst e e';exact G ⟨r,q,u,x,E,rfl,.inl l⟩
    .subst e e';exact G ⟨q,r,u,x,E,rfl,.inr l⟩
   have:∃z y,QP R H z y/\QI R H z y=QI R H u x/\z∉o:=IE fun q=>W fun z y a d=>IE fun Z=>q ⟨z,y,a,d,Z⟩;obtain⟨z,y,a,d,J⟩:=this;have K:=r z y a d;have b:z∉Ul f g:=fun q=>J ((i z).1 q).2;have j:u≠z:=fun e=>J (e▸((i u).1 t).2);have N:Sz R H le hm u x=le z (nx h' z):=M.tl_at E G a d.symm b (M.T.O.bz h' hh z K);refine⟨z,y,a.on,j,K,a.mem,a.nh,d.symm,fun e=>⟨b,?_⟩,(fun e=>?_),fun e=>⟨b,?_⟩⟩
   .have : Sz R H le hm u x = be u := by grind [xZ]
    exact M.T.aft M.L hh D t (N.symm.trans this)
   .grind [xZ]
   .have : Sz R H le hm u x ≠ be u := fun q => by grind [xZ]
    have:=(S _ (M.tl_or E G t)).resolve_right this;exact M.T.bef M.L hh D t b (N.symm.trans this)
 grind [xZ,Sz]
theorem Mv.amid (M:Mv n R H F f g A B le hm) {u:Nat} (J:u∈Ul f g) {c b b0 m:II} {ℓ:Nat} (cy:Cyc (R u) ((c++b)++m)) (W:∀z∈c,¬H u z) (hb:∀z t,b=z::t->H u z) (K:(b.filter fun w=>decide (H u w))=b0)
  (N:∀e∈b0,le u e=ℓ) (y:pv f u∉b0) (D:pv g u∉b0):∀z∈b,(z∈R u/\¬(¬H u z/\SK R H f g (QI R H u z)))/\Sz R H le hm u z=ℓ:=fun z E=>by
 have Cx:=M.P.C;have i:z∈R u:=cy.perm.mem_iff.2 (by simp[E]);by_cases Q:H u z
 .grind [Sz]
 .obtain ⟨q, s, rfl, _⟩ := sC E
  have j:QP R H u z:=⟨Cx.BB M.T.hf (zq.1 J).1,i,Q⟩;have l:(q.filter fun w=>decide (H u w))≠[]:=fun e=>by
   cases q<;>grind
  obtain⟨X,e,eq⟩:=CN l;have r:e∈b0:=pw;have pre:∀{h:II},h∈F->WQ R H h u z->pv h u=e:=fun{h} hh a=>by grind [Ctx.pre_cor]
  have o:¬SK R H f g (QI R H u z):=fun o=>by
   rcases M.S_cor j o with k|k
   .exact y (pre M.T.hf k▸r)
   .exact D (pre M.T.hg k▸r)
  refine⟨⟨i,fun q=>o q.2⟩,?_⟩;obtain⟨h',d,p⟩:=M.P.EI j;have a:=p u z j rfl;have S:=pre d a;have v:h'≠f:=fun k=>y pw;have x:h'≠g:=fun k=>D pw;obtain⟨_,_,_,_,U⟩:=M.home u z j o;have V:=U h' d a v x;obtain⟨G,I,_⟩:=M.T.O.pv d a.ug;rw[M.U6 j o (z:=e) pw,<-V];rw[S]at G I;rw[I,M.L.sym e u (by have:=M.T.O.bz h' d e G;grind)];exact N e r
end
end Go.Fw
namespace Go.Fw
attribute [local instance] Classical.propDecidable
section
variable {n : Nat} {R : Nat → List Nat} {H : Nat → Nat → Prop} {F : List (List Nat)} {f g : List Nat} {A B : Nat → List Nat} {le : Nat → Nat → Nat} {hm : Nat × Nat × Nat → List Nat}
def fB (R:Nat->II) (H:Nat->Nat->Prop) (f g:II) (v w:Nat):Prop:=w∈R v/\¬H v w/\SK R H f g (QI R H v w)
structure AtU (R:Nat->II) (H:Nat->Nat->Prop) (f g:II) (A B:Nat->II) (le:Nat->Nat->Nat) (hm:Nat×Nat×Nat->II) (u:Nat) (XL Q YL P:II):Prop where
 eH:Cyc (R u) (XL++(Q++(YL++P)))
 xl:∀w∈XL,¬fB R H f g u w/\Sz R H le hm u w=u
 yl:∀w∈YL,¬fB R H f g u w/\Sz R H le hm u w=pv (Ul f g) u
 q:∀w∈Q,fB R H f g u w
 p:∀w∈P,fB R H f g u w
 xh:(XL.filter fun w=>decide (H u w))=A u++[pv g u]
 yh:(YL.filter fun w=>decide (H u w))=B u++[pv f u]
 pf:∀w∈P,WQ R H f u w
def mz {u:Nat} {l:II} (h:∀z∈l,¬H u z):l.filter (fun w=>decide (H u w))=[]:=filter_none fun z a k=>h z a (of_decide_eq_true k)
theorem Mv.atU (M:Mv n R H F f g A B le hm) {u:Nat} (a:u∈Ul f g):∃XL Q YL P,AtU R H f g A B le hm u XL Q YL P:=by
 have Cx:=M.P.C;have nd:=Cx.Rl.nd u;have k:=M.C.c u a;have j:=k.perm.nodup_iff.1 (M.T.R.nd u);obtain⟨c1,i,c2,a1,cy,n1,G,fb,fa,hb,ha,S,I⟩:=decomp nd k;have al:Cyc (R u) ((c2++(a1++[pv g u]))++(c1++(i++[pv f u]))):=cy.shift;have s1:=M.zI (h:=g) (o:=f) (.inr ⟨rfl,rfl⟩) (M.T.faceLg M.C M.L) a (fun v h=>h.symm) (c:=c1) (m:=(i++[pv f u])++(c2++a1)) pw n1;have s2:=M.zI (h:=f) (o:=g) (.inl ⟨rfl,rfl⟩) (M.T.faceLf M.C M.L) a (fun v h=>h) (c:=c2) (m:=(a1++[pv g u])++(c1++i)) pw G;have s:=(zq.1 a);have t:=Cx.BB M.T.hf s.1;have aq:∀x∈c1,QP R H u x:=fun x d=>⟨t,cy.perm.mem_iff.2 (by simp[d]),n1 x d⟩;have ar:∀x∈c2,QP R H u x:=fun x d=>⟨t,cy.perm.mem_iff.2 (by simp[d]),G x d⟩;have y:∀{be:Nat->Nat} {x},QP R H u x->xZ R H f g le hm be u x=1->fB R H f g u x:=fun{be x} D e=>by
  refine⟨D.mem,D.nh,IE fun q=>?_⟩;unfold xZ at e;rw[if_neg q]at e;split at e<;>omega
 have av:∀{be:Nat->Nat} {x},QP R H u x->xZ R H f g le hm be u x=0->¬fB R H f g u x/\Sz R H le hm u x=be u:=fun{be x} D e=>by
  have J:¬SK R H f g (QI R H u x):=fun q=>by grind [xZ]
  refine⟨fun q=>J q.2.2,IE fun q=>?_⟩
  grind [xZ]
 have ay:∀{be:Nat->Nat} {x},QP R H u x->xZ R H f g le hm be u x=2->¬fB R H f g u x/\Sz R H le hm u x≠be u/\(Sz R H le hm u x=u\/Sz R H le hm u x=pv (Ul f g) u):=fun{be x} D e=>by
  have J:¬SK R H f g (QI R H u x):=fun q=>by grind [xZ]
  refine⟨fun q=>J q.2.2,fun q=>?_,M.tl_or D J a⟩
  grind [xZ]
 have U:=M.amid a (c:=c1) (b:=i++[pv f u]) (b0:=B u++[pv f u]) (m:=c2++(a1++[pv g u])) (ℓ:=pv (Ul f g) u);have V:pv f u∉B u:=fun q=>(yM.1 (yM.1 j).2.1).2.2 _ q _ Ma rfl;have W:pv g u∉B u:=fun q=>(yM.1 j).2.2 (pv g u) Ma (pv g u) (by simp[q]) rfl;have X:pv g u∉A u:=fun q=>(yM.1 (yM.1 j).1).2.2 _ q _ Ma rfl;have Y:pv f u∉A u:=fun q=>(yM.1 j).2.2 (pv f u) (by simp[q]) (pv f u) Ma rfl;have mb:=M.amid a (c:=c1) (b:=i) (b0:=B u) (m:=[pv f u]++(c2++(a1++[pv g u]))) (ℓ:=pv (Ul f g) u) pw n1 hb fb (fun e Z=>M.L.inn u a e (by simp[Z])) V W;have ma:=M.amid a (c:=c2) (b:=a1) (b0:=A u) (m:=[pv g u]++(c1++(i++[pv f u]))) (ℓ:=u) pw G ha fa (fun e Z=>M.L.out u a e (by simp[Z])) Y X;have az:¬fB R H f g u (pv f u)/\Sz R H le hm u (pv f u)=pv (Ul f g) u:=⟨fun q=>q.2.1 I,by unfold Sz;rw[if_pos I];exact M.L.inn u a _ Ma⟩;have aD:¬fB R H f g u (pv g u)/\Sz R H le hm u (pv g u)=u:=⟨fun q=>q.2.1 S,by unfold Sz;rw[if_pos S];exact M.L.out u a _ Ma⟩;have toSE:∀{z},¬(¬H u z/\SK R H f g (QI R H u z))->¬fB R H f g u z:=fun h q=>h q.2;have E:∀w∈c2,WQ R H f u w:=fun w hw=>by
  obtain⟨p,q,rfl,_⟩:=sC hw;exact Cx.Ag s.1 (m:=(a1++[pv g u])++(c1++i)) pw G I
 clear U;generalize aF:c1.filter (fun x=>decide (xZ R H f g le hm (fun w=>w) u x=0))=k0 at s1;generalize aH:c1.filter (fun x=>decide (xZ R H f g le hm (fun w=>w) u x=1))=k1 at s1;generalize aJ:c1.filter (fun x=>decide (xZ R H f g le hm (fun w=>w) u x=2))=k2 at s1;generalize aK:c2.filter (fun x=>decide (xZ R H f g le hm (fun w=>pv (Ul f g) w) u x=0))=K at s2;generalize aP:c2.filter (fun x=>decide (xZ R H f g le hm (fun w=>pv (Ul f g) w) u x=1))=N at s2;generalize aT:c2.filter (fun x=>decide (xZ R H f g le hm (fun w=>pv (Ul f g) w) u x=2))=O at s2;have ae:∀x∈k0,QP R H u x/\xZ R H f g le hm (fun w=>w) u x=0:=fun x d=>by grind
 have DQ:∀x∈k1,QP R H u x/\xZ R H f g le hm (fun w=>w) u x=1:=fun x d=>by grind
 have mk2:∀x∈k2,QP R H u x/\xZ R H f g le hm (fun w=>w) u x=2:=fun x d=>by grind
 have ag:∀x∈K,QP R H u x/\xZ R H f g le hm (fun w=>pv (Ul f g) w) u x=0:=fun x d=>by grind
 have l:∀x∈N,x∈c2/\QP R H u x/\xZ R H f g le hm (fun w=>pv (Ul f g) w) u x=1:=fun x d=>by grind
 have aj:∀x∈O,QP R H u x/\xZ R H f g le hm (fun w=>pv (Ul f g) w) u x=2:=fun x d=>by grind
 refine⟨O++((a1++[pv g u])++k0),k1,k2++((i++[pv f u])++K),N,?_,fun w hw=>?_,fun w hw=>?_,fun w hw=>y (DQ w hw).1 (DQ w hw).2,fun w hw=>y (l w hw).2.1 (l w hw).2.2,?_,?_,fun w hw=>E w (l w hw).1⟩
 .rw [s1, s2] at cy
  have e:((k0++(k1++k2))++(i++[pv f u]))++((K++(N++O))++(a1++[pv g u]))=((k0++(k1++k2))++(i++[pv f u])++K++N)++(O++(a1++[pv g u])):=by simp
  grind [Cyc.shift]
 .rcases WA.1 hw with h | h
  .grind
  rcases WA.1 h with h|h
  .rcases WA.1 h with h | h
   all_goals grind
  grind
 .rcases WA.1 hw with h | h
  .grind
  rcases WA.1 h with h|h
  .rcases WA.1 h with h | h
   all_goals grind
  grind
 .rw [Db, Db, Db, mz fun z r => (aj z r).1.nh, mz fun z r => (ae z r).1.nh, fa, filter_one (decide_eq_true S)]
  simp
 .rw [Db, Db, Db, mz fun z r => (mk2 z r).1.nh, mz fun z r => (ag z r).1.nh, fb, filter_one (decide_eq_true I)]
  simp
end
end Go.Fw
