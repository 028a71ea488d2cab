/- A text. -/
import Derived.Test.YtkccdnmaaelbiaaGreatFwKB2
set_option linter.all false
set_option maxRecDepth 99999
set_option maxHeartbeats 9999999
namespace Go.Fw
section
attribute [local instance] Classical.propDecidable
open Go.Proofs
variable {a b n t v:Nat} {es:List Pr}
def Tw2 (A:Nat->Nat->Prop):Prop:=∀c u v,(∃w,A u w)->(∃w,A v w)->u≠c->v≠c->Rc A c u v
theorem Tw2.upon {A B:Nat->Nat->Prop} (T:Tw2 A) (sy:∀x y,A x y->A y x) (ab:A a b) (ne:a≠b) (iso:∀w,¬A v w) (m:∃w,A t w) (t1:t≠a) (j:t≠b) (hB:∀x y,B x y↔upA A a b v x y):Tw2 B:=by
 have nv:∀{x y},A x y->x≠v/\y≠v:=fun{x y} h=>⟨fun e=>iso y (e▸h),fun e=>iso x (e▸sy _ _ h)⟩;have nva:=(nv ab).1;have nvb:=(nv ab).2;have f:∀x y,B x y->B y x:=fun x y h=>by rw[hB]at*;unfold upA at*;grind
 have k:∀c,c≠v->a≠c->b≠c->Rc B c a b:=fun c d h2 h3=>
  (Rc.one (v:=v) ((hB _ _).2 (.inr (.inr ⟨rfl,.inl rfl⟩))) h2 (Hs d)).trans (Rc.one ((hB _ _).2 (.inr (.inl ⟨rfl,.inr rfl⟩))) (Hs d) h3)
 have other:Rc B v a b:=by
  have d:Rc B v a t:=by
   have:=T b a t ⟨_,ab⟩ m ne j;clear m t1 j
   induction this with
   |refl=>exact .refl
   |step _ q g i n=>exact n.trans ((Rc.one ((hB _ _).2 (.inl ⟨q,fun e=>i e.2,fun e=>g e.1⟩)) (nv q).1 (nv q).2))
  have h2:Rc B v b t:=by
   have:=T a b t ⟨_,sy _ _ ab⟩ m (Hs ne) t1;clear m t1 j d
   induction this with
   |refl=>exact .refl
   |step _ q g i n=>exact n.trans ((Rc.one ((hB _ _).2 (.inl ⟨q,fun e=>g e.1,fun e=>i e.2⟩)) (nv q).1 (nv q).2))
  exact d.trans (h2.symm f)
 have l:∀c,a≠c->b≠c->Rc B c a b:=fun c d h2=>by
  by_cases h:c=v
  .subst h;exact other
  .exact k c h d h2
 have qi:∀c u w,(∃x,A u x)->(∃x,A w x)->u≠c->w≠c->Rc B c u w:=fun c u w d h2 h3 o=>by
  refine(T c u w d h2 h3 o).sub fun x y q g i=>?_;by_cases p:x=a/\y=b
  .obtain⟨rfl,rfl⟩:=p;exact l c g i
  by_cases r:x=b/\y=a
  .obtain⟨rfl,rfl⟩:=r;exact(l c i g).symm f
  .exact Rc.one ((hB _ _).2 (.inl ⟨q,p,r⟩)) g i
 have new:∀c u,(∃w,B u w)->u≠c->∃t,(∃w,A t w)/\t≠c/\Rc B c u t:=fun c u ⟨w,hw⟩ h3=>by
  by_cases e:u=v
  .subst e
   by_cases e:a=c
   .exact⟨b,⟨_,sy _ _ ab⟩,fun q=>ne (e.trans q.symm),Rc.one ((hB _ _).2 (.inr (.inl ⟨rfl,.inr rfl⟩))) h3 fun q=>ne (e.trans q.symm)⟩
   .exact⟨a,⟨_,ab⟩,e,Rc.one ((hB _ _).2 (.inr (.inl ⟨rfl,.inl rfl⟩))) h3 e⟩
  .refine ⟨u, ?_, h3, .refl⟩
   rcases(hB _ _).1 hw with⟨q,-⟩|⟨q,-⟩|⟨-,rfl|rfl⟩
   .exact⟨_,q⟩
   .exact absurd q e
   .exact⟨_,ab⟩
   .exact⟨_,sy _ _ ab⟩
 intro c u w d h2 h3 o;obtain⟨t,t1,j,z⟩:=new c u d h3;obtain⟨s,s1,s2,C⟩:=new c w h2 o;exact(z.trans (qi c t s t1 s1 j s2)).trans (C.symm f)
def Tw2.oneB (T:Tw2 (Jp es)) (m:bX ⟨(n:Int),es⟩) (j:es≠[]):acG n es:=by
 have hR:=m.GD;have b:∀{v a c},Jp es v a->Jp es v c->cQ n es (GW v a)=cQ n es (GW v c):=fun{v a c} ha f=>by
  refine(dR hR ha f).2 ?_;have o:a≠v:=fun e=>by subst e;exact Xa hR ha
  have r:c≠v:=fun e=>by subst e;exact Xa hR f
  have:=T v a c ⟨_,ha.symm⟩ ⟨_,f.symm⟩ o r;clear f r
  induction this with
  |refl=>exact .refl (iO o)
  |step _ q z s k=>exact .step k q (iO s)
 have link:∀{c u v},Rc (Jp es) c u v->∀a d,Jp es u a->Jp es v d->cQ n es (GW u a)=cQ n es (GW v d):=fun{c u v} h=>by
  induction h with
  |refl=>intro a d l h2;exact b l h2
  |@step x y _ q _ _ k=>intro a d l h2;rw[k a y l q,so];exact b q.symm h2
 refine⟨m,j,fun p t q w=>?_⟩;obtain⟨a,c,ha,f,g,rfl⟩:=abW hR t;obtain⟨x,y,A,B,i,rfl⟩:=abW hR w;exact link (T n a x ⟨_,g⟩ ⟨_,i⟩ NH NH) c y g i
def up_ex (j:bX ⟨((200:Nat):Int),es⟩) (h2:((Zh 200 es).getD v []).length=2) (ha:Jp es v a) (hb:Jp es v b) (ne:a≠b) (l:¬Jp es a b):
  ∃L,bX ⟨((200:Nat):Int),L⟩/\UpK L es a b v:=by
 have hR:=j.GD;have hA:=j.q9;have only:∀w,Jp es v w->w=a\/w=b:=fun w hw=>by
  obtain⟨z,s,t,m⟩:=abL hR hA h2 ha;have:=m w hw;have:=m b hb;omega
 have nva:v≠a:=fun e=>by subst e;exact Xa hR ha
 have nvb:v≠b:=fun e=>by subst e;exact Xa hR hb
 have u:=(ha.lt hR);have A:=(hb.lt hR);have d:∀p∈es,lZ p=p:=fun p c=>by
  have:=hR p c;obtain⟨x,y⟩:=p;simp only[lZ,si]at*;omega
 have i:∀p,p∈es.filter (fun p=>!aO p (v:Int))↔p∈es/\p.1≠(v:Int)/\p.2≠(v:Int):=fun p=>by
  rw[iy];simp only[aO,aeZ,qL231,decide_eq_false_iff_not,ne_eq,and_assoc]
 have nd:es.Nodup:=hA.nodup;have OT:es.length=(es.filter fun p=>!aO p (v:Int)).length+2:=by
  have e:(es.filter fun p=>aO p (v:Int)).Perm [GW v a,GW v b]:=(mg (nd.filter _) (by simp[aaC];omega)).2 fun p=>by
   rw[iy,Z6,Eh];constructor
   .rintro ⟨c, o⟩
    obtain⟨x,y,B,C,f,rfl⟩:=abW hR c;have:v=x\/v=y:=by simp only[aO,bj,MY,decide_eq_true_eq]at o;omega
    rcases this with rfl|rfl
    .rcases only y f with rfl|rfl<;>simp
    .rcases only x f.symm with rfl | rfl
     .left;exact so ..
     .right;exact so ..
   .rintro (rfl | rfl)
    .exact⟨H4 hR ha,by simp only[aO,bj,MY,decide_eq_true_eq];omega⟩
    .exact⟨H4 hR hb,by simp only[aO,bj,MY,decide_eq_true_eq];omega⟩
  have:=(xj (fun p=>aO p (v:Int)) es).length_eq;rw[kc,e.length_eq]at this;simp only[Uz,Zw]at this;omega
 have k:YG ((200:Nat):Int) (((a:Int),(b:Int))::es.filter fun p=>!aO p (v:Int)):=by
  have r:=j.len;refine⟨NH,NH,by rw[Uz];have:es.length<=594:=r;omega,fun p c=>?_,?_⟩
  .rcases Z6.1 c with rfl | c
   .simp only[lZ];omega
   .have c := ((i p).1 c).1
    rw[d p c];have:=hR p c;omega
  .rw [j3, Yi (g := id) fun p c => d p ((i p).1 c).1, adX, xD]
   refine⟨fun h=>l ?_,nd.filter _⟩;have h:=((i _).1 h).1;simp only[lZ]at h;rcases adW a b with q|q
   .left;rwa[aeM NH,aeK NH]at h
   .right;rwa[Int.min_eq_right NH,Int.max_eq_left NH]at h
 have ad:∀x y:Nat,Jp (sg (((a:Int),(b:Int))::es.filter fun p=>!aO p (v:Int))) x y↔(x=a/\y=b)\/(x=b/\y=a)\/(Jp es x y/\x≠v/\y≠v):=fun x y=>by
  rw[adj_sg];unfold Jp;simp only[Z6,i,si];constructor
  .rintro ((h | h) | (h | h))
   .left;omega
   .right;right;exact⟨.inl h.1,NH,NH⟩
   .right;left;omega
   .right;right;exact⟨.inr h.1,NH,NH⟩
  .rintro (h | h | ⟨h | h, n, h2⟩)
   .left;left;omega
   .right;left;omega
   .left;right;exact⟨h,NH,NH⟩
   .right;right;exact⟨h,NH,NH⟩
 refine⟨_,k.right,k.right.GD,hR,k.right.q9,hA,(ad a b).2 (.inl ⟨rfl,rfl⟩),fun w h=>?_,fun x y=>?_,?_⟩
 .have:=(ad v w).1 h;omega
 .unfold upA
  rw[ad];constructor
  .intro h
   by_cases c1:x=v
   .subst c1;right;left;exact⟨rfl,only y h⟩
   by_cases c2:y=v
   .subst c2;right;right;exact⟨rfl,only x h.symm⟩
   left;refine⟨.inr (.inr ⟨h,c1,c2⟩),fun e=>?_,fun e=>?_⟩
   .obtain⟨rfl,rfl⟩:=e;exact l h
   .obtain⟨rfl,rfl⟩:=e;exact l h.symm
  .rintro (⟨h, n, h2⟩ | ⟨rfl, rfl | rfl⟩ | ⟨rfl, rfl | rfl⟩)
   .rcases h with h | h | h
    .exact absurd h n
    .exact absurd h h2
    .exact h.1
   .exact ha
   .exact hb
   .exact ha.symm
   .exact hb.symm
 .rw[ZS,LH,Uz];omega
end
end Go.Fw
namespace Go.Fw
open Go.Proofs
attribute [local instance] Classical.propDecidable
def prsL:II->List Pr
 |[]=>[]
 |x::l=>l.map (fun y=>GW x y)++prsL l
def abF:∀{l:II},l.Nodup->∀{p:Pr},p∈prsL l↔∃x y,x∈l/\y∈l/\x≠y/\p=GW x y
 |[],_,p=>by simp[prsL]
 |a::l,nd,p=>by
  obtain⟨g,h2⟩:=xD.1 nd;rw[prsL,WA,aae,abF h2];constructor
  .rintro (⟨y, b, rfl⟩ | ⟨x, y, f, b, ne, rfl⟩)
   .exact⟨a,y,Ma,by simp[b],fun e=>g (e▸b),rfl⟩
   .exact⟨x,y,by simp[f],by simp[b],ne,rfl⟩
  .rintro ⟨x, y, f, b, ne, rfl⟩
   rcases Z6.1 f with rfl|d
   .rcases Z6.1 b with rfl | c
    .exact absurd rfl ne
    .exact .inl ⟨y,c,rfl⟩
   .rcases Z6.1 b with rfl | c
    .exact .inl ⟨x,d,so ..⟩
    .exact .inr ⟨x,y,d,c,ne,rfl⟩
def afl:∀{l:II},l.Nodup->(prsL l).Nodup
 |[],_=>by simp[prsL]
 |a::l,nd=>by
  obtain⟨b,h2⟩:=xD.1 nd;rw[prsL,yM];refine⟨?_,afl h2,fun p c q d e=>?_⟩
  .rw [Sb, vg]
   exact(Sb.1 h2).imp fun h e=>h (abq e)
  .subst e
   obtain⟨y,g,rfl⟩:=aae.1 c;obtain⟨z,w,f,hw,ne,e⟩:=(abF h2).1 d;rcases aaC.1 e with⟨q,-⟩|⟨q,-⟩
   .exact b (q▸f)
   .exact b (q▸hw)
def ac4 (A B:II):List Pr:=A.flatMap fun a=>B.map fun b=>GW a b
def acL {A B:II} {p:Pr}:p∈ac4 A B↔∃a b,a∈A/\b∈B/\p=GW a b:=by
 unfold ac4;rw[Lm];constructor
 .rintro ⟨a, ha, h⟩
  obtain⟨b,hb,rfl⟩:=aae.1 h;exact⟨a,b,ha,hb,rfl⟩
 .rintro ⟨a, b, ha, hb, rfl⟩
  exact⟨a,ha,aae.2 ⟨b,hb,rfl⟩⟩
def crs_nd {A B:II} (nd:(A++B).Nodup):(ac4 A B).Nodup:=by
 rw[yM]at nd;obtain⟨nA,nB,c⟩:=nd;unfold ac4;rw[Sb,Jf];refine⟨fun a ha=>?_,?_⟩
 .rw [vg]
  exact(Sb.1 nB).imp fun h e=>h (abq e)
 .refine (Sb.1 nA).imp_of_mem fun {a a'} ha mi ne x d y f e => ?_
  obtain⟨b,hb,rfl⟩:=aae.1 d;obtain⟨g,sZ,rfl⟩:=aae.1 f;rcases aaC.1 e with⟨q,-⟩|⟨q,-⟩
  .exact ne q
  .exact c a ha g sZ q
def aei (A B:II):(ac4 A B).length=A.length*B.length:=by
 unfold ac4
 induction A with
 |nil=>simp
 |cons a A b=>rw[Dk,kc,b,LH,Uz,Cj];omega
structure adG (es:List Pr) (E:Nat) (ks:List Pr):Prop where
 e3:3<=E
 e4:E<=4
 deg:∀c∈aac (Zh 200 es),((Zh 200 es).getD c []).length=E
 two:∀v w,Jp es v w->v∉aac (Zh 200 es)->((Zh 200 es).getD v []).length=2
 all:aaF (Zh 200 es) (aac (Zh 200 es))=2*es.length
 nd:ks.Nodup
 len:(aag (Zh 200 es) (aac (Zh 200 es))).length=2*ks.length
 n9:9<=ks.length
 w2:∀k∈ks,aaM (Zh 200 es) (aac (Zh 200 es)) k=2
 ends:∀k∈ks,∃a b,a∈aac (Zh 200 es)/\b∈aac (Zh 200 es)/\a≠b/\k=GW a b
def afm (cs:II) (ks:List Pr):Prop:=(cs.length=5/\ks=prsL cs)\/∃A B,(A++B).Perm cs/\A.length=3/\B.length=3/\ks=ac4 A B
def abk {es:List Pr} (hr:bX ⟨((200:Nat):Int),es⟩) (f:abw es≠0):∃E ks,adG es E ks/\afm (aac (Zh 200 es)) ks:=by
 rw[abz]at f;by_cases hb:(Zh 200 es).any aaH=true
 .rw[if_pos hb]at f;exact absurd rfl f
 rw[if_neg hb]at f;have two:∀v w,Jp es v w->v∉aac (Zh 200 es)->((Zh 200 es).getD v []).length=2:=fun v w h z=>by
  have C:=(h.lt hr.GD).1;have o:v<(Zh 200 es).length:=by rw[Xq];exact C
  have n0:((Zh 200 es).getD v []).length≠0:=by
   rw[<-aaZ];have:=(aaj hr.GD).2 h;intro e;rw[V3 e]at this;cases this
  have i:aaH ((Zh 200 es).getD v [])=false:=by
   refine aeH.2 fun q=>hb (Ly.2 ⟨_,Gw o,?_⟩);rw[D4 o]at q;exact q
  have g:¬aaD (Zh 200 es) v=true:=fun q=>z (iy.2 ⟨j9.2 o,q⟩);unfold aaH at i;unfold aaD at g;simp only[Bool.not_eq_false',MY,beq_iff_eq]at i g;omega
 have g:(aac (Zh 200 es)).Nodup:=jz.filter _;have u:∀E,abd (Zh 200 es) (aac (Zh 200 es)) es.length E≠0->(∀c∈aac (Zh 200 es),((Zh 200 es).getD c []).length=E)/\aaF (Zh 200 es) (aac (Zh 200 es))=2*es.length/\(E=4->aba (aaM (Zh 200 es) (aac (Zh 200 es))) (aac (Zh 200 es)) (aac (Zh 200 es))=true)/\(E≠4->aaO (aaM (Zh 200 es) (aac (Zh 200 es))) (aac (Zh 200 es))=true):=fun E h=>by
  unfold abd at h;by_cases c1:(aac (Zh 200 es)).any (fun c=>((Zh 200 es).getD c []).length !=E)=true
  .rw[if_pos c1]at h;exact absurd rfl h
  rw[if_neg c1]at h;by_cases c2:aaF (Zh 200 es) (aac (Zh 200 es))=2*es.length
  rotate_left
  .rw[if_pos c2]at h;exact absurd rfl h
  rw[if_neg (fun q=>q c2)]at h;refine⟨fun c D=>IE fun q=>c1 (Ly.2 ⟨c,D,by simpa using q⟩),c2,fun e=>?_,fun e=>?_⟩
  .rw [if_pos e] at h
   exact IE fun q=>by rw[if_neg q]at h;exact h rfl
  .rw [if_neg e] at h
   exact IE fun q=>by rw[if_neg q]at h;exact h rfl
 by_cases j:(aac (Zh 200 es)).length=5
 .rw [if_pos j] at f
  obtain⟨l,h2,h3,-⟩:=u 4 f;have h3:=h3 rfl;have p:(prsL (aac (Zh 200 es))).length=10:=by
   match aac (Zh 200 es),j with
   |[a,b,c,d,e],_=>rfl
  refine⟨4,prsL (aac (Zh 200 es)),⟨NH,NH,l,two,h2,afl g,by rw[abA l,j,p],NH,fun k f=>?_,fun k f=>?_⟩,.inl ⟨j,rfl⟩⟩
  .obtain ⟨x, y, F, G, ne, rfl⟩ := (abF g).1 f
   have:=uV.1 (uV.1 h3 x F) y G;rw[MY]at this;rcases this with q|q
   .exact absurd (by simpa using q) ne
   .exact of_decide_eq_true q
  .exact(abF g).1 f
 .rw [if_neg j] at f
  by_cases n:(aac (Zh 200 es)).length=6
  rotate_left
  .rw[if_neg n]at f;exact absurd rfl f
  rw[if_pos n]at f;obtain⟨l,h2,-,h3⟩:=u 3 f;have h3:=h3 WY;have r:=abA l;rw[n]at r;obtain⟨A,B,T⟩:=(adC (L:=(aag (Zh 200 es) (aac (Zh 200 es))).map (aaz (Zh 200 es))) g n (afk _) (by rw[LH,r];decide)).1 h3;obtain⟨t1,s,t,H⟩:=T;have m:=(t1.nodup_iff).2 g;refine⟨3,ac4 A B,⟨NH,NH,l,two,h2,crs_nd m,by rw[r,aei,s,t],by rw[aei,s,t];decide,fun k f=>?_,fun k f=>?_⟩,.inr ⟨A,B,t1,s,t,rfl⟩⟩
  .obtain ⟨a, b, ha, hb, rfl⟩ := acL.1 f
   exact H a ha b hb
  .obtain ⟨a, b, ha, hb, rfl⟩ := acL.1 f
   exact⟨a,b,t1.mem_iff.1 (WA.2 (.inl ha)),t1.mem_iff.1 (WA.2 (.inr hb)),fun e=>(yM.1 m).2.2 a ha b hb e,rfl⟩
section
variable {es : List Pr} (hr : bX ⟨((200 : Nat) : Int), es⟩) {E : Nat} {ks : List Pr} (K : adG es E ks)
include hr K
omit hr in
theorem adG.zero {p:Pr} (b:p∉ks):aaM (Zh 200 es) (aac (Zh 200 es)) p=0:=by
 have:=abK (xD.2 ⟨b,K.nd⟩) ((aag (Zh 200 es) (aac (Zh 200 es))).map (aaz (Zh 200 es)));rw[j3,aaS,LH,K.len]at this;have s:∀l:List Pr,(∀k∈l,k∈ks)->(l.map fun k=>((aag (Zh 200 es) (aac (Zh 200 es))).map (aaz (Zh 200 es))).count k).sum=2*l.length:=by
  intro l
  induction l with
  |nil=>intro _;rfl
  |cons a l c=>
   intro h;have e:((aag (Zh 200 es) (aac (Zh 200 es))).map (aaz (Zh 200 es))).count a=2:=K.w2 a (h a Ma);rw[j3,aaS,e,c fun k d=>h k (by simp[d]),Uz];omega
 rw[s ks fun k h=>h]at this;unfold aaM;omega
omit hr K in
theorem aa1:∀c∈aac (Zh 200 es),c<200/\((Zh 200 es).getD c []).length≠2:=fun c h=>abE h
omit K in
theorem abG {c w:Nat} (h:c∈aac (Zh 200 es)) (a:Jp es c w):(c,w)∈aag (Zh 200 es) (aac (Zh 200 es)):=by
 rw[aa0,Lm];exact⟨c,h,aae.2 ⟨w,(aaj hr.GD).2 a,rfl⟩⟩
omit hr K in
theorem afn {l:List (Nat×Nat)} {p:Pr} (nd:l.Nodup) (h:∀d∈l,d∈aag (Zh 200 es) (aac (Zh 200 es))/\aaz (Zh 200 es) d=p):l.length<=aaM (Zh 200 es) (aac (Zh 200 es)) p:=by
 unfold aaM;rw[List.count,List.countP_map,JH];exact tf nd fun d hd=>iy.2 ⟨(h d hd).1,by simp[(h d hd).2]⟩
omit hr in
theorem adG.in1 {d:Nat×Nat} (h:d∈aag (Zh 200 es) (aac (Zh 200 es))):aaz (Zh 200 es) d∈ks:=by
 refine IE fun q=>?_;have:=afn (l:=[d]) Ma (p:=aaz (Zh 200 es) d) (fun x a=>by rw[Eh.1 a];exact⟨h,rfl⟩);rw[K.zero q]at this;simp at this
omit K in
theorem abv {c w:Nat} (h:c∈aac (Zh 200 es)) (a:Jp es c w) {M:Nat} {e:Nat×Nat} (r:aaN 200 es (c,w) M e) (b:e.2∈aac (Zh 200 es)):aaz (Zh 200 es) (c,w)=GW c e.2:=by rw[acy,aeg hr.GD hr.q9 (Ny _) a (abE h).2 r (abE b).2]
def adG.apart {v a b:Nat} (h2:((Zh 200 es).getD v []).length=2) (c:a∈aac (Zh 200 es)) (ha:Jp es v a) (hb:Jp es v b) (ne:a≠b):¬Jp es a b:=fun ab=>by
 have hR:=hr.GD;have hA:=hr.q9;have nva:v≠a:=fun e=>by subst e;exact Xa hR ha
 have nvb:v≠b:=fun e=>by subst e;exact Xa hR hb
 have r1:aaN 200 es (a,v) 1 (v,b):=aaN.one (abe hR hA h2 ha hb ne) h2;by_cases cb:b∈aac (Zh 200 es)
 .have r2 : aaN 200 es (b, v) 1 (v, a) := aaN.one (abe hR hA h2 hb ha (Hs ne)) h2
  have g:=abv hr c ha.symm r1 cb;have h:=abv hr cb hb.symm r2 c;have e3:=abv hr c ab (M:=0) ⟨rfl,fun i hi=>absurd hi Ma⟩ cb;have e4:=abv hr cb ab.symm (M:=0) ⟨rfl,fun i hi=>absurd hi Ma⟩ c;have:=afn (l:=[(a,v),(b,v),(a,b)]) (p:=GW a b) (by simp;omega) fun d hd=>by
   simp only[Z6,ff,or_false]at hd;rcases hd with rfl|rfl|rfl
   .exact⟨abG hr c ha.symm,g⟩
   .exact⟨abG hr cb hb.symm,h.trans (so ..)⟩
   .exact⟨abG hr c ab,e3⟩
  simp only[Uz,Zw]at this;by_cases q:GW a b∈ks
  .rw[K.w2 _ q]at this;omega
  .rw[K.zero q]at this;omega
 .have d2 := K.two b v hb.symm cb
  have r2:aaN 200 es (v,b) 1 (b,a):=aaN.one (abe hR hA d2 hb.symm ab.symm nva) d2;have e:=abv hr c ha.symm (r1.trans r2) c;have:=K.in1 (abG hr c ha.symm);rw[e]at this;obtain⟨x,y,-,-,j,f⟩:=K.ends _ this;rcases aaC.1 f with⟨k,m⟩|⟨k,m⟩<;>omega
def adG.find {u:Nat} (h2:((Zh 200 es).getD u []).length=2):∃v a b,((Zh 200 es).getD v []).length=2/\a∈aac (Zh 200 es)/\Jp es v a/\Jp es v b/\a≠b:=by
 have hR:=hr.GD;have hA:=hr.q9;obtain⟨x,y,-,-,h3,j,-⟩:=abh hR hA h2;have m:=acK hR hA aa1 (jz.filter _) K.all h3;unfold aa7 at m;obtain⟨d,hd,m⟩:=Lm.1 m;obtain⟨i,hi,m⟩:=aae.1 m;have hi:=j9.1 hi;obtain⟨k1,k2,e⟩:=aaR hR aa1 hd;obtain⟨⟨-,r2⟩,-,-⟩:=aaL hR hA aa1 hd;have f:0<(aai (Zh 200 es) d).2:=by
  rcases i with _|i
  .exact absurd h2 (by rw[show u=d.1 from(congrArg Prod.fst m).symm];exact k2)
  .omega
 have c:=r2 0 f;obtain⟨z,g,h,-⟩:=abL hR hA (y:=d.2) c k1.symm;exact⟨d.2,d.1,z,c,e,k1.symm,h,Hs g⟩
def adG.base (no:∀v,((Zh 200 es).getD v []).length≠2) (x y:Nat):Jp es x y↔GW x y∈ks:=by
 have hR:=hr.GD;have a:∀{v w},Jp es v w->v∈aac (Zh 200 es):=fun{v w} h=>IE fun q=>no v (K.two v w h q);constructor
 .intro h
  have:=K.in1 (abG hr (a h) h);rwa[abv hr (a h) h (M:=0) ⟨rfl,fun i hi=>absurd hi Ma⟩ (a h.symm)]at this
 .intro h
  have w:=K.w2 _ h;unfold aaM at w;have:GW x y∈(aag (Zh 200 es) (aac (Zh 200 es))).map (aaz (Zh 200 es)):=List.count_pos_iff.1 (by rw[w];decide);obtain⟨d,hd,e⟩:=aae.1 this;obtain⟨k1,k2,f⟩:=aaR hR aa1 hd;have g:aaz (Zh 200 es) d=GW d.1 d.2:=abv hr f k1 (M:=0) ⟨rfl,fun i hi=>absurd hi Ma⟩ (a k1.symm);rw[g]at e;rcases aaC.1 e with⟨b,c⟩|⟨b,c⟩
  .rw[<-b,<-c];exact k1
  .rw[<-b,<-c];exact k1.symm
end
end Go.Fw
namespace Go.Fw
open Go.Proofs
attribute [local instance] Classical.propDecidable
def acf (n:Nat) (c:II):II:=c++(List.range n).filter fun v=>!c.contains v
def ofC (n:Nat) (c:II) (i:Nat):Nat:=(acf n c).getD i 0
def toC (n:Nat) (c:II) (v:Nat):Nat:=(acf n c).idxOf v
section
variable {n : Nat} {c : List Nat} (nd : c.Nodup) (lt : ∀ v ∈ c, v < n)
include nd lt
def abN:(acf n c).Perm (List.range n):=by
 refine(mg ?_ jz).2 fun v=>?_
 .unfold acf
  rw[yM];refine⟨nd,jz.filter _,fun a ha b hb e=>?_⟩;subst e;have:=(iy.1 hb).2;simp[ha]at this
 .unfold acf
  rw[WA,iy];constructor
  .rintro (h | h)
   .exact j9.2 (lt v h)
   .exact h.1
  .intro h
   by_cases q:v∈c
   .exact .inl q
   .exact .inr ⟨h,by simp[q]⟩
def ordC_nd:(acf n c).Nodup:=(abN nd lt).nodup_iff.2 jz
def ac5:(acf n c).length=n:=by rw[(abN nd lt).length_eq,vu]
def ab1 {i:Nat} (h:i<n):∃q:i<(acf n c).length,ofC n c i=(acf n c)[i]:=by
 have a:i<(acf n c).length:=by rw[ac5 nd lt];exact h
 exact⟨a,D4 a⟩
def afp:Ren n (toC n c) (ofC n c):=by
 have mem:∀v,v∈acf n c↔v<n:=fun v=>by rw[(abN nd lt).mem_iff,j9]
 refine⟨fun v h=>?_,fun v h=>?_,fun v h=>?_,fun v h=>?_⟩
 .have := Ua ((mem v).2 h)
  rwa[ac5 nd lt]at this
 .obtain ⟨q, e⟩ := ab1 nd lt h
  rw[e];exact(mem _).1 (Gw q)
 .obtain ⟨q, e⟩ := ab1 nd lt h
  rw[e];exact qL206 (ordC_nd nd lt) v q
 .have b := (mem v).2 h
  have a:=Ua b;unfold ofC toC;rw[D4 a];exact pQ a
def acA {i:Nat} (h:i<n):ofC n c i∈c↔i<c.length:=by
 obtain⟨q,e⟩:∃q:i<(c++(List.range n).filter fun v=>!c.contains v).length,ofC n c i=(c++(List.range n).filter fun v=>!c.contains v)[i]'q:=ab1 nd lt h
 rw[e];constructor
 .intro a
  refine IE fun hi=>?_;rw[pC NH]at a;have:=Gw (l:=(List.range n).filter fun v=>!c.contains v) (n:=i-c.length) (by rw[kc]at q;omega);have:=(iy.1 this).2;rw[aeZ]at this;have h2:=Ex.2 a;rw[this]at h2;cases h2
 .intro hi
  rw[Fz hi];exact Gw hi
def ofC_inj {i j:Nat} (hi:i<n) (a:j<n) (e:ofC n c i=ofC n c j):i=j:=by
 have N:=afp nd lt;have:=N.pq i hi;rw[e,N.pq j a]at this;exact this.symm
def afq {i:Nat} (hi:i<c.length) (a:i<n):ofC n c i=c[i]:=by
 obtain⟨q,e⟩:∃q:i<(c++(List.range n).filter fun v=>!c.contains v).length,ofC n c i=(c++(List.range n).filter fun v=>!c.contains v)[i]'q:=ab1 nd lt a
 rw[e];rw[Fz hi]
end
def afr {es:List Pr} (hR:aV 200 es) {cs:II} (g:cs.Nodup) (lt:∀v∈cs,v<200) {ks:List Pr} (S:afm cs ks) (l:∀x y,Jp es x y↔GW x y∈ks):Tw2 (Jp es)/\¬XU 200 (eN 200 es):=by
 rcases S with⟨E,rfl⟩|⟨A,B,p,r,lB,rfl⟩
 .have ad:∀x y,Jp es x y↔x∈cs/\y∈cs/\x≠y:=fun x y=>by
   rw[l,abF g];constructor
   .rintro ⟨a, b, ha, hb, ne, e⟩
    rcases aaC.1 e with⟨rfl,rfl⟩|⟨rfl,rfl⟩
    .exact⟨ha,hb,ne⟩
    .exact⟨hb,ha,Hs ne⟩
   .rintro⟨d,h2,h3⟩;exact⟨x,y,d,h2,h3,rfl⟩
  refine⟨fun c u v ⟨w,s⟩ ⟨z,t⟩ d h2=>?_,fun P=>?_⟩
  .by_cases e : u = v
   .rw[e];exact .refl
   .exact Rc.one ((ad u v).2 ⟨((ad _ _).1 s).1,((ad _ _).1 t).1,e⟩) d h2
  .refine aeX (n := 200) NH (P.ren (afp g lt) fun v w => ?_)
   rw[pZ];constructor
   .rintro ⟨d, h2, h3⟩
    refine⟨NH,NH,(vD hR).2 ((ad _ _).2 ⟨(acA g lt NH).2 NH,(acA g lt NH).2 NH,fun e=>h3 (ofC_inj g lt NH NH e).symm⟩)⟩
   .rintro ⟨d, h2, h3⟩
    obtain⟨k1,k2,D⟩:=(ad _ _).1 ((vD hR).1 h3);have k1:=(acA g lt d).1 k1;have k2:=(acA g lt h2).1 k2;exact⟨NH,NH,fun e=>D (by rw[e])⟩
 .have nd := p.nodup_iff.2 g
  have f:∀v∈A++B,v<200:=fun v h=>lt v (p.mem_iff.1 h);have C:=(yM.1 nd).2.2;have ad:∀x y,Jp es x y↔(x∈A/\y∈B)\/(x∈B/\y∈A):=fun x y=>by
   rw[l,acL];constructor
   .rintro ⟨a, b, ha, hb, e⟩
    rcases aaC.1 e with⟨rfl,rfl⟩|⟨rfl,rfl⟩
    .exact .inl ⟨ha,hb⟩
    .exact .inr ⟨hb,ha⟩
   .rintro (⟨d, h2⟩ | ⟨d, h2⟩)
    .exact⟨x,y,d,h2,rfl⟩
    .exact⟨y,x,h2,d,so ..⟩
  refine⟨fun c u v ⟨w,s⟩ ⟨z,t⟩ d h2=>?_,fun P=>?_⟩
  .have two:∀X:II,X.length=3->X.Nodup->∃b∈X,b≠c:=fun X l3 nX=>by
    match X,l3 with
    |[x,y,z],_=>
     by_cases q:x=c
     .exact⟨y,Ma,fun e=>by simp at nX;omega⟩
     .exact⟨x,Ma,q⟩
   have nA:=(yM.1 nd).1;have nB:=(yM.1 nd).2.1;rcases(ad _ _).1 s with⟨a1,-⟩|⟨a1,-⟩<;>rcases(ad _ _).1 t with⟨m,-⟩|⟨m,-⟩
   .obtain ⟨b, hb, nb⟩ := two B lB nB
    exact(Rc.one ((ad _ _).2 (.inl ⟨a1,hb⟩)) d nb).trans (Rc.one ((ad _ _).2 (.inr ⟨hb,m⟩)) nb h2)
   .exact Rc.one ((ad _ _).2 (.inl ⟨a1,m⟩)) d h2
   .exact Rc.one ((ad _ _).2 (.inr ⟨a1,m⟩)) d h2
   .obtain ⟨b, hb, nb⟩ := two A r nA
    exact(Rc.one ((ad _ _).2 (.inr ⟨a1,hb⟩)) d nb).trans (Rc.one ((ad _ _).2 (.inl ⟨hb,m⟩)) nb h2)
  .have j:∀{i},i<200->(ofC 200 (A++B) i∈A↔i<3):=fun{i} hi=>by
    have k:=acA nd f hi;rw[kc,r,lB]at k;constructor
    .intro h
     have l6:=k.1 (WA.2 (.inl h));refine IE fun q=>?_;rw[afq nd f (by rw[kc];omega) hi,pC NH]at h;exact C _ h _ (Gw _) rfl
    .intro h
     rw[afq nd f (by rw[kc];omega) hi,Fz NH];exact Gw _
   have o:∀{i},i<200->(ofC 200 (A++B) i∈B↔3<=i/\i<6):=fun{i} hi=>by
    have k:=acA nd f hi;rw[kc,r,lB,WA,j hi]at k;constructor
    .intro h
     have:=k.1 (.inr h);refine⟨Nat.le_of_not_lt fun q=>C _ ((j hi).2 q) _ h rfl,NH⟩
    .intro h
     exact(k.2 NH).resolve_left NH
   refine aeY (n:=200) NH (P.ren (afp nd f) fun v w=>?_);rw[Vb,vD hR,ad];constructor
   .rintro (⟨d, h2, h3⟩ | ⟨d, h2, h3⟩)
    .exact⟨NH,NH,.inl ⟨(j NH).2 d,(o NH).2 ⟨h2,h3⟩⟩⟩
    .exact⟨NH,NH,.inr ⟨(o NH).2 ⟨d,h2⟩,(j NH).2 h3⟩⟩
   .rintro ⟨d, h2, h3 | h3⟩
    .have := (j d).1 h3.1
     have:=(o h2).1 h3.2;omega
    .have := (o d).1 h3.1
     have:=(j h2).1 h3.2;omega
def kind_no:∀(m:Nat) (es:List Pr),es.length=m->bX ⟨((200:Nat):Int),es⟩->abw es≠0->Tw2 (Jp es)/\¬XU 200 (eN 200 es):=by
 intro m
 induction m with
 |zero=>
  intro es N e i;obtain⟨E,ks,K,-⟩:=abk e i;have:=adE e.GD e.q9 aa1 (jz.filter _);have O:=K.n9;have j:=K.len;rw[<-ab0]at this;have:(aag (Zh 200 es) (aac (Zh 200 es))).length<=(aa7 (Zh 200 es) (aac (Zh 200 es))).length:=by
   unfold aa7;generalize aag (Zh 200 es) (aac (Zh 200 es))=D;clear j
   induction D with
   |nil=>exact AE _
   |cons d D r=>simp only[Dk,kc,LH,vu,Uz];omega
  omega
 |succ m r=>
  intro es R e i;obtain⟨E,ks,K,S⟩:=abk e i;have hR:=e.GD;by_cases k:∃u,((Zh 200 es).getD u []).length=2
  rotate_left
  .exact afr hR (jz.filter _) (fun v h=>(abE h).1) S (K.base e fun v q=>k ⟨v,q⟩)
  obtain⟨u,k⟩:=k;obtain⟨v,a,b,h2,F,ha,hb,ne⟩:=K.find e k;obtain⟨L,s,U⟩:=up_ex e h2 ha hb ne (K.apart e h2 F ha hb ne);have g:abw L≠0:=by rw[<-U.kind];exact i
  obtain⟨T,P⟩:=r L (by have:=U.len;omega) s g;obtain⟨E',G,z,H⟩:=abk s g;have f:∃t∈aac (Zh 200 L),t≠a/\t≠b:=by
   have l3:3<=(aac (Zh 200 L)).length:=by
    rcases H with⟨h,-⟩|⟨A,B,p,V,lB,-⟩
    .omega
    .have := p.length_eq
     rw[kc]at this;omega
   refine IE fun q=>?_;have:=tf (A:=aac (Zh 200 L)) (B:=[a,b]) (jz.filter _) fun x I=>by
    by_cases j:x=a
    .simp[j]
    by_cases C:x=b
    .simp[C]
    exact absurd ⟨x,I,j,C⟩ q
   simp only[Uz,Zw]at this;omega
  obtain⟨t,J,t1,M⟩:=f;have o:∃w,Jp L t w:=by
   have hd:=z.deg t J;have:=z.e3;rw[<-aaZ]at hd;rcases h:abD (Zh 200 L) t with _|⟨w,l⟩
   .rw[h]at hd;simp at hd;omega
   .exact⟨w,(aaj U.r1).1 (by rw[h];simp)⟩
  refine⟨T.upon (fun x y h=>h.symm) U.ab U.nab U.iso o t1 M U.up,fun Q=>P ?_⟩;have em:eN 200 L v=[]:=by
   rcases h:eN 200 L v with _|⟨w,l⟩
   .rfl
   .exact absurd ((vD U.r1).1 (show w∈eN 200 L v by rw[h];simp)) (U.iso w)
  exact(acm.planar (n:=200) (a:=a) (b:=b) (m:=v) ⟨MG U.r1 U.a1,MG U.r2 U.a2,(vD U.r1).2 U.ab,em,(ha.lt hR).1,fun x y=>by rw[vD U.r1,vD U.r2,U.up];rfl⟩).1 Q
def bX.up200 {n:Nat} {es:List Pr} (h:bX ⟨(n:Int),es⟩):bX ⟨((200:Nat):Int),es⟩:=by
 have b:(n:Int)<=200:=h.n1;refine bX.of NH h.len (fun p a=>?_) h.q9;have:=h.GD p a;omega
def afs {n:Nat} {es:List Pr} (h:bX ⟨(n:Int),es⟩) (f:aaW es≠0):acG n es/\¬aaf n es/\9<=es.length:=by
 have a:=h.up200;rw[aaW,if_pos (show bX ⟨200,es⟩from a)]at f;obtain⟨T,P⟩:=kind_no _ es rfl a f;obtain⟨E,ks,K,-⟩:=abk a f;have b:9<=es.length:=by
  have:=adE a.GD a.q9 aa1 (jz.filter _);have b:=K.n9;have g:=K.len;rw[<-ab0]at this;have:(aag (Zh 200 es) (aac (Zh 200 es))).length<=(aa7 (Zh 200 es) (aac (Zh 200 es))).length:=by
   unfold aa7;generalize aag (Zh 200 es) (aac (Zh 200 es))=D;clear g
   induction D with
   |nil=>exact AE _
   |cons d D i=>simp only[Dk,kc,LH,vu,Uz];omega
  omega
 have O:=T.oneB h (fun e=>by rw[e]at b;simp at b);refine⟨O,fun q=>?_,b⟩;rcases O.flat.1 ((aa4 O).1 q)with q|q
 .omega
 .have j : (n : Int) <= 200 := h.n1
  exact P ((aen h.GD NH).2 q)
end Go.Fw
namespace Go.Fw
section
attribute [local irreducible] Jz JL vq cQ
open Go.Proofs
variable {G:GM} {n:Nat}
def acg {α:Type}:∀(l:List α) (i j:Nat),j<i->((l.eraseIdx i).eraseIdx j).Sublist (l.eraseIdx j)
 |[],i,j,_=>by simp
 |a::l,i+1,0,_=>by
  rw[adK,qL209,qL209];exact Ah l i
 |a::l,i+1,j+1,h=>by
  rw[adK,adK,adK];exact(acg l i j NH).cons₂ a
def acM {n:Nat}:∀(f i:Nat) (l:List Pr),¬aaf n l->(∀j,j<i->j<l.length->aaf n (l.eraseIdx j))->l.length<=i+f->(findM n f i l).Sublist l/\¬aaf n (findM n f i l)/\∀j,j<(findM n f i l).length->aaf n ((findM n f i l).eraseIdx j)
 |0,i,l,h,a,d=>⟨dr _,h,fun j q=>a j (by have:j<l.length:=q;omega) q⟩
 |f+1,i,l,h,a,d=>by
  rw[findM];by_cases c:i<l.length
  rotate_left
  .rw [if_neg c]
   exact⟨dr _,h,fun j q=>a j NH q⟩
  rw[if_pos c];by_cases p:aaf n (l.eraseIdx i)
  .rw [if_pos p]
   exact acM f (i+1) l h (fun j q b=>by
    by_cases e:j=i
    .rw[e];exact p
    .exact a j NH b) NH
  .rw [if_neg p]
   have g:(l.eraseIdx i).length=l.length-1:=by rw[WL,if_pos c]
   obtain⟨k,h2,h3⟩:=acM f i (l.eraseIdx i) p (fun j q b=>adB (acg l i j q) (a j q NH)) NH;exact⟨k.trans (Ah l i),h2,h3⟩
def ach (h:¬aaf G.n.toNat G.es):(aaU G).Sublist G.es/\¬aaf G.n.toNat (aaU G)/\∀j,j<(aaU G).length->aaf G.n.toNat ((aaU G).eraseIdx j):=by
 rw[aaU,if_neg h];exact acM _ 0 _ h (fun j q=>absurd q (To _)) NH
def aci (h:aaf G.n.toNat G.es):aaU G=[]:=by rw[aaU,if_pos h]
def aey (a:bX ⟨(n:Int),[]⟩):aaf n []:=⟨a,fun b hb=>by
 obtain⟨p,c,-⟩:=aay.1 hb;cases c⟩
def fnd_nil (a:bX G):aaU G=[]↔aaf G.n.toNat G.es:=by
 refine⟨fun h=>IE fun q=>?_,aci⟩;obtain⟨c,h2,-⟩:=ach q;rw[h]at h2;have b:=a.n0;have e:G=⟨((G.n.toNat:Nat):Int),G.es⟩:=by
  obtain⟨n,es⟩:=G;simp only at b ⊢;rw[Int.toNat_of_nonneg b]
 rw[e]at a;exact h2 (aey (a.sub (List.nil_sublist _)))
def aez {l:List Pr} (h:aaf n l):aaW l=0:=
 IE fun q=>(afs h.1 q).2.1 h
end
section
attribute [local irreducible] Kp MQ lU rS KO KN KX KE VK Kl ZJ TC aaa
attribute [local irreducible] Jz JL vq cQ
open Go.Proofs
variable {X i:Nat} {ev v:Value} {h:AHeap} {ps:List Pr}
def GP.cap {h:AHeap} {v:Value} {ps:List Pr} (g:GP h v ps) {i:Nat} (hi:i<ps.length) (n:ps.length<=100000):∃v',aSlice Tryz.prog 22 v none (some (.int .i64 i)) (some (.int .i64 i))=some v'/\GP h v' (ps.take i)/\blk v'=blk v:=by
 obtain⟨o,⟨rfl,p⟩|⟨id,c,cap,rfl,j,k,l⟩⟩:=g
 .omega
 have n1:(0:Int)<=i:=NH;have f:Ip ⟨id,0,none⟩ 0=⟨id,0,none⟩:=rfl;have m:i<RA:=zx (show i<100000 by omega) WY;refine⟨.slice (some ⟨id,0,none⟩) i i,?_,?_,rfl⟩
 .rcases l with rfl | ⟨rfl, b⟩
  .have d : (i : Int) <= ps.length := NH
   by_cases z:i=0
   .subst z
    simp[aSlice,AV,yU,WE,aBounds,aBound]
   .simp[aSlice,AV,yU,WE,aBounds,aBound,n1,d,f,z,m]
  .have d : (i : Int) <= ps.length := NH
   have e:¬RA<=ps.length:=Dl.2 (zx b WY);simp[aSlice,AV,yU,WE,aBounds,aBound,n1,d,f,e]
 .have a : (ps.take i).length = i := by rw [Bn]; omega
  unfold GP;rw[a];refine⟨by rw[Ta,a],.inr ⟨id,c,_,rfl,j,?_,.inr ⟨rfl,NH⟩⟩⟩;rw[abr,<-k,aeT,ab5 NH]
def GX.cutK {n:Int} (g:GX h X n ev ps) (hw:WF h) (hi:i<ps.length) (q:ps.length<=100000):
  ∃j k a d l,aSlice Tryz.prog 22 ev none (some (.int .i64 i)) (some (.int .i64 i))=some j/\aSlice Tryz.prog 22 ev (some (.int .i64 ((i+1:Nat):Int))) none none=some k/\
   aAppend Tryz.prog h 22 22 j k=some (a,d)/\aStore Tryz.prog d 22 (.pointer (some ⟨X,1,none⟩)) a=some l/\
   GX l X n a (ps.eraseIdx i)/\WF l/\(∀f,Le f h->f.own X=none->Z2 f ev->Le f l/\Z2 f a)/\aload Tryz.prog d 22 ⟨X,1,none⟩=some ev:=by
 obtain⟨j,s1,r,o⟩:=g.gp.cap hi q;obtain⟨k,s2,s,-⟩:=g.gp.pr.cut (GS.okc g.gp) (i:=i+1) hi;obtain⟨a,d,u,m,p,hf,v⟩:=r.join hw s (by rw[Bn,iB];omega);obtain⟨c,e⟩:=v X _ g.ox (by rw[o];exact g.ne);have one:=m.pr.sl.one;have w:a.cells=#[a]:=by obtain⟨_,_,rfl,_⟩:=m.pr.sl;rfl
 have st:=QB (P:=Tryz.prog) (t:=22) (x:=a) AV Ji c (off:=1) Ma w one;rw[<-fE]at m;refine⟨j,k,a,d,_,s1,s2,u,st,⟨AHeap.Y3 _ _ _,GS.put m _ e,e⟩,p.put _ (p.lt c),fun f y z af=>?_,Fq AV rfl c⟩;obtain⟨l5,A⟩:=hf f y fun b hb=>af b (by rw[<-o];exact hb);exact⟨l5.put _ z,A⟩
def adH (s:LA) (e:Value) (ps:List Pr) (p:Pr) (h:AHeap) (hw:PR h e ps) (z:ps.length<=1000000):
  AC Tryz.prog s 43 [e,UI p] h fun x h'=>((∃i:Nat,x=.int .i64 i/\ps[i]?=some p)\/x=.int .i64 (-1)/\p∉ps)/\Le h h':=by
 refine AC.vE ⟨Tryz.func43,rfl,WY⟩ Tryz.ntmps43 Tryz.results43 fun f=>?_;simp only[Br,Nat.reduceAdd];have t:=fun g=>hw.len g;obtain⟨u,v,l1,w1,w⟩:=Tt f (xM p)
 have A:h.own h.next=none:=(Le.refl h).next f (Ny _)
 refine Sk (Yb @Ci v t) ?_
 generalize h.next=E at*
 refine aaa.intro (fun k fr n=>∃i:Nat,k=ps.length-i/\i<=ps.length/\fr=mkF [(0,e),(3,.pointer (some ⟨E,0,none⟩)),(7,.int .i64 ps.length),(8,.int .i64 i)]/\n=u/\p∉ps.take i)
  ps.length [(0,e),(3,.pointer (some ⟨E,0,none⟩)),(7,.int .i64 ps.length),(8,.int .i64 (0:Nat))] fD ⟨0,rfl,AE _,rfl,rfl,Ma⟩ ?_
 rintro k fr n y ⟨i,rfl,hi,rfl,rfl,b⟩;refine Uy ?_;refine Kl.intro (fun o=>?_) (fun hf=>?_)
 rotate_left
 .have m : ps.length <= i := vp hf
  rw[vZ m]at b;refine Uy ?_;exact⟨.inr ⟨trivial,b⟩,l1⟩
 have a:i<ps.length:=CC o;clear o;have d:=CA a;have j:ps.take (i+1)=ps.take i++[ps[i]]:=EL a;generalize ps[i]=q at d j;have ad:=hw.addr (k:=.i64) i a;have ld:=(hw.le l1).load d;have r:=uM w;refine Uy ?_;refine gh (tA [0,1,2,3,4,5] .done) ?_;have l:=(abinP p q).1;by_cases c:p=q
 .have hd : decide (p = q) = true := by simpa using c
  rw[hd]at l;simp only[kS1,bLookup,bMapSet,wantA,Zm,stepOp,evalO,evalL,evalP,evalM,putDst,flat,kA,kB,Nat.reduceLT,↓reduceIte,kC,Nat.reduceEqDiff,aBuiltin,mM,guardFree,abin,aInt,aUn,aNilCheck,retQ,G8,aresults,aresultL,aresult,mkF,Yx,reduceCtorEq,kD,kE,kF,kG,kH,kI,kJ,kK,aExtract,calleeOf,kD1,Nat.reduceBEq,HoldsAll,kL,kM,kN,kO,ad,ld,r,l,-mM];exact⟨.inl ⟨i,rfl,by subst c;exact d⟩,l1⟩
 .have hd : decide (p = q) = false := by simpa using c
  rw[hd]at l;simp only[kS1,bLookup,bMapSet,wantA,Zm,stepOp,evalO,evalL,evalP,evalM,putDst,flat,kA,kB,Nat.reduceLT,↓reduceIte,kC,Nat.reduceEqDiff,aBuiltin,mM,guardFree,abin,aInt,aUn,aNilCheck,retQ,G8,aresults,aresultL,aresult,mkF,Yx,reduceCtorEq,kD,kE,kF,kG,kH,kI,kJ,kK,aExtract,calleeOf,kD1,Nat.reduceBEq,HoldsAll,kL,kM,kN,kO,ad,ld,r,l,-mM,Tw i NH];refine tn (ps.length-(i+1)) [(0,e),(3,.pointer (some ⟨E,0,none⟩)),(7,.int .i64 ps.length),(8,.int .i64 (i+1:Nat))] NH fD ⟨i+1,rfl,a,rfl,rfl,?_⟩;rw[j];simp[b,c]
def lessK {h j:AHeap} (hw:WF h) (r:PR h v ps) (ct:Ct v ps.length) (hi:i<ps.length) (y:ps.length<=100000) (l0:Le j h):
  ∃a h2 h3 c d e f,aBuildSlice Tryz.prog h 22 0 []=some (.slice (some ⟨h.next,0,none⟩) 0 0,a)/\aSlice Tryz.prog 22 v none (some (.int .i64 i)) none=some c/\aAppend Tryz.prog a 22 22 (.slice (some ⟨h.next,0,none⟩) 0 0) c=some (d,h2)/\
   aSlice Tryz.prog 22 v (some (.int .i64 ((i+1:Nat):Int))) none none=some e/\aAppend Tryz.prog h2 22 22 d e=some (f,h3)/\PR h3 f (ps.eraseIdx i)/\WF h3/\Le j h3:=by
 obtain⟨a,l,l1,w1,m⟩:=Tt hw []
 have g:aBuildSlice Tryz.prog h 22 0 []=some (.slice (some ⟨h.next,0,none⟩) 0 0,a):=by rw[<-l];rfl
 have nB:h.own h.next=none:=(Le.refl h).next hw (Ny _)
 generalize h.next=B at*
 have n:GP a (.slice (some ⟨B,0,none⟩) 0 0) []:=GS.full m rfl WY;have a1:Z2 h (.slice (some ⟨B,0,none⟩) 0 0):=fun b hb=>by simp[blk]at hb;subst hb;exact nB
 obtain⟨c,s1,o⟩:=r.lo ct (i:=i) NH;obtain⟨e,p,q⟩:=r.up ct (i:=i+1) hi;obtain⟨d,h2,s,t,w2,u,-⟩:=n.join w1 (o.le l1) (by rw[Bn];simp;omega);obtain⟨l2,a2⟩:=u h l1 a1;obtain⟨f,h3,e3,k,w,x,-⟩:=t.join w2 (q.le l2) (by rw[js,Bn,iB];omega);obtain⟨l3,-⟩:=x h l2 a2;rw[js,<-fE]at k;exact⟨a,h2,h3,c,d,e,f,g,s1,s,p,e3,k.pr,w,l0.trans l3⟩
def adJ (C:LA) (v N:Value) (G:GM) (xs:RZ) (h:AHeap) (hg:GR h v G) (ha:RL isB h N xs):
  AC Tryz.prog C 10 [v,N] h fun x h'=>x=.bool true/\Le h h':=by
 have Z:=hg;obtain⟨gn,es⟩:=G
 obtain⟨ev,rfl,hp⟩:=hg.open
 refine AC.vE ⟨Tryz.func10,rfl,WY⟩ Tryz.ntmps10 Tryz.results10 fun aW=>?_;simp only[Br,Nat.reduceAdd];obtain⟨h1,b1,E,b4,-,O⟩:=r8 (n:=gn) aW hp
 generalize h.next=B at*
 have ae:=O h1 (Le.refl _);refine Sk (XC b1 ae.1) ?_;refine TC.intro PJ ⟨Tryz.func42,rfl,WY⟩ (ac2 C _ ⟨gn,es⟩ h1 (Z.le E)) ?_;rintro x h2 w2 ⟨⟨bb,rfl,p⟩,l2⟩;have ag:=E.trans l2;cases bb with
 |false=>
  refine Uy ?_;refine TC.intro PJ ⟨Tryz.func34,rfl,WY⟩ (abU C h2) ?_;rintro x h3 w3 ⟨rfl,l3⟩;refine Uy ?_;exact⟨trivial,ag.trans l3⟩
 |true=>
 obtain⟨hr,aj,al⟩:=p.1 rfl;clear p;have h0:0<=gn:=hr.n0;obtain⟨n,rfl⟩:=HV h0;simp only at aj al;refine Sk ((O h2 l2).1) ?_;refine TC.intro PJ ⟨Gs,rfl,WY⟩ (aaJ C _ ⟨(n:Int),es⟩ h2 (Z.le ag)) ?_;rintro x h3 w3 ⟨l3,⟨hn,-⟩|⟨-,U,rfl,pl,H⟩⟩
 .exact absurd hr hn
 have aq:=l2.trans l3;have r:(aaU ⟨(n:Int),es⟩).Sublist es/\∀j,j<(aaU ⟨(n:Int),es⟩).length->aaf n ((aaU ⟨(n:Int),es⟩).eraseIdx j):=by
  by_cases q:aaf n es
  .rw [aci (G := ⟨(n : Int), es⟩) q]
   exact⟨List.nil_sublist _,fun j hj=>by simp at hj⟩
  .obtain ⟨W, -, q3⟩ := ach (G := ⟨(n : Int), es⟩) q
   exact⟨W,q3⟩
 obtain⟨r,I⟩:=r;have hF:∃F,F=aaU ⟨(n:Int),es⟩:=⟨_,rfl⟩;obtain⟨F,hF⟩:=hF;rw[<-hF]at pl H r I;have a6:F.length<=40:=VU r.length_le NH;have Y:=fun g=>pl.len g;have d0:decide ((0:Int)=0)=true:=by decide
 refine Sk (Yb @bne.eq_1.{0} d0 Y) ?_
 refine aaa.intro (fun k fr a=>∃i:Nat,k=F.length-i/\i<=F.length/\fr=mkF [(1,N),(2,.pointer (some ⟨B,0,none⟩)),(5,U),(25,.int .i64 F.length),(26,.int .i64 i)]/\Le h3 a)
  F.length [(1,N),(2,.pointer (some ⟨B,0,none⟩)),(5,U),(25,.int .i64 F.length),(26,.int .i64 (0:Nat))] fD
  ⟨0,rfl,AE _,rfl,Le.refl _⟩ ?_
 rintro k fr a V ⟨i,rfl,hi,rfl,lq⟩;have d:=aq.trans lq;refine Uy ?_;refine Kl.intro (fun ht=>?_) (fun hf=>?_)
 .have Q : i < F.length := CC ht
  clear ht;have aw:=Tw i NH;obtain⟨W,q2,q3,v1,v2,v3,v4,e1,e2,e3,e4,e5,p4,w4,l4⟩:=lessK V (pl.le lq) H Q NH lq;have J:=I i Q;refine Uy ?_;refine gh (tA [1,2,3,5,6,7,8] (JQ 0 [] (JQ 4 [0,3] (JQ 9 [4,8] (tA [10] .done))))) ?_;simp only[HO,Nat.reduceLT,↓reduceIte,Nat.reduceEqDiff,reduceCtorEq,Nat.reduceBEq,Qg,aw,e1,e2,e3,e4,e5];have K:=Wj (n:=(n:Int)) p4.sl;refine Sk (IX @Ii @Ip.eq_1 @BS ((O q3 (aq.trans l4)).2.1) K) ?_;refine TC.intro PJ ⟨YW,rfl,WY⟩ (aar C _ ⟨(n:Int),F.eraseIdx i⟩ q3 ⟨v4,rfl,p4⟩) ?_;rintro x L w5 ⟨⟨bb,rfl,p⟩,l5⟩;simp only[yY]at p;obtain rfl:bb=true:=p.2 ⟨J.1,J⟩;refine Uy ?_;refine TC.intro PJ ⟨zj,rfl,WY⟩ (aaY C v4 _ L (p4.le l5)) ?_;rintro x h6 w6 ⟨rfl,l6⟩;rw[aez J];simp only[HO,Nat.reduceLT,↓reduceIte,Nat.reduceEqDiff,reduceCtorEq,bne,d0,aw];exact tn (F.length-(i+1)) [(1,N),(2,.pointer (some ⟨B,0,none⟩)),(5,U),(25,.int .i64 F.length),(26,.int .i64 (i+1:Nat))] (JS Q) fD
   ⟨i+1,rfl,Q,rfl,(l4.trans l5).trans l6⟩
 clear hf hi;have A0:=O a d;have ar:=hp.le (E.trans d);refine Uy ?_;apply Ya (F:=fun(fr:lC) (L:AHeap)=>∃(X:Nat) (cv:Value),Fj fr [(1,N),(5,U),(9,.pointer (some ⟨X,0,none⟩))]/\Le a L/\WF L/\a.own X=none/\Z2 a cv/\GX L X (n:Int) cv es)
 .intro cont
  refine gh (tA [0,1,2,3] (.ch 4 [3] (tA [5] (JQ 6 [] (JQ 7 [0,1,2,3,4,5,6] .done))) (JQ 6 [] (JQ 4 [3] (tA [5] (JQ 7 [0,1,2,3,4,5,6] .done)))))) ?_
  have a7:∃g,a.alloc (.cells [.int .i64 0,.slice none 0 0])=g/\Le a g/\WF g/\g.own a.next=some (.cells [.int .i64 0,.slice none 0 0]):=Tt V _
  obtain⟨W,y1,m1,v1,u1⟩:=a7
  have bg:aAlloc Tryz.prog a 24=some (.pointer (some ⟨a.next,0,none⟩),W):=by rw[Lo,y1]
  have Q1:=O W (d.trans m1);simp only[qj,Nat.reduceLT,↓reduceIte,Nat.reduceEqDiff,reduceCtorEq,Nat.reduceBEq,Qg,Ii,Di,Ip,BS,A0.2.1,A0.2.2,bg,Q1.2.1,Q1.2.2];refine⟨?_,?_⟩
  .refine VA.intro PJ ⟨Tryz.func18, rfl, WY⟩ (abm C ev es a ar NH) ?_
   rintro cv f u ⟨gc,m,ac⟩;have A2:=O f (d.trans m);have K:=Wj (n:=(n:Int)) gc.pr.sl;obtain⟨bh,bk,a3,s3,l4,w4,o4,bm⟩:=newGo u (n:=(n:Int)) gc.pr;have A4:=O bk ((d.trans m).trans l4);have A3:=O bh ((d.trans m).trans bm)
   have nX:f.own f.next=none:=(Le.refl f).next u (Ny _)
   simp only[qj,Nat.reduceLT,↓reduceIte,Nat.reduceEqDiff,reduceCtorEq,Nat.reduceBEq,Qg,Ii,Di,Ip,BS,A2.2.1,A2.2.2,K,a3,s3,A3.2.1,A3.2.2,A4.2.1,A4.2.2];refine KN.UJ fun fr' h' x y=>cont fr' h' ?_;subst x y
   refine⟨f.next,cv,fD,m.trans l4,w4,?_,ac,⟨o4,gc.le l4,fun e=>GS.Sy gc e nX⟩⟩
   exact m.next u (Ny _)
  .refine VA.intro PJ ⟨Tryz.func18, rfl, WY⟩ (abm C ev es W (ar.le m1) NH) ?_
   rintro cv f u ⟨gc,m,ac⟩;have A2:=O f ((d.trans m1).trans m);have K:=Wj (n:=(n:Int)) gc.pr.sl
   have nX:blk cv≠some a.next:=fun e=>by have:=ac _ e;rw[u1]at this;cases this
   have oX:=m.own _ _ u1
   have n1:a.own a.next=none:=(Le.refl a).next V (Ny _)
   have st:=DG (n:=(n:Int)) (ev:=cv) oX gc.pr.sl.one gc.pr.sl.cell
   have ho:(f.put a.next (.cells [.int .i64 (n:Int),cv])).own a.next=some (.cells [.int .i64 (n:Int),cv]):=AHeap.Y3 _ _ _
   have l4:Le a (f.put a.next (.cells [.int .i64 (n:Int),cv])):=(m1.trans m).put _ n1
   have A4:=O _ (d.trans l4);simp only[qj,Nat.reduceLT,↓reduceIte,Nat.reduceEqDiff,reduceCtorEq,Nat.reduceBEq,Qg,Ii,Di,Ip,BS,A2.2.1,A2.2.2,K,st,A4.2.1,A4.2.2];refine KN.UJ fun fr' h' x y=>cont fr' h' ?_;subst x y
   refine⟨a.next,cv,fD,l4,u.put _ (u.lt oX),n1,fun b hb=>?_,⟨ho,GS.put gc _ nX,nX⟩⟩
   have:=ac b hb;rcases S:a.own b with _|o
   .rfl
   .rw[m1.own _ _ S]at this;cases this
 rintro fr L ⟨X,cv,M,l5,w5,nX,aX,ay⟩;simp only[Fj]at M;obtain⟨D,w,t,-⟩:=M;have bo:=ha.le Nn.isB (E.trans d);have la:=fun g=>ha.len (P:=Tryz.prog) qS26 g;have aD:=pl.le (lq.trans l5);refine Sk (Yb D w t) ?_;clear ae A0 Y I;refine aaa.intro (fun k fr S=>∃(c:Nat) (cur l:List Pr) (lw xv:Value),k=cur.length/\c+cur.length=es.length/\cur.Sublist es/\l=aaU ⟨(n:Int),cur⟩/\fr=mkF [(1,N),(5,lw),(9,.pointer (some ⟨X,0,none⟩)),(10,.int .i64 c)]/\PR S lw l/\Ct lw l.length/\GX S X (n:Int) xv cur/\Le a S/\Z2 a xv)
  es.length [(1,N),(5,U),(9,.pointer (some ⟨X,0,none⟩)),(10,.int .i64 (0:Nat))] (by simp only[Fj,HO,Nat.reduceLT,↓reduceIte,Nat.reduceEqDiff,reduceCtorEq,D,w,t];simp[D,w,t])
  ⟨0,es,F,U,cv,rfl,BS _,dr _,hF,rfl,aD,H,ay,l5,aX⟩ ?_
 clear D w t ay aX aD w5 l5 H pl;clear r a6 hF U cv fr L;rintro k fr S b5 ⟨c,cur,l,lw,xv,rfl,b6,R,hl,rfl,pl,H,GG,lz,az⟩;have aF:bX ⟨(n:Int),cur⟩:=hr.sub R;have Y:=fun g=>pl.len g;by_cases c0:0<l.length
 rotate_left
 .have dc : decide ((l.length : Int) > 0) = false := decide_eq_false NH
  have tc:((l.length:Int)>0)=False:=eq_false NH;have br:l=[]:=V3 NH;have J:aaf n cur:=(fnd_nil aF).1 (by rw[<-hl];exact br);refine Sk (xU Y dc tc GG.ld.1) ?_;refine TC.intro PJ ⟨YW,rfl,WY⟩ (aar C _ ⟨(n:Int),cur⟩ S GG.gr) ?_;rintro x h6 w6 ⟨⟨bb,rfl,p⟩,l6⟩;simp only[yY]at p;obtain rfl:bb=true:=p.2 ⟨aF,J⟩;refine Uy ?_;refine TC.intro PJ ⟨Tryz.func34,rfl,WY⟩ (abU C h6) ?_;rintro x h7 w7 ⟨rfl,l7⟩;refine Uy ?_;exact⟨trivial,(((E.trans d).trans lz).trans l6).trans l7⟩
 have dc:decide ((l.length:Int)>0)=true:=decide_eq_true NH;have tc:((l.length:Int)>0)=True:=eq_true NH;have bx:¬aaf n cur:=fun q=>by rw[hl,aci (G:=⟨(n:Int),cur⟩) q]at c0;simp at c0
 have aH:l.Sublist cur:=by rw[hl];exact(ach (G:=⟨(n:Int),cur⟩) bx).1
 have b2:l.length<=40:=VU aH.length_le (VU R.length_le NH);have b8:cur.length<=40:=VU R.length_le NH;have b3:∀kk:Nat,kk<l.length->∀{P:Prop},True:=fun _ _ _=>trivial;refine Sk (xU Y dc tc la) ?_;apply Ya (F:=fun(fr:lC) (L:AHeap)=>∃kk:Nat,Fj fr [(1,N),(5,lw),(9,.pointer (some ⟨X,0,none⟩)),(10,.int .i64 (c:Nat)),(11,.int .i64 kk)]/\kk<l.length/\L=S)
 .intro cont
  by_cases c1:c<xs.length
  .have d1 : decide ((c : Int) < (xs.length : Int)) = true := decide_eq_true NH
   have t1:((c:Int)<(xs.length:Int))=True:=eq_true NH;have bB:=ha.addr (P:=Tryz.prog) qS26 qS17 Ji (k:=.i64) c c1;obtain⟨x,bF,hx⟩:=(bo.le Nn.isB lz).load qS17 rfl c c1;obtain⟨rfl,o0,o1⟩:=hx;generalize xs[c]=x at*;obtain⟨kk,z,e1,e2⟩:=turn_k o0 c0 NH;have w1:=wrap_b o0 o1;have nz:¬(((l.length:Nat):Int)=0):=NH;simp only[qj,Nat.reduceLT,↓reduceIte,Nat.reduceEqDiff,reduceCtorEq,Nat.reduceBEq,Qg,la,d1,t1,bB,bF,aConvert,qS17,Mb,w1,Y,nz,e1,e2];refine KN.UJ fun fr' h' x y=>cont fr' h' ?_;subst x y;exact⟨kk,fD,z,rfl⟩
  .have d1 : decide ((c : Int) < (xs.length : Int)) = false := decide_eq_false NH
   have t1:((c:Int)<(xs.length:Int))=False:=eq_false NH;simp only[qj,Nat.reduceLT,↓reduceIte,Nat.reduceEqDiff,reduceCtorEq,Nat.reduceBEq,Qg,la,d1,t1];refine KN.UJ fun fr' h' x y=>cont fr' h' ?_;subst x y;exact⟨0,fD,c0,rfl⟩
 rintro fr L ⟨kk,M,z,rfl⟩;simp only[Fj]at M;obtain⟨D,w,t,A,s,-⟩:=M;have aJ:=pl.addr (k:=.i64) kk z;have bH:=pl.load (CA z);have aK:l[kk]∈cur:=aH.subset (Gw z);have bI:=GG.gp.pr;refine Sk (IX D w t A s) ?_;refine gh (tA [0,1,2,3,4,5] (JQ 6 [1,5] (tA [7] .done))) ?_;refine CO (xL @Di @Ip.eq_1 @BS GG.ld.2.2 aJ bH w t s) ?_;refine VA.intro PJ ⟨Tryz.func43,rfl,WY⟩ (adH C xv cur l[kk] L bI NH) ?_;rintro x h6 w6 ⟨⟨j,rfl,hj⟩|⟨-,q⟩,l6⟩
 rotate_left
 .exact absurd aK q
 have aP:j<cur.length:=(qL0.1 hj).1;have g6:=GG.le l6;obtain⟨v1,v2,v3,h7,h8,s1,s2,e7,e8,g8,w8,f8,bN⟩:=g6.cutK w6 aP NH;obtain⟨l8,a8⟩:=f8 a (lz.trans l6) nX az;have dj:decide ((j:Int)<0)=false:=decide_eq_false NH;have bQ:decide ((c:Int)>40)=false:=decide_eq_false NH;have bW:=Tw j NH;have bZ:=Tw c NH;have aT:=(pl.le l6).load (CA z);refine CO (xL @Di @Ip.eq_1 @BS g6.ld.2.2 aJ aT w t s) ?_;refine Sk (rE D w t A s dj bQ) ?_;refine gh (tA [0,1,2,3,4,5,6,7,8,9] (JQ 10 [4,9] (tA [11] (JQ 12 [0,1,2,3,4,5,6,7,8,9,10,11] .done)))) ?_;refine CO (aNd15 @Di @Ip.eq_1 @BS g6.ld.2.2 bN s1 s2 e7 e8 bW t D w A s) ?_;refine Sk (bG D w t A s g8.ld.1) ?_;refine TC.intro PJ ⟨Gs,rfl,WY⟩ (aaJ C _ ⟨(n:Int),cur.eraseIdx j⟩ h8 g8.gr) ?_;have T:=(Ah cur j).trans R;rintro x h9 w9 ⟨l9,⟨hn,-⟩|⟨-,lu,rfl,pu,b0⟩⟩
 .exact absurd (hr.sub T) hn
 have b9:(cur.eraseIdx j).length=cur.length-1:=by rw[WL,if_pos aP]
 refine Sk (acj @bne.eq_1.{0} D w t A s d0 bZ) ?_
 exact tn (cur.eraseIdx j).length [(1,N),(5,lu),(9,.pointer (some ⟨X,0,none⟩)),(10,.int .i64 (c+1:Nat))] NH (by simp only[Fj,HO,Nat.reduceLT,↓reduceIte,Nat.reduceEqDiff,reduceCtorEq,D,w,t,A,s];simp[D,t])
  ⟨c+1,cur.eraseIdx j,_,lu,v3,rfl,NH,T,rfl,rfl,pu,b0,g8.le l9,l8.trans l9,a8⟩
end
section
open Go.Proofs Go.ChangeShapes Go.WideShapes Go.RowKit Go.ChangeAt
open Go.Proofs.YtkccdnmaaelbiaaGreat
def abO (os:Os) (started:os.Started) (H:Type) (enc:TypeId×Value->H):
  ReturnsInHanded {} Tryz.checked os 10 .any (Rows.kuraLeastSpec.pre6 enc Tryz.prog Tryz.f10 Rows.kuraLeastRow.domain false) (Rows.kuraLeastSpec.post enc Tryz.prog Tryz.f10 false true false false):=by
 have own:ownKnob Tryz.prog.godebug=Option.none:=Ji;have laidOut:laidOutB Tryz.prog=true:=Ji;refine returnsInHanded_of_change (C:=Tryz.checked) own started Ji Tryz.func10
  (ChangeSpec.witness6 (enc:=enc) (C:=Tryz.checked) false ⟨#[],#[.agg #[.int .i64 0,.slice Option.none 0 0],.slice Option.none 0 0],[]⟩ 8 Ji Ji Ji Ji) ?_
 intro W base args ds gs before c u w _;have b:∀(j:Nat) t v,Tryz.f10.params[j]?=some t->args[j]?=some v->Value.okWide Tryz.prog W .any base t v:=c;have d:=u;obtain⟨p,q,i,B,rfl,D,E⟩:=u;have hA:DataW.TrodAll enc Tryz.prog W 0 (fun _=>true) true Tryz.f10.params.toList args.toList ds p:=i;rw[Tryz.params10]at hA b;obtain⟨k,L,M,N,F,O,a,rfl,rfl,z,hA⟩:=trodAll_cons hA;obtain⟨l,w1,d1,P,G,Q,rfl,rfl,rfl,A,hA⟩:=trodAll_cons hA;obtain⟨rfl,rfl,rfl⟩:=trodAll_nil hA;obtain rfl:args=#[k,l]:=by cases args;simp_all
 obtain⟨rfl,rfl⟩:=trodVars_none B;obtain⟨I,x0,m,n⟩:=ade (b 0 24 k rfl rfl) z (fun _=>⟨0,0,0⟩);obtain⟨u1,x1,o,r⟩:=ae6 (b 1 42 l rfl rfl) A (fun _=>⟨0,0,0⟩);refine(adJ (LA.of W) I u1 x0 x1 (MR W) n r [] (fun _=>⟨0,0,0⟩) W [k,l] (Rel.start W _) ?_).mono ?_
 .exact .cons m (.cons o ((.nil _ _)))
 .rintro e J ⟨x, x', S, h', rfl, R, -, -, K, rfl, -⟩
  obtain rfl:=K.YE;have hb:=R.below;have g:∀y∈F,y.block<W.heap.size:=fun y s=>d.lt y (by simp[s]);have h:∀y∈G,y.block<W.heap.size:=fun y s=>d.lt y (by simp[s]);have f:DataW.Trod enc Tryz.prog J W.heap.size (fun _=>false) false 4 (.bool true) (.lit (.bool true)) []:=⟨1,by simp[DataW.trod,Value.cells,eY]⟩;have a:=
   tcons (Below.trod laidOut Ji (of_decide_eq_true Ji) z hb g) (tcons (Below.trod laidOut Ji (of_decide_eq_true Ji) A hb h) (trodAll_mk0))
  try simp only[cJ,js]at a
  exact⟨_,rfl,_,_,_,[],_,[],d,trodAll_mk1 f,a,rfl,hb.frame _,fun e=>by cases e⟩
def kuraLeast_said:Rows.KuraLeastSaid:=
 OpenClaim.holds_of_wide 10 Tryz.f10 rfl rfl rfl rfl rfl rfl rfl ⟨rfl,rfl,rfl,rfl,rfl⟩ rfl rfl rfl rfl rfl Ji Tryz.func10 Ji
  (of_decide_eq_true Ji) (by unfold Func.isWrapper;first|(rw[if_pos iw];kernel_rfl)|(rw[if_neg iw];exact⟨rfl,rfl⟩))
  (fun os started H enc _=>abO os started H enc)
end
end Go.Fw
