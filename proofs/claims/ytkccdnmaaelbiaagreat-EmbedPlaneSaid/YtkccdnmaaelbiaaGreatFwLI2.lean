/- A text. -/
import Derived.Test.YtkccdnmaaelbiaaGreatFwLB14
set_option linter.all false
set_option maxRecDepth 99999
set_option maxHeartbeats 9999999
namespace Go.Fw
open Go.Proofs
attribute [local instance] Classical.propDecidable
def jX {l t:wi} (h:l≠[]):(l++t).headD 0=l.headD 0:=by
 cases l with
 |nil=>exact absurd rfl h
 |cons _ _=>rfl
structure BF (n start:Nat) (A:Nat->Prop) (B:Nat->Nat->Prop) (st:LF×wi):Prop where
 len:st.1.length=n
 nd:st.2.Nodup
 lt:∀v∈st.2,v<n/\v≠start
 mm:∀v,v<n->(v∈st.2↔0<=st.1.getD v 0)
 par:∀(k v:Nat),st.2[k]?=some v->(st.1.getD v 0=(start:Int)/\A v)\/∃j u:Nat,j<k/\st.2[j]?=some u/\st.1.getD v 0=(u:Int)/\B u v
section
variable {n start : Nat} {A : Nat → Prop} {B : Nat → Nat → Prop} {st : List Int × List Nat}
def BF.zero:BF n start A B (List.replicate n (-1),[]):=by
 refine⟨YX,YX,YX,fun v a=>?_,fun k v h=>by simp at h⟩;rw[OO,gG,if_pos a];simp
def BF.meet (W:BF n start A B st) {v by_:Nat} (f:v<n) (o:(by_=start/\A v)\/∃j:Nat,st.2[j]?=some by_/\B by_ v):
  BF n start A B (Cm start st v by_)/\(∃t,(Cm start st v by_).2=st.2++t)/\(v=start\/v∈(Cm start st v by_).2):=by
 unfold Cm;split
 .rename_i c
  obtain⟨c1,c2⟩:=c;have m:v∉st.2:=fun q=>by have:=(W.mm v f).1 q;omega
  refine⟨⟨by simp[W.len],?_,fun x g=>?_,fun x g=>?_,fun k x d=>?_⟩,⟨_,rfl⟩,.inr YX⟩
  .rw [KM]
   refine⟨W.nd,YX,fun a ha b hb e=>m ?_⟩;rw[<-Rb.1 hb,<-e];exact ha
  .rcases uK.1 g with h | h
   .exact W.lt x h
   .rw[Rb.1 h];exact⟨f,c1⟩
  .simp only
   rw[uK,Rb,Ao,W.len];by_cases e:x=v
   .subst e;simp[g]
   .rw[if_neg (fun q=>e q.1.symm),W.mm x g];simp[e]
  .simp only at d ⊢
   have hg:∀y,y∈st.2->(st.1.set v (by_:Int)).getD y 0=st.1.getD y 0:=fun y p=>by
    rw[Ao,if_neg (fun q=>m (by rw[q.1];exact p))]
   by_cases r:k<st.2.length
   .rw [US r] at d
    have s:=Jb d;rw[hg x s];rcases W.par k x d with h|⟨j,u,i,h2,h3⟩
    .exact .inl h
    .exact .inr ⟨j,u,i,by rw[US QT];exact h2,h3⟩
   .rw [kc QT] at d
    have l:=(bH.1 d).1;have:k-st.2.length=0:=by simpa using l
    rw[this]at d;simp at d;subst d;have w:(st.1.set v (by_:Int)).getD v 0=(by_:Int):=by rw[Ao,if_pos ⟨rfl,by rw[W.len];exact f⟩]
    rw[w];rcases o with⟨rfl,h⟩|⟨j,i,h2⟩
    .exact .inl ⟨rfl,h⟩
    .have z := (bH.1 i).1
     exact .inr ⟨j,by_,QT,by rw[US z];exact i,rfl,h2⟩
 .rename_i c
  refine⟨W,⟨[],YX⟩,?_⟩;by_cases e:v=start
  .exact .inl e
  .refine .inr ((W.mm v f).2 ?_)
   by_cases q:st.1.getD v 0<0
   .exact absurd ⟨e,q⟩ c
   .omega
def Fj {l t:wi} {v:Nat} {s:wi} (h:s=l++t) (a:v∈l):v∈s:=by rw[h];exact KF _ a
def Sb {l t:wi} {v k:Nat} {s:wi} (h:s=l++t) (a:l[k]?=some v):s[k]?=some v:=by
 rw[h,US (bH.1 a).1];exact a
def BF.row {v j:Nat}:∀(row:LF) {st:LF×wi},BF n start A B st->st.2[j]?=some v->(∀x∈row,∃w:Nat,x=(w:Int)/\w<n/\B v w)->
  BF n start A B (j7 start st v row)/\(∃t,(j7 start st v row).2=st.2++t)/\∀w:Nat,(w:Int)∈row->w=start\/w∈(j7 start st v row).2
 |[],st,W,_,_=>⟨W,⟨[],by simp[j7]⟩,fun w hw=>by cases hw⟩
 |x::row,st,W,b,c=>by
  obtain⟨w,rfl,hw,hB⟩:=c x YX;obtain⟨f,⟨t1,d⟩,m1⟩:=W.meet (v:=w) (by_:=v) hw (.inr ⟨j,b,hB⟩);obtain⟨g,⟨i,e⟩,m2⟩:=f.row row (Sb d b) (fun y a=>c y (by simp[a]));have k:j7 start st v ((w:Int)::row)=j7 start (Cm start st w v) v row:=rfl;rw[k];refine⟨g,⟨t1++i,by rw[e,d,Nd]⟩,fun y a=>?_⟩;rcases aH.1 a with h|h
  .have : y = w := QT
   subst this;exact m1.imp id fun h=>Fj e h
  .exact m2 y h
def BF.Ic:∀(bG:List Pr) {st:LF×wi},BF n start A B st->(∀e∈bG,(∃a b:Nat,e=((a:Int),(b:Int))/\a<n/\b<n)/\(∀w:Nat,(e=((start:Int),(w:Int))\/e=((w:Int),(start:Int)))->A w))->
  BF n start A B (bG.foldl (ye start) st)/\(∃t,(bG.foldl (ye start) st).2=st.2++t)/\∀e∈bG,∀w:Nat,(e=((start:Int),(w:Int))\/e=((w:Int),(start:Int)))->w≠start->w∈(bG.foldl (ye start) st).2
 |[],st,W,_=>⟨W,⟨[],YX⟩,fun e g=>by cases g⟩
 |e::bG,st,W,g=>by
  obtain⟨⟨a,b,rfl,ha,hb⟩,hA⟩:=g e YX;have s1:BF n start A B (ye start st ((a:Int),(b:Int)))/\(∃t,(ye start st ((a:Int),(b:Int))).2=st.2++t)/\∀w:Nat,((((a:Int),(b:Int)):Pr)=((start:Int),(w:Int))\/(((a:Int),(b:Int)):Pr)=((w:Int),(start:Int)))->w≠start->w∈(ye start st ((a:Int),(b:Int))).2:=by
   unfold ye;simp only[TK];split
   .rename_i c
    have c':a=start:=QT;subst c';obtain⟨f,i,m1⟩:=W.meet (v:=b) (by_:=a) hb (.inl ⟨rfl,hA b (.inl rfl)⟩);refine⟨f,i,fun w hw d=>?_⟩;rcases hw with h|h
    .have : b = w := by have := congrArg Prod.snd h; simp at this; omega
     subst this;exact m1.resolve_left d
    .have : a = w := by have := congrArg Prod.fst h; simp at this; omega
     exact absurd this.symm d
   .split
    .rename_i k c
     have c':b=start:=QT;subst c';obtain⟨f,i,m1⟩:=W.meet (v:=a) (by_:=b) ha (.inl ⟨rfl,hA a (.inr rfl)⟩);refine⟨f,i,fun w hw d=>?_⟩;rcases hw with h|h
     .have : a = b := by have := congrArg Prod.fst h; simp at this; omega
      exact absurd QT k
     .have : a = w := by have := congrArg Prod.fst h; simp at this; omega
      subst this;exact m1.resolve_left d
    .rename_i k c1
     refine⟨W,⟨[],YX⟩,fun w hw d=>?_⟩;rcases hw with h|h
     .have:=congrArg Prod.fst h;simp at this;omega
     .have:=congrArg Prod.snd h;simp at this;omega
  obtain⟨f,⟨t1,m⟩,m1⟩:=s1;obtain⟨o,⟨p,l⟩,m2⟩:=f.Ic bG (fun x j=>g x (by simp[j]));rw[kT];refine⟨o,⟨t1++p,by rw[l,m,Nd]⟩,fun x j w hw d=>?_⟩;rcases aH.1 j with rfl|h
  .exact Fj l (m1 w hw d)
  .exact m2 x h w hw d
def BF.BX (W:BF n start A B st):st.2.length<=n:=by
 have:=Jz W.nd (B:=List.range n) fun v a=>vq.2 (W.lt v a).1;simpa using this
def BF.trace (W:BF n start A B st):∀(fuel k v:Nat),k<fuel->st.2[k]?=some v->
  ∃L:wi,traceM st.1 start fuel v=start::(L++[v])/\(∀x∈L,∃j:Nat,j<k/\st.2[j]?=some x/\∃y,B x y)/\L.Nodup/\A ((L++[v]).headD 0)/\∀(i x y:Nat),(L++[v])[i]?=some x->(L++[v])[i+1]?=some y->B x y
 |0,k,v,h,_=>absurd h (kS _)
 |fuel+1,k,v,h,g=>by
  have p:=W.lt v (Jb g);have l:traceM st.1 start (fuel+1) v=traceM st.1 start fuel (st.1.getD v 0).toNat++[v]:=by rw[traceM,if_neg p.2]
  rcases W.par k v g with⟨d,h2⟩|⟨j,u,d,h2,h3,m⟩
  .refine ⟨[], ?_, fun x a => absurd a RF, YX, h2, fun i x y a b => ?_⟩
   .rw [l, d]
    have:traceM st.1 start fuel (start:Int).toNat=[start]:=by
     cases fuel with
     |zero=>rfl
     |succ f=>rw[traceM,if_pos YX]
    rw[this];rfl
   .have := (bH.1 b).1
    simp at this
  .obtain ⟨L, r, o, nL, hA, ch⟩ := W.trace fuel j u QT h2
   refine⟨L++[u],?_,fun x a=>?_,?_,?_,fun i x y a b=>?_⟩
   .rw[l,h3,TK,r];simp
   .rcases uK.1 a with q | q
    .obtain ⟨i, s, c, t⟩ := o x q
     exact⟨i,QT,c,t⟩
    .rw[Rb.1 q];exact⟨j,d,h2,v,m⟩
   .rw [KM]
    refine⟨nL,YX,fun x a y b e=>?_⟩;obtain⟨i,s,c,_⟩:=o x a;rw[e,Rb.1 b]at c;have:=yQ W.nd c h2;omega
   .rw[jX YX];exact hA
   .by_cases q : i + 1 < (L ++ [u]).length
    .rw [US QT] at a
     rw[US q]at b;exact ch i x y a b
    .have w := (bH.1 b).1
     simp at w q;have hi:i=L.length:=QT;subst hi;rw[Nd,kc (J4 _)]at a;rw[Nd,kc QT]at b;simp at a b;subst a b;exact m
end
end Go.Fw
namespace Go.Fw
open Go.Proofs
attribute [local instance] Classical.propDecidable
def SR {a b:Nat} (h:a<b):pe a b=((a:Int),(b:Int)):=by unfold pe;rw[Int.min_eq_left QT,Int.max_eq_right QT]
def Az {a b:Nat} (h:b<a):pe a b=((b:Int),(a:Int)):=by rw[Ug,SR h]
def iI {es:List Pr} {a b:Nat} (c:a≠b) (h:pe a b∈es):xA es a b:=by
 rcases lQ c with k|k
 .rw[SR k]at h;exact .inl h
 .rw[Az k]at h;exact .inr h
section
variable {n start : Nat} {es : List Pr} {on : List Bool} {A : Nat → Prop} {s0 : List Int × List Nat}
def EC (hR:I7 n es) (W:BF n start A (fun u v=>xA es u v/\qt on u=false) s0):∀i,(∀j,j<i->Ev (Oc n es) on start s0 j=false)->
  BF n start A (fun u v=>xA es u v/\qt on u=false) (bfsM (Oc n es) start s0 i)/\(∃t,(bfsM (Oc n es) start s0 i).2=s0.2++t)/\
   ∀j,j<i->∃u:Nat,(bfsM (Oc n es) start s0 i).2[j]?=some u/\qt on u=false/\∀w,xA es u w->w=start\/w∈(bfsM (Oc n es) start s0 i).2
 |0,_=>⟨W,⟨[],by simp[bfsM]⟩,fun j c=>absurd c (kS _)⟩
 |i+1,hs=>by
  obtain⟨f,⟨t1,g⟩,c1⟩:=EC hR W i fun j c=>hs j QT;have hi:=hs i QT;unfold Ev at hi;cases a:(bfsM (Oc n es) start s0 i).2[i]? with
  |none=>rw[a]at hi;cases hi
  |some v=>
   rw[a]at hi;have k:bfsM (Oc n es) start s0 (i+1)=j7 start (bfsM (Oc n es) start s0 i) v ((Oc n es).getD v []):=by rw[bfsM,a]
   rw[k];obtain⟨l,⟨m,b⟩,c2⟩:=f.row ((Oc n es).getD v []) a (fun x d=>by
    obtain⟨w,rfl,hw⟩:=iz hR d;exact⟨w,rfl,hw,(M8 hR v w).1 d,hi⟩)
   refine⟨l,⟨t1++m,by rw[b,g,Nd]⟩,fun j c=>?_⟩;by_cases e:j=i
   .subst e
    exact⟨v,Sb b a,hi,fun w hw=>c2 w ((M8 hR v w).2 hw)⟩
   .obtain ⟨u, o, h2, h3⟩ := c1 j QT
    exact⟨u,Sb b o,h2,fun w hw=>(h3 w hw).imp id fun h=>Fj b h⟩
def R8 (hR:I7 n es) {p:Lb} (hf:2<=p.Xt.length) (hs:(p.Xt.headD 0).toNat=start) (P:start<n) (H:∀e∈p.bG,e∈es):
    (∃inn b,iY n (Oc n es) on p=ZR start inn b/\(ZR start inn b).Nodup/\b<n/\qt on b=true/\(∀x∈inn,qt on x=false)/\pe start ((inn++[b]).headD 0)∈p.bG/\
      ∀(i x y:Nat),(ZR start inn b)[i]?=some x->(ZR start inn b)[i+1]?=some y->xA es x y)\/
    (iY n (Oc n es) on p=[]/\∃M:wi,(∀w,pe start w∈p.bG->w≠start->w∈M)/\∀u∈M,u≠start/\qt on u=false/\∀w,xA es u w->w=start\/w∈M):=by
  have I:=(BF.zero (n:=n) (start:=start) (A:=fun w=>pe start w∈p.bG) (B:=fun u v=>xA es u v/\qt on u=false)).Ic p.bG fun e F=>by
    have G:=hR e (H e F);obtain⟨a,ea⟩:=RT G.1;obtain⟨b,eb⟩:=RT (show 0<=e.2 by omega);have Q:e=((a:Int),(b:Int)):=X9 ea eb;refine⟨⟨a,b,Q,QT,QT⟩,fun w hw=>?_⟩;rcases hw with h|h
    .rw[SR (by have:=G.2.1;rw[h]at this;simp at this;omega),<-h];exact F
    .rw[Az (by have:=G.2.1;rw[h]at this;simp at this;omega),<-h];exact F
  have z:p.bG.foldl (ye start) (List.replicate n (-1),[])=Hs n start p.bG:=rfl;rw[z]at I;obtain⟨J,-,m0⟩:=I
  have wd:iY n (Oc n es) on p=match(List.range (n+1)).find? (Ev (Oc n es) on start (Hs n start p.bG))with
      |some i=>match(bfsM (Oc n es) start (Hs n start p.bG) i).2[i]? with
        |some v=>traceM (bfsM (Oc n es) start (Hs n start p.bG) i).1 start n v
        |none=>[]
      |none=>[]:=by
    unfold iY;rw[if_neg QT,hs]
    try rfl
  rw[wd];cases c:(List.range (n+1)).find? (Ev (Oc n es) on start (Hs n start p.bG))with
  |none=>
    exfalso;rw[vH]at c;have R:∀j,j<n+1->Ev (Oc n es) on start (Hs n start p.bG) j=false:=fun j s=>by
      have:=c j (vq.2 s);simpa using this
    obtain⟨g,-,c2⟩:=EC hR J (n+1) R;obtain⟨u,C,-⟩:=c2 n QT;have h2:=(bH.1 C).1;have:=g.BX;omega
  |some i=>
    rw[U0]at c;obtain⟨C,h2,h3⟩:=c;obtain⟨g,⟨t,S⟩,c2⟩:=EC hR J i fun j s=>by simpa using h3 j s
    cases l:(bfsM (Oc n es) start (Hs n start p.bG) i).2[i]? with
    |none=>
      refine .inr ⟨by simp only[l],(bfsM (Oc n es) start (Hs n start p.bG) i).2,fun w hw m=>?_,fun u K=>?_⟩
      · refine Fj S ?_
        rcases lQ m with k|k
        .exact m0 _ hw w (.inr (Az k)) m
        .exact m0 _ hw w (.inl (SR k)) m
      · obtain ⟨j, s⟩ := OH.1 K
        have X:=xz.1 l;have T:=(bH.1 s).1;obtain⟨u',o,U,V⟩:=c2 j QT;rw[s]at o;injection o with o;subst o;exact⟨(g.lt u K).2,U,V⟩
    |some v=>
      have N:qt on v=true:=by
        unfold Ev at C;rw[l]at C;exact C
      have hi:i<n:=by
        have:=(bH.1 l).1;have:=g.BX;omega
      obtain⟨L,W,O,nL,hA,ch⟩:=g.trace n i v hi l;have r:=g.lt v (Jb l);have f:∀x∈L,qt on x=false:=fun x d=>by obtain⟨j,_,_,y,q⟩:=O x d;exact q.2
      have D:∀x∈L,x≠start:=fun x d=>by obtain⟨j,_,q,_⟩:=O x d;exact(g.lt x (Jb q)).2
      refine .inl ⟨L,v,by simp only[l];exact W,?_,r.1,N,f,hA,fun k x y d E=>?_⟩
      · rw [ZR, tS, uK, Rb, KM]
        refine⟨fun q=>q.elim (fun q=>D _ q rfl) fun q=>r.2 q.symm,nL,YX,fun x d y E e=>?_⟩;have o:=f x d;rw[e,Rb.1 E,N]at o;cases o
      · cases k with
        |zero=>
          have k1:=d.symm.trans (W3 start v L).1;have k2:=E.symm.trans (W3 start v L).2;injection k1 with k1;injection k2 with k2;rw[k1,k2];refine iI (fun e=>?_) (H _ hA);have:(L++[v]).headD 0∈L++[v]:=zx;rw[<-e,uK,Rb]at this;exact this.elim (fun q=>D _ q rfl) fun q=>r.2 q.symm
        |succ k=>
          have e:ZR start L v=start::(L++[v]):=rfl;rw[e,pF]at d E;exact(ch k x y d E).1
end
end Go.Fw
namespace Go.Fw
section
attribute [local instance] Classical.propDecidable
open Go.Proofs
variable {A B f:wi} {a b i m s t:Nat}
def Xo (nd:f.Nodup) {k v:Nat} (h:f[k]?=some v):OU f v=k:=by
 obtain⟨b,e⟩:=bH.1 h;unfold OU;rw[List.findIdx_eq b];refine⟨by simp[e],fun j c=>?_⟩;have a:j<f.length:=QT;simp only[decide_eq_false_iff_not];intro q;have:=yQ nd (dR a) (by rw[h,q]);omega
def p8 {f g:wi} {t:wi} (h:Cyc f g) (e:g=a::t):∃u v,f=u++a::v/\g=(a::v)++u:=by
 obtain⟨u,v,rfl,rfl⟩:=h;cases v with
 |nil=>
  simp at e;subst e;exact⟨[],t,YX,YX⟩
 |cons x v=>
  injection e with b c;subst b;exact⟨u,v,rfl,rfl⟩
def rot_get {u v:wi} (f:t<(u++v).length) (g:v≠[]):(v++u)[t]?=some ((u++v).getD ((u.length+t)%(u++v).length) 0):=by
 have h:0<v.length:=Ux.2 g;rw[Vw]at f;have d:(u++v).length=u.length+v.length:=Vw;by_cases c:t<v.length
 .have a : (u.length + t) % (u ++ v).length = u.length + t := by rw [d]; exact bR QT
  have b:(v++u)[t]?=v[t]?:=US c;have h2:(u++v)[u.length+t]?=v[t]?:=by rw[kc QT,GF]
  rw[a,OO,b,h2,dR c];rfl
 .have e : u.length + t = (t - v.length) + (u.length + v.length) := QT
  have a:(u.length+t)%(u++v).length=t-v.length:=by rw[d,e,Fa,bR QT]
  have l1:t-v.length<u.length:=QT;have b:(v++u)[t]?=u[t-v.length]?:=kc QT;have h2:(u++v)[t-v.length]?=u[t-v.length]?:=US l1;rw[a,OO,b,h2,dR l1];rfl
def ez (hi:i<m) (hs:s<m):((i+s)%m+m-i)%m=s:=by
 by_cases c:i+s<m
 .rw[bR c,show i+s+m-i=s+m from by omega,Fa,bR hs]
 .have : (i + s) % m = i + s - m := by rw [Nat.mod_eq_sub_mod QT, bR QT]
  rw[this,show i+s-m+m-i=s from by omega,bR hs]
def GA (nd:f.Nodup) (cy:Cyc f ((a::A)++(b::B))):r9 f (OU f a) (OU f b)=a::(A++[b]):=by
 obtain⟨u,v,g,h⟩:=p8 cy rfl;have i:((a::A)++(b::B)).length=f.length:=(cy.perm.length_eq).symm;have hi:OU f a=u.length:=Xo nd (by rw[g,kc (J4 _)];simp);have d:f.length=(u++a::v).length:=by rw[g]
 have j:u.length<f.length:=by rw[d,Vw,jD];omega
 have get:∀t,t<f.length->((a::A)++(b::B))[t]?=some (f.getD ((u.length+t)%f.length) 0):=fun t k=>by
  rw[h,g];exact rot_get (by rw[<-d];exact k) YX
 have sl:A.length+1<f.length:=by rw[<-i,Vw,jD,jD];omega
 have gb:=get (A.length+1) sl;rw[kc YX,jD,iE,WJ]at gb;injection gb with gb;have l:=JH (u.length+(A.length+1)) (show 0<f.length by omega);have m:OU f b=(u.length+(A.length+1))%f.length:=by
  refine Xo nd ?_;rw[gb,OO,dR l];rfl
 unfold r9;rw[hi,m,ez j sl];have e:a::(A++[b])=((a::A)++(b::B)).take (A.length+1+1):=by
  rw[List.take_append,xV YX];simp[show A.length+1+1-(A.length+1)=1 from by omega]
 rw[e];apply Lc;intro t;rw[Rv];by_cases c:t<A.length+1+1
 .rw[bp c,qL233 c,get t QT];rfl
 .rw[Tz (by simp;omega),Tz (by simp;omega)];rfl
def cyc_two (ha:a∈f) (hb:b∈f) (d:a≠b):∃A B,Cyc f ((a::A)++(b::B)):=by
 obtain⟨c,g⟩:=Cyc.front ha;have:b∈a::c:=g.perm.mem_iff.1 hb;obtain⟨A,B,e,_⟩:=PH ((aH.1 this).resolve_left fun e=>d e.symm);exact⟨A,B,by rw[e]at g;exact g⟩
def pZ (a b:Nat) (inn:wi):wm (ZR a inn b)=inn/\Mh (ZR a inn b)=b/\(ZR a inn b).headD 0=a:=by
 refine⟨?_,?_,rfl⟩
 .unfold wm
  rw[OQ];show((inn++[b]).take (inn.length+2-2))=inn;simp
 .unfold Mh
  rw[OO,OQ,show inn.length+2-1=inn.length+1 from rfl,(YS a b inn).1];rfl
def wD {f A B inn:wi} (nd:f.Nodup) (cy:Cyc f ((a::A)++(b::B))):
  BW f (ZR a inn b)=half a A b inn/\uC f (ZR a inn b)=half b B a inn.reverse:=by
 obtain⟨c,d,e⟩:=pZ a b inn;unfold BW uC half;rw[c,d,e,GA nd cy,GA nd cy.shift];simp
def set_perm {F:ai} {f:Nat} {qZ one:wi} (h:F[f]?=some qZ) (nd:F.Nodup):(F.set f one).Perm (one::F.erase qZ):=by
 obtain⟨hf,e⟩:=bH.1 h;have b:F=F.take f++qZ::F.drop (f+1):=by rw[<-e,<-BG hf,aV]
 have c:qZ∉F.take f:=fun q=>by
  obtain⟨i,hi⟩:=OH.1 q;have a:=(bH.1 hi).1;rw[Ja]at a;rw[qL233 QT]at hi;have d:i<F.length:=QT;have h2:F[i]=F[f]:=by
   rw[dR d]at hi;injection hi with hi;rw[hi,e]
  have:=(Iv nd).1 h2;omega
 have g:F.erase qZ=F.take f++F.drop (f+1):=by
  conv=>lhs;rw[b]
  rw[Z3 _ c,Zd]
 have j:F.set f one=F.take f++one::F.drop (f+1):=by rw[List.set_eq_take_append_cons_drop,if_pos hf]
 rw[g,j];exact List.perm_middle
variable {L:LF} {e:Pr} {es web:List Pr} {fr:Pr->Nat->Int} {j n:Nat} {on:Nat->Bool} {α:Type}
def Wo {l:List α} (nd:l.Nodup) {x:α} (hi:l[i]?=some x) (a:l[j]?=some x):i=j:=by
 obtain⟨d,b⟩:=bH.1 hi;obtain⟨h2,c⟩:=bH.1 a;exact(Iv nd).1 (b.trans c.symm)
structure GrpE (es:List Pr) (P:Pr->Prop) (same:Pr->Pr->Prop) (gs:List (List Pr)):Prop where
 ne:∀g∈gs,g≠[]
 sub:∀g∈gs,g.Sublist es
 inP:∀g∈gs,∀e∈g,P e
 cov:∀e∈es,P e->∃g∈gs,e∈g
 eX:gs.Pairwise fun g g'=>∀e∈g,e∉g'
 one:∀g∈gs,∀e∈g,∀e'∈es,P e'->(e'∈g↔same e e')
def tD {n:Nat} {same:Pr->Pr->Prop} (nd:es.Nodup)
  (h:∀(j d:Nat) e e',es[j]?=some e->es[d]?=some e'->e∉web->e'∉web->(fr e j=fr e' d↔same e e')):
  GrpE es (fun e=>e∉web) same ((grpsM fr es web es.length).map (·.2)):=by
 obtain⟨s,c,-,-,-⟩:=RW fr es web es.length;have o:(grpsM fr es web es.length).map (·.2)=(sK (grpsM fr es web es.length)).map fun k=>fullU fr es web k es.length:=by
  rw[CU (fun l=>l) _ s];refine vG fun k _=>?_;rw[Ty]
 have a:∀k q,q∈fullU fr es web k es.length↔∃j:Nat,es[j]?=some q/\q∉web/\fr q j=k:=fun k q=>by
  rw[xu];constructor
  .rintro⟨j,_,b⟩;exact⟨j,b⟩
  .rintro⟨j,b,h2⟩;exact⟨j,(bH.1 b).1,b,h2⟩
 refine⟨fun g hg=>?_,fun g hg=>?_,fun g hg e f=>?_,fun e f hw=>?_,?_,fun g hg e f e' i hw=>?_⟩
 .obtain ⟨t, b, rfl⟩ := T8.1 hg
  exact c t b
 .rw [o] at hg
  obtain⟨k,_,rfl⟩:=T8.1 hg;have:=zU fr es web k es.length;rwa[Cp]at this
 .rw [o] at hg
  obtain⟨k,_,rfl⟩:=T8.1 hg;obtain⟨j,_,h2,_⟩:=(a k e).1 f;exact h2
 .obtain ⟨j, u⟩ := OH.1 f
  have p:e∈fullU fr es web (fr e j) es.length:=(a _ _).2 ⟨j,u,hw,rfl⟩;have v:fr e j∈sK (grpsM fr es web es.length):=by
   rw[SO c,Ty];exact fun q=>by rw[q]at p;cases p
  exact⟨_,by rw[o];exact T8.2 ⟨_,v,rfl⟩,p⟩
 .rw [o, UB]
  refine s.imp fun{k w} c e f i=>c ?_;obtain⟨j,b,_,h3⟩:=(a k e).1 f;obtain⟨d,m,_,r⟩:=(a w e).1 i;have:=Wo nd b m;subst this;exact h3.symm.trans r
 .rw [o] at hg
  obtain⟨k,_,rfl⟩:=T8.1 hg;obtain⟨j,b,h2,h3⟩:=(a k e).1 f;constructor
  .intro q
   obtain⟨d,m,x,r⟩:=(a k e').1 q;exact(h j d e e' b m h2 x).1 (h3.trans r.symm)
  .intro q
   obtain⟨d,m⟩:=OH.1 i;exact(a k e').2 ⟨d,m,hw,by rw[<-h3];exact((h j d e e' b m h2 hw).2 q).symm⟩
def tN (on:Nat->Bool) (es:List Pr) (e e':Pr):Prop:=
 e=e'\/∃a b:Nat,((a:Int)=e.1\/(a:Int)=e.2)/\((b:Int)=e'.1\/(b:Int)=e'.2)/\on a=false/\on b=false/\Cn on es a b
def O0 (hR:I7 n es) (c:e∈es):∃a b:Nat,e=((a:Int),(b:Int))/\a<b/\b<n:=by
 obtain⟨d,h2,h3⟩:=hR e c;obtain⟨a,ea⟩:=RT d;obtain⟨b,eb⟩:=RT (show 0<=e.2 by omega);exact⟨a,b,X9 ea eb,QT,QT⟩
def jg (hR:I7 n es) (nd:es.Nodup) (I:Sr n on es L) {j s:Nat} {e e':Pr} (t:es[j]?=some e) (f:es[s]?=some e'):
  qL n on L e j=qL n on L e' s↔tN on es e e':=by
 obtain⟨a,b,rfl,E,hb⟩:=O0 hR (Jb t);obtain⟨c,d,rfl,z,J⟩:=O0 hR (Jb f);have P:=(show xA es a b from .inl (Jb t));have K:=(show xA es c d from .inl (Jb f));have val:∀v,v<n->on v=false->∃k:Nat,k<n/\L.getD v 0=(k:Int):=fun v Q R=>by
  obtain⟨k,q,h2,_⟩:=I.off v Q R;exact⟨k,q,by rw[OO,h2];rfl⟩
 have same:∀u w,u<n->w<n->on u=false->on w=false->(L.getD u 0=L.getD w 0↔Cn on es u w):=fun u w i hw l m=>kG I i hw l m;have key:∀(a b j:Nat),a<b->b<n->xA es a b->(qL n on L ((a:Int),(b:Int)) j=(n:Int)+j/\on a=true/\on b=true)\/
   ∃x,(x=a\/x=b)/\x<n/\on x=false/\qL n on L ((a:Int),(b:Int)) j=L.getD x 0/\∀y,(y=a\/y=b)->on y=false->Cn on es x y:=fun a b j q h2 A=>by
  unfold qL;simp only[TK];cases D:on a with
  |false=>
   rw[if_pos rfl];refine .inr ⟨a,.inl rfl,QT,D,rfl,fun y o g=>?_⟩;rcases o with rfl|rfl
   .exact .refl D
   .exact .step (.refl D) A g
  |true=>
   rw[if_neg YX];cases M:on b with
   |false=>
    rw[if_pos rfl];refine .inr ⟨b,.inr rfl,h2,M,rfl,fun y o g=>?_⟩;rcases o with rfl|rfl
    .rw[D]at g;cases g
    .exact .refl M
   |true=>rw[if_neg YX];exact .inl ⟨rfl,rfl,rfl⟩
 rcases key a b j E hb P with⟨k1,k2,F⟩|⟨x,S,N,ox,k1,k2⟩
 .rcases key c d s z J K with ⟨p, r, G⟩ | ⟨y, o, H, g, p, r⟩
  .rw [k1, p]
   constructor
   .intro h
    have:j=s:=QT;subst this;rw[t]at f;injection f with f;exact .inl f
   .rintro (h | ⟨u, w, i, _, l, _⟩)
    .rw [h] at t
     rw[Wo nd t f]
    .simp only at i
     rcases i with i|i
     .have : u = a := QT
      subst this;rw[k2]at l;cases l
     .have : u = b := QT
      subst this;rw[F]at l;cases l
  .rw [k1, p]
   obtain⟨k,q,h2⟩:=val y H g;rw[h2];constructor
   .intro h;omega
   .rintro (h | ⟨u, w, i, _, l, _⟩)
    .injection h with h3 O
     have B:a=c:=QT;have C:b=d:=QT;subst B C;rcases o with rfl|rfl
     .rw[k2]at g;cases g
     .rw[F]at g;cases g
    .simp only at i
     rcases i with i|i
     .have : u = a := QT
      subst this;rw[k2]at l;cases l
     .have : u = b := QT
      subst this;rw[F]at l;cases l
 .rcases key c d s z J K with ⟨p, r, G⟩ | ⟨y, o, H, g, p, r⟩
  .rw [k1, p]
   obtain⟨k,q,h2⟩:=val x N ox;rw[h2];constructor
   .intro h;omega
   .rintro (h | ⟨u, w, _, hw, _, m, _⟩)
    .injection h with h3 O
     have B:a=c:=QT;have C:b=d:=QT;subst B C;rcases S with rfl|rfl
     .rw[r]at ox;cases ox
     .rw[G]at ox;cases ox
    .simp only at hw
     rcases hw with hw|hw
     .have : w = c := QT
      subst this;rw[r]at m;cases m
     .have : w = d := QT
      subst this;rw[G]at m;cases m
  .rw [k1, p, same x y N H ox g]
   constructor
   .intro h
    refine .inr ⟨x,y,?_,?_,ox,g,h⟩
    .simp only;omega
    .simp only;omega
   .rintro (h | ⟨u, w, i, hw, l, m, T⟩)
    .injection h with h3 O
     have B:a=c:=QT;have C:b=d:=QT;subst B C;exact k2 y o g
    .simp only at i hw
     have q:=k2 u QT l;have h2:=r w QT m;exact(q.trans T).trans h2.symm
def TB:Sr n on es (ZB n on es):=by
 have look:∀u,u<n->on u=false->∃k:Nat,k<n/\(ZB n on es)[u]?=some (k:Int)/\Cn on es k u/\(List.range n).find? (fun x=>decide (Cn on es x u))=some k:=fun u a d=>by
  cases hf:(List.range n).find? (fun x=>decide (Cn on es x u))with
  |none=>
   rw[vH]at hf;exact absurd (decide_eq_true (Cn.refl (es:=es) d)) (hf u (vq.2 a))
  |some k=>
   have b:=aaS hf;have h2:=vq.1 (qL227 hf);refine⟨k,h2,?_,of_decide_eq_true b,rfl⟩;unfold ZB;rw[Rv,bp a];simp only[pD];rw[hf];rfl
 refine⟨by simp[ZB],fun u a d=>?_,fun u w a hw f g=>?_⟩
 .obtain ⟨k, b, h2, h3, _⟩ := look u a d
  exact⟨k,b,h2,h3⟩
 .obtain ⟨k, b, h2, h3, c⟩ := look u a f
  obtain⟨l,o,i,j,m⟩:=look w hw g;rw[h2,i];constructor
  .intro e
   injection e with e;have:k=l:=QT;subst this;exact h3.symm.trans j
  .intro h
   have:(fun x=>decide (Cn on es x u))=fun x=>decide (Cn on es x w):=by
    funext x;rw[decide_eq_decide];exact⟨fun q=>q.trans h,fun q=>q.trans h.symm⟩
   rw[this,m]at c;injection c with c;rw[c]
end
end Go.Fw
namespace Go.Fw
open Go.Proofs
attribute [local instance] Classical.propDecidable
abbrev eN (n:Nat) (es:List Pr):Nat->wi:=Yg (Oc n es)
def eH (n:Nat) (es:List Pr):Kk n es (Oc n es):=⟨XM n es,fun v _=>List.Perm.refl _⟩
def Un (R:Nat->wi) (H:Nat->Nat->Prop) (v w:Nat):Prop:=w∈R v/\¬H v w
section
variable {n : Nat} {es : List Pr} {H : Nat → Nat → Prop} {F : List (List Nat)} {p : Lb}
def Jq (hR:I7 n es) {v w:Nat}:w∈eN n es v↔xA es v w:=(eH n es).mem hR
def sL (hR:I7 n es) (hA:BD es):ZJ n (eN n es):=(eH n es).Tw hR hA
def Un.sym {R:Nat->wi} (a:ZJ n R) (hs:∀v w,H v w->H w v) {v w:Nat} (h:Un R H v w):Un R H w v:=⟨a.sy _ _ h.1,fun q=>h.2 (hs _ _ q)⟩
def un_in (hR:I7 n es) {v w:Nat} (h:Un (eN n es) H v w):pe v w∈es:=Pq hR ((Jq hR).1 h.1)
def Fg {a b x y:Nat} (h:pe a b=pe x y):(a=x/\b=y)\/(a=y/\b=x):=by
 rw[iD,iD]at h;injection h with c h2;omega
def QZ {v w:Nat} {e:Pr} (h:e=pe v w) (a:Nat):((a:Int)=e.1\/(a:Int)=e.2)↔a=v\/a=w:=by
 rw[h,iD];simp only;omega
structure Hl (n:Nat) (es:List Pr) (H:Nat->Nat->Prop) (F:ai) (p:Lb):Prop where
 ne:p.bG≠[]
 sub:p.bG.Sublist es
 un:∀v w:Nat,pe v w∈p.bG->¬H v w
 one:∀v w x y:Nat,Un (eN n es) H v w->Un (eN n es) H x y->pe v w∈p.bG->(pe x y∈p.bG↔Jc (eN n es) H x y=Jc (eN n es) H v w)
 Xt:∀u:Nat,(u:Int)∈p.Xt↔¬off (eN n es) H u/\∃w,Un (eN n es) H u w/\pe u w∈p.bG
 nat:∀x∈p.Xt,0<=x
 fnd:p.Xt.Nodup
 fits:∀i,i∈p.fits↔i<F.length/\∀x∈p.Xt,x.toNat∈F.getD i []
 tnd:p.fits.Nodup
def Hl.fj (P:Hl n es H F p) (hR:I7 n es) {e:Pr} (d:e∈p.bG):∃v w,e=pe v w/\v<w/\Un (eN n es) H v w:=by
 obtain⟨a,b,rfl,c,hb⟩:=O0 hR (P.sub.subset d);have f:((a:Int),(b:Int))=pe a b:=(SR c).symm;exact⟨a,b,f,c,(Jq hR).2 (.inl (P.sub.subset d)),P.un a b (by rw[<-f];exact d)⟩
def Hl.Pg (P:Hl n es H F p) (hR:I7 n es) {v w:Nat} (h:pe v w∈p.bG):Un (eN n es) H v w:=by
 refine⟨(Jq hR).2 ?_,P.un v w h⟩;have a:=P.sub.subset h;obtain⟨b,h2,_⟩:=hR _ a;refine iI (fun e=>?_) a;subst e;rw[iD]at h2;simp only[Nat.min_self,Nat.max_self]at h2;omega
def Hl.key (P:Hl n es H F p) (hR:I7 n es) {v w x y:Nat} (h:pe v w∈p.bG) (h':pe x y∈p.bG):Jc (eN n es) H x y=Jc (eN n es) H v w:=
 (P.one v w x y (P.Pg hR h) (P.Pg hR h') h).1 h'
def Hl.HL (P:Hl n es H F p) (hR:I7 n es) {u x:Nat} (h:pe u x∈p.bG) {f:wi}:Fits (eN n es) H (Jc (eN n es) H u x) f↔∀y∈p.Xt,y.toNat∈f:=by
 constructor
 .intro q y c
  obtain⟨t,rfl⟩:=RT (P.nat y c);obtain⟨b,w,h2,h3⟩:=(P.Xt t).1 c;rw[TK];exact q t w ⟨b,h2.1,h2.2⟩ (P.key hR h h3)
 .intro q z y a d
  have b:=(P.one u x z y (P.Pg hR h) ⟨a.mem,a.nh⟩ h).2 d;have:=q z ((P.Xt z).2 ⟨a.on,y,⟨a.mem,a.nh⟩,b⟩);rwa[TK]at this
def Hl.sS (P:Hl n es H F p) (hR:I7 n es) {u:Nat} (h:(u:Int)∈p.Xt):∃w,cK (eN n es) H u w/\pe u w∈p.bG:=by
 obtain⟨a,w,h2,h3⟩:=(P.Xt u).1 h;exact⟨w,⟨a,h2.1,h2.2⟩,h3⟩
def Hl.aS (P:Hl n es H F p) {u w:Nat} (h:cK (eN n es) H u w) (a:pe u w∈p.bG):(u:Int)∈p.Xt:=(P.Xt u).2 ⟨h.on,w,⟨h.mem,h.nh⟩,a⟩
def Hl.two (P:Hl n es H F p) (hR:I7 n es) (hA:BD es) (hs:∀v w,H v w->H w v) (D:pV (eN n es)) (h2:∃p q,p≠q/\¬off (eN n es) H p/\¬off (eN n es) H q):
  (∃u:Nat,(u:Int)∈p.Xt)/\∀u:Nat,(u:Int)∈p.Xt->∃z:Nat,(z:Int)∈p.Xt/\u≠z:=by
 obtain⟨i,j⟩:=FW (sL hR hA) hs D h2;refine⟨?_,fun u k=>?_⟩
 .obtain ⟨e, l, h⟩ := bq P.ne
  obtain⟨v,w,m,_,b⟩:=P.fj hR (e:=e) (by rw[h];simp);have c:pe v w∈p.bG:=by rw[<-m,h];simp
  obtain⟨u,x,a,d⟩:=j v w b.1 b.2;exact⟨u,P.aS a ((P.one v w u x b ⟨a.mem,a.nh⟩ c).2 d.symm)⟩
 .obtain ⟨w, a, c⟩ := P.sS hR k
  obtain⟨z,y,f,g,d⟩:=i u w a;exact⟨z,P.aS f ((P.one u w z y ⟨a.mem,a.nh⟩ ⟨f.mem,f.nh⟩ c).2 d.symm),g⟩
def Tf (hR:I7 n es) {f:List Pr} (c:∀e∈f,e∈es) {on:Nat->Bool} (g:∀v,v<n->(on v=true↔¬off (eN n es) H v)) {a b:Nat} (ha:a<n) (h:Cn on f a b):Cr (Dt (eN n es) H) a b/\b<n/\off (eN n es) H b:=by
 have i:∀v,v<n->on v=false->off (eN n es) H v:=fun v l o=>mS fun q=>by rw[(g v l).2 q]at o;cases o
 induction h with
 |refl o=>exact⟨.refl _,ha,i _ ha o⟩
 |@step w x _ j o m=>
  obtain⟨r,h2,h3⟩:=m;have d:xA es w x:=j.imp (c _) (c _);have k:=(d.lt hR).2;exact⟨r.step (Bk.2 ⟨(Jq hR).2 d,h3,i x k o⟩),k,i x k o⟩
def Yd (hR:I7 n es) {d:List Pr} {on:Nat->Bool} (e:∀v,v<n->(on v=true↔¬off (eN n es) H v)) {a b:Nat} (ha:a<n) (i:off (eN n es) H a)
  (f:∀y z,Cr (Dt (eN n es) H) a y->z∈Dt (eN n es) H y->xA d y z) (h:Cr (Dt (eN n es) H) a b):Cn on d a b:=by
 have g:∀v,v<n->off (eN n es) H v->on v=false:=fun v j o=>by
  cases c:on v with
  |false=>rfl
  |true=>exact absurd o ((e v j).1 c)
 induction h with
 |refl=>exact .refl (g a ha i)
 |@step y z k h2 l=>
  obtain⟨m1,_,m3⟩:=Bk.1 h2;exact .step l (f y z k h2) (g z (((Jq hR).1 m1).lt hR).2 m3)
def wX (hR:I7 n es) (hA:BD es) (hs:∀v w,H v w->H w v) {f:List Pr} {Q:Pr->Prop} {on:Nat->Bool} (r:∀e∈f,e∈es) (i:∀v,v<n->(on v=true↔¬off (eN n es) H v)) {gs:List (List Pr)}
  (T:GrpE f Q (tN on f) gs) (A:∀v w,pe v w∈f->Q (pe v w)->Un (eN n es) H v w)
  (cl:∀v w x y,Un (eN n es) H x y->pe v w∈f->Q (pe v w)->Jc (eN n es) H x y=Jc (eN n es) H v w->pe x y∈f/\Q (pe x y)) {g:List Pr} (hg:g∈gs) {v w x y:Nat} (s:Un (eN n es) H x y) (z:pe v w∈g):
  pe x y∈g↔Jc (eN n es) H x y=Jc (eN n es) H v w:=by
 have l:=sL hR hA;have m1:=(T.sub g hg).subset z;have B:=T.inP g hg _ z;have j:=A v w m1 B;have lt:∀{v w},Un (eN n es) H v w->v<n/\w<n:=fun h=>((Jq hR).1 h.1).lt hR;have toP:tN on f (pe v w) (pe x y)↔Gh (eN n es) H v w x y:=by
  constructor
  .rintro (h | ⟨a, b, ha, hb, m, G, C⟩)
   .rcases Fg h with h | h
    .exact .inl h
    .exact .inr (.inl h)
   .rw [QZ rfl] at ha hb
    have t:a<n:=ha.elim (fun e=>e▸(lt j).1) fun e=>e▸(lt j).2;obtain⟨c1,c2,J⟩:=Tf hR r i t C;have D:off (eN n es) H a:=mS fun q=>by rw[(i a t).2 q]at m;cases m
    exact .inr (.inr ⟨a,b,ha,hb,D,J,c1⟩)
  .rintro (⟨rfl, rfl⟩ | ⟨rfl, rfl⟩ | ⟨a, b, ha, hb, m, G, C⟩)
   .exact .inl rfl
   .exact .inl (Ug _ _)
   .have t : a < n := ha.elim (fun e => e ▸ (lt j).1) fun e => e ▸ (lt j).2
    have K:b<n:=hb.elim (fun e=>e▸(lt s).1) fun e=>e▸(lt s).2;have u:∀v,v<n->off (eN n es) H v->on v=false:=fun v j o=>by
     cases c:on v with
     |false=>rfl
     |true=>exact absurd o ((i v j).1 c)
    refine .inr ⟨a,b,(QZ rfl a).2 ha,(QZ rfl b).2 hb,u a t m,u b K G,Yd hR i t m (fun c d L h2=>?_) C⟩;obtain⟨k1,k2,N⟩:=Bk.1 h2;have M:Un (eN n es) H c d:=⟨k1,k2 d k1⟩;obtain⟨E,I⟩:=cl v w c d M m1 B (by rw[Gv l j.1 ha m,vd k2,(uB l).2 L]);exact iI (fun e=>l.ir c (by rw[<-e]at k1;exact k1)) E
 rw[M3 l s.1 j.1];have k:Gh (eN n es) H x y v w↔Gh (eN n es) H v w x y:=⟨fun h=>h.symm l,fun h=>h.symm l⟩;rw[k,<-toP];constructor
 .intro h
  exact(T.one g hg _ z _ ((T.sub g hg).subset h) (T.inP g hg _ h)).1 h
 .intro h
  obtain⟨E,I⟩:=cl v w x y s m1 B ((M3 l s.1 j.1).2 (k.2 (toP.1 h)));exact(T.one g hg _ z _ E I).2 h
end
end Go.Fw
namespace Go.Fw
open Go.Proofs
attribute [local instance] Classical.propDecidable
def y6 {F:ai} {Xt:LF} {c:wi} {i:Nat}:i∈fg F Xt c↔i∈c/\∀x∈Xt,x.toNat∈F.getD i []:=by
 unfold fg TV;rw[sX,jE];simp
def Qi (on:List Bool) (way:wi):(XH on way).length=on.length:=by
 unfold XH
 induction way generalizing on with
 |nil=>rfl
 |cons v way c=>rw[kT,c,qm]
def bh {v:Nat}:∀(way:wi) (on:List Bool),v<on.length->(qt (XH on way) v=true↔qt on v=true\/v∈way)
 |[],on,_=>by simp[XH]
 |w::way,on,h=>by
  have e:XH on (w::way)=XH (on.set w true) way:=rfl;rw[e,bh way _ (by rw[qm];exact h)];unfold qt;rw[Ao,aH];by_cases c:w=v
  .subst c;rw[if_pos ⟨rfl,h⟩];simp
  .rw [if_neg (fun q => c q.1)]
   have:v≠w:=fun e=>c e.symm;simp[this]
def dn (F:ai) (f:Nat) (way:wi):ai:=F.set f (BW (F.getD f []) way)++[uC (F.getD f []) way]
def tP {F:ai} {f:Nat} {way:wi}:(dn F f way).length=F.length+1:=by simp[dn]
def QF {F:ai} {f i:Nat} {way:wi} (hf:f<F.length):(dn F f way).getD i []=if i=f then BW (F.getD f []) way else if i=F.length then uC (F.getD f []) way else F.getD i []:=by
 unfold dn;rw[OO];by_cases c:i=f
 .subst c
  rw[if_pos rfl,US (by rw[qm];exact hf),v8,if_pos rfl,if_pos hf];rfl
 .rw [if_neg c]
  by_cases c2:i=F.length
  .subst c2
   rw[if_pos rfl,kc (by rw[qm];exact J4 _),qm];simp
  .rw [if_neg c2]
   by_cases d:i<F.length
   .rw[US (by rw[qm];exact d),v8,if_neg (Hn c),<-OO]
   .rw[kc (by rw[qm];omega),Tz (by simp;omega),OO,Tz QT]
def De {a b v:Nat} {A inn:wi}:v∈half a A b inn↔v=a\/v∈A\/v=b\/v∈inn:=by
 unfold half;simp[]
section
variable {n : Nat} {es : List Pr} {H : Nat → Nat → Prop} {F : List (List Nat)} {p q : Lb} {a b f : Nat} {inn A B : List Nat}
structure qf (n:Nat) (es:List Pr) (H:Nat->Nat->Prop) (F:ai) (p:Lb) (a:Nat) (inn:wi) (b f:Nat) (A B:wi):Prop where
 hR:I7 n es
 hA:BD es
 hs:∀v w,H v w->H w v
 I:KV n (eN n es) H F
 P:Hl n es H F p
 W:yR (eN n es) H a inn b
 fst:pe a ((inn++[b]).headD 0)∈p.bG
 hf:f<F.length
 cy:Cyc (F.getD f []) ((a::A)++(b::B))
def qf.Pc (L:qf n es H F p a inn b f A B):ZJ n (eN n es):=sL L.hR L.hA
def qf.EY (L:qf n es H F p a inn b f A B):∀v w,VQ H a inn b v w->VQ H a inn b w v:=fun v w h=>h.imp (L.hs v w) Zs
def qf.qZ (L:qf n es H F p a inn b f A B):F.getD f []∈F:=by rw[YR L.hf];exact om L.hf
def qf.wD (L:qf n es H F p a inn b f A B):BW (F.getD f []) (ZR a inn b)=half a A b inn/\uC (F.getD f []) (ZR a inn b)=half b B a inn.reverse:=_root_.Go.Fw.wD (L.I.Vo L.qZ).1 L.cy
def qf.tX (L:qf n es H F p a inn b f A B) {v:Nat}:v∈F.getD f []↔v=a\/v∈A\/v=b\/v∈B:=by
 rw[L.cy.perm.mem_iff];simp[]
def qf.WO (L:qf n es H F p a inn b f A B) {i v:Nat} (hi:i=f\/i=F.length) (h:v∈(dn F f (ZR a inn b)).getD i []):v∈F.getD f []\/v∈inn:=by
 rw[QF L.hf]at h;rw[L.tX];have hh:=L.wD;rcases hi with rfl|rfl
 .rw [if_pos rfl, hh.1, De] at h
  rcases h with h|h|h|h
  .exact .inl (.inl h)
  .exact .inl (.inr (.inl h))
  .exact .inl (.inr (.inr (.inl h)))
  .exact .inr h
 .rw [if_neg (by have := L.hf; omega), if_pos rfl, hh.2, De] at h
  rcases h with h|h|h|h
  .exact .inl (.inr (.inr (.inl h)))
  .exact .inl (.inr (.inr (.inr h)))
  .exact .inl (.inl h)
  .exact .inr (PT.1 h)
def qf.qJ (L:qf n es H F p a inn b f A B) {i:Nat} (c:i≠f) (h2:i≠F.length):(dn F f (ZR a inn b)).getD i []=F.getD i []:=by
 rw[QF L.hf,if_neg c,if_neg h2]
def qf.keyK (L:qf n es H F p a inn b f A B) {x y:Nat} (h:iU a inn b x y):Jc (eN n es) H x y=Jc (eN n es) H a ((inn++[b]).headD 0):=L.W.Rs L.Pc L.hs h
def qf.EK (L:qf n es H F p a inn b f A B) {v:Nat} (h:v∈inn):off (eN n es) H v:=L.W.off v h
def qf.other (L:qf n es H F p a inn b f A B) (Q:Hl n es H F q) (J:∀e∈p.bG,e∉q.bG):Hl n es (VQ H a inn b) (dn F f (ZR a inn b)) (z8 (dn F f (ZR a inn b)) f F.length q):=by
 have hR:=L.hR;have j:=L.Pc;have o:∀{v w},pe v w∈q.bG->Jc (eN n es) H v w≠Jc (eN n es) H a ((inn++[b]).headD 0):=fun{v w} h e=>
  J _ ((L.P.one _ _ v w (L.P.Pg hR L.fst) (Q.Pg hR h) L.fst).2 e) h
 have I:∀{v w},pe v w∈q.bG->¬iU a inn b v w:=fun{v w} h e=>o h (L.keyK e);have z:∀{v w},pe v w∈q.bG->¬VQ H a inn b v w:=fun{v w} h=>fun e=>e.elim (Q.un v w h) (I h);have down:∀{v w},Un (eN n es) (VQ H a inn b) v w->Un (eN n es) H v w:=fun h=>⟨h.1,fun e=>h.2 (.inl e)⟩;have l:∀{v},off (eN n es) (VQ H a inn b) v↔off (eN n es) H v/\v∉inn:=fun{v}=>Px L.W j;have C:(z8 (dn F f (ZR a inn b)) f F.length q).bG=q.bG:=by unfold z8;split<;>rfl
 have E:(z8 (dn F f (ZR a inn b)) f F.length q).Xt=q.Xt:=by unfold z8;split<;>rfl
 have r:∀x∈q.Xt,x.toNat∉inn:=fun x d s=>by
  obtain⟨t,rfl⟩:=RT (Q.nat x d);rw[TK]at s;exact((Q.Xt t).1 d).1 (L.EK s)
 have Yv:f≠F.length:=by have:=L.hf;omega
 have m:∀i,(i<F.length+1/\∀x∈q.Xt,x.toNat∈(dn F f (ZR a inn b)).getD i [])->i∈q.fits\/(f∈q.fits/\i=F.length):=fun i ⟨g,h2⟩=>by
  by_cases c:i=f\/i=F.length
  .have s : f ∈ q.fits := (Q.fits f).2 ⟨L.hf, fun x d => (L.WO c (h2 x d)).resolve_right (r x d)⟩
   rcases c with rfl|rfl
   .exact .inl s
   .exact .inr ⟨s,rfl⟩
  .have c1 : i ≠ f := fun e => c (.inl e)
   have c2:i≠F.length:=fun e=>c (.inr e);refine .inl ((Q.fits i).2 ⟨QT,fun x d=>?_⟩);rw[<-L.qJ c1 c2];exact h2 x d
 have D:∀i,i∈q.fits->i<F.length:=fun i h=>((Q.fits i).1 h).1;refine⟨by rw[C];exact Q.ne,by rw[C];exact Q.sub,fun v w h=>by rw[C]at h;exact z h,fun v w x y G d h=>?_,fun u=>?_,by rw[E];exact Q.nat,by rw[E];exact Q.fnd,fun i=>?_,?_⟩
 .rw [C] at h ⊢
  rw[Q.one v w x y (down G) (down d) h];rw[M3 j d.1 G.1,M3 j d.1 G.1];constructor
  .intro k
   exact(((k.symm j).keep L.W j L.hs G.1 (o h))).symm j
  .intro k
   exact k.mono fun _ _=>XK
 .rw [E, C, Q.Xt u]
  constructor
  .rintro ⟨g, w, h2, h3⟩
   exact⟨fun k=>g (l.1 k).1,w,⟨h2.1,z h3⟩,h3⟩
  .rintro ⟨g, w, h2, h3⟩
   refine⟨fun k=>g (l.2 ⟨k,fun s=>?_⟩),w,down h2,h3⟩;exact o h3 (by rw[L.W.gN j L.hs s,Gv j h2.1 (.inl rfl) k])
 .rw [E, tP]
  by_cases c:f∈q.fits
  .have e : (z8 (dn F f (ZR a inn b)) f F.length q).fits = fg (dn F f (ZR a inn b)) q.Xt (q.fits ++ [F.length]) := by unfold z8; rw [if_pos c]
   rw[e,y6,uK,Rb];constructor
   .rintro ⟨g, h2⟩
    refine⟨?_,h2⟩;rcases g with g|g
    .have:=D i g;omega
    .omega
   .rintro ⟨g, h2⟩
    refine⟨(m i ⟨g,h2⟩).imp id fun h=>h.2,h2⟩
  .have e : (z8 (dn F f (ZR a inn b)) f F.length q).fits = q.fits := by unfold z8; rw [if_neg c]
   rw[e];constructor
   .intro h
    have g:=(Q.fits i).1 h;refine⟨QT,fun x d=>?_⟩;rw[L.qJ (fun e=>c (e▸h)) QT];exact g.2 x d
   .intro h
    exact(m i h).resolve_right fun k=>c k.1
 .unfold z8
  split
  .refine Em F5 ?_
   rw[KM];refine⟨Q.tnd,YX,fun x d y K e=>?_⟩;rw[Rb.1 K]at e;have:=D x d;omega
  .exact Q.tnd
end
end Go.Fw
namespace Go.Fw
open Go.Proofs
attribute [local instance] Classical.propDecidable
def iL (n:Nat) (way:wi):∀i,(XP n way i).length=n
 |0=>by simp[XP]
 |i+1=>by rw[XP,qm,iL n way i]
def RI {n:Nat} {way:wi} (nd:way.Nodup) {v:Nat} (g:v<n):∀i,i<=way.length->
  (∃k:Nat,k<i/\way[k]?=some v/\(XP n way i).getD v 0=(k:Int))\/((∀k,k<i->way[k]?≠some v)/\(XP n way i).getD v 0=-1)
 |0,_=>.inr ⟨fun k h=>absurd h (kS _),by
   rw[XP,OO,gG,if_pos g];rfl⟩
 |i+1,hi=>by
  have l:=RI nd g i QT;have hg:=XR (show i<way.length by omega);have d:way.getD i 0=way[i]:=YR QT;rw[XP,Ao,iL,d];by_cases c:way[i]=v
  .rw [if_pos ⟨c, QT⟩]
   exact .inl ⟨i,QT,by rw[hg,c],rfl⟩
  .rw [if_neg (fun q => c q.1)]
   rcases l with⟨k,j,h2,h3⟩|⟨j,h2⟩
   .exact .inl ⟨k,QT,h2,h3⟩
   .refine .inr ⟨fun k h => ?_, h2⟩
    by_cases e:k=i
    .subst e;rw[hg];exact fun q=>c (by injection q)
    .exact j k QT
def MC {n a b:Nat} {inn:wi} (nd:(ZR a inn b).Nodup) {v w:Nat} (g:v<n) (hw:w<n):Cf (XP n (ZR a inn b) (ZR a inn b).length) (pe v w)=true↔¬iU a inn b v w:=by
 have key:∀{x y:Nat},x<n->y<n->(Cf (XP n (ZR a inn b) (ZR a inn b).length) ((x:Int),(y:Int))=true↔¬iU a inn b x y):=fun{x y} o s=>by
  simp only[Cf,TK,Z0,SH,decide_eq_true_eq];generalize t:ZR a inn b=l at*;unfold iU;rw[t];rcases RI nd o l.length (J4 _)with⟨k,h,h2,h3⟩|⟨h,h2⟩
  .rcases RI nd s l.length (J4 _) with ⟨m, j, d, u⟩ | ⟨j, d⟩
   .rw [h3, u]
    constructor
    .intro q r
     rcases r with⟨i,r1,r2⟩|⟨i,r1,r2⟩
     .have z := yQ nd r1 h2
      have C:=yQ nd r2 d;omega
     .have z := yQ nd r1 d
      have C:=yQ nd r2 h2;omega
    .intro q
     refine .inr ⟨fun e=>q (.inr ⟨m,d,?_⟩),fun e=>q (.inl ⟨k,h2,?_⟩)⟩
     .rw[show m+1=k by omega];exact h2
     .rw[show k+1=m by omega];exact d
   .rw [h3, d]
    refine⟨fun _ r=>?_,fun _=>.inl (.inr QT)⟩;rcases r with⟨i,_,r2⟩|⟨i,r1,_⟩
    .exact j _ (bH.1 r2).1 r2
    .exact j _ (bH.1 r1).1 r1
  .rw [h2]
   refine⟨fun _ r=>?_,fun _=>.inl (.inl QT)⟩;rcases r with⟨i,r1,_⟩|⟨i,_,r2⟩
   .exact h _ (bH.1 r1).1 r1
   .exact h _ (bH.1 r2).1 r2
 rcases uj v w with c|c
 .rw[SR c];exact key g hw
 .rcases Nat.lt_or_eq_of_le c with c | c
  .rw [Az c, key hw g]
   exact not_congr ⟨Zs,Zs⟩
  .subst c
   have:pe w w=((w:Int),(w:Int)):=by rw[iD];simp
   rw[this];exact key g hw
def ddS_mem {l:LF} {x y:Int}:y∈NO l x↔y∈l\/y=x:=by
 unfold NO;split
 .rename_i c
  exact⟨.inl,fun h=>h.elim id fun e=>e▸c⟩
 .simp
def ddS_nd {l:LF} {x:Int} (h:l.Nodup):(NO l x).Nodup:=by
 unfold NO;split
 .exact h
 .rename_i c
  rw[KM];exact⟨h,YX,fun a ha b hb e=>c (by rw[<-Rb.1 hb,<-e];exact ha)⟩
def Jf:∀(l acc:LF),acc.Nodup->(l.foldl NO acc).Nodup/\∀y,y∈l.foldl NO acc↔y∈acc\/y∈l
 |[],acc,h=>⟨h,fun y=>by simp⟩
 |x::l,acc,h=>by
  obtain⟨c,h2⟩:=Jf l (NO acc x) (ddS_nd h);rw[kT];refine⟨c,fun y=>?_⟩;rw[h2,ddS_mem,aH,or_assoc]
def pd (l:LF):(Vv l).Nodup/\∀y,y∈Vv l↔y∈l:=by
 obtain⟨c,h2⟩:=Jf l [] Aq;exact⟨c,fun y=>by unfold Vv;rw[h2];simp⟩
def zN {on:Nat->Bool} {g:List Pr} {x:Int}:x∈jz on g↔on x.toNat=true/\∃e∈g,x=e.1\/x=e.2:=by
 unfold jz;rw[H0];constructor
 .rintro ⟨e, d, c⟩
  unfold CO at c;rw[sX]at c;refine⟨c.2,e,d,?_⟩;simpa using c.1
 .rintro ⟨h, e, d, c⟩
  refine⟨e,d,?_⟩;unfold CO;rw[sX];exact⟨by simpa using c,h⟩
section
variable {n : Nat} {es : List Pr} {H : Nat → Nat → Prop} {F : List (List Nat)} {p q : Lb} {a b f : Nat} {inn A B : List Nat} {on : List Bool}
def qf.left (L:qf n es H F p a inn b f A B) {v w:Nat}:pe v w∈im n p.bG (ZR a inn b)↔pe v w∈p.bG/\¬iU a inn b v w:=by
 unfold im;rw[sX];constructor
 .rintro ⟨c, h2⟩
  have d:=L.P.Pg L.hR c;obtain⟨l1,l2⟩:=((Jq L.hR).1 d.1).lt L.hR;exact⟨c,(MC L.W.nd l1 l2).1 h2⟩
 .rintro ⟨c, h2⟩
  have d:=L.P.Pg L.hR c;obtain⟨l1,l2⟩:=((Jq L.hR).1 d.1).lt L.hR;exact⟨c,(MC L.W.nd l1 l2).2 h2⟩
def qf.ZO (L:qf n es H F p a inn b f A B) {v w:Nat} (h:pe v w∈im n p.bG (ZR a inn b)):Un (eN n es) (VQ H a inn b) v w:=by
 obtain⟨d,h2⟩:=L.left.1 h;have c:=L.P.Pg L.hR d;exact⟨c.1,fun q=>q.elim c.2 h2⟩
def qf.left_of (L:qf n es H F p a inn b f A B) {v w x y:Nat} (c:Un (eN n es) (VQ H a inn b) x y) (h:pe v w∈im n p.bG (ZR a inn b)) (j:Jc (eN n es) (VQ H a inn b) x y=Jc (eN n es) (VQ H a inn b) v w):
  pe x y∈im n p.bG (ZR a inn b):=by
 have d:=L.Pc;have g:=L.ZO h;have i:=(L.left.1 h).1;have k:=(M3 d c.1 g.1).1 j;have k2:=(M3 d c.1 g.1).2 (k.mono fun _ _=>XK);exact L.left.2 ⟨(L.P.one v w x y (L.P.Pg L.hR i) ⟨c.1,fun e=>c.2 (.inl e)⟩ i).2 k2,fun e=>c.2 (.inr e)⟩
def qf.on' (L:qf n es H F p a inn b f A B) (j:on.length=n) (d:∀v,v<n->(qt on v=true↔¬off (eN n es) H v)):∀v,v<n->(qt (XH on (ZR a inn b)) v=true↔¬off (eN n es) (VQ H a inn b) v):=fun v i=>by
 rw[bh _ _ (by rw[j];exact i),d v i,Px L.W L.Pc];constructor
 .rintro (h | h) ⟨k1, k2⟩
  .exact h k1
  .rw [ZR, aH, uK, Rb] at h
   rcases h with rfl|h|rfl
   .obtain⟨z,e,g⟩:=L.W.de;exact k1 z e g
   .exact k2 h
   .obtain⟨z,e,g⟩:=L.W.fJ;exact k1 z e g
 .intro h
  by_cases c:off (eN n es) H v
  .refine .inr ?_
   rw[ZR,aH,uK];exact .inr (.inl (mS fun q=>h ⟨c,q⟩))
  .exact .inl c
def qf.Zk (L:qf n es H F p a inn b f A B):GrpE (im n p.bG (ZR a inn b)) (fun e=>e∉([]:List Pr)) (tN (qt (XH on (ZR a inn b))) (im n p.bG (ZR a inn b)))
  ((grpsM (qL n (qt (XH on (ZR a inn b))) (ZB n (qt (XH on (ZR a inn b))) (im n p.bG (ZR a inn b)))) (im n p.bG (ZR a inn b)) [] (im n p.bG (ZR a inn b)).length).map (·.2)):=by
 have sl:(im n p.bG (ZR a inn b)).Sublist es:=List.Sublist.trans F5 L.P.sub;have nd:(im n p.bG (ZR a inn b)).Nodup:=L.hA.nodup.sublist sl;have c:I7 n (im n p.bG (ZR a inn b)):=fun e d=>L.hR e (sl.subset d);exact tD (n:=n) nd fun j h e e' d g _ _=>jg c nd TB d g
def qf.fresh (L:qf n es H F p a inn b f A B) (M:on.length=n) (Y:∀v,v<n->(qt on v=true↔¬off (eN n es) H v)) (Z:f∈p.fits) {q:Lb} (hq:q∈vQ n (XH on (ZR a inn b)) (im n p.bG (ZR a inn b))):
  Hl n es (VQ H a inn b) (dn F f (ZR a inn b)) {q with fits:=fg (dn F f (ZR a inn b)) q.Xt (p.fits++[F.length])}/\q.bG.Sublist (im n p.bG (ZR a inn b)):=by
 have hR:=L.hR;have E:=L.Pc;have m:=L.on' M Y;have T:=L.Zk (on:=on);have sl:(im n p.bG (ZR a inn b)).Sublist es:=List.Sublist.trans F5 L.P.sub;unfold vQ at hq;obtain⟨gr,N,rfl⟩:=T8.1 hq;have hg:gr.2∈((grpsM (qL n (qt (XH on (ZR a inn b))) (ZB n (qt (XH on (ZR a inn b))) (im n p.bG (ZR a inn b)))) (im n p.bG (ZR a inn b)) [] (im n p.bG (ZR a inn b)).length).map (·.2)):=T8.2 ⟨gr,N,rfl⟩;generalize gr.2=g at hg;clear hq N gr;have one:∀{v w x y:Nat},Un (eN n es) (VQ H a inn b) x y->pe v w∈g->(pe x y∈g↔Jc (eN n es) (VQ H a inn b) x y=Jc (eN n es) (VQ H a inn b) v w):=fun{v w x y} C G=>
  wX hR L.hA L.EY (fun e s=>sl.subset s) m T (fun v w h _=>L.ZO h) (fun v w x y hU h _ k=>⟨L.left_of hU h k,YX⟩) hg C G
 have j:=T.sub g hg;have un:∀{v w},pe v w∈g->Un (eN n es) (VQ H a inn b) v w:=fun h=>L.ZO (j.subset h);obtain⟨fn,fm⟩:=pd (jz (qt (XH on (ZR a inn b))) g);have Xt:∀u:Nat,(u:Int)∈Vv (jz (qt (XH on (ZR a inn b))) g)↔¬off (eN n es) (VQ H a inn b) u/\∃w,Un (eN n es) (VQ H a inn b) u w/\pe u w∈g:=fun u=>by
  rw[fm,zN,TK];constructor
  .rintro ⟨ho, e, s, C⟩
   obtain⟨c,d,rfl,ad,hd⟩:=O0 hR (sl.subset (j.subset s));have e1:((c:Int),(d:Int))=pe c d:=(SR ad).symm;simp only at C;rcases C with C|C
   .have O : u = c := QT
    subst O;rw[e1]at s;exact⟨(m u QT).1 ho,d,un s,s⟩
   .have O : u = d := QT
    subst O;rw[e1,Ug]at s;exact⟨(m u hd).1 ho,c,un s,s⟩
  .rintro ⟨D, w, h2, h3⟩
   have O:=(((Jq hR).1 h2.1).lt hR).1;exact⟨(m u O).2 D,_,h3,(QZ rfl u).2 (.inl rfl)⟩
 have o:∀{v},off (eN n es) (VQ H a inn b) v↔off (eN n es) H v/\v∉inn:=fun{v}=>Px L.W E;have Q:∃c∈inn,(c:Int)∈Vv (jz (qt (XH on (ZR a inn b))) g):=by
  obtain⟨e,l,s⟩:=bq (T.ne g hg);have G:e∈g:=by rw[s];simp
  obtain⟨v,w,rfl,ag,hd⟩:=O0 hR (sl.subset (j.subset G));rw[show(((v:Int),(w:Int)):Pr)=pe v w from(SR ag).symm]at G;have J:=un G;have M:=L.left.1 (j.subset G);have hU:=L.P.Pg hR M.1;have k:=L.P.key hR L.fst M.1;cases hi:inn with
  |nil=>
   exfalso;subst hi;have e0:((([]:wi)++[b]).headD 0)=b:=rfl;rw[e0]at k;obtain⟨z,z1,z2⟩:=L.W.de;obtain⟨z',ah,aj⟩:=L.W.fJ;rw[jT (fun q=>q z z1 z2) (fun q=>q z' ah aj)]at k;have R:iU a [] b a b:=.inl ⟨0,rfl,rfl⟩;by_cases c1:off (eN n es) H v
   .rw [vd c1] at k
    have:=congrArg Prod.fst k;simp at this
   by_cases c2:off (eN n es) H w
   .rw [ML c1 c2] at k
    have:=congrArg Prod.fst k;simp at this
   rw[jT c1 c2]at k;injection k with _ k;injection k with k1 k2;have:(v=a/\w=b)\/(v=b/\w=a):=QT;rcases this with⟨rfl,rfl⟩|⟨rfl,rfl⟩
   .exact M.2 R
   .exact M.2 (Zs R)
  |cons c t=>
   rw[<-hi];have X:c∈inn:=by rw[hi];simp
   rw[L.W.gN E L.hs X]at k;have ht:∃t,(t=v\/t=w)/\off (eN n es) H t:=by
    by_cases c1:off (eN n es) H v
    .exact⟨v,.inl rfl,c1⟩
    by_cases c2:off (eN n es) H w
    .exact⟨w,.inr rfl,c2⟩
    rw[jT c1 c2]at k;have:=congrArg Prod.fst k;simp at this
   obtain⟨t,K,ot⟩:=ht;rw[Gv E hU.1 K ot]at k;injection k with _ k;injection k with k _;have ak:=(uB E).1 k;by_cases ct:t∈inn
   .refine ⟨t, ct, (Xt t).2 ⟨fun q => (o.1 q).2 ct, ?_⟩⟩
    rcases K with rfl|rfl
    .exact⟨w,J,G⟩
    .exact⟨v,J.sym E L.EY,by rw[Ug];exact G⟩
   .have S : off (eN n es) (VQ H a inn b) t := o.2 ⟨ot, ct⟩
    rcases WD (H:=VQ H a inn b) E (r:=Dt (eN n es) H) (fun v w h=>(Bk.1 h).1) ak S with h|⟨y,z,D,h2,h3,h4⟩
    .exact absurd X (o.1 h.2).2
    .obtain ⟨m1, m2, m3⟩ := Bk.1 h4
     have zi:z∈inn:=mS fun q=>h3 (o.2 ⟨m3,q⟩);have U:Un (eN n es) (VQ H a inn b) y z:=⟨m1,h2 z m1⟩;have al:pe y z∈g:=(one U G).2 (by rw[vd h2,Gv E J.1 K S,(uB E).2 D]);exact⟨z,zi,(Xt z).2 ⟨h3,y,U.sym E L.EY,by rw[Ug];exact al⟩⟩
 have V:∀i,i∈p.fits->i<F.length:=fun i h=>((L.P.fits i).1 h).1;refine⟨⟨T.ne g hg,j.trans sl,fun v w h=>(un h).2,fun v w x y _ C h=>one C h,Xt,fun x C=>?_,fn,fun i=>?_,?_⟩,j⟩
 .have := ((zN.1 ((fm x).1 C)).2)
  obtain⟨e,s,h⟩:=this;obtain⟨D,h2,_⟩:=hR e (sl.subset (j.subset s));rcases h with rfl|rfl<;>omega
 .simp only
  rw[y6,tP,uK,Rb];constructor
  .rintro ⟨D, h2⟩
   refine⟨?_,h2⟩;rcases D with D|D
   .have:=V i D;omega
   .omega
  .rintro ⟨D, h2⟩
   refine⟨?_,h2⟩;by_cases c1:i=f
   .exact .inl (c1▸Z)
   by_cases c2:i=F.length
   .exact .inr c2
   exfalso;obtain⟨c,X,aq⟩:=Q;have:=h2 _ aq;rw[TK,L.qJ c1 c2]at this;have ar:F.getD i []∈F:=by rw[YR QT];exact om _
   exact L.I.aa6 ar this (L.EK X)
 .refine Em F5 ?_
  rw[KM];refine⟨L.P.tnd,YX,fun x C y hy e=>?_⟩;rw[Rb.1 hy]at e;have:=V x C;omega
end
end Go.Fw
namespace Go.Fw
open Go.Proofs
attribute [local instance] Classical.propDecidable
def Tb {l:wi} (h:l.length=1) {x y:Nat} (b:x∈l) (c:y∈l):x=y:=by
 match l,h with
 |[a],_=>rw[Rb.1 b,Rb.1 c]
noncomputable def UX (es:List Pr) (H:Nat->Nat->Prop):Nat:=(es.filter fun e=>decide (¬H e.1.toNat e.2.toNat)).length
structure RR (n:Nat) (es:List Pr) (H:Nat->Nat->Prop) (S:DB):Prop where
 inv:KV n (eN n es) H S.K8
 Xf:S.on.length=n
 on:∀v,v<n->(qt S.on v=true↔¬off (eN n es) H v)
 VI:∀p∈S.left,Hl n es H S.K8 p
 cov:∀v w,Un (eN n es) H v w->∃p∈S.left,pe v w∈p.bG
 eX:S.left.Pairwise fun p q=>∀e∈p.bG,e∉q.bG
 PA:S.K8.length+UX es H<=es.length+2
def Y3 (left:List Lb):∀k,(0<k->bestK left k<k)/\∀j,j<k->qj left (bestK left k)<=qj left j
 |0=>⟨fun h=>absurd h (aaz _),fun j h=>absurd h (kS _)⟩
 |k+1=>by
  obtain⟨a,h2⟩:=Y3 left k;rw[bestK];by_cases c:qj left k<qj left (bestK left k)
  .rw [if_pos c]
   refine⟨fun _=>SP _,fun j b=>?_⟩;by_cases e:j=k
   .rw[e];exact J4 _
   .have:=h2 j QT;omega
  .rw [if_neg c]
   refine⟨fun _=>?_,fun j b=>?_⟩
   .by_cases e : k = 0
    .subst e;simp[bestK]
    .have:=a QT;omega
   .by_cases e : j = k
    .subst e;omega
    .exact h2 j QT
def unN_lt {es:List Pr} {H a:Nat->Nat->Prop} (f:∀v w,H v w->a v w) {e:Pr} (b:e∈es) (g:¬H e.1.toNat e.2.toNat) (h2:a e.1.toNat e.2.toNat):UX es a<UX es H:=by
 unfold UX
 induction es with
 |nil=>cases b
 |cons x es d=>
  have le:∀l:List Pr,(l.filter fun e=>decide (¬a e.1.toNat e.2.toNat)).length<=(l.filter fun e=>decide (¬H e.1.toNat e.2.toNat)).length:=fun l=>by
   induction l with
   |nil=>exact J4 _
   |cons y l d=>
    rw[UR,UR];by_cases c:a y.1.toNat y.2.toNat
    .rw [if_neg (by simp [c])]
     split
     .rw[jD];omega
     .exact d
    .have c2 : ¬ H y.1.toNat y.2.toNat := fun q => c (f _ _ q)
     rw[if_pos (by simp[c]),if_pos (by simp[c2])];simp only[jD];omega
  rw[UR,UR];rcases aH.1 b with rfl|b
  .rw [if_neg (by simp [h2]), if_pos (by simp [g]), jD]
   have:=le es;omega
  .have := d b
   by_cases c:a x.1.toNat x.2.toNat
   .rw [if_neg (by simp [c])]
    split
    .rw[jD];omega
    .exact this
   .have c2 : ¬ H x.1.toNat x.2.toNat := fun q => c (f _ _ q)
    rw[if_pos (by simp[c]),if_pos (by simp[c2])];simp only[jD];omega
section
variable {n : Nat} {es : List Pr} {H : Nat → Nat → Prop} {S : DB}
def RR.way (I:RR n es H S) (hR:I7 n es) (hA:BD es) (D:pV (eN n es)) {p:Lb} (F:p∈S.left):
  ∃a inn b,iY n (Oc n es) S.on p=ZR a inn b/\yR (eN n es) H a inn b/\pe a ((inn++[b]).headD 0)∈p.bG:=by
 have w:=sL hR hA;have P:=I.VI p F;have hs:=I.inv.sym;obtain⟨⟨Y,f⟩,W⟩:=P.two hR hA hs D I.inv.AQ;have s:2<=p.Xt.length:=by
  obtain⟨z,G,A⟩:=W Y f
  match F:p.Xt with
  |[]=>rw[F]at f;cases f
  |[x]=>
   rw[F]at f G;have m:=Rb.1 f;have h2:=Rb.1 G;omega
  |x::y::l=>simp
 have K:∃a:Nat,p.Xt.headD 0=(a:Int)/\(a:Int)∈p.Xt:=by
  obtain⟨x,l,e⟩:=bq (show p.Xt≠[]from fun e=>by rw[e]at s;simp at s);obtain⟨a,ha⟩:=RT (P.nat x (by rw[e];simp));exact⟨a,by rw[e,<-ha];rfl,by rw[e,<-ha];simp⟩
 obtain⟨a,ea,B⟩:=K;obtain⟨sa,d,C⟩:=P.sS hR B;have L:a<n:=w.lt _ _ d.mem;have c:∀v,v<n->qt S.on v=false->off (eN n es) H v:=fun v Z o=>mS fun q=>by rw[(I.on v Z).2 q]at o;cases o
 rcases R8 (on:=S.on) hR (p:=p) s (by rw[ea];exact TK a) L (fun e he=>P.sub.subset he)with⟨inn,b,e1,nd,hb,ob,X,r,ch⟩|⟨_,M,N,j⟩
 .refine ⟨a, inn, b, e1, ⟨nd, fun i x y m h2 => ?_, fun x J => ?_, E2 d.on, E2 ((I.on b hb).1 ob)⟩, r⟩
  .have g := ch i x y m h2
   refine⟨(Jq hR).2 g,?_⟩;cases i with
   |zero=>
    have k1:=m.symm.trans (W3 a b inn).1;have k2:=h2.symm.trans (W3 a b inn).2;injection k1 with k1;injection k2 with k2;rw[k1,k2];exact P.un _ _ r
   |succ i=>
    have hl:=(bH.1 h2).1;rw[OQ]at hl;have e:ZR a inn b=a::(inn++[b]):=rfl;rw[e,pF,US QT]at m;have J:x∈inn:=Jb m;exact c x (g.lt hR).1 (X x J) y ((Jq hR).2 g)
  .obtain ⟨i, y, m, h2⟩ := xD (a := a) (b := b) (inn := inn) (v := x) (.inr J)
   exact c x (((ch i _ _ m h2).lt hR).2) (X x J)
 .exfalso
  have has:sa≠a:=fun e=>w.ir a (by have:=d.mem;rw[e]at this;exact this);have E:=N sa C has;have O:sa<n:=(((Jq hR).1 d.mem).lt hR).2;have Q:=c sa O (j sa E).2.1;obtain⟨z,G,A⟩:=W a B;obtain⟨y,h,R⟩:=P.sS hR G;have k:=P.key hR C R;rw[ML d.on Q]at k;have T:off (eN n es) H y:=mS fun q=>by
   rw[jT h.on q]at k;have:=congrArg Prod.fst k;simp at this
  rw[ML h.on T]at k;injection k with _ k;injection k with k _;have U:=((uB w).1 k).symm (yp w);have clo:∀t,Cr (Dt (eN n es) H) sa t->t∈M:=fun t ht=>by
   induction ht with
   |refl=>exact E
   |@step t u m h2 ih=>
    obtain⟨m1,m2,m3⟩:=Bk.1 h2;refine((j t ih).2.2 u ((Jq hR).1 m1)).resolve_left fun e=>?_;rw[e]at m3;exact d.on m3
  have V:=clo y U;rcases(j y V).2.2 z (((Jq hR).1 h.mem).symm)with e|e
  .exact A e.symm
  .exact h.on (c z (w.lt _ _ h.mem) (j z e).2.1)
def RR.lay (I:RR n es H S) (hR:I7 n es) (hA:BD es) (D:pV (eN n es)) (aB:S.left≠[]):
  (PN n (Oc n es) S=none/\¬Gp n (eN n es))\/∃S' H',PN n (Oc n es) S=some S'/\RR n es H' S'/\UX es H'<UX es H:=by
 have hr:=sL hR hA;have hs:=I.inv.sym;have hlen:0<S.left.length:=Ux.2 aB;obtain⟨aE,aK⟩:=Y3 S.left S.left.length;have V:=aE hlen;unfold PN;generalize bestK S.left S.left.length=m at*;have aj:S.left.getD m default=S.left[m]:=YR V;have ak:S.left[m]∈S.left:=om V;have N:S.left=S.left.take m++S.left[m]::S.left.drop (m+1):=by rw[<-BG V,aV]
 have F:S.left.eraseIdx m=S.left.take m++S.left.drop (m+1):=List.eraseIdx_eq_take_drop_succ _ _;have al:∀q∈S.left,(S.left[m]).fits.length<=q.fits.length:=fun q r=>by
  obtain⟨j,hj,e⟩:=iV.1 r;have:=aK j hj;unfold qj at this;rw[aj,YR hj,e]at this;exact this
 simp only[aj];generalize S.left[m]=p at*;have P:=I.VI p ak;obtain⟨⟨u0,aM⟩,_⟩:=P.two hR hA hs D I.inv.AQ;by_cases c0:p.fits.length=0
 .rw [if_pos c0]
  refine .inl ⟨rfl,?_⟩;obtain⟨x,hF,C⟩:=P.sS hR aM;refine I.inv.fail D hF fun f hf k=>?_;obtain⟨i,hi,e⟩:=iV.1 hf;have:=(P.fits i).2 ⟨hi,fun y hy=>by rw[YR hi,e];exact(P.HL hR C).1 k y hy⟩;rw[LB.1 c0]at this;cases this
 rw[if_neg c0];obtain⟨a,inn,b,ew,W,o⟩:=I.way hR hA D ak;rw[ew];have aQ:¬(ZR a inn b).length<2:=by rw[OQ];omega
 simp only[aQ,if_false];have O:p.fits.headD 0∈p.fits:=Iu fun e=>c0 (by rw[e];rfl);generalize p.fits.headD 0=f at*;obtain⟨G,X⟩:=(P.fits f).1 O;have Y:S.K8.getD f []∈S.K8:=by rw[YR G];exact om G
 obtain⟨sa,bj⟩:∃s,s=(inn++[b]).headD 0:=⟨_,rfl⟩;have J:=P.Pg hR o;have F0:cK (eN n es) H a ((inn++[b]).headD 0):=⟨fun q=>by obtain⟨z,z1,z2⟩:=W.de;exact q z z1 z2,J.1,J.2⟩;have aq:Fits (eN n es) H (Jc (eN n es) H a ((inn++[b]).headD 0)) (S.K8.getD f []):=(P.HL hR o).2 X;have ar:a∈S.K8.getD f []:=by have:=X _ (P.aS F0 o);rwa[TK]at this
 have av:b∈S.K8.getD f []:=by
  have hl:=W.lst hr hs;have wb:iU a inn b b ((inn.reverse++[a]).headD 0):=(W.x6 hr hs).2 rfl;have hk:=W.Rs hr hs wb;have C:=(P.one _ _ b _ J ⟨hl.1,hl.2⟩ o).2 hk;have:=X _ ((P.Xt b).2 ⟨fun q=>by obtain⟨z,z1,z2⟩:=W.fJ;exact q z z1 z2,_,⟨hl.1,hl.2⟩,C⟩);rwa[TK]at this
 obtain⟨A,B,cy⟩:=cyc_two ar av W.ab;have L:qf n es H S.K8 p a inn b f A B:=⟨hR,hA,hs,I.inv,P,W,o,G,cy⟩;have Z:(∀h∈S.K8,Fits (eN n es) H (Jc (eN n es) H a ((inn++[b]).headD 0)) h->h=S.K8.getD f [])\/
   ∀u x,cK (eN n es) H u x->∃E∈S.K8,∃h2∈S.K8,E≠h2/\Fits (eN n es) H (Jc (eN n es) H u x) E/\Fits (eN n es) H (Jc (eN n es) H u x) h2:=by
  by_cases c1:p.fits.length=1
  .refine .inl fun h hh k => ?_
   obtain⟨i,hi,e⟩:=iV.1 hh;have C:=(P.fits i).2 ⟨hi,fun y hy=>by rw[YR hi,e];exact(P.HL hR o).1 k y hy⟩;have:i=f:=Tb c1 C O;rw[<-e,<-this,YR hi]
  .refine .inr fun u x hF => ?_
   obtain⟨q,r,C⟩:=I.cov u x ⟨hF.mem,hF.nh⟩;have Q:=I.VI q r;have h2:2<=q.fits.length:=by have:=al q r;omega
   match K:q.fits with
   |[]=>rw[K]at h2;simp at h2
   |[_]=>rw[K]at h2;simp at h2
   |i::j::l=>
    have hi:=(Q.fits i).1 (by rw[K];simp);have hj:=(Q.fits j).1 (by rw[K];simp);have aT:i≠j:=fun e=>by
     have:=Q.tnd;rw[K,e]at this;simp at this
    refine⟨S.K8.getD i [],by rw[YR hi.1];exact om _,S.K8.getD j [],by rw[YR hj.1];exact om _,fun e=>aT ?_,(Q.HL hR C).2 hi.2,(Q.HL hR C).2 hj.2⟩;rw[YR hi.1,YR hj.1]at e;exact(Iv I.inv.nodup).1 e
 have I1:=I.inv.step D hr Y F0 aq Z W rfl cy;have hh:=L.wD;have aX:S.K8.set f (BW (S.K8.getD f []) (ZR a inn b))++[uC (S.K8.getD f []) (ZR a inn b)]=dn S.K8 f (ZR a inn b):=rfl;have ad:(half a A b inn::half b B a inn.reverse::S.K8.erase (S.K8.getD f [])).Perm (dn S.K8 f (ZR a inn b)):=by
  unfold dn;rw[hh.1,hh.2];refine List.Perm.trans ?_ (FV (l₁:=[half b B a inn.reverse]));refine(List.Perm.swap _ _ _).trans (List.Perm.cons _ ?_);exact(set_perm (by rw[YR G];exact dR G) I.inv.nodup).symm
 have I2:=I1.perm ad;rw[aX];have R:=I.eX;rw[N,zu,jO]at R;obtain⟨d1,⟨d2,d3⟩,d4⟩:=R;have U:∀q∈S.left.eraseIdx m,q∈S.left/\∀e∈p.bG,e∉q.bG:=fun q r=>by
  rw[F]at r;rcases uK.1 r with h|h
  .exact⟨by rw[N];exact KF _ h,fun e he ag=>d4 q h p YX e ag he⟩
  .exact⟨by rw[N];exact KQ _ (by simp[h]),fun e he=>d2 q h e he⟩
 have T:=L.Zk (on:=S.on);have aY:UX es (VQ H a inn b)<UX es H:=by
  have C:=P.sub.subset o;obtain⟨c,d,e,ay,hd⟩:=O0 hR C;have wf:iU a inn b a ((inn++[b]).headD 0):=W.F3.2 rfl;refine unN_lt (fun v w=>XK) C ?_ ?_
  .rw [e]; simp only [TK]
   rw[<-SR ay]at e;rcases Fg e with⟨E,h2⟩|⟨E,h2⟩
   .rw[<-E,<-h2];exact J.2
   .rw[<-E,<-h2];exact fun q=>J.2 (hs _ _ q)
  .rw [e]; simp only [TK]
   rw[<-SR ay]at e;rcases Fg e with⟨E,h2⟩|⟨E,h2⟩
   .rw[<-E,<-h2];exact .inr wf
   .rw[<-E,<-h2];exact .inr (Zs wf)
 refine .inr ⟨_,VQ H a inn b,rfl,⟨I2,by simp only;rw[Qi];exact I.Xf,L.on' I.Xf I.on,fun q r=>?_,fun v w hU=>?_,?_,?_⟩,aY⟩
 .simp only at r ⊢
  rcases uK.1 r with h|h
  .obtain ⟨q0, M, rfl⟩ := T8.1 h
   obtain⟨E,h2⟩:=U q0 M;exact L.other (I.VI q0 E) h2
  .obtain ⟨q0, M, rfl⟩ := T8.1 h
   exact(L.fresh I.Xf I.on O M).1
 .have a1 : Un (eN n es) H v w := ⟨hU.1, fun q => hU.2 (.inl q)⟩
  obtain⟨q,r,C⟩:=I.cov v w a1;rw[N]at r;have ah:q=p\/q∈S.left.eraseIdx m:=by
   rw[F];rcases uK.1 r with h|h
   .exact .inr (KF _ h)
   .rcases aH.1 h with h | h
    .exact .inl h
    .exact .inr (KQ _ h)
  rcases ah with rfl|h
  .have hl := L.left.2 ⟨C, fun e => hU.2 (.inr e)⟩
   obtain⟨g,hg,a6⟩:=T.cov _ hl YX;obtain⟨gr,a7,rfl⟩:=T8.1 hg;refine⟨_,KQ _ (T8.2 ⟨_,T8.2 ⟨gr,a7,rfl⟩,rfl⟩),a6⟩
  .refine ⟨_, KF _ (T8.2 ⟨q, h, rfl⟩), ?_⟩
   unfold z8;split<;>exact C
 .simp only
  have t:∀q,(z8 (dn S.K8 f (ZR a inn b)) f S.K8.length q).bG=q.bG:=fun q=>by unfold z8;split<;>rfl
  rw[zu];refine⟨?_,?_,fun q r q' ag e he a8=>?_⟩
  .rw [UB, F, zu]
   refine⟨d1.imp fun{x y} h=>by rw[t,t];exact h,d3.imp fun{x y} h=>by rw[t,t];exact h,fun x hx y hy=>?_⟩;rw[t,t];exact d4 x hx y (by simp[hy])
  .rw [UB]
   unfold vQ;have:=T.eX;rw[UB]at this ⊢;exact this
  .obtain ⟨q0, M, rfl⟩ := T8.1 r
   obtain⟨q1,bb,rfl⟩:=T8.1 ag;rw[t]at he;have E:=(L.fresh I.Xf I.on O bb).2.subset a8;have h2:e∈p.bG:=(F5 (l:=p.bG)).subset E;exact(U q0 M).2 e h2 he
 .simp only
  rw[tP];have:=I.PA;omega
def RR.done (I:RR n es H S) (h:S.left=[]):∃r,Dx n r S.K8/\Flat n r/\∀x y,y∈r x↔y∈eN n es x:=
 I.inv.done fun x y b=>mS fun q=>by
  obtain⟨p,a,_⟩:=I.cov x y ⟨b,q⟩;rw[h]at a;cases a
end
end Go.Fw
