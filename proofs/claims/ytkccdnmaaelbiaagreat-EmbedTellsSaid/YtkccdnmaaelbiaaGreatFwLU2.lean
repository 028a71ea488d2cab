/- A text. -/
import Derived.Test.YtkccdnmaaelbiaaGreatFwLQ3
set_option linter.all false
set_option maxRecDepth 99999
set_option maxHeartbeats 9999999
open Go.Proofs
namespace Go.Fw
section
attribute [local irreducible] Kp MQ lU rS KO KN KX KE VK Kl ZJ TC aab
variable {D:Nat->Nat->Prop} {bo:Option II} {es ls:List Pr} {i k n s t:Nat} {th:II}
theorem afA.bp{c:II}(h:afA es s t c):Pu es s t:=by
 have key:∀(i x:Nat),c[i]?=some x->Pu es s x:=by
  intro i
  induction i with
  |zero=>intro x a;rw[h.hd]at a;grind[Pu.refl]
  |succ i b=>intro x a;have d:=(Ny.1 a).1;have hi:=CA (show i<c.length by omega);exact tM (b _ hi) (h.ad _ _ ⟨i,hi,a⟩)
 exact key _ t h.lst
def ahu(n:Nat)(ls:List Pr)(th:II)(D:Nat->Nat->Prop):Option II->Prop
 |none=>∀(i k u v:Nat),D i k->i≠k->th[i]?=some u->th[k]?=some v->¬Pu ls u v
 |some c=>(∃i k u v:Nat,i≠k/\th[i]?=some u/\th[k]?=some v/\afA ls u v c/\c.length<=n)/\∀(i k u v:Nat),D i k->i≠k->th[i]?=some u->th[k]?=some v->∀c',afA ls u v c'->c.length<=c'.length
theorem ahu.mono{D D':Nat->Nat->Prop}(B:ahu n ls th D bo)(h:∀i k,i<th.length->k<th.length->D' i k->D i k):ahu n ls th D' bo:=by
 have lt:∀{i u:Nat},th[i]?=some u->i<th.length:=fun h=>(Ny.1 h).1;cases bo with
 |none=>exact fun i k u v d ne a b=>B i k u v (h i k (lt a) (lt b) d) ne a b
 |some c=>exact⟨B.1,fun i k u v d ne a b=>B.2 i k u v (h i k (lt a) (lt b) d) ne a b⟩
def akR(a h:aae)(bv:Value):Option II->Prop
 |none=>bv=.slice none 0 0
 |some c=>RL RP h bv (aaa c)/\Z2 a bv
theorem akR.le{d h h':aae}{bv:Value}{a:Option II}(b:akR d h bv a)(l:Le h h'):akR d h' bv a:=by
 cases a with
 |none=>exact b
 |some c=>exact⟨RL.le Nn.RP b.1 l,b.2⟩
theorem ahu.add(B:ahu n ls th D bo)(h:i=k\/∀u v,th[i]?=some u->th[k]?=some v->match bo with|none=>¬Pu ls u v|some c=>∀c',afA ls u v c'->c.length<=c'.length):ahu n ls th (fun a b=>D a b\/(a=i/\b=k)) bo:=by
 cases bo with
 |none=>
  intro a b u v d ne e f;rcases d with d|⟨rfl,rfl⟩
  .exact B a b u v d ne e f
  grind
 |some c=>
  refine⟨B.1,fun a b u v d ne e f=>?_⟩;rcases d with d|⟨rfl,rfl⟩
  .exact B.2 a b u v d ne e f
  grind
theorem way1_any(W0:LA)(v P:Value)(n:Nat)(ls:List Pr)(th:II)(h:aae)(hg:GR h v ⟨(n:Int),ls⟩)(hr:bX ⟨(n:Int),ls⟩)(H:RL RP h P (aaa th))(Q:∀u∈th,u<n)(hl:th.length<=1000)(hex:∃i k u v:Nat,i≠k/\th[i]?=some u/\th[k]?=some v/\Pu ls u v):
  AC Tryz.prog W0 147 [v,P] h fun x h'=>Le h h'/\∃c,RL RP h' x (aaa c)/\Z2 h x/\ahu n ls th (fun _ _=>True) (some c):=by
 have al:=hg
 obtain⟨ev,rfl,hp⟩:=hg.open
 refine AC.vE ⟨Tryz.func147,rfl,WY⟩ Tryz.ntmps147 Tryz.results147 fun aq=>?_;simp only[Br,seval];obtain⟨h1,b1,I,aK,-,lA⟩:=r8 (n:=(n:Int)) aq hp
 generalize h.next=B at*
 have lt:=fun g=>H.DH g;rw[y6]at lt;have R:=fun(i:Nat)(hi:i<th.length)=>H.TA i (by rw[y6];exact hi);have S:=fun(g:aae)(T:Le h g)(i:Nat)(hi:i<th.length)=>show acd Tryz.prog g 3 (abv P i)=some (.int .i64 (th[i]:Nat)) by rw[(H.le Nn.RP T).Uc i (by rw[y6];exact hi),sY hi]
 refine Sk b1 ?_;refine lIn (fun k fr hq=>∃(i:Nat)(bv:Value)(l:Option II),k=th.length-i/\i<=th.length/\fr=mkF [(1,P),(2,.pointer (some ⟨B,0,none⟩)),(5,bv),(6,.int .i64 i)]/\Le h1 hq/\akR h hq bv l/\ahu n ls th (fun a _=>a<i) l) ⟨0,_,none,rfl,WA _,rfl,Le.refl _,rfl,fun i k u v d=>absurd d (Ki _)⟩ ?_;rintro k fr hq ar ⟨i,bv,l,rfl,hi,rfl,lq,F,s⟩;simp only[HO,seval,lt];refine Kl.intro (fun U=>?_) (fun hf=>?_)
 rotate_left
 .have av:th.length<=i:=vp hf;refine Uy ?_;obtain⟨a,b,u,v,ne,hu,hv,V⟩:=hex;have la:=(Ny.1 hu).1;cases l with
  |none=>exact absurd V (s a b u v NH ne hu hv)
  |some c=>exact⟨I.trans lq,c,F.1,F.2,s.mono fun a b ha _ _=>by omega⟩
 have o:i<th.length:=CC U;clear U;have ay:=Tw i NH;have a1:=R i o;have az:th[i]<n:=Q _ (j9 o);have W:=CA o;have l1:=fun g T=>S g T i o;generalize th[i]=u at*;refine Uy ?_;refine lIn (fun k fr J=>∃(j:Nat)(bv:Value)(l:Option II),k=th.length-j/\j<=th.length/\fr=mkF [(1,P),(2,.pointer (some ⟨B,0,none⟩)),(5,bv),(6,.int .i64 i),(7,.int .i64 j)]/\Le h1 J/\akR h J bv l/\ahu n ls th (fun a b=>a<i\/(a=i/\b<j)) l) ⟨0,bv,l,rfl,WA _,rfl,lq,F,s.mono fun a b _ _ d=>d.resolve_right fun q=>absurd q.2 (Ki _)⟩ ?_;clear lq F s ar;clear hq bv l;rintro k fr J aP ⟨j,bv,l,rfl,hj,rfl,lz,F,s⟩;simp only[HO,seval,lt];refine Kl.intro (fun U=>?_) (fun hf=>?_)
 rotate_left
 .have av:th.length<=j:=vp hf;refine Sk ay ?_;exact lgA (JS o) ⟨i+1,bv,l,rfl,o,rfl,lz,F,s.mono fun a b ha hb d=>by grind⟩
 have f:j<th.length:=CC U;clear U;have p:=Tw j NH;have a2:=R j f;have aB:th[j]<n:=Q _ (j9 f);have X:=CA f;have l2:=fun g T=>S g T j f;generalize th[j]=w at*;have A:=I.trans lz;have r:∀{l},ahu n ls th (fun a b=>(a<i\/(a=i/\b<j))\/(a=i/\b=j)) l->ahu n ls th (fun a b=>a<i\/(a=i/\b<j+1)) l:=fun B=>B.mono fun a b _ _ d=>by grind
 have aa:∀{x:Nat},th[i]?=some x->x=u:=fun q=>(Option.some.inj (W.symm.trans q)).symm;have ae:∀{x:Nat},th[j]?=some x->x=w:=fun q=>(Option.some.inj (X.symm.trans q)).symm;refine Uy ?_;refine gh (tA [0,1,2,3,4,5,6,7,8] (JQ 9 [0,4,8] (tA [10,11,12,13,14] .done))) ?_;simp only[HO,seval,Qg,(lA J lz).1,a1,l1 J A,a2,l2 J A];refine kGi Tryz.func145 (ajT W0 _ n u w ls J (al.le A) hr az aB) ?_;rintro x G w8 ⟨l8,K⟩;have t:=F.le l8;have m:=lz.trans l8;have C:=I.trans m;have aC:decide ((60:Int)=0)=false:=by decide
 have L:decide ((0:Int)=0)=true:=by decide
 rcases K with⟨aT,rfl⟩|⟨-,wv,c,rfl,ag,aD,aE,aF,aJ⟩
 rotate_left
 have aj:RL RP G wv (aaa c)/\Z2 h wv:=⟨ag,fun b hb=>A.none (aD b hb)⟩
 rotate_left
 .have z:ahu n ls th (fun a b=>(a<i\/(a=i/\b<j))\/(a=i/\b=j)) l:=s.add (.inr fun x y N O=>by
   obtain rfl:=aa N;obtain rfl:=ae O;cases l<;>grind[afA.bp])
  simp only[HO,seval,Qg,(lA G m).1,a1,l1 G C,a2,l2 G C];by_cases e:i=j
  .have D:decide ((i:Int)=(j:Int))=true:=XJ NH;refine Sk (Yb @bne.eq_1.{0} D p) ?_
   exact lgA (JS f) ⟨j+1,bv,l,rfl,f,rfl,m,t,r z⟩
  .have D:decide ((i:Int)=(j:Int))=false:=Sb NH;refine Sk (xU @bne.eq_1.{0} D aC p) ?_
   exact lgA (JS f) ⟨j+1,bv,l,rfl,f,rfl,m,t,r z⟩
 simp only[HO,seval,Qg,(lA G m).1,a1,l1 G C,a2,l2 G C];by_cases e:i=j
 .have D:decide ((i:Int)=(j:Int))=true:=XJ NH;have z:ahu n ls th (fun a b=>(a<i\/(a=i/\b<j))\/(a=i/\b=j)) l:=s.add (.inl e);refine Sk (Yb @bne.eq_1.{0} D p) ?_
  exact lgA (JS f) ⟨j+1,bv,l,rfl,f,rfl,m,t,r z⟩
 have D:decide ((i:Int)=(j:Int))=false:=Sb NH;have own:∃i k u v:Nat,i≠k/\th[i]?=some u/\th[k]?=some v/\afA ls u v c/\c.length<=n:=⟨i,j,u,w,e,W,X,aE,aF⟩;have lw:=fun g=>ag.DH g;rw[y6]at lw;cases l with
 |none=>
  have E:bv=.slice none 0 0:=F;subst E;have z:ahu n ls th (fun a b=>(a<i\/(a=i/\b<j))\/(a=i/\b=j)) (some c):=⟨own,fun a b x y d ne N O c' M=>by
   rcases d with d|⟨rfl,rfl⟩
   .exact absurd M.bp (s a b x y d ne N O)
   grind⟩
  simp only[HO,seval,bne,D,L,aEq,Mb,afn,p];exact lgA (JS f) ⟨j+1,wv,some c,rfl,f,rfl,m,aj,r z⟩
 |some b=>
  have rb:RL RP G bv (aaa b):=t.1;have aV:0<b.length:=by obtain⟨_,_,_,_,-,-,-,q,-⟩:=s.1;exact q.ne
  have lb:=fun g=>rb.DH g;rw[y6]at lb;obtain⟨ba,bc,E,aH⟩:=rb.sl;obtain⟨ba,rfl⟩:=EP.1 (aH (by grind[y6]));by_cases cl:c.length<b.length
  .have dl:decide ((c.length:Int)<(b.length:Int))=true:=XJ NH;have tl:((c.length:Int)<(b.length:Int))=True:=eq_true NH;have z:ahu n ls th (fun a b=>(a<i\/(a=i/\b<j))\/(a=i/\b=j)) (some c):=⟨own,fun a b' x y d ne N O c' M=>by
    rcases d with d|⟨rfl,rfl⟩
    .have:=s.2 a b' x y d ne N O c' M;omega
    grind⟩
   subst E;simp only[HO,seval,bne,D,L,aEq,Mb,Po,lw,lb,dl,tl,p];exact lgA (JS f) ⟨j+1,wv,some c,rfl,f,rfl,m,aj,r z⟩
  .have dl:decide ((c.length:Int)<(b.length:Int))=false:=Sb NH;have tl:((c.length:Int)<(b.length:Int))=False:=eq_false NH;have z:ahu n ls th (fun a b=>(a<i\/(a=i/\b<j))\/(a=i/\b=j)) (some b):=s.add (.inr fun x y N O=>by grind);subst E;simp only[HO,seval,bne,D,L,aEq,Mb,Po,lw,lb,dl,tl,p];exact lgA (JS f) ⟨j+1,_,some b,rfl,f,rfl,m,⟨rb,t.2⟩,r z⟩
theorem ail{es:List Pr}{a b x y:Nat}:Jp (ais es (a:Int) (b:Int)) x y↔Jp es x y/\¬((x=a/\y=b)\/(x=b/\y=a)):=by grind[Jp,ais,ajj]
def ajU(es:List Pr)(a b:Int):(ais es a b).Sublist es:=fR
def aim(es:List Pr)(w:RZ):∀i,(ag4 es w i).Sublist es
 |0=>List.Sublist.refl _
 |i+1=>(ajU _ _ _).trans (aim es w i)
theorem ajw(w:II)(i:Nat):(aaa w).getD i 0=((w.getD i 0:Nat):Int):=by grind[aaa]
theorem ajx{es:List Pr}{w:II}{x y:Nat}:∀i,i<w.length->(Jp (ag4 es (aaa w) i) x y↔Jp es x y/\¬∃k,k<i/\((w.getD k 0=x/\w.getD (k+1) 0=y)\/(w.getD k 0=y/\w.getD (k+1) 0=x)))
 |0,_=>⟨fun h=>⟨h,fun⟨k,a,_⟩=>absurd a (Ki _)⟩,fun h=>h.1⟩
 |i+1,hi=>by
  show Jp (ais (ag4 es (aaa w) i) ((aaa w).getD i 0) ((aaa w).getD (i+1) 0)) x y↔_;rw[ajw,ajw,ail,ajx i NH];constructor
  .grind
  grind
theorem ame{w:II}{x y:Nat}:Vj w x y↔∃k,k+1<w.length/\w.getD k 0=x/\w.getD (k+1) 0=y:=by
 constructor
 .rintro⟨k,a,h2⟩;grind
 .rintro⟨k,a,h2,h3⟩;refine⟨k,?_,?_⟩
  all_goals grind
theorem ajV{es:List Pr}{w:II}(h:0<w.length){x y:Nat}:Jp (ag4 es (aaa w) (w.length-1)) x y↔Jp es x y/\¬(Vj w x y\/Vj w y x):=by grind[ajx,ame]
section
variable{es:List Pr}{s t:Nat}{c:II}
theorem afA.take(h:afA es s t c){i x:Nat}(d:c[i]?=some x):afA es s x (c.take (i+1)):=by
 have hi:=(Ny.1 d).1;have e:(c.take (i+1)).length=i+1:=pw;refine⟨NH,by grind[afA.hd],pw,fun a b ⟨k,f,h2⟩=>h.ad a b ⟨k,?_,?_⟩⟩
 all_goals grind
theorem afA.cut(h:afA es s t c){i j x:Nat}(l:i<j)(hi:c[i]?=some x)(g:c[j]?=some x):afA es s t (c.take i++c.drop j)/\(c.take i++c.drop j).length<c.length:=by
 have o:=(Ny.1 g).1;have p:(c.take i).length=i:=pw;have q:(c.drop j).length=c.length-j:=oK;have len:(c.take i++c.drop j).length=i+(c.length-j):=pw;have e:∀k,k<i->(c.take i++c.drop j)[k]?=c[k]?:=fun k m=>by grind
 have d:∀k,i<=k->(c.take i++c.drop j)[k]?=c[j+(k-i)]?:=fun k m=>by grind
 refine⟨⟨NH,?_,?_,fun a b ⟨k,f,h2⟩=>?_⟩,NH⟩
 .by_cases r:i=0
  all_goals grind[afA.hd]
 .rw[len,d _ NH,show j+(i+(c.length-j)-1-i)=c.length-1 by omega];exact h.lst
 .have l2:=(Ny.1 h2).1;rw[len]at l2;by_cases c1:k+1<i
  .rw[e k NH]at f;rw[e (k+1) c1]at h2;exact h.ad a b ⟨k,f,h2⟩
  by_cases c2:k<i
  .have:k+1=i:=NH;rw[e k c2]at f;rw[d (k+1) NH,show j+(k+1-i)=j by omega,g]at h2;rw[<-this]at hi;exact h.ad a b ⟨k,f,pw⟩
  .rw[d k NH]at f;rw[d (k+1) NH,show j+(k+1-i)=j+(k-i)+1 by omega]at h2;exact h.ad a b ⟨_,f,h2⟩
theorem afA.nodup(h:afA es s t c)(b:∀c',afA es s t c'->c.length<=c'.length):c.Nodup:=by rw[Gw,wI];intro i j hi d a e;obtain⟨f,h2⟩:=h.cut a (CA hi) pw;grind
theorem afA.path(h:afA es s t c)(ne:s≠t):∃inn,c=aaq s inn t:=by
 obtain⟨a,f,h2,-⟩:=h
 match c,a with
 |[x],_=>grind
 |x::y::r,_=>
  have b:x=s:=pw;subst b;rcases wV (y::r)with e|⟨l,z,e⟩
  .cases e
  rw[Gp]at e;rw[e]at h2 ⊢;have d:z=t:=by
   have:(x::(l++[z])).length-1=l.length+1:=by simp
   grind
  subst d;exact⟨l,rfl⟩
end
def HdW(es left:List Pr)(x y:Nat):Prop:=Jp es x y/\¬Jp left x y
structure akb (n:Nat) (es left:List Pr) (th:II):Prop where
 sub:left.Sublist es
 nd:th.Nodup
 lt:∀u∈th,u<n
 on:∀u∈th,∃w,HdW es left u w
 all:∀x y,HdW es left x y->x∈th
 three:3<=th.length
def aiJ{es left:List Pr}(h:left.Sublist es){x y:Nat}(a:Jp left x y):Jp es x y:=a.imp (fun q=>h.subset q) (fun q=>h.subset q)
theorem hitT{left es:List Pr}{T:Nat->Prop}(b:∀p q,Jp es p q->¬T p->Jp left p q){on:Nat->Bool}{x z:Nat}(h:Cn on es x z)(d:¬T x)(a:T z):∃v,T v/\on v=false/\Pu left x v:=by
 have key:(¬T z/\Pu left x z)\/∃v,T v/\on v=false/\Pu left x v:=by
  clear a
  induction h<;>grind[Pu.refl,tM]
 grind
section
variable{n:Nat}{es left:List Pr}{th:II}(hr:bX ⟨(n:Int),es⟩)(T2:zW n es)
include hr T2
theorem off_con{c x z:Nat}(b:x<n)(d:z<n)(a:x≠c)(h2:z≠c):Cn (wo c) es x z:=by
 have hR:=hr.GD;have D:=T2.Z7 hR;have ne:∀{v},v<n->eN n es v≠[]:=fun{v} e=>by grind[zW.ne,aU]
 exact crW hR a (D.Z7 c x z a h2 (ne b) (ne d))
theorem akb.two(I:akb n es left th)(d:left≠[]):∃i k u v:Nat,i≠k/\th[i]?=some u/\th[k]?=some v/\Pu left u v:=by
 have hR:=hr.GD;have idx:∀{u v},u∈th->v∈th->u≠v->Pu left u v->∃i k u v:Nat,i≠k/\th[i]?=some u/\th[k]?=some v/\Pu left u v:=fun h o ne A=>by grind[List.mem_iff_getElem?]
 have j:∀p q,Jp es p q->¬p∈th->Jp left p q:=fun p q a f=>ff fun b=>f (I.all p q ⟨a,b⟩);have off:∀{x},x<n->x∉th->∃i k u v:Nat,i≠k/\th[i]?=some u/\th[k]?=some v/\Pu left u v:=fun{x} g b=>by
  have h3:=I.three;have m0:th[0]∈th:=j9 _;obtain⟨u,h,-,cu⟩:=hitT (T:=(·∈th)) j (T2.bp g (I.lt _ m0)) b m0;obtain⟨z,m,r⟩:∃z∈th,z≠u:=by
   by_cases e:th[0]=u
   .refine⟨th[1],j9 _,fun q=>?_⟩;have:=X6 I.nd (CA (show 0<th.length by omega)) (by rw[CA (show 1<th.length by omega),q,e]);omega
   grind
  have nx:x≠u:=fun e=>b (e▸h);obtain⟨v,o,B,cv⟩:=hitT (T:=(·∈th)) j (off_con hr T2 g (I.lt _ m) nx r) b m;grind[Cn.symm,Cn.trans]
 obtain⟨p,l,e⟩:=xD d;have f:p∈left:=by rw[e];simp
 obtain⟨x,y,g,C,ha,-⟩:=pair_ex (fun q w=>hR q (I.sub.subset w)) f;by_cases c1:x∈th
 .by_cases c2:y∈th
  .exact idx c1 c2 (fun e=>by rw[e]at ha;exact Xa hR (aiJ I.sub ha)) (abp ha)
  grind
 grind
end
def aip(th c:II):II:=c.foldl (fun t x=>if x∈t then t else t++[x]) th
theorem ai7:∀(c th:II),th.Nodup->(aip th c).Nodup/\∀x,x∈aip th c↔x∈th\/x∈c
 |[],th,h=>⟨h,fun x=>by simp[aip]⟩
 |y::c,th,h=>by
  have e:aip th (y::c)=aip (if y∈th then th else th++[y]) c:=rfl
  rw[e];by_cases b:y∈th
  .rw[AE b];obtain⟨d,h2⟩:=ai7 c th h;grind
  .rw[aal b];have a:(th++[y]).Nodup:=pw;obtain⟨d,h2⟩:=ai7 c (th++[y]) a;grind
theorem amf{th c:II}{i:Nat}(h:i<c.length):aip th (c.take (i+1))=if c[i]∈aip th (c.take i)then aip th (c.take i)else aip th (c.take i)++[c[i]]:=by grind[aip,List.take_succ_eq_append_getElem]
section
variable{n:Nat}{es left:List Pr}{th:II}(hr:bX ⟨(n:Int),es⟩)
include hr
theorem akb.step(I:akb n es left th){c:II}(B:ahu n left th (fun _ _=>True) (some c)):
  ∃a inn b,c=aaq a inn b/\Ka (eN n es) (HdW es left) a inn b/\akb n es (ag4 left (aaa c) (c.length-1)) (aip th c)/\
   (∀x y,HdW es (ag4 left (aaa c) (c.length-1)) x y↔HdW es left x y\/Ay a inn b x y)/\(ag4 left (aaa c) (c.length-1)).length<left.length/\2<=c.length/\c.length<=n/\∀x∈c,x<n:=by
 have hR:=hr.GD;obtain⟨⟨i,k,u,v,p,z,C,d,D⟩,g⟩:=B;have E:u≠v:=fun e=>by subst e;exact p (X6 I.nd z C)
 have mn:∀c',afA left u v c'->c.length<=c'.length:=fun c' h=>g i k u v trivial p z C c' h;have nd:=d.nodup mn;obtain⟨inn,e⟩:=d.path E;have h2:2<=c.length:=by grind[aaq]
 have r:∀{x y},Ay u inn v x y↔Vj c x y\/Vj c y x:=fun{x y}=>by rw[e];exact Iff.rfl
 have wl:∀{x y},Ay u inn v x y->Jp left x y:=fun h=>(r.1 h).elim (fun q=>d.ad _ _ q) fun q=>(d.ad _ _ q).symm;have Q:∀x y,Jp (ag4 left (aaa c) (c.length-1)) x y↔Jp left x y/\¬Ay u inn v x y:=fun x y=>by grind[ajV]
 have R:∀x y,HdW es (ag4 left (aaa c) (c.length-1)) x y↔HdW es left x y\/Ay u inn v x y:=fun x y=>by
  unfold HdW;rw[Q];constructor
  .grind
  .rintro(⟨m,h2⟩|h)
   .grind
   .exact⟨aiJ I.sub (wl h),fun q=>q.2 h⟩
 have F:∀x∈c,x<n:=fun x f=>by
  obtain⟨j,A,rfl⟩:=fj.1 f;by_cases G:j+1<c.length
  .exact((aiJ I.sub (d.ad _ _ ⟨j,CA A,CA G⟩)).lt hR).1
  .have m:=CA (show j-1<c.length by omega);have o:c[j-1+1]?=some c[j]:=pw;exact((aiJ I.sub (d.ad _ _ ⟨j-1,m,o⟩)).lt hR).2
 have H:∀{x y},Ay u inn v x y->x∈c:=fun h=>by
  rcases r.1 h with⟨j,W,-⟩|⟨j,-,X⟩
  all_goals grind
 have O:∀x∈c,∃y,Ay u inn v x y:=fun x f=>by
  obtain⟨j,A,rfl⟩:=fj.1 f;by_cases G:j+1<c.length
  .exact⟨_,r.2 (.inl ⟨j,CA A,CA G⟩)⟩
  .have m:=CA (show j-1<c.length by omega);have o:c[j-1+1]?=some c[j]:=pw;exact⟨_,r.2 (.inr ⟨j-1,m,o⟩)⟩
 have S:u∈th:=BS z;have T:v∈th:=BS C;obtain⟨J,l⟩:=ai7 c th I.nd;refine⟨u,inn,v,e,⟨pw,fun j x y m h2=>?_,fun x f w hw K=>?_,?_,?_⟩,⟨(aim _ _ _).trans I.sub,J,fun x f=>?_,fun x f=>?_,fun x y h=>?_,?_⟩,R,?_,h2,D,F⟩
 .rw[<-e]at m h2;have a:=d.ad x y ⟨j,m,h2⟩;exact⟨(vD hR).2 (aiJ I.sub a),fun q=>q.2 a⟩
 .have L:=I.all x w K;obtain⟨j,A,U⟩:=fj.1 f;have P:c[j+1]?=some x:=by
   rw[e];show(inn++[v])[j]?=_;grind
  have l1:j+2<c.length:=by rw[e];unfold aaq;simp;omega
  have M:x≠u:=fun q=>by have:=X6 nd P (by rw[q];exact d.hd);omega
  obtain⟨V,N⟩:=qy.1 L;have:=g i V u x trivial (fun q=>M pw) z N _ (d.take P);grind
 .obtain⟨w,hw⟩:=I.on u S;exact⟨w,(vD hR).2 hw.1,hw⟩
 .obtain⟨w,hw⟩:=I.on v T;exact⟨w,(vD hR).2 hw.1,hw⟩
 .grind[akb.lt]
 .rcases(l x).1 f with q|q
  .obtain⟨w,hw⟩:=I.on x q;grind
  grind
 .grind[akb.all]
 .exact Tn I.three (agO I.nd fun x f=>(l x).2 (.inl f))
 .have hs:=aim left (aaa c) (c.length-1);refine af2 hs.length_le fun q=>?_;have eq:=hs.eq_of_length q;have w0:Ay u inn v c[0] c[1]:=r.2 (.inl ⟨0,CA NH,CA NH⟩);grind
end
theorem amg{c:II}(nd:c.Nodup)(f:0<c.length){a x y:Nat}(i:c[c.length-1]?=some a):Vj (a::c) x y↔x∈c/\nx c x=y:=by
 have d:∀j (b:j<c.length),nx c c[j]=c[(j+1)%c.length]'(OM _ f):=fun j b=>by have:=dN nd b;grind
 have g:c[c.length-1]'(by omega)=a:=pw
 constructor
 .rintro⟨k,l,h2⟩;have l2:=(Ny.1 h2).1;rw[Bn]at h2;have m:k<c.length:=pw;obtain⟨_,o⟩:=Ny.1 h2;cases k with
  |zero=>grind[Nat.mod_self]
  |succ k=>grind[Nat.mod_eq_of_lt]
 .rintro⟨h,rfl⟩;obtain⟨j,b,rfl⟩:=fj.1 h;rw[d j b];by_cases c1:j+1<c.length
  .refine⟨j+1,pw,?_⟩;grind[Nat.mod_eq_of_lt]
  .have e:j=c.length-1:=NH;refine⟨0,?_,?_⟩
   all_goals grind[Nat.mod_self]
section
variable{n:Nat}{es:List Pr}(hr:bX ⟨(n:Int),es⟩)(T2:zW n es)
include hr T2
theorem ring_con{a b:Nat}(ha:a<n)(hb:b<n)(ne:a≠b):Pu (ais es (a:Int) (b:Int)) b a:=(by grind[zW.less,bX.GD,ail])
omit T2 in
theorem alg{a b:Nat}(m:Jp es a b){c:II}(h:afA (ais es (a:Int) (b:Int)) b a c)(o:∀c',afA (ais es (a:Int) (b:Int)) b a c'->c.length<=c'.length):
  c.Nodup/\3<=c.length/\(∀v∈c,nx c v∈eN n es v)/\akb n es (ag4 es (aaa (a::c)) ((a::c).length-1)) c/\∀x y,HdW es (ag4 es (aaa (a::c)) ((a::c).length-1)) x y↔Ei c x y:=by
 have hR:=hr.GD;have ne:a≠b:=fun e=>by grind[Xa]
 have nd:=h.nodup o;have p:=h.ne;have h3:3<=c.length:=by
  have s:=h.hd;have j:=h.lst;by_cases t:c.length=1
  .grind
  by_cases l:c.length=2
  .rw[l]at j;have:=(ail.1 (h.ad b a ⟨0,s,j⟩)).2;omega
  .omega
 have rg:∀x y,Vj (a::c) x y↔x∈c/\nx c x=y:=fun x y=>amg nd p h.lst;have ad:∀x y,Vj (a::c) x y->Jp es x y:=fun x y ⟨k,d,h2⟩=>by
  rw[Bn]at h2;cases k with
  |zero=>simp at d;rw[h.hd]at h2;grind
  |succ k=>rw[Bn]at d;exact(ail.1 (h.ad x y ⟨k,d,h2⟩)).1
 have w:∀x y,Jp (ag4 es (aaa (a::c)) ((a::c).length-1)) x y↔Jp es x y/\¬(Vj (a::c) x y\/Vj (a::c) y x):=fun x y=>ajV Ma;have f:∀x y,HdW es (ag4 es (aaa (a::c)) ((a::c).length-1)) x y↔Ei c x y:=fun x y=>by grind[HdW,Ei,Jp.symm]
 have cl:∀v∈c,Jp es v (nx c v):=fun v g=>ad _ _ ((rg v (nx c v)).2 ⟨g,rfl⟩);refine⟨nd,h3,fun v g=>(vD hR).2 (cl v g),⟨aim _ _ _,nd,fun u i=>((cl u i).lt hR).1,fun u i=>⟨nx c u,(f _ _).2 (.inl ⟨i,rfl⟩)⟩,fun x y q=>?_,h3⟩,f⟩;rcases(f x y).1 q with⟨q,-⟩|⟨q,l⟩
 all_goals grind[ZP]
end
structure WsS (r hq:aae) (X n:Nat) (xv tv lv:Value) (us:List Value) (rows:AM) (th:II) (left:List Pr):Prop where
 O:ag0 r hq xv us rows
 gt:GI hq tv (aaa th)
 at_:Z2 r tv
 oX:hq.own X=some (.cells [.int .i64 (n:Int),lv])
 nX:r.own X=none
 dx:blk xv≠some X
 dt:blk tv≠some X
 d:∀b,blk xv=some b->blk tv≠some b
 pl:PR r lv left
theorem RL.remK{u:Value}{x:RZ}:∀{l:II}{h:aae},RL RP h u x->(∀b∈l,blk u≠some b)->RL RP (rem l h) u x
 |[],_,r,_=>r
 |a::l,h,r,hb=>(RL.remK r pw).akt (hb a Ma)
section
variable{r hq:aae}{X n:Nat}{xv tv lv:Value}{us:List Value}{rows:AM}{th:II}{left:List Pr}
def WsS.ownx(S:WsS r hq X n xv tv lv us rows th left){b:Nat}(h:blk xv=some b\/blk tv=some b\/b=X):hq.own b≠none:=by
 rcases h with h|h|rfl
 .exact GS.Sy S.O.g h
 .exact GS.Sy S.gt h
 .rw[S.oX];simp
theorem WsS.frz(S:WsS r hq X n xv tv lv us rows th left){h':aae}(l:Le hq h'):∃a,WsS a h' X n xv tv lv us rows th left/\Le r a/\(∀u x,RL RP h' u x->Z2 hq u->RL RP a u x)/\∀g,Le g h'->(∀b,blk xv=some b\/blk tv=some b\/b=X->g.own b=none)->Le g a:=by
 have mem:∀b,b∈X::(bl xv++bl tv)↔blk xv=some b\/blk tv=some b\/b=X:=fun b=>by grind[Zr]
 have own:∀b,blk xv=some b\/blk tv=some b\/b=X->(rem (X::(bl xv++bl tv)) h').own b=none:=fun b hb=>by grind[DC]
 have lr:Le r (rem (X::(bl xv++bl tv)) h'):=(S.O.lr.trans l).iV fun b hb=>by
  rcases(mem b).1 hb with q|q|q
  .exact S.O.ap b q
  .exact S.at_ b q
  grind[WsS.nX]
 refine⟨rem (X::(bl xv++bl tv)) h',⟨⟨S.O.g.le l,Sa _ _,fun b hb=>own b (.inl hb),S.O.ln,fun i x u e h2=>(S.O.rd i x u e h2).le Nn.RP lr⟩,S.gt.le l,fun b hb=>own b (.inr (.inl hb)),l.own _ _ S.oX,own X (.inr (.inr rfl)),S.dx,S.dt,S.d,S.pl.le lr⟩,lr,fun u x f ha=>?_,fun g h hg=>h.iV fun b hb=>hg b ((mem b).1 hb)⟩;exact RL.remK f fun b hb c=>S.ownx ((mem b).1 hb) (ha b c)
theorem WsS.push(S:WsS r hq X n xv tv lv us rows th left)(l:WF hq){u:Value}{x:RZ}(s:RL RP r u x)(H:rows.length<=100000):
  ∃f h j,abB Tryz.prog hq 27 1 [(0,u)]=some (.slice (some ⟨hq.next,0,none⟩) 1 1,f)/\adg Tryz.prog f 27 27 xv (.slice (some ⟨hq.next,0,none⟩) 1 1)=some (h,j)/\WsS r j X n h tv lv (us++[u]) (rows++[x]) th left/\WF j:=by
 have u1:=s.one;obtain⟨f,B,l4,m,C⟩:=Tt l [u]
 have bl:abB Tryz.prog hq 27 1 [(0,u)]=some (.slice (some ⟨hq.next,0,none⟩) 1 1,hq.alloc (.cells [u])):=by obtain⟨a,c,rfl,-⟩:=s.sl;rfl
 have D:CS 1 f (.slice (some ⟨hq.next,0,none⟩) 1 1) 1 [u]:=CS.own (k:=1) (off:=0) (n:=1) (cap:=1) C Ma
 obtain⟨v',j,v,I,hf⟩:=GS.append (P:=Tryz.prog) (t:=27) (xt:=27) (k:=1) Ji (S.O.g.le l4) (fun e E=>CS.src E D) S.O.one (by simp[u1]) Ma (by have:=S.O.ln;omega);obtain⟨l5,F⟩:=hf r m (S.O.lr.trans l4) S.O.ap;have keep:=fun{b:Nat}{o:fK}(p:hq.own b=some o)(hb:blk xv≠some b)=>aG hf m (l4.own _ _ p) hb;have z:=keep S.oX S.dx;refine⟨f,v',j,by rw[bl,B],v,⟨⟨pw,l5,F,by simp[S.O.ln],fun i y w A h2=>?_⟩,GS.kept S.gt fun b o hb p=>(keep p fun q=>S.d b q hb).1,S.at_,z.1,S.nX,z.2,S.dt,fun b hb G=>?_,S.pl⟩,xr m v⟩
 .have ln:=S.O.ln;by_cases c:i<us.length
  .rw[kc NH]at A;rw[kc c]at h2;exact S.O.rd i y w A h2
  grind
 .have:∃o,hq.own b=some o:=by
   cases q:hq.own b with
   |none=>exact absurd q (GS.Sy S.gt G)
   |some o=>grind
  grind[WsS.d]
theorem WsS.addT(S:WsS r hq X n xv tv lv us rows th left)(i:WF hq)(v:Nat)(B:th.length<=100000):
  ∃a h f,abB Tryz.prog hq 49 1 [(0,.int .i64 (v:Int))]=some (.slice (some ⟨hq.next,0,none⟩) 1 1,h)/\adg Tryz.prog h 49 49 tv (.slice (some ⟨hq.next,0,none⟩) 1 1)=some (a,f)/\WsS r f X n xv a lv us rows (th++[v]) left/\WF f:=by
 obtain⟨a,h,f,t,u,k,w,l4,hf,l⟩:=S.gt.push i (v:Int) (by grind[y6]);obtain⟨l5,x⟩:=hf r S.O.lr S.at_;have m:=l X _ S.oX S.dt;have j:aaa th++[(v:Int)]=aaa (th++[v]):=by simp[aaa]
 rw[j]at k;have gs:GS 1 f xv us.length us:=by
  obtain⟨p,⟨q,y⟩|⟨id,c,cap,q,z,s,A⟩⟩:=S.O.g
  .exact⟨p,.inl ⟨q,y⟩⟩
  .exact⟨p,.inr ⟨id,c,cap,q,(l id _ z fun e=>S.d id (by rw[q];rfl) e).1,s,A⟩⟩
 refine⟨a,h,f,t,u,⟨⟨gs,l5,S.O.ap,S.O.ln,S.O.rd⟩,k,x,m.1,S.nX,S.dx,m.2,fun b hb s=>?_,S.pl⟩,w⟩;have:∃o,hq.own b=some o:=by
  cases q:hq.own b with
  |none=>exact absurd q (GS.Sy S.O.g hb)
  |some o=>grind
 grind[WsS.d]
def WsS.setX(S:WsS r hq X n xv tv lv us rows th left)(c:WF hq){b:Value}{a:List Pr}(e:PR r b a):∃h',acs Tryz.prog hq 24 (.pointer (some ⟨X,0,none⟩)) (.agg #[.int .i64 (n:Int),b])=some h'/\WsS r h' X n xv tv b us rows th a/\WF h':=by refine⟨_,DG S.oX e.sl.one e.sl.cell,⟨⟨GS.put S.O.g _ S.dx,S.O.lr.put _ S.nX,S.O.ap,S.O.ln,S.O.rd⟩,GS.put S.gt _ S.dt,S.at_,aae.Y3 _ _ _,S.nX,S.dx,S.dt,S.d,e⟩,c.put _ (c.lt S.oX)⟩
end
variable {X:Nat} {h:aae} {lv:Value}
theorem WsS.side{P:Program}{i:LA}{r a:aae}{X n:Nat}{c e j:Value}{us:List Value}{rows:AM}{th:II}{left:List Pr}(S:WsS r a X n c e j us rows th left){f:FuncId}{args:List Value}{Q:Value->aae->Prop}(t:∀x g m,Q x g->Le g m->Q x m)(q:AC P i f args (rem (X::(bl c++bl e)) a) fun x g=>Le (rem (X::(bl c++bl e)) a) g/\Q x g):
  AC P i f args a fun x h'=>∃h,WsS h h' X n c e j us rows th left/\Le r h/\Le a h'/\Q x h:=by
 have mem:∀b,b∈X::(bl c++bl e)↔blk c=some b\/blk e=some b\/b=X:=fun b=>by grind[Zr]
 have p:∀v:Value,(bl v).Nodup:=fun v=>by grind[bl]
 have nd:(X::(bl c++bl e)).Nodup:=by grind[WsS.dx,Zr,WsS.dt,WsS.d]
 refine(AC.side _ a _ (fun b hb=>S.ownx ((mem b).1 hb)) nd q).mono ?_;rintro x h' ⟨g,⟨l1,s⟩,l2,k⟩;have l:Le a h':=⟨by grind[Le.trans,Le.ext,vL],fun b o u=>by grind[Le.own,Th]⟩;grind[WsS.frz]
def ldX1{n:Int}(o:h.own X=some (.cells [.int .i64 n,lv])):acd Tryz.prog h 22 ⟨X,1,none⟩=some lv:=by rw[Fq eY rfl o];rfl
theorem Ways_any(W0:LA)(v:Value)(n:Nat)(es:List Pr)(h:aae)(hg:GR h v ⟨(n:Int),es⟩)(H:bX ⟨(n:Int),es⟩)(T2:zW n es):
  AC Tryz.prog W0 106 [v] h fun x h'=>Le h h'/\∃(a:Nat)(l:II)(ws:List Way),RL (RL RP) h' x (aaa (a::l)::(ws.map pathOf).map aaa)/\okc 1 x/\(∃d,(∀g,Le h' g->acd Tryz.prog g 49 (abv x 0)=some d)/\RL RP h' d (aaa (a::l))/\okc 1 d)/\l.Nodup/\3<=l.length/\l.length<=n/\(∀v∈l,nx l v∈eN n es v)/\ahO (eN n es) (Ei l) ws/\ws.length<=es.length/\∀w∈ws,2<=(pathOf w).length/\(pathOf w).length<=n:=by
 have hR:=H.GD;have dw:(n:Int)<=200:=H.n1;have dz:es.length<=594:=H.len;have aF:=hg
 obtain⟨ev,rfl,hp⟩:=hg.open
 obtain⟨p0,rest,bQ⟩:=xD (T2.es_ne hR);have aH:es[0]?=some p0:=by rw[bQ];rfl
 obtain⟨a,b,rfl,dG,hb⟩:=jB hR (show p0∈es by grind);have bW:Jp es a b:=.inl pw;have aJ:a<n:=NH;have bY:a≠b:=NH;refine AC.vE ⟨Tryz.func106,rfl,WY⟩ Tryz.ntmps106 Tryz.results106 fun bZ=>?_;simp only[Br,seval];obtain⟨h1,b1,t,dH,oB,lA⟩:=r8 (n:=(n:Int)) bZ hp
 generalize h.next=B at*
 have aK:=lA h1 (Le.refl _);have ae:=hp.le t;have aP:=ae.addr (k:=.i64) 0 pw;have q0:=ae.l0 aH;have q1:=ae.l1 aH;simp only[iu]at aP;refine Sk b1 ?_;refine gh (tA [0,1,2,3,4,5,6,7,8,9,10,11] .done) ?_;have b0:agQ Tryz.prog 24 (.pointer (some ⟨B,0,none⟩)) 1=some (.pointer (some ⟨B,1,none⟩)):=rfl;refine CO (acL b0 aK.2.2 aK.1 aP @Dh @Z0 q0 q1) ?_;refine kCi Tryz.func74 (ajK W0 _ (n:Int) a b es h1 (aF.le t) NH) ?_;rintro x h2 w2 ⟨e2,rfl,g2,l2,-⟩;have b2:=H.sub (ajU es a b);have aT:=ring_con H T2 aJ hb bY;refine Uy ?_;refine kCi Tryz.func145 (ajT W0 _ n b a (ais es a b) h2 ⟨e2,rfl,g2.pr⟩ b2 hb aJ) ?_;rintro x h3 w3 ⟨l3,⟨hn,-⟩|⟨-,wv,c,rfl,aV,-,b3,b4,aW⟩⟩
 .exact absurd aT hn
 obtain⟨nd,b5,b6,I0,b8⟩:=alg H bW b3 aW;have ag:=l2.trans l3;obtain⟨h4,e4,l4,w4,o4⟩:=Tt w3 [.int .i64 (a:Int)];have aX:=DQ h3 (a:Int);rw[e4]at aX
 have nR:h3.own h3.next=none:=(Le.refl h3).next w3 (qL0 _)
 have g4:GI h4 (.slice (some ⟨h3.next,0,none⟩) 1 1) [(a:Int)]:=GS.full o4 rfl (show 1<1000000000000 by decide)
 have b9:Z2 h3 (.slice (some ⟨h3.next,0,none⟩) 1 1):=fun b hb=>by grind[blk]
 generalize h3.next=N3 at*
 obtain⟨d,J,e5,g5,w5,f5,-⟩:=GI.join g4 w4 (aV.le Nn.RP l4) (by grind[aaa]);obtain⟨l5,a5⟩:=f5 h3 l4 b9;have er:[(a:Int)]++aaa c=aaa (a::c):=by simp[aaa]
 rw[er]at g5;have cc:okc 1 d:=GS.okc g5;obtain⟨A,e6,l6,w6,o6⟩:=Tt w5 [d]
 have cd:abB Tryz.prog J 27 1 [(0,d)]=some (.slice (some ⟨J.next,0,none⟩) 1 1,A):=by
  have:abB Tryz.prog J 27 1 [(0,d)]=some (.slice (some ⟨J.next,0,none⟩) 1 1,J.alloc (.cells [d])):=by obtain⟨_,_,rfl,-⟩:=g5.rl.sl;rfl
  rw[this,e6]
 have cf:J.own J.next=none:=(Le.refl J).next w5 (qL0 _)
 generalize J.next=p at*
 obtain⟨h7,e7,l7,w7,o7⟩:=Tt w6 []
 have cg:abB Tryz.prog A 49 0 []=some (.slice (some ⟨A.next,0,none⟩) 0 0,h7):=by rw[<-e7];rfl
 have nT:A.own A.next=none:=(Le.refl A).next w6 (qL0 _)
 have g7:GI h7 (.slice (some ⟨A.next,0,none⟩) 0 0) []:=GS.full o7 rfl WY
 have ck:Z2 A (.slice (some ⟨A.next,0,none⟩) 0 0):=fun b hb=>by grind[blk]
 generalize A.next=N6 at*
 have cm:=(l5.trans l6).trans l7;obtain⟨tv,h8,e8,g8,w8,f8,-⟩:=GI.join g7 w7 (aV.le Nn.RP cm) (by grind[aaa]);obtain⟨l8,a8⟩:=f8 A l7 ck;rw[Ah]at g8;have cp:=l8.own _ _ o6;have a6:=((ag.trans l5).trans l6).trans l8;have cq:(aaa (a::c)).length=(a::c).length:=y6 _;have dA:0<(aaa c).length:=pw;obtain⟨f,bT⟩:∃f,blk tv=some f:=by
  obtain⟨hl,⟨q,h0⟩|⟨id,c',cap,q,ho,-⟩⟩:=g8
  .omega
  .exact⟨id,by rw[q];rfl⟩
 have dI:=GS.Sy g8 bT;have dB:p≠f:=fun e=>by have:=a8 f bT;grind
 have dK:blk d≠some p:=fun e=>by have:=GS.Sy g5 e;grind
 have dL:blk d≠some f:=fun e=>by obtain⟨o,ho⟩:=iy.1 (GS.Sy (g5.le l6) e);have:=a8 f bT;grind
 have aj:∀b∈[p,f],h.own b=none:=fun b hb=>by
  rcases vZ.1 hb with rfl|hb
  .exact(t.trans (ag.trans l5)).none cf
  .rw[jf.1 hb];exact(t.trans ((ag.trans l5).trans l6)).none (a8 f bT)
 have a7:Le h (rem [p,f] h8):=(t.trans a6).iV aj;have cr:RL RP (rem [p,f] h8) d (aaa (a::c)):=RL.remK ((g5.rl.le Nn.RP l6).le Nn.RP l8) fun b hb=>by grind
 refine Sk (bG aX e5 cd cg e8 ((lA h8 a6).1)) ?_;refine kCi Tryz.func146 (AC.side [p,f] h8 _ (fun b hb=>by grind) pw (ai0 W0 _ d (n:Int) es (aaa (a::c)) (rem [p,f] h8) (aF.le a7) cr NH pw)) ?_;rintro x G w9 ⟨g9,⟨s,rfl,pl,R⟩,C,kg⟩;rw[cq]at pl;have al:Le h8 G:=⟨by
   have:=(R.trans C).ext;grind[vL],fun b o ho=>by
  by_cases q:b∈[p,f]
  .grind
  .exact C.own _ _ (R.own _ _ (Th.2 ⟨ho,q⟩))⟩
 obtain⟨L,ba,bb,aq,ar⟩:=Tt w9 [.int .i64 0,.slice none 0 0];have D:=Lo G;rw[ba]at D
 have nG:G.own G.next=none:=(Le.refl G).next w9 (qL0 _)
 have st:=DG (n:=(n:Int)) (ev:=s) ar pl.sl.one pl.sl.cell;have cx:=aq.put (.cells [.int .i64 (n:Int),s]) (aq.lt ar)
 have bg:=aae.Y3 L G.next (.cells [.int .i64 (n:Int),s])
 have M:Le G (L.put G.next (.cells [.int .i64 (n:Int),s])):=bb.put _ nG
 generalize L.put G.next (.cells [.int .i64 (n:Int),s])=av at*
 generalize G.next=X at*
 have T:=C.trans M;have U:=M.own _ _ (al.own _ _ cp);have cz:∀b,blk (.slice (some ⟨p,0,none⟩) 1 1)=some b->b=p:=fun b hb=>by grind[blk]
 have kX:=(kg p Ma).1;have kT:=(kg f Ma).1;have cC:p≠X:=fun e=>by grind
 have cE:f≠X:=fun e=>by grind
 have O0:ag0 g9 av (.slice (some ⟨p,0,none⟩) 1 1) [d] [aaa (a::c)]:=by
  refine⟨GS.full U rfl (show 1<1000000000000 by decide),T,fun b hb=>?_,rfl,fun i x u h1 h2=>?_⟩
  .grind
  grind[RL.le,Nn.RP]
 have S0:WsS g9 av X n (.slice (some ⟨p,0,none⟩) 1 1) tv s [d] [aaa (a::c)] c (ag4 es (aaa (a::c)) ((a::c).length-1)):=by
  refine⟨O0,(g8.le al).le M,fun b hb=>?_,bg,C.none nG,fun hb=>?_,fun hb=>?_,fun b hb ht=>?_,pl⟩
  .grind
  .grind
  all_goals grind
 have l0:Le h g9:=a7.trans R;have ay:(ag4 es (aaa (a::c)) ((a::c).length-1)).length<=es.length:=aiT _ _ _;simp only[HO,seval,D,st];refine lIn (fun k fr hq=>∃(left:List Pr)(th:II)(ws:List Way)(xv tv s:Value)(us:List Value)(r:aae),k=left.length/\fr=mkF [(8,xv),(9,tv),(10,.pointer (some ⟨X,0,none⟩))]/\WsS r hq X n xv tv s us (aaa (a::c)::(ws.map pathOf).map aaa) th left/\us[0]?=some d/\Le h r/\akb n es left th/\(∀rest,ahO (eN n es) (HdW es left) rest->ahO (eN n es) (Ei c) (ws++rest))/\ws.length+left.length<=es.length/\∀w∈ws,2<=(pathOf w).length/\(pathOf w).length<=n) ⟨_,c,[],_,tv,s,[d],g9,rfl,rfl,S0,rfl,l0,I0,fun rest q=>by have e:HdW es (ag4 es (aaa (a::c)) ((a::c).length-1))=Ei c:=funext fun x=>funext fun y=>propext (b8 x y);grind,pw,fun w hw=>by cases hw⟩ ?_;clear S0 O0 cz kX kT cC cE I0 l0 ay bg U T M cx st nG D ar aq bb ba al kg C R w9 pl;clear av L s g9;rintro k fr hq cM ⟨left,th,ws,xv,E,s,us,r,rfl,rfl,S,az,lq,I,K,dM,bh⟩;have lP:=fun g=>(S.pl.le S.O.lr).len g;by_cases c0:left=[]
 .have d0:decide ((left.length:Int)>0)=false:=Sb (by rw[c0];simp);refine Sk (bG @Di @Ip.eq_1 @Gc (ldX1 S.oX) lP d0) ?_;obtain⟨u,V,lu,ru⟩:=S.O.row (i:=0) Ma;rw[az]at V;injection V with V;subst V;refine⟨lq.trans S.O.lr,a,c,ws,S.O.rl,GS.okc S.O.g,⟨_,lu,ru,cc⟩,nd,b5,b4,b6,?_,NH,bh⟩;have:=K [] (.nil fun x y cN=>⟨(vD hR).1 cN,fun q=>by rw[c0]at q;rcases q with q|q<;>cases q⟩);grind
 have dE:0<left.length:=amm.2 c0;have d0:decide ((left.length:Int)>0)=true:=XJ NH;have cP:=H.sub I.sub;have dF:th.length<=n:=by have:=agO I.nd (B:=List.range n) fun u V=>j3.2 (I.lt u V);grind
 have dO:=I.sub.length_le;have pq:=S.pl.le S.O.lr;obtain⟨_,_,aB,-⟩:=pq.sl;refine Sk (rE @Di @Ip.eq_1 @Gc (ldX1 S.oX) lP d0 (tY S.oX ⟨_,_,_,aB⟩)) ?_;refine kCi Tryz.func147 (way1_any W0 _ E n left th hq ⟨s,rfl,pq⟩ cP S.gt.rl I.lt NH (I.two H T2 c0)) ?_;rintro cv cR bj ⟨bk,c',rc,bm,cU⟩;obtain⟨r',S',cW,mkR,-⟩:=S.frz bk;have F:=mkR cv _ rc bm;obtain⟨a',inn,b',ec,W,I',hH,cZ,dQ,dS,bo⟩:=I.step H cU;have c3:pathOf (a',inn,b')=c':=ec.symm;have c4:=lq.trans cW;have br:(aaa (a::c)::(ws.map pathOf).map aaa).length<=100000:=by simp;omega
 obtain⟨c5,N,c6,bx,bB,aC,c9⟩:=S'.push bj F br;have bF:aaa (a::c)::(ws.map pathOf).map aaa++[aaa c']=aaa (a::c)::((ws++[(a',inn,b')]).map pathOf).map aaa:=by simp[c3]
 rw[bF]at aC;have lc:=fun g=>F.DH g;rw[y6]at lc;have adc:=fun(j:Nat)(hj:j<c'.length)=>F.TA j (by rw[y6];exact hj);have da:=fun(g:aae)(R:Le r' g)(j:Nat)(hj:j<c'.length)=>show acd Tryz.prog g 3 (abv cv j)=some (.int .i64 (c'[j]:Nat)) by rw[(F.le Nn.RP R).Uc j (by rw[y6];exact hj),sY hj]
 refine Sk (XC bx bB) ?_;refine lIn (fun k fr hz=>∃(j:Nat)(E:Value),k=c'.length-j/\j<=c'.length/\fr=mkF [(8,N),(9,E),(10,.pointer (some ⟨X,0,none⟩)),(11,cv),(12,.int .i64 j)]/\WsS r' hz X n N E s (us++[cv]) (aaa (a::c)::((ws++[(a',inn,b')]).map pathOf).map aaa) (aip th (c'.take j)) left) ⟨0,E,rfl,WA _,rfl,aC⟩ ?_;clear aC c9 bx bB S' S bj bk rc bm mkR cM pq lP;clear cR c5 c6 hq;rintro k fr hz db ⟨j,P,rfl,hj,rfl,S⟩;have bH:(aip th (c'.take j)).length<=n:=by
  obtain⟨k1,k2⟩:=ai7 (c'.take j) th I.nd;have:=agO k1 (B:=List.range n) fun u V=>j3.2 (by
   rcases(k2 u).1 V with q|q
   .exact I.lt u q
   .exact bo u (aez q))
  grind
 simp only[HO,seval,lc];refine Kl.intro (fun ht=>?_) (fun hf=>?_)
 .have m:j<c'.length:=CC ht;clear ht;have bI:=Tw j NH;have am:=amf (th:=th) m;have a1:=adc j m;have l1:=da hz S.O.lr j m;generalize c'[j]=y at*;refine Sk (XC a1 l1) ?_;refine kCi alN (ahD W0 P (aaa (aip th (c'.take j))) (y:Int) hz S.gt.rl (by rw[y6];omega)) ?_;rintro x dT dV ⟨aD,rfl⟩;rcases aD with⟨dc,rfl⟩|⟨i,rfl,hi,-⟩
  .have aE:y∉aip th (c'.take j):=fun q=>dc (by unfold aaa;exact N8.2 ⟨y,q,rfl⟩);rw[aal aE]at am;have dn:decide ((-1:Int)<0)=true:=by decide
   obtain⟨dd,dZ,ed,de,df,bN,ee⟩:=S.addT db y NH;rw[<-am]at bN;simp only[HO,seval,dn,a1,l1,de,df,bI];exact lgA (JS m) ⟨j+1,dd,rfl,m,rfl,bN⟩
  .have aE:y∈aip th (c'.take j):=by
    have:=BS hi;unfold aaa at this;obtain⟨z,ef,e⟩:=N8.1 this;have:z=y:=NH;grind
   rw[AE aE]at am;have dn:decide ((i:Int)<0)=false:=Sb NH;rw[<-am]at S;simp only[HO,seval,dn,bI];exact lgA (JS m) ⟨j+1,P,rfl,m,rfl,S⟩
 have dj:c'.length<=j:=vp hf;rw[HV dj]at S bH;have pq:=S.pl.le S.O.lr;obtain⟨_,_,aB,-⟩:=pq.sl;have aa:Le r' (rem (X::(bl N++bl P)) hz):=S.O.lr.iV fun b hb=>by
  rcases vZ.1 hb with rfl|hb
  .exact S.nX
  .rcases yM.1 hb with q|q
   .exact S.O.ap b (Zr.1 q)
   .exact S.at_ b (Zr.1 q)
 refine Sk (tY S.oX ⟨_,_,_,aB⟩) ?_;refine kCi Tryz.func146 (S.side (Q:=fun x g=>∃ev,x=.agg #[.int .i64 (n:Int),ev]/\PR g ev (ag4 left (aaa c') (c'.length-1))) (fun x g g' ⟨ev,q1,q2⟩ R=>⟨ev,q1,q2.le R⟩) ((ai0 W0 _ cv (n:Int) left (aaa c') _ ⟨s,rfl,S.pl.le aa⟩ (F.le Nn.RP aa) NH (by rw[y6];omega)).mono fun x g ⟨ev,q1,q2,q3⟩=>⟨q3,ev,q1,by rw[y6]at q2;exact q2⟩)) ?_;rintro x eg dk ⟨r2,S2,dm,-,dp,rfl,dq⟩;obtain⟨eh,dv,S3,ei⟩:=S2.setX dk dq;refine Sk dv ?_;exact lgA cZ ⟨_,_,ws++[(a',inn,b')],N,P,dp,us++[cv],r2,rfl,rfl,S3,by rw[kc (Ny.1 az).1];exact az,c4.trans dm,I',fun rest q=>by
   have e:HdW es (ag4 left (aaa c') (c'.length-1))=fun x y=>HdW es left x y\/Ay a' inn b' x y:=funext fun x=>funext fun y=>propext (hH x y);rw[e]at q;have:=K _ (.cons W q);rwa[bC],by rw[eR,qH];omega,fun w hw=>by
   rcases yM.1 hw with q|q
   .exact bh w q
   grind[List.mem_singleton]⟩
attribute [local irreducible] Jz JL vq cQ
variable {l:II} {v:Value} {xs:RZ}
theorem RL.tailI{x:Int}(r:RL RP h v (x::xs))(m:okc 1 v):
  ∃v',afp Tryz.prog 49 v (some (.int .i64 1)) none none=some v'/\RL RP h v' xs:=by
 obtain⟨vs,rs,ln,rd⟩:=r;obtain⟨a,n,c,rfl,f⟩:=m;obtain⟨a',c',e,hs⟩:=rs.sl;injection e with o p s;subst o p;have j:0<vs.length:=by rw[ln];simp
 obtain⟨a,rfl⟩:=EP.1 (hs j);have rest:∀c',RL RP h (.slice (some (Ip a 1)) (vs.length-1) c') xs:=fun c'=>by have k:=rs.part (cap':=c') (lo:=1) (hi:=vs.length) j (qL0 _) rfl;rw[HV Ma]at k;refine⟨vs.drop 1,k,pw,fun i y u l h2=>?_⟩;grind
 have b:(1:Int)<=(vs.length:Int):=NH;rcases f with⟨l,h2⟩|⟨rfl,-⟩
 .have d:¬UNK<=c:=M1.2 h2;by_cases q:c=1
  .subst q;have e:vs.length=1:=NH;refine⟨.slice (some a) 0 0,?_,?_⟩
   .simp[afp,Mb,Ac,ts3,afB,af4,d,e]
   .have:xs=[]:=aml.1 pw;rw[this];exact⟨[],⟨⟨_,_,rfl,Ma⟩,fun i x g=>by cases g⟩,rfl,fun i x u g=>by cases g⟩
  .refine⟨.slice (some (Ip a 1)) (vs.length-1) (c-1),?_,rest _⟩;simp[afp,Mb,Ac,ts3,afB,af4,d,l,q,b]
 .refine⟨.slice (some (Ip a 1)) (vs.length-1) (UNK+1),?_,rest _⟩;simp[afp,Mb,Ac,ts3,afB,af4,b]
def mkRows2(h:aae)(u w:Value)(b:∃a l c,u=.slice a l c)(hw:∃a l c,w=.slice a l c):abB Tryz.prog h 27 2 [(0,u),(1,w)]=some (.slice (some ⟨h.next,0,none⟩) 2 2,h.alloc (.cells [u,w])):=by obtain⟨_,_,_,rfl⟩:=b;obtain⟨_,_,_,rfl⟩:=hw;kernel_rfl
theorem alh{n:Nat}{E:Nat->II}(b:∀v∈l,nx l v∈E v)(nd:l.Nodup):ajv E (Ei l) [l,l.reverse]:=fun f hf=>by have c:∀x∈l,∃w∈E x,Ei l x w:=fun x a=>⟨_,b x a,.inl ⟨a,rfl⟩⟩;grind
theorem akc(z:LA)(v:Value)(n:Nat)(es:List Pr)(h:aae)(hg:GR h v ⟨(n:Int),es⟩)(A:bX ⟨(n:Int),es⟩)(T2:zW n es)(hn:n<=20)(aj:es.length<=40):
  AC Tryz.prog z 57 [v] h fun x h'=>afK (XU n (eN n es)) x/\Le h h':=by
 have hR:=A.GD;have hE:=MG hR A.q9;have C:=hg
 obtain⟨ev,rfl,hp⟩:=hg.open
 refine AC.vE ⟨Tryz.func57,rfl,WY⟩ Tryz.ntmps57 Tryz.results57 fun D=>?_;simp only[Br,seval];obtain⟨e,b1,m,aq,-,lA⟩:=r8 (n:=(n:Int)) D hp
 generalize h.next=B at*
 refine Sk (XC b1 ((lA e (Le.refl _)).1)) ?_;refine kCi Tryz.func106 (Ways_any z _ n es e (C.le m) A T2) ?_;rintro E h2 w2 ⟨l2,a,l,ws,rx,F,⟨rv,G,rr,H⟩,nd,h3,ar,o,W,av,ay⟩;have I:=m.trans l2;have er:aaa (a::l)=(a:Int)::aaa l:=rfl;rw[er]at rr;obtain⟨d,J,rl⟩:=rr.tailI H;have p:=rx.NS 0 Ma;simp only[iu]at p;have ll:=fun g=>rl.DH g;rw[y6]at ll;have K:adA .i64 ((l.length:Int)-1)=(l.length:Int)-1:=ie _ NH NH;have L:=fun(j:Nat)(q:j<l.length)=>rl.TA j (by rw[y6];exact q);have M:=fun(g:aae)(lg:Le h2 g)(j:Nat)(q:j<l.length)=>show acd Tryz.prog g 3 (abv d j)=some (.int .i64 (l[j]:Nat)) by rw[(rl.le Nn.RP lg).Uc j (by rw[y6];exact q),sY q]
 refine Sk (IX p (G h2 (Le.refl _)) J ll K) ?_;refine aab.intro (fun k fr f=>∃(j:Nat)(bv:Value),k=l.length-j/\j<=l.length/\fr=mkF [(3,E),(4,d),(5,bv),(6,.int .i64 ((l.length:Int)-1-(j:Nat)))]/\GI f bv (aaa (l.reverse.take j))/\Le h2 f/\Z2 h2 bv)
  l.length [(3,E),(4,d),(5,.slice none 0 0),(6,.int .i64 ((l.length:Int)-1))] hAs
  ⟨0,_,rfl,WA _,Ma,GI.nil _,Le.refl _,fun b hb=>by grind[blk]⟩ ?_
 rintro k fr f r ⟨j,bv,rfl,q,rfl,g,y,ap⟩;by_cases c:j<l.length
 .have dc:decide ((l.length:Int)-1-(j:Int)>=0)=true:=XJ NH;have N:((l.length:Int)-1-(j:Int)>=0)=True:=eq_true NH;have ej:(l.length:Int)-1-(j:Int)=((l.length-1-j:Nat):Int):=NH;have s:l.length-1-j<l.length:=NH;have O:adA .i64 ((l.length:Int)-1-(j:Int)-1)=(l.length:Int)-1-((j+1:Nat):Int):=by grind[ie]
  have a1:=L _ s;have d1:=M f y _ s;rw[<-ej]at a1;have al:l.reverse.take (j+1)=l.reverse.take j++[l[l.length-1-j]]:=by grind[List.take_succ_eq_append_getElem]
  have hb:(aaa (l.reverse.take j)).length<=100000:=by grind[y6]
  obtain⟨v',P,h5,Q,e5,g5,w5,l4,R,-⟩:=g.push r (l[l.length-1-j]:Int) hb;obtain⟨l5,a5⟩:=R h2 y ap;have S:aaa (l.reverse.take j)++[((l[l.length-1-j]:Nat):Int)]=aaa (l.reverse.take (j+1)):=by grind[aaa]
  rw[S]at g5;refine Sk (rE dc N a1 d1 Q e5 O) ?_;exact tn (l.length-(j+1)) [(3,E),(4,d),(5,v'),(6,.int .i64 ((l.length:Int)-1-(j+1:Nat)))] NH hAs ⟨j+1,v',rfl,c,rfl,g5,l5,a5⟩
 have dc:decide ((l.length:Int)-1-(j:Int)>=0)=false:=Sb NH;have N:((l.length:Int)-1-(j:Int)>=0)=False:=eq_false NH;rw[HV pw]at g;have T:=rl.le Nn.RP y;obtain⟨_,_,U,-⟩:=T.sl;obtain⟨_,_,V,-⟩:=g.rl.sl;obtain⟨P,Q,l4,w4,o4⟩:=Tt r [d,bv];have bs:=mkRows2 f d bv ⟨_,_,_,U⟩ ⟨_,_,_,V⟩;rw[Q]at bs
 have rF:RL (RL RP) P (.slice (some ⟨f.next,0,none⟩) 2 2) ([l,l.reverse].map aaa):=by
  refine⟨[d,bv],RS.whole o4 rfl,rfl,fun i x u e h2=>?_⟩
  match i with
  |0=>grind[RL.le,Nn.RP]
  |1=>simp at e h2;subst e h2;exact g.rl.le Nn.RP l4
  |i+2=>simp at e
 have t:=y.trans l4;obtain⟨wv,X,aa,ae⟩:=RL.tail (rx.le (Nn.RL Nn.RP) t) F;have key:aid (ws.map pathOf) [l,l.reverse]↔XU n (eN n es):=(drawn_eq hE W (alh (n:=n) o nd) (.refl _)).trans (alL hE nd h3 o W);refine Sk (xU dc N bs X) ?_;refine kCi qS39 (amd z (ws.map pathOf) [l,l.reverse] n _ wv P rF aa ae (fun w hw=>by
   grind) (fun x hx=>by
   rcases vZ.1 hx with rfl|hx
   all_goals grind) pw pw) ?_
 rintro x h5 w5 ⟨⟨bb,rfl,ag⟩,l5⟩;refine Uy ?_;exact⟨⟨bb,rfl,ag.trans key⟩,(I.trans t).trans l5⟩
attribute [local instance] Classical.propDecidable in
noncomputable def aiq(G:GM):Int:=if¬bX G then 20 else if¬zW G.n.toNat G.es then 60 else if¬XU G.n.toNat (eN G.n.toNat G.es)then 90 else 0
attribute [local instance] Classical.propDecidable
theorem ali(k:LA)(v:Value)(G:GM)(h:aae)(hg:GR h v G)(u:G.n<=20)(a:G.es.length<=40):
  AC Tryz.prog k 20 [v] h fun x h'=>x=.int .i64 (aiq G)/\Le h h':=by
 have b:=hg;obtain⟨l,es⟩:=G
 obtain⟨ev,rfl,w⟩:=hg.open
 simp only at u a;refine AC.vE ⟨Tryz.func20,rfl,WY⟩ Tryz.ntmps20 Tryz.results20 fun m=>?_;simp only[Br,seval];obtain⟨s,y,c,z,-,o⟩:=r8 (n:=l) m w
 generalize h.next=B at*
 refine Sk (XC y ((o s (Le.refl _)).1)) ?_;refine kCi Xv (agX k _ ⟨l,es⟩ s (b.le c)) ?_;rintro x h2 E ⟨⟨d,rfl,e⟩,l2⟩;have f:=c.trans l2;cases d with
 |false=>
  have g:¬bX ⟨l,es⟩:=fun q=>by cases e.2 q
  refine Uy ?_;grind[aiq.eq_1]
 |true=>
 have p:=e.1 rfl;have A:0<=l:=p.n0;obtain⟨n,rfl⟩:=Z6 A;refine Sk ((o h2 l2).1) ?_;refine kCi Tryz.func56 (RTwo_any k _ n es h2 (b.le f) p) ?_;rintro x h3 F ⟨⟨d,rfl,i⟩,l3⟩;have j:=f.trans l3
 have C:aiq ⟨(n:Int),es⟩=if¬zW n es then 60 else if¬XU n (eN n es)then 90 else 0:=by grind[aiq.eq_1]
 cases d with
 |false=>
  have g:¬zW n es:=fun q=>by cases i.2 q
  refine Uy ?_;grind
 |true=>
 have t:=i.1 rfl;rw[aal (fun q=>q t)]at C;refine Sk ((o h3 (l2.trans l3)).1) ?_;refine kCi Tryz.func57 (akc k _ n es h3 (b.le j) p t NH a) ?_;rintro x H I ⟨⟨d,rfl,r⟩,l4⟩;have D:=j.trans l4;cases d with
 |false=>
  have g:¬XU n (eN n es):=fun q=>by cases r.2 q
  refine Uy ?_;grind
 |true=>refine Uy ?_;grind
attribute [local instance] Classical.propDecidable in
noncomputable def ahN(G:GM):AM:=if aiq G=0 then(embX G.n.toNat G.es).getD []else[]
theorem nilRL(h:aae):RL (RL RP) h rW []:=RL.nil
attribute [local instance] Classical.propDecidable in
theorem aiI.tells{G:GM}{h:aae}{b:Value}{e:Int}(I:aiI G h b e):e=aiq G/\RL (RL RP) h b (ahN G)/\(e≠0->ahN G=[])/\(e=0->bX G/\Av G.n.toNat G.es (ahN G)/\Flat G.n.toNat (Xl (ahN G))):=by
 rcases I with⟨a,rfl,rfl⟩|⟨a,h2,rfl,rfl⟩|⟨a,h2,-,h3,rfl,rfl⟩|⟨a,h2,rs,f,h3,c,rfl,g⟩
 .grind[aiq.eq_1,ahN.eq_1,nilRL]
 .grind[aiq.eq_1,ahN.eq_1,nilRL]
 .grind[aiq.eq_1,ahN.eq_1,nilRL]
 .have i:XU G.n.toNat (eN G.n.toNat G.es):=by
   have d:0<=G.n:=a.n0;obtain⟨j,es⟩:=G;obtain⟨n,rfl⟩:=Z6 d;exact Vg a.GD a.q9 h3 c
  grind[aiq.eq_1,ahN.eq_1]
theorem alj(j:LA)(v:Value)(G:GM)(h:aae)(H:GRC h v G):AC Tryz.prog j 3 [v] h fun x h'=>x=.bool true/\Le h h':=by
 have aa:=H.c;obtain⟨a,es⟩:=G;obtain⟨ev,rfl,hp,ct⟩:=H;have u:GR h (.agg #[.int .i64 a,ev]) ⟨a,es⟩:=⟨ev,rfl,hp⟩;refine AC.vE ⟨Tryz.func3,rfl,WY⟩ Tryz.ntmps3 Tryz.results3 fun ae=>?_;simp only[Br,seval];obtain⟨b,b1,k,I,-,m⟩:=r8 (n:=a) ae hp;have d:=m b (Le.refl _)
 generalize h.next=B at*
 have ll:=fun g=>hp.len g;by_cases c1:a>9
 .have d1:decide (a>9)=true:=XJ c1;refine Sk (rE b1 @Ii @Di @Ip.eq_1 @Gc d.2.1 d1) ?_;refine kCi qS31 (ah1 j b) ?_;rintro x h2 E ⟨rfl,l2⟩;refine Uy ?_;grind[Le.trans]
 have d1:decide (a>9)=false:=Sb c1;by_cases c2:(es.length:Int)>30
 .have d2:decide ((es.length:Int)>30)=true:=XJ c2;refine Sk (Pj b1 @Ii @Di @Ip.eq_1 @Gc d.2.1 d.2.2 ll d1 @d2) ?_;refine kCi qS31 (ah1 j b) ?_;rintro x h2 E ⟨rfl,l2⟩;refine Uy ?_;grind[Le.trans]
 have d2:decide ((es.length:Int)>30)=false:=Sb c2;have aT:es.length<=30:=NH;refine Sk (Pj b1 @Ii @Di @Ip.eq_1 @Gc d.2.1 d.2.2 ll d1 @d2) ?_;have J:=hp.le k;apply Ya (F:=fun(fr:aap)(p:aae)=>∃(X:Nat)(cv:Value),Fj fr [(1,.pointer (some ⟨B,0,none⟩)),(3,.pointer (some ⟨X,0,none⟩))]/\Le b p/\WF p/\PR p cv es/\okc 2 cv/\∀g,Le p g->acd Tryz.prog g 24 ⟨X,0,none⟩=some (.agg #[.int .i64 a,cv]))
 .intro cont;refine gh (tA [0,1,2,3] (.ch 4 [3] (tA [5] (JQ 6 [] (JQ 7 [0,1,2,3,4,5,6] .done))) (JQ 6 [] (JQ 4 [3] (tA [5] (JQ 7 [0,1,2,3,4,5,6] .done)))))) ?_
  have ag:∃g,b.alloc (.cells [.int .i64 0,.slice none 0 0])=g/\Le b g/\WF g/\g.own b.next=some (.cells [.int .i64 0,.slice none 0 0]):=Tt I _
  obtain⟨o,y1,m1,v1,u1⟩:=ag
  have aj:agH Tryz.prog b 24=some (.pointer (some ⟨b.next,0,none⟩),o):=by rw[Lo,y1]
  have Q1:=m o m1;simp only[qj,seval,Qg,Ii,Di,Ip,Gc,d.2.1,d.2.2,aj,Q1.2.1,Q1.2.2];refine⟨?_,?_⟩
  .refine kGi Tryz.func18 (abi j ev es b J NH) ?_;rintro cv h2 E ⟨gc,l2,-⟩;have K:=m h2 l2;have w:=Wj (n:=a) gc.pr.sl;obtain⟨h3,h4,a3,s3,l4,w4,lG⟩:=newG (n:=a) E gc.pr;have L:=m h4 (l2.trans l4);have A3:Le h2 h3:=by grind[Lo,Le.refl,Le.alloc]
   have A3:=m h3 (l2.trans A3);simp only[qj,seval,Qg,Ii,Di,Ip,Gc,K.2.1,K.2.2,w,a3,s3,A3.2.1,A3.2.2,L.2.1,L.2.2];refine KN.UJ fun fr' h' x y=>cont fr' h' ?_;subst x y;exact⟨_,cv,hAs,l2.trans l4,w4,gc.pr.le l4,GS.okc gc,fun g l=>(lG g l).1⟩
  .refine kGi Tryz.func18 (abi j ev es o (J.le m1) NH) ?_;rintro cv h2 E ⟨gc,l2,ac⟩;have K:=m h2 (m1.trans l2);have w:=Wj (n:=a) gc.pr.sl
   have nX:blk cv≠some b.next:=fun e=>by have:=ac _ e;grind
   have oX:=l2.own _ _ u1
   have n1:b.own b.next=none:=(Le.refl b).next I (qL0 _)
   have st:=DG (n:=a) (ev:=cv) oX gc.pr.sl.one gc.pr.sl.cell
   have ho:(h2.put b.next (.cells [.int .i64 a,cv])).own b.next=some (.cells [.int .i64 a,cv]):=aae.Y3 _ _ _
   have l4:Le b (h2.put b.next (.cells [.int .i64 a,cv])):=(m1.trans l2).put _ n1
   have L:=m _ l4;obtain⟨_,_,al,-⟩:=gc.pr.sl;simp only[qj,seval,Qg,Ii,Di,Ip,Gc,K.2.1,K.2.2,w,st,L.2.1,L.2.2];refine KN.UJ fun fr' h' x y=>cont fr' h' ?_;subst x y
   exact⟨b.next,cv,hAs,l4,E.put _ (E.lt oX),GP.pr (GS.put gc _ nX),GS.okc gc,fun g l=>tY (l.own _ _ ho) ⟨_,_,_,al⟩⟩
 rintro fr p ⟨X,cv,M,N,aV,pc,aq,lX⟩;simp only[Fj]at M;obtain⟨O,P,-⟩:=M;have gX:∀g,Le p g->GR g (.agg #[.int .i64 a,cv]) ⟨a,es⟩:=fun g l=>⟨cv,rfl,pc.le l⟩;have aW:=k.trans N;refine Sk (Yb O P (lX p (Le.refl _))) ?_;refine kCi yo (Im j _ ⟨a,es⟩ p ⟨cv,rfl,pc,aq⟩) ?_;rintro x h6 w6 ⟨l6,rv,e,rfl,I1⟩;obtain⟨ar,av,ay,Q⟩:=I1.tells;have z:=N.trans l6;refine Sk (Yb O P ((m h6 z).1)) ?_;refine kCi yo (Im j _ ⟨a,es⟩ h6 (aa.le (k.trans z))) ?_;rintro x h7 w7 ⟨l7,sv,f,rfl,I2⟩;obtain⟨az,aB,-,-⟩:=I2.tells;have A:=z.trans l7;refine Sk (Yb O P ((m h7 A).1)) ?_;refine kCi Tryz.func20 (ali j _ ⟨a,es⟩ h7 (u.le (k.trans A)) (by simp only;omega) (by simp only;omega)) ?_;rintro x h8 w8 ⟨rfl,R⟩;have C:=A.trans R;have rb:(ahN ⟨a,es⟩).length<=100000/\∀l∈ahN ⟨a,es⟩,l.length<=100000:=by
  by_cases q:e=0
  .obtain⟨o,S,-⟩:=Q q;have h0:0<=a:=o.n0;obtain⟨n,rfl⟩:=Z6 h0;simp only[af8]at S;refine⟨by grind[Av.len],fun l hl=>?_⟩;obtain⟨i,hi,rfl⟩:=fj.1 hl;have aC:i<n:=by grind[Av.len]
   have:=S.akX aC;rw[D4 hi]at this;have hb:i<(Zh n es).length:=by grind[Xq]
   rw[D4 hb]at this;have:=bV n es _ (j9 hb);omega
  grind
 have r:=(av.le (Nn.RL Nn.RP) l7).le (Nn.RL Nn.RP) R;have T:=aB.le (Nn.RL Nn.RP) R;subst ar;have hf:f=aiq ⟨a,es⟩:=az;subst hf;have aD:decide (aiq ⟨a,es⟩=aiq ⟨a,es⟩)=true:=XJ rfl;have aE:decide (ahN ⟨a,es⟩=ahN ⟨a,es⟩)=true:=XJ rfl;refine Sk (XC @bne.eq_1.{0} aD) ?_
 refine kCi Tryz.func21 (ajB j rv sv _ _ h8 r T rb.1 rb.2) ?_;rintro x h9 w9 ⟨rfl,rfl⟩;have aF:=lX h9 ((l6.trans l7).trans R);refine Sk (IX aE O P aF ((m h9 C).1)) ?_;refine kCi Tryz.func22 (ajz j _ _ ⟨a,es⟩ ⟨a,es⟩ h9 (gX h9 ((l6.trans l7).trans R)) (u.le (k.trans C)) (by simp only;omega)) ?_;rintro x D aX ⟨rfl,U⟩;have dG:decide (True/\True)=true:=by decide
 have s:=C.trans U;have t:=r.le (Nn.RL Nn.RP) U;have V:=fun g=>t.qP6 g;by_cases q:aiq ⟨a,es⟩=0
 rotate_left
 .have d0:decide (aiq ⟨a,es⟩=0)=false:=Sb q;have z0:ahN ⟨a,es⟩=[]:=ay q;rw[z0]at V;have dl:decide (((([]:AM).length:Nat):Int)=0)=true:=by decide
  simp only[HO,seval,and_self,decide_true,bne,d0,V,dl];refine kCi qS31 (ah1 j D) ?_;rintro x W aH ⟨rfl,aJ⟩;refine Uy ?_;grind[Le.trans]
 have d0:decide (aiq ⟨a,es⟩=0)=true:=XJ q;obtain⟨o,S,q3⟩:=Q q;have aK:z8 a.toNat es (ahN ⟨a,es⟩):=by have h0:0<=a:=o.n0;obtain⟨n,rfl⟩:=Z6 h0;exact(En o.GD o.q9 S).2 q3
 refine Sk (rE @and_self @decide_true @bne.eq_1.{0} d0 O P ((m D s).1)) ?_
 refine kCi Tryz.func23 (ala j _ rv ⟨a,es⟩ _ D (u.le (k.trans s)) t rb.2) ?_;rintro x W aH ⟨⟨bb,rfl,aP⟩,aJ⟩;obtain rfl:bb=true:=aP.2 ⟨o,S,aK⟩;refine Uy ?_;refine kCi qS31 (ah1 j W) ?_;rintro x a1 a6 ⟨rfl,a7⟩;refine Uy ?_;grind[Le.trans]
end
section
open Go.Proofs Go.ChangeShapes Go.WideShapes Go.RowKit Go.ChangeAt
open Go.Proofs.YtkccdnmaaelbiaaGreat
def aiK(os:Os)(started:os.Started)(H:Type)(enc:TypeId×Value->H):
  ReturnsInHanded {} Tryz.checked os 3 .any (Rows.embedTellsSpec.pre6 enc Tryz.prog Tryz.f3 Rows.embedTellsRow.domain false) (Rows.embedTellsSpec.post enc Tryz.prog Tryz.f3 false true false false):=by
 have own:ownKnob Tryz.prog.godebug=Option.none:=Ji;have laidOut:laidOutB Tryz.prog=true:=Ji;refine returnsInHanded_of_change (C:=Tryz.checked) own started Ji Tryz.func3
  (ChangeSpec.witness6 (enc:=enc) (C:=Tryz.checked) false ⟨#[],#[.agg #[.int .i64 0,.slice Option.none 0 0]],[]⟩ 8 Ji Ji Ji Ji) ?_
 intro W base args ds gs before c m n _;have b:∀(j:Nat) t v,Tryz.f3.params[j]?=some t->args[j]?=some v->Value.okWide Tryz.prog W .any base t v:=c;have f:=m;obtain⟨p,q,h,r,rfl,s,u⟩:=m;have hA:DataW.TrodAll enc Tryz.prog W 0 (fun _=>true) true Tryz.f3.params.toList args.toList ds p:=h;rw[Tryz.params3]at hA b;obtain⟨i,E,F,G,w,I,a,rfl,rfl,o,hA⟩:=trodAll_cons hA;obtain⟨rfl,rfl,rfl⟩:=trodAll_nil hA;obtain rfl:args=#[i]:=by cases args;simp_all
 obtain⟨rfl,rfl⟩:=trodVars_none r;obtain⟨z,x0,k,l⟩:=aky (b 0 24 i rfl rfl) o (fun _=>⟨0,0,0⟩);refine(alj (LA.of W) z x0 (MR W) l [] (fun _=>⟨0,0,0⟩) W [i] (Rel.start W _) ?_).mono ?_
 .exact .cons k ((.nil _ _))
 .rintro e A ⟨x,x',J,h',rfl,R,-,-,B,rfl,-⟩;obtain rfl:=B.YE;have hb:=R.below;have g:∀y∈w,y.block<W.heap.size:=fun y D=>f.lt y (by simp[D]);have d:DataW.Trod enc Tryz.prog A W.heap.size (fun _=>false) false 4 (.bool true) (.lit (.bool true)) []:=⟨1,by simp[DataW.trod,Value.cells,AV]⟩;have a:=
   tcons (Below.trod laidOut Ji (U0 Ji) o hb g) (trodAll_mk0)
  try simp only[Ua,Ah]at a
  exact⟨_,rfl,_,_,_,[],_,[],f,trodAll_mk1 d,a,rfl,hb.frame _,fun e=>by cases e⟩
def embedTells_said:Rows.EmbedTellsSaid:=
 OpenClaim.holds_of_wide 3 Tryz.f3 rfl rfl rfl rfl rfl rfl rfl ⟨rfl,rfl,rfl,rfl,rfl⟩ rfl rfl rfl rfl rfl Ji Tryz.func3 Ji
  (U0 Ji) (by unfold Func.isWrapper;first|(rw[AE iw];kernel_rfl)|(rw[aal iw];exact⟨rfl,rfl⟩))
  (fun os started H enc _=>aiK os started H enc)
end
end Go.Fw
