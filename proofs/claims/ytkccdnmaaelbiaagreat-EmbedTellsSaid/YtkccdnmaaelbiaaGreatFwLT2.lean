/- A text. -/
import Derived.Test.YtkccdnmaaelbiaaGreatFwLB14
import Derived.Test.YtkccdnmaaelbiaaGreatFwCyc
set_option linter.all false
set_option maxRecDepth 99999
set_option maxHeartbeats 9999999
open Go.Proofs
namespace Go.Fw
def isE(a b x y:Nat):Prop:=x=a/\y=b\/x=b/\y=a
namespace Fo
variable{n:Nat}{es:List Pr}{num:Nat->Nat}{up:Nat->Option Nat}{hd:Nat->Nat}
theorem link(F:Fo n es num up)(H:abb n es num up hd){α:Type}(of:Nat->Nat->α)(c:∀x y,of x y=of y x)(e:∀v a b,Jp es v a->Jp es v b->Cn (wo v) es a b->of v a=of v b):
  ∀(k x y:Nat),num x<=k->Jp es x y->num y<num x->∃u,up (hd x)=some u/\of x y=of (hd x) u:=by
 intro k
 induction k with
 |zero=>grind
 |succ k o=>
  intro x y A h2 h3;have f:=(h2.lt F.rD).1;have hA:=F.iA y x h2.symm h3;obtain⟨u,g,r⟩:=hA.last pw;have h:=F.Kd x u f g;have i:=(h.1.lt F.rD).1;have s:of x y=of x u:=by grind[Jp.symm,Fo.xG,pJ.one]
  by_cases q:ym es num up u x
  .have hh:=H.on x u f g q;obtain⟨w,j,l,_⟩:=F.CJ f g q;obtain⟨p,t,_⟩:=j.last l;have d:=F.Kd u p i t;obtain⟨u',m,z⟩:=o u p NH d.1.symm d.2;rw[hh];refine⟨u',m,?_⟩;rw[s,c x u,<-z];refine e u x p h.1 d.1.symm ((F.Hp H h.1 d.1.symm).1 ?_);grind[Fo.lower]
  grind[Fo.abb.new]
theorem link2(F:Fo n es num up)(H:abb n es num up hd){α:Type}(of:Nat->Nat->α)(c:∀x y,of x y=of y x)(d:∀v a b,Jp es v a->Jp es v b->Cn (wo v) es a b->of v a=of v b){x y x' f:Nat}(h:Jp es x y)(h':Jp es x' f)(e:hd (lower num x y)=hd (lower num x' f)):of x y=of x' f:=by
 have key:∀{x y:Nat},Jp es x y->∃u,up (hd (lower num x y))=some u/\of x y=of (hd (lower num x y)) u:=by
  intro x y h;have:=F.JD h;unfold lower;split
  .rename_i q;exact F.link H of c d (num x) x y (qL0 _) h q
  .obtain⟨u,g,h2⟩:=F.link H of c d (num y) y x (qL0 _) h.symm NH;exact pw
 obtain⟨u,g,h2⟩:=key h;obtain⟨u',h3,i⟩:=key h';rw[<-e,g]at h3;injection h3 with h3;subst h3;rw[h2,i,e]
end Fo
theorem B6{n:Nat}{es:List Pr}(a:InR n es):∀(v:Nat),v<n->∃h∈Es n es,Pu es h v:=by
 intro v
 induction v using Nat.strongRecOn with
 |ind v b=>
  intro c;by_cases q:∀u,u<v->¬Pu es u v
  .exact⟨v,(by grind[QO]),Pu.refl es v⟩
  grind[Cn.trans]
theorem rf{n:Nat}{es:List Pr}{a b:Nat}(ha:a∈Es n es)(hb:b∈Es n es)(h:Pu es a b):a=b:=by grind[QO,Cn.symm]
theorem qD(n:Nat)(es:List Pr):(Es n es).Nodup:=by grind[Es,List.nodup_range]
end Go.Fw
namespace Go.Fw
section
attribute [local irreducible] Kp MQ lU rS KO KN KX KE VK Kl ZJ TC aab
def mtB(p:Pr)(a b:Int):Bool:=(decide (p.1=a)&&decide (p.2=b))||(decide (p.1=b)&&decide (p.2=a))
theorem als(p:Pr)(a b:Int):mtB p a b=true↔p=(a,b)\/p=(b,a):=by grind[mtB]
theorem akr(H:LA)(v:Value)(n a b:Nat)(es:List Pr)(h:aae)(hg:GR h v ⟨(n:Int),es⟩)(I:bX ⟨(n:Int),es⟩):AC Tryz.prog H 108 [v,.int .i64 (a:Int),.int .i64 (b:Int)] h fun x h'=>x=.bool (decide (Jp es a b))/\Le h h':=by
  have w:=hg
  obtain⟨ev,rfl,u⟩:=hg.open
  have J:es.length<=594:=I.len;refine AC.vE ⟨Tryz.func108,rfl,WY⟩ Tryz.ntmps108 Tryz.results108 fun y=>?_;simp only[Br,seval];obtain⟨O,P,d,Q,-,K⟩:=r8 (n:=(n:Int)) y u
  generalize h.next=B at*
  refine Sk P ?_;refine lIn (fun k fr f=>∃j:Nat,k=es.length-j/\j<=es.length/\fr=mkF [(1,.int .i64 (a:Int)),(2,.int .i64 (b:Int)),(3,.pointer (some ⟨B,0,none⟩)),(7,.int .i64 j)]/\Le O f/\∀p∈es.take j,mtB p a b=false) ⟨0,rfl,WA _,rfl,Le.refl _,Ma⟩ ?_;rintro k fr f z ⟨j,rfl,W,rfl,leq,m⟩;have o:=K f leq;have hlen:=fun g=>u.len g;simp only[HO,seval,Di,Ip,Gc,o.2.2,hlen];refine Kl.intro (fun L=>?_) (fun hf=>?_)
  · have i:j<es.length:=CC L
    clear L;have l:=CA i;have r:es.take (j+1)=es.take j++[es[j]]:=EL i;generalize es[j]=p at l r;have ad:=u.addr (k:=.i64) j i;have ld:=(u.le (d.trans leq)).load l;obtain⟨R,M,S,A,s,T,N⟩:=Ut z p
    generalize f.next=E at*
    have U:=lK N;have mb:=HY N;have C:=K M (leq.trans s);have c:=leq.trans s;cases d1:decide (p.1=(a:Int))<;>cases d2:decide (p.2=(b:Int))<;>cases d3:decide (p.1=(b:Int))<;>cases d4:decide (p.2=(a:Int))
    all_goals
      simp only[HO,seval,Di,Ip,Gc,o.2.2,ad,ld,S,A,Dh,Z0,U,mb,d1,d2,d3,d4,Tw j NH]
      first
        | have D:mtB p a b=false:=by simp only[mtB,d1,d2,d3,d4];rfl
          exact lgA NH ⟨j+1,rfl,i,rfl,c,fun q f=>by
            rw[r,yM,jf]at f;rcases f with f|rfl
            .exact m q f
            .exact D⟩
        | have D:mtB p a b=true:=by simp only[mtB,d1,d2,d3,d4];rfl
          refine Sk C.1 ?_;refine kCi Xv (agX H (.agg #[.int .i64 (n:Int),ev]) ⟨(n:Int),es⟩ M (w.le (d.trans c))) ?_;rintro x X w5 ⟨⟨V,rfl,F⟩,l5⟩;obtain rfl:V=true:=F.2 I;refine Uy ?_;have t:Jp es a b:=by
            rcases(als p a b).1 D with e|e
            .exact .inl (e▸BS l)
            .exact .inr (e▸BS l)
          exact⟨by rw[XJ t],(d.trans c).trans l5⟩
  · have G:es.length<=j:=vp hf
    rw[HV G]at m;refine Uy ?_;refine⟨?_,d.trans leq⟩;rw[Sb];rintro(h|h)
    all_goals grind[als]
theorem aks(n:LA)(v:Value)(xs:RZ)(x:Int)(h:aae)(b:RL RP h v xs)(t:xs.length<=100000):AC Tryz.prog n 111 [v,.int .i64 x] h fun r h'=>r=.bool (decide (x∈xs))/\h'=h:=by
 refine AC.vE ⟨Tryz.func111,rfl,WY⟩ Tryz.ntmps111 Tryz.results111 fun o=>?_;simp only[Br,seval];have p:=fun g=>b.DH g;refine Uy ?_;refine lIn (fun k fr l=>∃j:Nat,k=xs.length-j/\j<=xs.length/\fr=mkF [(0,v),(1,.int .i64 x),(5,.int .i64 j)]/\l=h/\x∉xs.take j) ⟨0,rfl,WA _,rfl,rfl,Ma⟩ ?_;rintro k fr l q ⟨j,rfl,u,rfl,rfl,e⟩;refine Sk p ?_;refine Kl.intro (fun m=>?_) (fun hf=>?_)
 .have a:j<xs.length:=CC m;clear m;have f:xs.take (j+1)=xs.take j++[xs[j]]:=EL a;have ad:=b.TA j a;have ld:=b.Uc j a;have s:=j9 a;generalize xs[j]=y at f ld s;by_cases c:y=x
  .have d:decide (y=x)=true:=XJ c;simp only[HO,seval,ad,ld,d];grind
  .have d:decide (y=x)=false:=Sb c;simp only[HO,seval,ad,ld,d,Tw j NH];exact lgA NH ⟨j+1,rfl,a,rfl,rfl,pw⟩
 .have i:xs.length<=j:=vp hf;rw[HV i]at e;refine Uy ?_;grind
theorem aiy(g:LA)(v:Value)(n s:Nat)(es:List Pr)(h:aae)(hg:GR h v ⟨(n:Int),es⟩)(k:bX ⟨(n:Int),es⟩)(hs:s<n):AC Tryz.prog g 151 [v,.int .i64 (s:Int)] h fun x h'=>x=.int .i64 0/\Le h h':=by
 have a:=hg
 obtain⟨ev,rfl,l⟩:=hg.open
 refine AC.vE ⟨qS35,rfl,WY⟩ Tryz.ntmps151 Tryz.results151 fun b=>?_;simp only[Br,seval];obtain⟨i,m,c,o,-,j⟩:=r8 (n:=(n:Int)) b l
 generalize h.next=B at*
 have d:=j i (Le.refl _);refine Sk (XC m d.1) ?_;refine kCi Xv (agX g _ _ i (a.le c)) ?_;rintro x h2 q ⟨⟨p,rfl,e⟩,l2⟩;obtain rfl:p=true:=e.2 k;have f:=j h2 l2;have d1:decide ((s:Int)<0)=false:=Sb NH;have d2:decide ((s:Int)>=(n:Int))=false:=Sb NH;refine Sk (bG @Ii @Ip.eq_1 @Gc f.2.1 d1 @d2) ?_;grind[Le.trans]
variable {h:aae} {i:Nat} {v:Value} {xs:RZ}
theorem GI.store(g:GI h v xs)(a:WF h)(hi:i<xs.length)(x:Int):∃h',acs Tryz.prog h 3 (.pointer (some (abv v i))) (.int .i64 x)=some h'/\GI h' v (xs.set i x)/\WF h'/\(∀f,Le f h->Z2 f v->Le f h')/\(∀b o,h.own b=some o->blk v≠some b->h'.own b=some o):=by
 obtain⟨m,⟨rfl,n⟩|⟨id,c,cap,rfl,j,p,q⟩⟩:=g
 .omega
 .have k:xs.length<=c.length:=pw;have st:=QB (P:=Tryz.prog) (t:=3) (x:=.int .i64 x) Ac Ji j (off:=i) NH rfl rfl;refine⟨h.put id (.cells (c.set i (.int .i64 x))),?_,⟨by simp[Bp],.inr ⟨id,_,cap,Ma,aae.Y3 _ _ _,?_,pw⟩⟩,a.put _ (a.lt j),fun f l af=>l.put _ (af id rfl),fun b o hb d=>?_⟩
  .grind[fA,Ip]
  .grind[List.take_set,yy]
  .rw[aae.By _ _ _ _ (fun e=>d (by rw[e];rfl))];exact hb
variable {L:RZ} {es:List Pr} {n s:Nat}
def wgt(n:Nat)(x:Int):Nat:=if x<0 then n else x.toNat
def phi(n:Nat):RZ->Nat
 |[]=>0
 |x::r=>wgt n x+phi n r
def ajA:RZ->Nat
 |[]=>0
 |x::r=>(if 0<=x then 1 else 0)+ajA r
def alu(n:Nat):∀(L:RZ)(i:Nat)(x y:Int),L[i]?=some x->phi n (L.set i y)+wgt n x=phi n L+wgt n y
 |[],i,x,y,h=>by simp at h
 |z::r,0,x,y,h=>by simp at h;subst h;simp only[ake,phi];omega
 |z::r,i+1,x,y,h=>by have:=alu n r i x y (by simpa using h);simp only[List.set_cons_succ,phi];omega
def aje:∀(L:RZ)(i:Nat)(x y:Int),L[i]?=some x->ajA (L.set i y)+(if 0<=x then 1 else 0)=ajA L+(if 0<=y then 1 else 0)
 |[],i,x,y,h=>by simp at h
 |z::r,0,x,y,h=>by simp at h;subst h;simp only[ake,ajA];omega
 |z::r,i+1,x,y,h=>by have:=aje r i x y (by simpa using h);simp only[List.set_cons_succ,ajA];omega
theorem aiF:∀(L:RZ),ajA L<=L.length
 |[]=>qL0 _
 |x::r=>by have:=aiF r;simp only[ajA,cJ];split<;>omega
structure RA (n:Nat) (es:List Pr) (s:Nat) (L:RZ):Prop where
 len:L.length=n
 bp:∀(v:Nat)(x:Int),L[v]?=some x->-1<=x/\(0<=x->Pu es s v)
 bd:∀(v:Nat)(x:Int),L[v]?=some x->x<(ajA L:Int)
 at_:∃x,L[s]?=some x/\0<=x
 s0:L[s]?=some 0
 pre:∀(v:Nat)(x:Int),L[v]?=some x->0<=x->(v=s/\x=0)\/∃(w:Nat)(y:Int),Jp es v w/\L[w]?=some y/\0<=y/\y+1<=x
def ag7(L:RZ)(a b:Nat):Bool:=decide (L.getD a 0>=0)&&(decide (L.getD b 0<0)||decide (L.getD b 0>L.getD a 0+1))
theorem RA.step{n:Nat}{es:List Pr}{s:Nat}{L:RZ}(R:RA n es s L){a b:Nat}(ha:Jp es a b)(h:a<n)(i:b<n)(p:ag7 L a b=true):RA n es s (L.set b (L.getD a 0+1))/\phi n (L.set b (L.getD a 0+1))<phi n L:=by
 have f:=CA (show a<L.length by rw[R.len];exact h);have d:=CA (show b<L.length by rw[R.len];exact i);rw[ag7,D4 (by rw[R.len];exact h),D4 (by rw[R.len];exact i)]at p;rw[D4 (by rw[R.len];exact h)];generalize L[a]'(by rw[R.len];exact h)=x at*
 generalize L[b]'(by rw[R.len];exact i)=y at*
 simp only[rY,akf,vg]at p;obtain⟨C,j⟩:=p;have o:=aje L b y (x+1) d;have r:=alu n L b y (x+1) d;have I:=R.bd a x f;have J:=R.bp b y d;have u:=aiF L;have l:=aiF (L.set b (x+1));rw[Zw,R.len]at l;rw[R.len]at u;have g:b<L.length:=by rw[R.len];exact i
 have A:b≠s:=fun e=>by have:=R.s0;rw[<-e,d]at this;injection this with this;omega
 have B:a≠b:=fun e=>by rw[e,d]at f;injection f with f;omega
 refine⟨⟨by simp[R.len],fun v z c=>?_,fun v z c=>?_,?_,by rw[VU,aal A];exact R.s0,fun v z c k=>?_⟩,?_⟩
 .rw[VU]at c;by_cases e:b=v
  .subst e;rw[AE rfl,AE g]at c;injection c with c;subst c;exact⟨NH,fun _=>((R.bp a x f).2 C).step ha rfl⟩
  .rw[aal e]at c;exact R.bp v z c
 .rw[VU]at c;have F:ajA L<=ajA (L.set b (x+1)):=by
   split at o<;>split at o<;>omega
  by_cases e:b=v
  .subst e;rw[AE rfl,AE g]at c;injection c with c;subst c;rcases j with j|j
   .rw[aal NH,AE NH]at o;omega
   .have:=R.bd b y d;omega
  .rw[aal e]at c;have:=R.bd v z c;omega
 .obtain⟨z,c,k⟩:=R.at_;by_cases e:b=s
  .subst e;exact⟨x+1,by rw[VU,AE rfl,AE g],NH⟩
  .exact⟨z,by rw[VU,aal e];exact c,k⟩
 .rw[VU]at c;by_cases e:b=v
  .rw[AE e,AE g]at c;injection c with c;subst c e;exact .inr ⟨a,x,ha.symm,by rw[VU,aal (Hs B)];exact f,C,Int.le_refl _⟩
  .rw[aal e]at c;rcases R.pre v z c k with q|⟨w,t,D,m,G,H⟩
   .exact .inl q
   .by_cases E:b=w
    .subst E;rw[d]at m;injection m with m;subst m;exact .inr ⟨b,x+1,D,by rw[VU,AE rfl,AE g],NH,NH⟩
    .exact .inr ⟨w,t,D,by rw[VU,aal E];exact m,G,H⟩
 .unfold wgt at r;rcases j with j|j
  .rw[aal (by omega:¬x+1<0),AE j]at r;rw[aal NH,AE NH]at o;omega
  .rw[aal (by omega:¬x+1<0),aal (by omega:¬y<0)]at r;omega
def ajf(L:RZ)(p:Pr):Prop:=ag7 L p.1.toNat p.2.toNat=false/\ag7 L p.2.toNat p.1.toNat=false
theorem RA.fin(d:InR n es)(R:RA n es s L)(b:∀p∈es,ajf L p)(v:Nat)(x:Int)(c:L[v]?=some x):0<=x↔Pu es s v:=by
 refine⟨(R.bp v x c).2,fun h=>?_⟩;have key:∀w,Pu es s w->0<=L.getD w 0:=by
  intro w h
  induction h with
  |refl _=>obtain⟨z,e,f⟩:=R.at_;rw[K4,e];exact f
  |@step u w _ ha _ g=>
   have i:=(ha.lt d).1;have a:ag7 L u w=false:=by
    rcases ha with ha|ha
    .have:=(b _ ha).1;simpa using this
    .have:=(b _ ha).2;simpa using this
   simp only[ag7,Bool.and_eq_false_iff,Bool.or_eq_false_iff,adJ]at a;rcases a with h|h
   .exact absurd g h
   .omega
 have:=key v h;rw[K4,c]at this;exact this
theorem ajg(W0:LA)(v:Value)(n s:Nat)(es:List Pr)(h:aae)(hg:GR h v ⟨(n:Int),es⟩)(hr:bX ⟨(n:Int),es⟩)(hs:s<n):
    AC Tryz.prog W0 112 [v,.int .i64 (s:Int)] h fun x h'=>∃dv L,x=.tuple #[dv,.int .i64 0]/\GI h' dv L/\L.length=n/\(∀(v:Nat)(x:Int),L[v]?=some x->(0<=x↔Pu es s v))/\Le h h'/\Z2 h dv/\RA n es s L/\∀p∈es,ajf L p:=by
  have ba:=hg
  obtain⟨ev,rfl,hp⟩:=hg.open
  have bx:(n:Int)<=200:=hr.n1;have bB:es.length<=594:=hr.len;have hR:=hr.GD;refine AC.vE ⟨qS36,rfl,WY⟩ Tryz.ntmps112 Tryz.results112 fun bb=>?_;simp only[Br,seval];obtain⟨P,b1,ar,bF,-,lA⟩:=r8 (n:=(n:Int)) bb hp
  generalize h.next=B at*
  have bg:=lA P (Le.refl _);refine Sk (XC b1 bg.1) ?_;refine kCi qS35 (aiy W0 _ n s es P (ba.le ar) hr hs) ?_;rintro x h2 w2 ⟨rfl,l2⟩;have bh:Z2 P (.slice none 0 0):=fun b hb=>by cases hb
  refine Sk @bne.eq_1.{0} ?_
  refine lIn (fun k fr hq=>∃(j:Nat)(uv:Value),k=n-j/\j<=n/\fr=mkF [(1,.int .i64 (s:Int)),(2,.pointer (some ⟨B,0,none⟩)),(7,uv),(8,.int .i64 j)]/\GI hq uv (List.replicate j (-1))/\Le P hq/\Z2 P uv) ⟨0,_,rfl,WA _,rfl,GI.nil _,l2,bh⟩ ?_;rintro k fr hq aC ⟨j,uv,rfl,hj,rfl,gu,leq,au⟩;have aP:=lA hq leq;refine Sk (xU @Ii @Ip.eq_1 @Gc aP.2.1) ?_;refine Kl.intro (fun ht=>?_) (fun hf=>?_)
  · have N:j<n:=CC ht
    clear ht;obtain⟨v',h4,h5,e4,E,g5,w5,l4,f5,k5⟩:=gu.push aC (-1) (by simp;omega);obtain⟨l5,a5⟩:=f5 P leq au;refine Sk (Yb e4 E (Tw j NH)) ?_;exact lgA NH ⟨j+1,v',rfl,N,rfl,by rw[qL215];exact g5,l5,a5⟩
  have aD:n<=j:=vp hf;obtain rfl:j=n:=NH;clear aD hf hj;have aT:=gu.rl.TA s (by simpa using hs);obtain⟨h3,st,aV,w3,f3,k3⟩:=gu.store aC (i:=s) pw 0;have aW:=f3 P leq au;simp only[HO,seval,aT,st];have R0:RA j es s ((List.replicate j (-1)).set s 0):=by
    have hg:∀(v:Nat)(x:Int),((List.replicate j (-1:Int)).set s 0)[v]?=some x->v=s/\x=0\/x=-1:=fun v x hx=>by grind
    have hc:=aje (List.replicate j (-1)) s (-1) 0 pw;rw[aal NH,AE NH]at hc;have aX:((List.replicate j (-1:Int)).set s 0)[s]?=some 0:=pw;refine⟨Ma,fun v x hx=>?_,fun v x hx=>?_,⟨0,aX,NH⟩,aX,fun v x hx h0=>.inl ((hg v x hx).resolve_right NH)⟩
    all_goals grind[Pu.refl]
  refine lIn (fun k fr hz=>∃(f:Bool)(L:RZ),k=phi j L*2+cond f 1 0/\fr=mkF [(2,.pointer (some ⟨B,0,none⟩)),(7,uv),(9,.bool f)]/\GI hz uv L/\Le P hz/\RA j es s L/\(f=false->∀p∈es,ajf L p)) ⟨true,_,rfl,rfl,aV,aW,R0,Ma⟩ ?_;clear R0 aW f3 k3 aV w3 st aT aP gu leq aC;clear h3 hq;rintro k fr hz bj ⟨f,L,rfl,rfl,gl,aE,R,aF⟩;cases f with
  |false=>refine Uy ?_;exact⟨uv,L,rfl,gl,R.len,R.fin hR (aF rfl),ar.trans aE,fun b hb=>ar.none (au b hb),R,aF rfl⟩
  |true=>
  clear aF;refine Uy ?_;have a1:∀g,Le P g->PR g ev es:=fun g l=>hp.le (ar.trans l);refine lIn (fun k fr hw=>∃(i:Nat)(f:Bool)(m:RZ),k=es.length-i/\i<=es.length/\fr=mkF [(2,.pointer (some ⟨B,0,none⟩)),(7,uv),(9,.bool f),(10,.int .i64 i)]/\GI hw uv m/\Le P hw/\RA j es s m/\(f=true->phi j m<phi j L)/\(f=false->m=L/\∀p∈es.take i,ajf L p)) ⟨0,false,L,rfl,WA _,rfl,gl,aE,R,Ma,fun _=>⟨rfl,Ma⟩⟩ ?_;clear gl bj aE;clear hz;rintro k fr hw av ⟨i,f,m,rfl,hi,rfl,gl,O,R',a6,aH⟩;have a7:=lA hw O;have hlen:=fun g=>hp.len g;simp only[HO,seval,Di,Ip,Gc,a7.2.2,hlen];refine Kl.intro (fun ht=>?_) (fun hf=>?_)
  rotate_left
  · have aD:es.length<=i:=vp hf
    rw[HV aD]at aH;refine Uy ?_;refine lgA ?_ ⟨f,m,rfl,rfl,gl,O,R',fun e=>?_⟩
    all_goals grind
  have N:i<es.length:=CC ht;clear ht;have ay:=CA N;have a8:es.take (i+1)=es.take i++[es[i]]:=EL N;have aa:=hR es[i] (j9 N);generalize es[i]=p at ay a8 aa;have bk:=hp.addr (k:=.i64) i N;obtain⟨a,c⟩:=p;simp only at aa;obtain⟨a,rfl⟩:=Z6 aa.1;obtain⟨c,rfl⟩:=Z6 (show 0<=c by omega);have F:a<j:=NH;have Q:c<j:=NH;have V:Jp es a c:=.inl (BS ay);have l0:=(a1 hw O).l0 ay;have l1:=(a1 hw O).l1 ay;refine Uy ?_;refine gh (tA [0,1,2,3,4,5,6,7,8,9,10,11,12,13] .done) ?_;simp only[Ip]at l0 l1;simp only[Qn]at l0;refine CO (Pj @Di @Ip.eq_1 @Gc @Qn a7.2.2 bk @Dh @Z0 l0 l1) ?_;have az:∀(g:aae)(M:RZ)(x:Nat),GI g uv M->M.length=j->x<j->abX Tryz.prog 49 uv (.int .i64 (x:Int))=some (.pointer (some (abv uv x)))/\acd Tryz.prog g 3 (abv uv x)=some (.int .i64 (M.getD x 0)):=fun g M x gM hM hx=>by refine⟨gM.rl.TA x NH,?_⟩;rw[gM.rl.Uc x NH,D4 NH]
  have rd:∀(M:RZ),RA j es s M->∀x,x<j->M.getD x 0<4611686018427387904-1∧-1<=M.getD x 0:=fun M RM x hx=>by have hm:=CA (show x<M.length by grind[RA.len]);have P:=RM.bd x _ hm;have h2:=(RM.bp x _ hm).1;grind[aiF,RA.len]
  have u:=az hw m a gl R'.len F;have w:=az hw m c gl R'.len Q;have bm:=rd m R' a F;have G:adA .i64 (m.getD a 0+1)=m.getD a 0+1:=ie _ NH NH;have bo:ag7 m a c=(decide (m.getD a 0>=0)&&(decide (m.getD c 0<0)||decide (m.getD c 0>m.getD a 0+1))):=rfl;refine gh (tA [0,1,2,3,4,5,6,7,8,9,10,11,12,13,14,15,16,17,18,19,20,21,22,23] .done) ?_;have ae:decide (m.getD a 0>=0)=false\/(decide (m.getD a 0>=0)=true/\decide (m.getD c 0<0)=true)\/(decide (m.getD a 0>=0)=true/\decide (m.getD c 0<0)=false/\decide (m.getD c 0>m.getD a 0+1)=true)\/(decide (m.getD a 0>=0)=true/\decide (m.getD c 0<0)=false/\decide (m.getD c 0>m.getD a 0+1)=false):=pw;rcases ae with d1|⟨d1,d2⟩|⟨d1,d2,d3⟩|⟨d1,d2,d3⟩
  focus
    have o:ag7 m a c=false:=pw;refine CO (bG u.1 u.2 w.1 w.2 d1 G) ?_;obtain⟨d,E⟩:∃q,q=m:=⟨_,rfl⟩;have C:=gl;have W:=R';have A:=O;have H:=av;obtain⟨g1,X⟩:∃q,q=hw:=⟨_,rfl⟩;rw[<-E]at C W;rw[<-X]at C A H ⊢;have ag:d=m/\ag7 m a c=false:=⟨E,o⟩;have S:phi j d<=phi j m:=pw;clear E X;clear o
  rotate_left
  focus
    have o:ag7 m a c=true:=pw;obtain⟨g1,st,C,H,f5,-⟩:=gl.store av (i:=c) (by grind[RA.len]) (m.getD a 0+1);have A:=f5 P O au;obtain⟨W,r⟩:=R'.step V F Q o;simp only[HO,seval,Qg,u.1,u.2,w.1,w.2,d1,d2,G,st];generalize T:m.set c (m.getD a 0+1)=d at*;have aJ:phi j d<phi j m:=r;have S:phi j d<=phi j m:=akg r;have aB:True:=trivial;clear r T st f5;clear o
  rotate_left
  focus
    have o:ag7 m a c=true:=pw;obtain⟨g1,st,C,H,f5,-⟩:=gl.store av (i:=c) (by grind[RA.len]) (m.getD a 0+1);have A:=f5 P O au;obtain⟨W,r⟩:=R'.step V F Q o;simp only[HO,seval,Qg,u.1,u.2,w.1,w.2,d1,d2,d3,G,st];generalize T:m.set c (m.getD a 0+1)=d at*;have aJ:phi j d<phi j m:=r;have S:phi j d<=phi j m:=akg r;have aB:True:=trivial;clear r T st f5;clear o
  rotate_left
  focus
    have o:ag7 m a c=false:=pw;refine CO (acL u.1 u.2 w.1 w.2 d1 @d2 d3 G) ?_;obtain⟨d,E⟩:∃q,q=m:=⟨_,rfl⟩;have C:=gl;have W:=R';have A:=O;have H:=av;obtain⟨g1,X⟩:∃q,q=hw:=⟨_,rfl⟩;rw[<-E]at C W;rw[<-X]at C A H ⊢;have ag:d=m/\ag7 m a c=false:=⟨E,o⟩;have S:phi j d<=phi j m:=pw;clear E X;clear o
  rotate_left
  all_goals
    have y:=az g1 d c C W.len Q;have z:=az g1 d a C W.len F;have br:=rd d W c Q;have I:adA .i64 (d.getD c 0+1)=d.getD c 0+1:=ie _ NH NH;have J:ag7 d c a=(decide (d.getD c 0>=0)&&(decide (d.getD a 0<0)||decide (d.getD a 0>d.getD c 0+1))):=rfl;refine gh (tA [0,1,2,3,4,5,6,7,8,9,10,11,12,13,14,15,16,17,18,19,20,21,22,23] .done) ?_;have aj:decide (d.getD c 0>=0)=false\/(decide (d.getD c 0>=0)=true/\decide (d.getD a 0<0)=true)\/(decide (d.getD c 0>=0)=true/\decide (d.getD a 0<0)=false/\decide (d.getD a 0>d.getD c 0+1)=true)\/(decide (d.getD c 0>=0)=true/\decide (d.getD a 0<0)=false/\decide (d.getD a 0>d.getD c 0+1)=false):=by
      cases decide (d.getD c 0>=0)<;>cases decide (d.getD a 0<0)<;>cases decide (d.getD a 0>d.getD c 0+1)<;>simp
    rcases aj with d1|⟨d1,d2⟩|⟨d1,d2,d3⟩|⟨d1,d2,d3⟩
    focus
      have t:ag7 d c a=false:=by rw[J,d1];rfl
      refine CO (bG y.1 y.2 z.1 z.2 d1 I) ?_;obtain⟨L2,E⟩:∃q,q=d:=⟨_,rfl⟩;have K:=C;have R2:=W;have D:=A;have al:=H;obtain⟨g2,X⟩:∃q,q=g1:=⟨_,rfl⟩;rw[<-E]at K R2;rw[<-X]at K D al ⊢;have aq:L2=d/\ag7 d c a=false:=⟨E,t⟩;have U:phi j L2<=phi j d:=by rw[E];exact qL0 _
      clear E X;clear t
    rotate_left
    focus
      have t:ag7 d c a=true:=by rw[J,d1,d2];rfl
      obtain⟨g2,st,K,al,f5,-⟩:=C.store H (i:=a) (by rw[W.len];exact F) (d.getD c 0+1);have D:=f5 P A au;obtain⟨R2,r⟩:=W.step V.symm Q F t;simp only[HO,seval,Qg,y.1,y.2,z.1,z.2,d1,d2,I,st];generalize T:d.set a (d.getD c 0+1)=L2 at*;have aK:phi j L2<phi j d:=r;have U:phi j L2<=phi j d:=akg r;have aB:True:=trivial;clear r T st f5;clear t
    rotate_left
    focus
      have t:ag7 d c a=true:=by rw[J,d1,d2,d3];rfl
      obtain⟨g2,st,K,al,f5,-⟩:=C.store H (i:=a) (by rw[W.len];exact F) (d.getD c 0+1);have D:=f5 P A au;obtain⟨R2,r⟩:=W.step V.symm Q F t;simp only[HO,seval,Qg,y.1,y.2,z.1,z.2,d1,d2,d3,I,st];generalize T:d.set a (d.getD c 0+1)=L2 at*;have aK:phi j L2<phi j d:=r;have U:phi j L2<=phi j d:=akg r;have aB:True:=trivial;clear r T st f5;clear t
    rotate_left
    focus
      have t:ag7 d c a=false:=by rw[J,d1,d2,d3];rfl
      refine CO (acL y.1 y.2 z.1 z.2 d1 @d2 d3 I) ?_;obtain⟨L2,E⟩:∃q,q=d:=⟨_,rfl⟩;have K:=C;have R2:=W;have D:=A;have al:=H;obtain⟨g2,X⟩:∃q,q=g1:=⟨_,rfl⟩;rw[<-E]at K R2;rw[<-X]at K D al ⊢;have aq:L2=d/\ag7 d c a=false:=⟨E,t⟩;have U:phi j L2<=phi j d:=by rw[E];exact qL0 _
      clear E X;clear t
    rotate_left
    all_goals
      refine Sk (Tw i NH) ?_;have P:phi j m<=phi j L:=by
        cases f with
        |true=>exact akg (a6 rfl)
        |false=>rw[(aH rfl).1];exact qL0 _
      first
        | clear aB
          refine lgA NH ⟨i+1,true,L2,rfl,N,rfl,K,D,R2,fun _=>?_,fun e=>by cases e⟩;omega
        | refine lgA NH ⟨i+1,f,L2,rfl,N,rfl,K,D,R2,fun e=>?_,fun e=>?_⟩
          · have h2:=a6 e
            omega
          · obtain⟨e3,e4⟩:=aH e
            obtain⟨E,X⟩:=ag;obtain⟨e7,e8⟩:=aq;refine⟨by rw[e7,E,e3],fun q hq=>?_⟩;rw[a8,yM,jf]at hq;rcases hq with hq|rfl
            .exact e4 q hq
            · rw[E]at e8;rw[e3]at X e8
              exact⟨by simpa using X,by simpa using e8⟩
def ajJ(b:LA)(v:Value)(n s:Nat)(es:List Pr)(h:aae)(hg:GR h v ⟨(n:Int),es⟩)(c:bX ⟨(n:Int),es⟩)(hs:s<n):
  AC Tryz.prog b 112 [v,.int .i64 (s:Int)] h fun x h'=>∃a L,x=.tuple #[a,.int .i64 0]/\GI h' a L/\L.length=n/\(∀(v:Nat)(x:Int),L[v]?=some x->(0<=x↔Pu es s v))/\Le h h'/\Z2 h a:=
 (ajg b v n s es h hg c hs).mono fun x h' ⟨a,L,d,e,f,g,i,j,_⟩=>⟨a,L,d,e,f,g,i,j⟩
variable {F m:Nat} {g h':aae}
def alloc35(h:aae):agH Tryz.prog h 59=some (.pointer (some ⟨h.next,0,none⟩),h.alloc (.cells [.slice none 0 0])):=rfl
def alloc39(h:aae):agH Tryz.prog h 49=some (.pointer (some ⟨h.next,0,none⟩),h.alloc (.cells [.slice none 0 0])):=rfl
def newVar(hw:WF h){t:TypeId}{d:TypeDesc}{z x:Value}(ha:∀g:aae,agH Tryz.prog g t=some (.pointer (some ⟨g.next,0,none⟩),g.alloc (.cells [z])))(e:Tryz.prog.underlying t=some d)(hs:UA Tryz.prog t=1)(f:x.cells=#[x])(i:x.oneCell'=true):
  ∃a b,agH Tryz.prog h t=some (.pointer (some ⟨h.next,0,none⟩),a)/\acs Tryz.prog a t (.pointer (some ⟨h.next,0,none⟩)) x=some b/\Le h b/\WF b/\b.own h.next=some (.cells [x]):=by
 obtain⟨a,j,l1,w1,c⟩:=Tt hw [z]
 have k:h.own h.next=none:=(Le.refl h).next hw (qL0 _)
 refine⟨a,_,by rw[ha,j],QB e hs c Ma f i,l1.put _ k,w1.put _ (w1.lt c),aae.Y3 _ _ _⟩
theorem qA{a:Addr}(b:a.spot=none->a.block≠F):(h.kill F).read a=h.read a:=by
 unfold aae.read;cases hs:a.spot with
 |none=>grind[aae.xJ]
 |some _=>rfl
theorem RS.kill{h:aae}{v:Value}{vs:List Value}{F:Nat}(r:RS h v vs)(hb:blk v≠some F):RS (h.kill F) v vs:=by refine⟨r.sl,fun i x g=>?_⟩;have f:=r.get i x g;obtain⟨a,c,rfl,hs⟩:=r.sl;obtain⟨a,rfl⟩:=EP.1 (hs pw);rw[fA]at f ⊢;rw[qA];exact f;intro d;obtain⟨b,o,s⟩:=a;simp only[Ip]at d ⊢;subst d;intro e;subst e;exact hb rfl
def RL.akt(r:RL RP h v xs)(hb:blk v≠some F):RL RP (h.kill F) v xs:=by obtain⟨vs,r,a,b⟩:=r;exact⟨vs,r.kill hb,a,b⟩
theorem Le.ON(e:Le h h')(F:Nat)(o:fK):Le (h.kill F) ((h'.put F o).kill F):=⟨e.ext,fun i a hi=>by grind[aae.Dg,aae.xJ,aae.By,Le.own]⟩
theorem Le.put_kill(e:Le g h)(n:g.own F=Option.none)(o:fK):Le g ((h.put F o).kill F):=⟨e.ext,fun i a hi=>by grind[aae.xJ,aae.By,Le.own]⟩
def build41{a b:Value}(ha:xO a n)(hb:xO b m):ag1 Tryz.prog 122 [(0,a),(1,b)]=some (.agg #[a,b]):=by obtain⟨_,_,rfl,_⟩:=ha;obtain⟨_,_,rfl,_⟩:=hb;kernel_rfl
def LJ(n:Nat)(es web:List Pr)(L:RZ):List FM:=(ac3 (Zo n (fun u=>(Cb n web).getD u false) L) es web es.length).map fun g=>⟨g.2,YJ (fun u=>(Cb n web).getD u false) g.2⟩
theorem iN(W0:LA)(v wv:Value)(G:GM)(web:List Pr)(h:aae)(hg:GR h v G)(hw:PR h wv web)(hn:web.length<=1000):
  AC Tryz.prog W0 96 [v,wv] h fun x h'=>Le h h'/\∃lv e,x=.tuple #[lv,.int .i64 e]/\
   ((¬bX G/\lv=.slice none 0 0/\e=20)\/(bX G/\¬CU G.es web/\lv=.slice none 0 0/\e=2)\/
    (bX G/\CU G.es web/\e=0/\∃L,wx G.n.toNat (fun u=>(Cb G.n.toNat web).getD u false) G.es L/\FL h' lv (LJ G.n.toNat G.es web L))):=by
 have aD:=hg;obtain⟨gn,es⟩:=G
 obtain⟨ev,rfl,hp⟩:=hg.open
 refine AC.vE ⟨Tryz.func96,rfl,WY⟩ Tryz.ntmps96 Tryz.results96 fun b6=>?_;simp only[Br,seval];obtain⟨h1,b1,N,dB,-,lA⟩:=r8 (n:=gn) b6 hp
 generalize h.next=B at*
 have b8:=lA h1 (Le.refl _);refine Sk (XC b1 b8.1) ?_;refine kCi zL (ak W0 _ _ h1 (aD.le N)) ?_;rintro x h2 dE ⟨⟨bb,rfl,b9⟩,I⟩;cases bb with
 |false=>refine Uy ?_;grind[Le.trans]
 |true=>
 have hr:=b9.1 rfl;have h0:0<=gn:=hr.n0;obtain⟨n,rfl⟩:=Z6 h0;have dv:(n:Int)<=200:=hr.n1;have dw:es.length<=594:=hr.len;have hR:=hr.GD;have cc:=lA h2 I;refine Sk cc.1 ?_;refine kCi Tryz.func134 (j5 W0 _ wv _ web h2 (aD.le (N.trans I)) (hw.le (N.trans I)) hr hn) ?_;rintro x h3 cd ⟨⟨ov,nv,bo,rfl,a6,cf,aa⟩,aE⟩;obtain⟨dF,h4,e4,cg,P,dG,o4⟩:=newVar cd alloc35 Uh Ji a6.1 a6.2;refine Sk (XC e4 cg) ?_;cases bo with
 |false=>refine Uy ?_;grind[Le.trans]
 |true=>
 have a7:=cf.1 rfl;obtain⟨a8,ck⟩:=aa rfl;have cm:=lA h4 ((I.trans aE).trans P);have aq:=ck.le Nn.sJ P
 have lO:∀g,Le h4 g->acd Tryz.prog g 59 ⟨h3.next,0,none⟩=some nv:=fun g l=>by rw[Fq Uh rfl (l.own _ _ o4)];rfl
 have cp:=lO h4 (Le.refl _)
 generalize h3.next=O at*
 have ba:=((N.trans I).trans aE).trans P;refine Sk (XC cm.1 cp) ?_;have aF:(Cb n web).length=n:=Qe n web;refine kCi Tryz.func135 (tS W0 _ nv n es (Cb n web) h4 (aD.le ba) hr aq aF) ?_;rintro tv h5 cq ⟨L,hL,hT,cr⟩;have cx:=hL.sl.cells;obtain⟨dH,d,e6,cz,bg,aH,o6⟩:=newVar cq alloc39 Mb Ji cx hL.one
 have lT:∀g,Le d g->acd Tryz.prog g 49 ⟨h5.next,0,none⟩=some tv:=fun g l=>by rw[Fq Mb rfl (l.own _ _ o6)];rfl
 generalize h5.next=T at*
 have m:=cr.trans bg;have Q:Le h1 d:=((I.trans aE).trans P).trans m;have ar:=N.trans Q;have bh:=hp.le ar;have dz:=a8.le Nn.sJ (P.trans m);have av:=aq.le Nn.sJ m;have cC:=hL.le Nn.RP bg
 obtain⟨w,e7,r,z,o7⟩:∃w,d.alloc (.map [])=w/\Le d w/\WF w/\w.own d.next=some (.map []):=⟨_,rfl,(Le.refl d).alloc aH _,aH.alloc _,aae.zT _ _⟩
 obtain⟨h8,e8,ae,cE,o8⟩:=Tt z []
 have bj:abB Tryz.prog w 49 0 []=some (.slice (some ⟨w.next,0,none⟩) 0 0,h8):=by rw[<-e8];rfl
 have nM:d.own d.next=none:=(Le.refl d).next aH (qL0 _)
 have nC:d.own w.next=none:=r.next z (qL0 _)
 have bk:w.next≠d.next:=fun e=>by have:=z.lt o7;omega
 have bm:=lA h8 (Q.trans (r.trans ae));have ll:=fun g=>hp.len g;refine Sk (amk e6 cz e7 bj @Di @Ip.eq_1 @Gc bm.2.2 ll) ?_;have br:=ae.own _ _ o7
 generalize d.next=M at*
 generalize w.next=C at*
 let on:Nat->Bool:=fun u=>(Cb n web).getD u false;let fr:Pr->Nat->Int:=Zo n on L;have R0:aaB d h8 M [] (ac3 fr es web 0):=⟨br,rfl,fun j u g s=>by simp at s,fun j u s=>by simp at s,fun j k u u' b _ s=>by simp at s,fun j u s=>by simp at s,r.trans ae,nM⟩;have gC:GI h8 (.slice (some ⟨C,0,none⟩) 0 0) (Ea (ac3 fr es web 0)):=GS.full o8 rfl WY;refine lIn (fun k S hh=>∃(i:Nat)(cv:Value)(us:List Value),k=es.length-i/\i<=es.length/\S=mkF [(6,ov),(7,.pointer (some ⟨O,0,none⟩)),(10,.func (.func 136) #[] #[.pointer (some ⟨B,0,none⟩),.pointer (some ⟨O,0,none⟩),.pointer (some ⟨T,0,none⟩)]),(11,.map (some M)),(12,cv),(38,ev),(39,.int .i64 es.length),(40,.int .i64 i)]/\
   aaB d hh M us (ac3 fr es web i)/\GI hh cv (Ea (ac3 fr es web i))/\blk cv≠some M/\(∀(j:Nat) u b,us[j]?=some u->blk u=some b->blk cv≠some b)/\Z2 d cv) ⟨0,_,[],rfl,WA _,rfl,R0,gC,by grind[blk],fun j u b s=>by simp at s,fun b hb=>by grind[blk]⟩ ?_
 clear R0 gC br bm nC bk bj o8 cE ae e8 o7 z r e7;rintro k S hh U ⟨i,cv,us,rfl,hi,rfl,R,gc,nc,dc,ac⟩;have J:=R.le;refine Uy ?_;refine Kl.intro (fun ht=>?_) (fun hf=>?_)
 rotate_left
 .have cM:es.length<=i:=vp hf;obtain rfl:i=es.length:=NH;obtain⟨nd,bx,az,cN,aB⟩:=Pt fr es web es.length;generalize ag:ac3 fr es web es.length=gs at*;have lc:=fun g=>gc.rl.DH g;have bB:(Ea gs).length=gs.length:=by simp[Ea]
  rw[bB]at lc;obtain⟨c0,mk,bF⟩:=mkFr hh gs.length NH;obtain⟨h9,e9,bH,cP,o9⟩:=Tt U c0;rw[e9]at mk
  have nF:hh.own hh.next=none:=(Le.refl hh).next U (qL0 _)
  generalize hh.next=F at*
  simp only[HO,seval,lc,mk];refine lIn (fun k S A=>∃(j:Nat)(cs:List Value),k=gs.length-j/\j<=gs.length/\S=mkF [(7,.pointer (some ⟨O,0,none⟩)),(11,.map (some M)),(16,.slice (some ⟨F,0,none⟩) gs.length gs.length),(73,cv),(74,.int .i64 gs.length),(75,.int .i64 j)]/\
    Le hh A/\A.own F=some (.cells cs)/\cs.length=gs.length*2/\∀(a:Nat) g,a<j->gs[a]?=some g->∃x y,cs[a*2]?=some x/\cs[a*2+1]?=some y/\PR (A.kill F) x g.2/\RL RP (A.kill F) y (YJ on g.2)) ⟨0,c0,rfl,WA _,rfl,bH,o9,bF,NH⟩ ?_
  clear e9 o9 cP bH mk bF c0 h9;rintro k S A dI ⟨j,cs,rfl,hj,rfl,leq,oF,dK,V⟩;refine Uy ?_;refine Kl.intro (fun ht=>?_) (fun hf=>?_)
  rotate_left
  .have cM:gs.length<=j:=vp hf;refine Uy ?_;refine⟨ar.trans (J.trans leq),_,_,rfl,.inr (.inr ⟨hr,a7,rfl,L,hT,?_⟩)⟩;have cR:LJ n es web L=gs.map fun g=>⟨g.2,YJ on g.2⟩:=by rw[<-ag];rfl
   show FL A _ (LJ n es web L);rw[cR];refine⟨cs,?_,fun a f ha=>?_⟩
   .have:=CS.own (k:=2) (off:=0) (n:=gs.length) (cap:=gs.length) oF NH;grind
   .rw[F3]at ha;cases t:gs[a]? with
    |none=>grind
    |some g=>rw[t]at ha;simp at ha;subst ha;obtain⟨x,y,q1,q2,q3,q4⟩:=V a g pw t;grind[PR.le,Le.Qz,RL.le,Nn.RP]
  have bI:j<gs.length:=CC ht;clear ht;have aj:=CA bI;generalize gs[j]=g at aj;obtain⟨f,l⟩:=g;have bN:(Ea gs)[j]?=some f:=by grind[Ea]
  have bQ:=(Ny.1 bN).1;have cU:=gc.rl.TA j bQ;have bT:=(gc.rl.le Nn.RP leq).Uc j bQ;rw[(Ny.1 bN).2]at bT;have Rq:=R.up leq;obtain⟨u,cW,aJ⟩:=R.look f;rw[NI nd aj]at aJ;have s:agI Tryz.prog A 110 (.map (some M)) (.int .i64 f) false=some u:=by rw[<-cW];simp only[agI,qS7,Ac,Rq.oM,R.oM]
  have gu:=aJ.le leq;have cZ:=lO A (m.trans (J.trans leq));have bW:InR n l:=fun p hp=>hR p (aB _ (BS aj) p hp);have bY:l.length<=1000:=pw;have c3:∀k:IntKind,abX Tryz.prog 118 (.slice (some ⟨F,0,none⟩) gs.length gs.length) (.int k j)=some (.pointer (some ⟨F,j*2,none⟩)):=fun k=>by have h1:(j:Int)<(gs.length:Int):=NH;simp[abX,qS23,KT,h1,zB,Ip]
  have Fm:=feet_any W0 u nv n l (Cb n web) A gu.pr (av.le Nn.sJ (J.trans leq)) bW aF bY;refine Sk (XC cU bT) ?_;refine gh (tA [0,1,2,3,5,6,8] (.ch 4 [2,3] (JQ 7 [5,6] (JQ 9 [7,8] (tA [10,11] (JQ 12 [0,1,2,3,4,5,6,7,8,9,10,11] .done)))) (JQ 7 [5,6] (.ch 4 [2,3] (JQ 9 [7,8] (tA [10,11] (JQ 12 [0,1,2,3,4,5,6,7,8,9,10,11] .done))) (JQ 9 [7,8] (JQ 4 [2,3] (tA [10,11] (JQ 12 [0,1,2,3,4,5,6,7,8,9,10,11] .done)))))))) ?_;refine CO (XC s cZ) ?_;refine⟨?_,?_,?_⟩
  all_goals
   refine kGi Tryz.func137 Fm ?_;rintro y hz wz ⟨hy,lz,ay⟩;have c4:agI Tryz.prog hz 110 (.map (some M)) (.int .i64 f) false=some u:=by rw[<-s];simp only[agI,qS7,Ac,lz.own _ _ Rq.oM,Rq.oM]
   have c5:=stFr (lz.own _ _ oF) (show j*2+2<=cs.length by omega) (gu.pr.le lz) hy;have c6:Le hh (hz.put F (.cells ((cs.set (j*2) u).set (j*2+1) y))):=(leq.trans lz).put _ nF;have c9:=build41 gu.pr.sl hy.sl;refine CO (IX c4 c9 c3 c5 (Tw j NH)) ?_;refine lgA NH ⟨j+1,(cs.set (j*2) u).set (j*2+1) y,rfl,bI,rfl,c6,aae.Y3 _ _ _,pw,fun a g ha t=>?_⟩;have bZ:blk y≠some F:=fun hb=>by have:=ay F hb;grind
   by_cases e:a=j
   .subst e;rw[aj]at t;injection t with t;subst t;refine⟨u,y,pw,pw,aJ.pr.le ((leq.trans lz).put_kill nF _),?_⟩;refine RL.akt (F:=F) ?_ bZ;have h1:=(hy.akt bZ).le Nn.RP (h':=(hz.put F (.cells ((cs.set (a*2) u).set (a*2+1) y))).kill F) ((Le.refl hz).ON F _);grind[RL.le,Nn.RP,Le.Qz]
   .obtain⟨x',y',q1,q2,q3,q4⟩:=V a g NH t;exact⟨x',y',by rw[VU,aal NH,VU,aal NH];exact q1,by rw[VU,aal NH,VU,aal NH];exact q2,q3.le (lz.ON F _),q4.le Nn.RP (lz.ON F _)⟩
 have W:i<es.length:=CC ht;clear ht;have K:=CA W;generalize es[i]=p at K;have da:=BS K;obtain⟨p1,p2,p3⟩:=hR p da;have dA:(ofM es web)[i]?=some (decide (p∈web)):=by grind[ofM]
 have b0:i<(ofM es web).length:=pw;have db:=bh.le J;have ad:=hp.addr (k:=.i64) i W;have ld:=db.load K;obtain⟨dL,w,e7,b2,r,z,o7⟩:=Ut U p
 have dM:d.own hh.next=none:=J.next U (qL0 _)
 have b3:hh.own hh.next=none:=(Le.refl hh).next U (qL0 _)
 have c:=J.trans r;have oA:∀k:IntKind,abX Tryz.prog 59 ov (.int k (i:Int))=some (.pointer (some (abv ov i))):=fun k=>a8.LB i b0;have oL:acd Tryz.prog w 4 (abv ov i)=some (.bool (decide (p∈web))):=by grind[RL.le,Nn.sJ,RL.W7]
 have R7:=R.up r;have X:=gc.le r
 have dO:hh.next≠M:=fun e=>by have:=R.oM;grind
 have dd:blk cv≠some hh.next:=fun e=>GS.Sy gc e b3
 have dQ:∀(j:Nat) u,us[j]?=some u->blk u≠some hh.next:=fun j u s e=>by have ag:∃q,(ac3 fr es web i)[j]?=some q:=⟨_,CA (by grind[aaB.len])⟩;obtain⟨q,A⟩:=ag;exact GS.Sy (R.gp j u q s A) e b3
 generalize hh.next=E at*
 by_cases c1:p∈web
 .rw[XJ c1]at oL;rw[<-JJ K c1]at R7 X;simp only[HO,seval,ad,ld,e7,b2,oA,oL,Tw i NH];exact lgA NH ⟨i+1,cv,us,rfl,W,rfl,R7,X,nc,dc,ac⟩
 rw[Sb c1]at oL;simp only[HO,seval,ad,ld,e7,b2,oA,oL];have b4:=lA w (Q.trans c);refine kCi Tryz.func136 (frag_any W0 ev nv tv n es (Cb n web) L B O T i p w (bh.le c) (av.le Nn.sJ c) (cC.le Nn.RP c) hR aF hT.len b4.2.1 b4.2.2 (lO w (m.trans c)) (lT w c) K NH NH) ?_;rintro x h9-⟨rfl,rfl⟩;obtain⟨nd,bx,az,cN,aB⟩:=Pt fr es web i;have aC:=dh (fr:=fr) K c1;have H:=RY (ac3 fr es web i) (fr p i) p;have b5:=rV (f:=fr p i) bx;have bY:=Ft (fr p i) _ _ az;have de:Zo n (fun u=>(Cb n web).getD u false) L p i=fr p i:=rfl;rw[de];generalize ag:ac3 fr es web i=gs at*;generalize fr p i=f at*;have bB:(Ea gs).length<=1000:=by grind[Ea]
 obtain⟨u,s,gu⟩:=R7.look f;have lu:=fun g=>gu.pr.len g;have aK:∀(j:Nat) a b,us[j]?=some a->blk a=some b->∃o,h9.own b=some o:=fun j a b ha hb=>by have A:∃q,gs[j]?=some q:=⟨_,CA (by rw[<-R7.len];grind)⟩;obtain⟨q,A⟩:=A;exact iy.1 (GS.Sy (R7.gp j a q ha A) hb)
 by_cases c2:ahc gs f=[]
 .have df:∀g,ahz Tryz.prog g 22 u=some (.int .i64 0):=fun g=>by rw[lu g,c2];rfl
  have dj:f∉Ea gs:=fun hm=>b5.1 hm c2;rw[aal dj]at H;obtain⟨aP,g4,g5,e4,e5,aT,w5,l4,dk,al⟩:=X.push z f NH;obtain⟨l5,a5⟩:=dk d c ac;have R5:aaB d g5 M us gs:=R7.keep l5 fun b o ho hb=>(al b o ho (by
   rcases hb with rfl|⟨j,a,ha,hb⟩
   .exact nc
   grind)).1
  obtain⟨dm,dS⟩:=al E _ o7 dd;have aV:=(al M _ R7.oM nc).2;obtain⟨u2,dp,q4,q5,q6,aW,eu,eb,ea,em,Rn,wn,dq,kq⟩:=R5.push w5 f p (by rw[c2];simp);have aX:=uM dm;rw[<-H]at aT;have ku:∀(j:Nat) a b,us[j]?=some a->blk a=some b->blk aP≠some b:=fun j a b ha hb=>by obtain⟨o,ho⟩:=aK j a b ha hb;exact(al b o ho (dc j a b ha hb)).2
  have a1:GI q6 aP (Ea (agN gs f p)):=GS.kept aT fun b o hb ho=>(kq b o ho (fun e=>aV pw) (fun j a ha D=>ku j a b ha D hb)).2.1;simp only[HO,seval,s,df,e4,e5,eu,aX,eb,ea,em,Tw i NH];refine lgA NH ⟨i+1,aP,aW,rfl,W,rfl,?_⟩;rw[aC];refine⟨Rn,a1,aV,fun j a b ha hb hc=>?_,a5⟩;obtain⟨o,ho⟩:=iy.1 (GS.Sy aT hc);exact(kq b o ho (fun e=>aV pw) (fun j a ha D=>ku j a b ha D hc)).2.2 j a ha hb
 .have hz:(((ahc gs f).length:Nat):Int)≠0:=by grind[List.length_eq_zero_iff]
  rw[AE (b5.2 c2)]at H;obtain⟨u2,dp,q4,q5,q6,aW,eu,eb,ea,em,Rn,wn,dq,kq⟩:=R7.push z f p NH;obtain rfl:u=u2:=pw;have aX:=uM o7;have a1:GI q6 cv (Ea (agN gs f p)):=by rw[H];exact GS.kept X fun b o hb ho=>(kq b o ho (fun e=>nc pw) (fun j a ha D=>dc j a b ha D hb)).2.1
  simp only[HO,seval,s,lu,eq_false hz,aX,eb,ea,em,Tw i NH];refine lgA NH ⟨i+1,cv,aW,rfl,W,rfl,?_⟩;rw[aC];refine⟨Rn,a1,nc,fun j a b ha hb hc=>?_,ac⟩;obtain⟨o,ho⟩:=iy.1 (GS.Sy X hc);exact(kq b o ho (fun e=>nc pw) (fun j a ha D=>dc j a b ha D hc)).2.2 j a ha hb
def cX(web l:List Pr)(n:Nat):II:=(List.range n).filter fun v=>onE web (v:Int)&&onE l (v:Int)
variable {a b:Value} {fs:List FM}
theorem FL.len(r:FL h v fs)(g:aae):ahz Tryz.prog g 118 v=some (.int .i64 fs.length):=by obtain⟨cs,c,_⟩:=r;obtain⟨a,k,rfl,_⟩:=c.sl;simp[ahz,qS23]
def qx(v:Value)(i:Nat):Addr:=abv v (i*2)
theorem FL.addr(r:FL h v fs){k:IntKind}(i:Nat)(hi:i<fs.length):abX Tryz.prog 118 v (.int k i)=some (.pointer (some (qx v i))):=by obtain⟨cs,c,_⟩:=r;obtain⟨a,k,rfl,hs⟩:=c.sl;obtain⟨a,rfl⟩:=EP.1 (hs NH);have b:(i:Int)<(fs.length:Int):=NH;simp[abX,qS23,KT,b,qx,abv,zB]
def ff0(a:Addr):agQ Tryz.prog 122 (.pointer (some a)) 0=some (.pointer (some (Ip a 0))):=rfl
def ff1(a:Addr):agQ Tryz.prog 122 (.pointer (some a)) 1=some (.pointer (some (Ip a 1))):=rfl
theorem FL.load(r:FL h v fs){f:FM}(hf:fs[i]?=some f):
  ∃a b,(∀g,Le h g->acd Tryz.prog g 122 (qx v i)=some (.agg #[a,b]))/\PR h a f.zp/\RL RP h b f.Fm:=by
 obtain⟨cs,c,e⟩:=r;obtain⟨a,b,m,n,o,p⟩:=e i f hf;refine⟨a,b,fun g l=>?_,o,p⟩;have q:=l.read (c.get _ _ m);have s:=l.read (c.get _ _ n);obtain⟨ad,k,rfl,hs⟩:=c.sl;obtain⟨ad,rfl⟩:=EP.1 (hs pw);have d:agK g (qx (.slice (some ad) fs.length k) i) 2=some [a,b]:=by refine ua [a,b] _ fun j x e=>?_;grind[qx,fA,Ip]
 simp only[acd,KT,zB,d];rfl
theorem alloc41(h:aae):agH Tryz.prog h 122=some (.pointer (some ⟨h.next,0,none⟩),h.alloc (.cells [.slice none 0 0,.slice none 0 0])):=rfl
theorem new41'(hw:WF h)(ha:xO a n)(hb:xO b m):∃c h2,agH Tryz.prog h 122=some (.pointer (some ⟨h.next,0,none⟩),c)/\acs Tryz.prog c 122 (.pointer (some ⟨h.next,0,none⟩)) (.agg #[a,b])=some h2/\Le h h2/\WF h2/\h.own h.next=none/\h2.own h.next=some (.cells [a,b]):=by
 obtain⟨c,e,l1,w1,d⟩:=Tt hw [.slice none 0 0,.slice none 0 0]
 have f:h.own h.next=none:=(Le.refl h).next hw (qL0 _)
 have st:acs Tryz.prog c 122 (.pointer (some ⟨h.next,0,none⟩)) (.agg #[a,b])=some (c.put h.next (.cells [a,b])):=by obtain⟨_,_,rfl,_⟩:=ha;obtain⟨_,_,rfl,_⟩:=hb;simp[acs,d,Value.cells,zB,putCells,KT];exact⟨rfl,rfl⟩
 grind[alloc41,Le.put,WF.put,WF.lt,aae.Y3]
def ld41{C:Nat}(c:g.own C=some (.cells [a,b])):acd Tryz.prog g 122 ⟨C,0,none⟩=some (.agg #[a,b])/\acd Tryz.prog g 22 ⟨C,0,none⟩=some a/\acd Tryz.prog g 49 ⟨C,1,none⟩=some b:=by
 refine⟨?_,?_,?_⟩
 .rw[Wx KT rfl zB c Ma];rfl
 .rw[Fq eY rfl c];rfl
 .rw[Fq Mb rfl c];rfl
theorem Ty(p:Pr)(v:Int):aO p v=true↔p.1=v\/p.2=v:=by simp[aO]
theorem onE_iff(web:List Pr)(v:Nat):onE web (v:Int)=true↔onW web v:=by simp[onE,onW,Ty]
theorem Fh{n:Nat}{web:List Pr}{u:Nat}(a:u<n):(Cb n web).getD u false=onE web (u:Int):=by grind[onE_iff,Cb]
section
variable{n:Nat}{es web:List Pr}{L:RZ}
abbrev Qw(n:Nat)(web:List Pr):Nat->Bool:=fun u=>(Cb n web).getD u false
end
variable {α:Type}
theorem feet_eq{es web l:List Pr}(hR:InR n es)(a:∀p∈l,p∈es):YJ (Qw n web) l=aaa (cX web l n):=by
 refine wP _ _ (akW (aQ _)) ?_ fun x=>?_
 .rw[aaa,pz,cX];grind[List.Pairwise.imp,List.pairwise_lt_range]
 .rw[YJ,jn,Wv];simp only[BY,ftP,y5,uV,aaa,cX,N8,j3,rY];constructor
  .rintro⟨p,b,c,d⟩;obtain⟨e,f,g⟩:=hR p (a p b);grind[Fh,onE.eq_1,Ty]
  grind[onE.eq_1,Ty,Fh]
def ahJ(fr:Pr->Nat->Int)(es web:List Pr)(k:Int):Nat->List Pr
  |0=>[]
  |i+1=>match es[i]? with
    |some p=>if p∈web then ahJ fr es web k i else if fr p i=k then ahJ fr es web k i++[p]else ahJ fr es web k i
    |none=>ahJ fr es web k i
theorem lstG_add(gs:List Gr)(f k:Int)(p:Pr):ahc (agN gs f p) k=if f=k then ahc gs k++[p]else ahc gs k:=by
 induction gs<;>grind[agN,ahc]
theorem ZM(fr:Pr->Nat->Int)(es web:List Pr)(k:Int)(i:Nat):ahc (ac3 fr es web i) k=ahJ fr es web k i:=by
 induction i with
 |zero=>rfl
 |succ i a=>
  cases b:es[i]?<;>grind[ac3,ahJ,lstG_add]
theorem full_mem(fr:Pr->Nat->Int)(es web:List Pr)(k:Int)(q:Pr)(i:Nat):q∈ahJ fr es web k i↔∃j,j<i/\es[j]?=some q/\q∉web/\fr q j=k:=by
 induction i<;>grind[ahJ]
theorem grps_map(F:List Pr->α)(gs:List Gr)(a:(Ea gs).Nodup):gs.map (fun g=>F g.2)=(Ea gs).map fun k=>F (ahc gs k):=by grind[Ea.eq_1,List.map_congr_left,List.mem_iff_getElem?,NI]
def bP(a b:Int):ag1 Tryz.prog 38 [(0,.int .i64 a),(1,.int .i64 b)]=some (UI (a,b)):=Ji
theorem keys_add(gs:List Gr)(f k:Int)(p:Pr):k∈Ea (agN gs f p)↔k∈Ea gs\/k=f:=by
 induction gs<;>grind[agN,Ea]
theorem keys_mem(fr:Pr->Nat->Int)(es web:List Pr)(k:Int)(i:Nat):k∈Ea (ac3 fr es web i)↔∃(j:Nat)(p:Pr),j<i/\es[j]?=some p/\p∉web/\fr p j=k:=by
 induction i with
 |zero=>simp[ac3,Ea]
 |succ i a=>
  cases b:es[i]? with
  |none=>grind[ac3]
  |some q=>
   by_cases c:q∈web
   .grind[JJ]
   .rw[dh b c,keys_add,a];grind
variable {on:Nat->Bool} {ps:List Pr} {u w:Nat}
theorem sW(fr:Pr->Nat->Int)(es web:List Pr)(k:Int):∀i,(ahJ fr es web k i).Sublist (es.take i)
 |0=>by simp[ahJ]
 |i+1=>by
  have a:=sW fr es web k i;simp only[ahJ];cases b:es[i]? with
  |none=>grind
  |some p=>
   have:es.take (i+1)=es.take i++[p]:=by grind[List.take_add_one]
   grind
theorem E7{web l:List Pr}{x:Int}:x∈aaa (cX web l n)↔∃v:Nat,v<n/\x=(v:Int)/\onE web (v:Int)=true/\onE l (v:Int)=true:=by grind[aaa,cX]
theorem DX{v:Int}:onE ps v=true↔∃p∈ps,aO p v=true:=by simp[onE]
theorem M9(a:wx n on es L)(b:u<n)(hw:w<n)(c:on u=false)(d:on w=false):L.getD u 0=L.getD w 0↔Cn on es u w:=by grind[wx.same,wx.off]
theorem aku(n:LA)(v:Value)(rs:AM)(a:Int)(w i:Nat)(h:aae)(o:RL (RL RP) h v rs)(hw:w<rs.length)(s:rs[w].length<=100000)(p:aiP rs[w] a i):
  AC Tryz.prog n 150 [v,.int .i64 a,.int .i64 w] h fun x h'=>(∃q:(i+1)%rs[w].length<rs[w].length,x=.int .i64 (rs[w][(i+1)%rs[w].length]))/\h'=h:=by
 refine AC.vE ⟨Tryz.func150,rfl,WY⟩ Tryz.ntmps150 Tryz.results150 fun t=>?_;simp only[Br,seval];have j:=o.qP7 w hw;obtain⟨u,lu,b⟩:=o.load (P:=Tryz.prog) Mb rfl w hw;generalize rs[w]=r at*;have lr:=fun g=>b.DH g;simp only[HO,seval,j,lu];refine kCi SV (ahT n u r a h b s) ?_;rintro x y w1 ⟨⟨k,z,l,rfl⟩|⟨rfl,m⟩,rfl⟩
 rotate_left
 .exact absurd p (m i)
 obtain rfl:=p.2 k l.1;have f:=Tw k NH;by_cases c:k+1=r.length
 .have d:decide ((((k+1:Nat):Int))=(r.length:Int))=true:=XJ NH;have q:(k+1)%r.length<r.length:=OM _ NH;have e:(k+1)%r.length=0:=by rw[c,qL160]
  have ad:=b.TA 0 NH;have ld:=b.Uc 0 NH;simp only[iu]at ad;simp only[HO,seval,f,j,lu,lr,d,ad,ld];grind
 .have d:decide ((((k+1:Nat):Int))=(r.length:Int))=false:=Sb NH;have q:(k+1)%r.length<r.length:=OM _ NH;have e:(k+1)%r.length=k+1:=AQ NH;have ad:=b.TA (k+1) NH;have ld:=b.Uc (k+1) NH;simp only[HO,seval,f,j,lu,lr,d,ad,ld];grind
attribute [local instance] Classical.propDecidable
def Xl(rs:AM):Nat->II:=fun v=>(rs.getD v []).map Int.toNat
structure Av (n:Nat) (es:List Pr) (rs:AM):Prop where
 len:rs.length=n
 perm:∀v,v<n->(rs.getD v []).Perm ((Zh n es).getD v [])
section
variable{n:Nat}{es:List Pr}{rs:AM}
theorem Av.nat(c:InR n es)(G:Av n es rs){v:Nat}{x:Int}(a:x∈rs.getD v []):v<n/\∃w:Nat,x=(w:Int)/\w<n/\Jp es v w:=by
 by_cases b:v<n
 .have d:=(G.perm v b).mem_iff.1 a;grind[Ru,EW]
 grind[Av.len]
theorem Av.mem(a:InR n es)(G:Av n es rs){v w:Nat}:w∈Xl rs v↔Jp es v w:=by
 rw[Xl,N8];constructor
 .rintro⟨x,b,rfl⟩;obtain⟨_,w,rfl,_,h⟩:=G.nat a b;exact h
 .intro h;have c:=(h.lt a).1;exact⟨(w:Int),(G.perm v c).mem_iff.2 (by grind[EW]),rfl⟩
theorem Av.back(a:InR n es)(G:Av n es rs)(v:Nat):(Xl rs v).map (fun(x:Nat)=>(x:Int))=rs.getD v []:=by
 rw[Xl,C4]
 conv=>rhs;rw[<-af6 (rs.getD v [])]
 refine Vn fun x b=>?_;obtain⟨_,w,rfl,_⟩:=G.nat a b;rfl
theorem Av.jD(a:InR n es)(ha:D3 es)(G:Av n es rs):V7 n (Xl rs):=by
 refine⟨fun v=>?_,fun v w h=>(((G.mem a).1 h).lt a).1,fun v w h=>(G.mem a).2 ((G.mem a).1 h).symm,fun v h=>Xa a ((G.mem a).1 h)⟩;by_cases b:v<n
 .have nd:(rs.getD v []).Nodup:=(G.perm v b).nodup_iff.2 (by grind[KW,List.Pairwise.imp]);grind[Xl.eq_1,List.Pairwise.imp_of_mem,Av.nat]
 grind[Xl.eq_1,Av.len]
theorem Av.akX(G:Av n es rs){v:Nat}(a:v<n):(rs.getD v []).length=((Zh n es).getD v []).length:=(G.perm v a).length_eq
end
theorem Qy{l:II}(nd:l.Nodup){j:Nat}(a:j<l.length):nx l l[j]=l[(j+1)%l.length]'(OM _ NH):=by
 have e:l=l.take j++l[j]::l.drop (j+1):=by grind[List.getElem_cons_drop,List.take_append_drop]
 have b:nx l l[j]=(l.drop (j+1)++(l.take j++[l[j]])).headD 0:=by grind[ZL]
 rw[b];by_cases c:j+1<l.length
 .grind[List.drop_eq_getElem_cons,List.headD_cons,Nat.mod_eq_of_lt]
 .rw[kS NH,Ah];have d:(j+1)%l.length=0:=by grind[Nat.mod_self]
  cases j with
  |zero=>grind
  |succ j=>
   cases l with
   |nil=>simp at a
   |cons x l=>simp only[d,List.take_succ_cons,WZ,qL198,List.getElem_cons_zero]
end
end Go.Fw
