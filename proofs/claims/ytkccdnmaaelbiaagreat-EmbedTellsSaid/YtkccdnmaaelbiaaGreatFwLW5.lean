/- A text. -/
import Derived.Test.YtkccdnmaaelbiaaGreatFwLW2
import Derived.Test.YtkccdnmaaelbiaaGreatFwLB14
set_option linter.all false
set_option maxRecDepth 99999
set_option maxHeartbeats 9999999
open Go.Proofs
namespace Go.Fw
section
attribute [local irreducible] Kp MQ lU rS KO KN KX KE VK Kl ZJ TC aab
variable {n:Nat}
def alw(h:aae){u:Value}(a:xO u n):abB Tryz.prog h 27 1 [(0,u)]=some (.slice (some ⟨h.next,0,none⟩) 1 1,h.alloc (.cells [u])):=by obtain⟨_,_,rfl,_⟩:=a;rfl
def mkL52e(h:aae):abB Tryz.prog h 27 0 []=some (.slice (some ⟨h.next,0,none⟩) 0 0,h.alloc (.cells [])):=rfl
theorem It(W0:LA)(v:Value)(G:GM)(h:aae)(hg:GR h v G)(N:bX G):
  AC Tryz.prog W0 64 [v] h fun x h'=>Lj (RL RP) h' x ((Gx G.n.toNat G.es G.n.toNat).map aaa)/\Le h h'/\Z2 h x:=by
 have aC:=hg;obtain⟨gn,es⟩:=G
 obtain⟨ev,rfl,hp⟩:=hg.open
 have h0:0<=gn:=N.n0;obtain⟨n,rfl⟩:=Z6 h0;have a1:(n:Int)<=200:=N.n1;have a6:es.length<=594:=N.len;have hR:=N.GD;have hA:=N.q9;simp only[af8];refine AC.vE ⟨Tryz.func64,rfl,WY⟩ Tryz.ntmps64 Tryz.results64 fun aD=>?_;simp only[Br,seval];obtain⟨h1,b1,A,a7,-,lA⟩:=r8 (n:=(n:Int)) aD hp
 generalize h.next=B at*
 have aE:=lA h1 (Le.refl _);simp only[HO,seval,b1,aE.1];refine TC.intro PJ ⟨qS34,rfl,WY⟩ (N7 W0 _ (.slice none 0 0) ⟨(n:Int),es⟩ [] h1 (aC.le A) RL.nil Ma) ?_;rintro x h2 O ⟨p,C,e,rfl,y⟩;obtain⟨rfl,E⟩:e=0/\RL (RL RP) h2 C (Zh n es):=pw;clear y;obtain⟨h3,e3,l3,w3,o3⟩:=Tt O [];have fT:=lA h3 (p.trans l3);have mk:=Ye (P:=Tryz.prog) (t:=59) (z:=.bool false) h3 Uh rfl rfl rfl rfl Ji AV Ji n NH;obtain⟨h4,e4,l4,w4,o4⟩:=Tt w3 (List.replicate n (.bool false));rw[e4]at mk;have Q:=lA h4 ((p.trans l3).trans l4);simp only[HO,seval,Ii,Ip,Gc,mkL52e,e3,fT.2.1,mk,Q.2.1,bne]
 have nP:h2.own h2.next=none:=(Le.refl h2).next O (qL0 _)
 have nM:h3.own h3.next=none:=(Le.refl h3).next w3 (qL0 _)
 have ba:h2.own h3.next=none:=l3.none nM
 have ne:h2.next≠h3.next:=fun e=>by grind
 generalize h3.next=M at*
 have oM:h4.own M=some (.cells (Bo (List.replicate n false))):=by rw[o4];simp[Bo]
 have R:=((A.trans p).trans l3).trans l4
 have g0:Lj (RL RP) (rem [M] h4) (.slice (some ⟨h2.next,0,none⟩) 0 0) ((Gx n es 0).map aaa):=by grind[Gx,Es,Lj.empty,Th,Le.own]
 have S:Z2 h2 (.slice (some ⟨h2.next,0,none⟩) 0 0):=fun b hb=>by injection hb with hb;grind
 have U:blk (.slice (some ⟨h2.next,0,none⟩) 0 0)≠some M:=fun e=>by injection e with e;exact ne e
 generalize Value.slice (some ⟨h2.next,0,none⟩) 0 0=V at*
 have F:∀(k:IntKind)(j:Nat),j<n->abX Tryz.prog 59 (.slice (some ⟨M,0,none⟩) n n) (.int k j)=some (.pointer (some ⟨M,j,none⟩)):=fun k j hj=>by rw[Wc Uh AV Ji j hj];simp[Ip]
 have aF:∀(g:aae)(T:Nat)(L:List Bool)(j:Nat)(l:Bool),g.own T=some (.cells (Bo L))->L[j]?=some l->acd Tryz.prog g 4 ⟨T,j,none⟩=some (.bool l):=fun g T L j l ho hl=>by rw[Fq AV rfl ho];simp[Bo,hl]
 refine aab.intro (fun k fr m=>∃(i:Nat)(pv:Value)(met:List Bool),k=n-i/\i<=n/\fr=mkF [(3,C),(5,pv),(6,.slice (some ⟨M,0,none⟩) n n),(24,.int .i64 n),(25,.int .i64 i)]/\
   m.own M=some (.cells (Bo met))/\met.length=n/\Lj (RL RP) (rem [M] m) pv ((Gx n es i).map aaa)/\blk pv≠some M/\Le h2 m/\Z2 h2 pv/\∀w,w<n->(met[w]?=some true↔∃u,u<i/\Pu es u w))
  n [(3,C),(5,V),(6,.slice (some ⟨M,0,none⟩) n n),(24,.int .i64 n),(25,.int .i64 (0:Nat))] hAs
  ⟨0,_,_,rfl,WA _,rfl,oM,Ma,g0,U,l3.trans l4,S,fun w hw=>by simp[hw]⟩ ?_
 clear S U g0 R oM ne nM nP Q o4 w4 l4 e4 mk fT o3 w3 l3 e3;clear h4 V h3;rintro k fr m bb ⟨i,pv,met,rfl,hi,rfl,oM,W,gp,np,leq,ap,K⟩;have bg:((Gx n es i).map aaa).length<=n:=by grind[vH,Gx]
 refine Uy ?_;refine Kl.intro (fun X=>?_) (fun hf=>?_)
 rotate_left
 .have aa:n<=i:=vp hf;obtain rfl:i=n:=NH;refine Uy ?_;exact⟨gp.le (Nn.RL Nn.RP) (Sa _ _),(A.trans p).trans leq,fun b hb=>(A.trans p).none (ap b hb)⟩
 have a:i<n:=CC X;clear X;have H:=CA (show i<met.length by omega);generalize met[i]'(by omega)=mb at H
 have I:=aF m M met i mb oM H;cases mb with
 |true=>
  have hx:=(K i a).1 H;simp only[HO,seval,F _ i a,I,Tw i NH];refine tn (n-(i+1)) [(3,C),(5,pv),(6,.slice (some ⟨M,0,none⟩) n n),(24,.int .i64 n),(25,.int .i64 (i+1:Nat))] NH hAs
   ⟨i+1,pv,met,rfl,a,rfl,oM,W,?_,np,leq,ap,fun w hw=>?_⟩
  .grind[yP,Gx.eq_1]
  .rw[K w hw];constructor
   .grind
   .rintro⟨u,hu,y⟩;by_cases e:u=i
    .subst e;obtain⟨u',aH,aJ⟩:=hx;exact⟨u',aH,aJ.trans y⟩
    grind
 |false=>
  have hx:∀u,u<i->¬Pu es u i:=fun u hu y=>by grind
  simp only[HO,seval,F _ i a,I];refine TC.intro PJ ⟨Tryz.func114,rfl,WY⟩ (V6 W0 C n i es m (E.le (Nn.RL Nn.RP) leq) hR hA NH NH a) ?_;rintro x h5 ae ⟨d,uv,o,up,rfl,go,-,D,l5,ao⟩;have r:=l5.own _ _ oM;have ag:blk d≠some M:=fun e=>by have:=ao _ e;grind
  have lo:=fun g=>go.rl.DH g;rw[y6]at lo;have bh:o.length<=n:=by have:=D.KP.nodup.length_le_of_subset (l₂:=List.range n) fun w hw=>j3.2 (((D.mem w).1 hw).lt hR a);grind
  simp only[HO,seval,lo];have K0:Le (rem [M] m) h5:=(Sa _ _).trans l5;have nK:(rem [M] m).own M=none:=by grind[DC]
  have aK:Z2 (rem [M] m) d:=fun b hb=>(Sa [M] m).none (ao b hb);have aP:∀b,blk pv=some b->blk d≠some b:=fun b hb y=>by obtain⟨us,g1,_⟩:=gp;have:=GS.Sy g1 hb;exact this (aK b y)
  refine aab.intro (fun k fr hh=>∃(j:Nat)(c:List Bool),k=o.length-j/\j<=o.length/\fr=mkF [(3,C),(5,pv),(6,.slice (some ⟨M,0,none⟩) n n),(8,d),(24,.int .i64 n),(25,.int .i64 i),(38,d),(39,.int .i64 o.length),(40,.int .i64 j)]/\
    hh.own M=some (.cells (Bo c))/\c.length=n/\GI hh d (aaa o)/\Le (rem [M] m) hh/\∀w,w<n->(c[w]?=some true↔met[w]?=some true\/w∈o.take j))
   o.length [(3,C),(5,pv),(6,.slice (some ⟨M,0,none⟩) n n),(8,d),(24,.int .i64 n),(25,.int .i64 i),(38,d),(39,.int .i64 o.length),(40,.int .i64 (0:Nat))] hAs
   ⟨0,met,rfl,WA _,rfl,r,W,go,K0,fun w hw=>by simp⟩ ?_
  clear r lo go l5 ae K0 I;clear h5;rintro k fr h5 ae ⟨j,c,rfl,hj,rfl,r,s,go,K5,J⟩;refine Uy ?_;refine Kl.intro (fun X=>?_) (fun hf=>?_)
  .have f:j<o.length:=CC X;clear X;have aj:=CA f;have ad:=go.rl.TA j (by rw[y6];exact f);have ld:=go.rl.Uc j (by rw[y6];exact f);rw[sY f]at ld;have al:o.take (j+1)=o.take j++[o[j]]:=EL f;generalize o[j]=w at aj ld al;have aq:w<n:=((D.mem w).1 (BS aj)).lt hR a;have st:=QB (P:=Tryz.prog) (t:=4) (x:=.bool true) AV Ji r (off:=w) (by rw[ahw,s];exact aq) rfl rfl;rw[Tr]at st;simp only[HO,seval,ad,ld,F _ w aq,st,Tw j NH];refine tn (o.length-(j+1)) [(3,C),(5,pv),(6,.slice (some ⟨M,0,none⟩) n n),(8,d),(24,.int .i64 n),(25,.int .i64 i),(38,d),(39,.int .i64 o.length),(40,.int .i64 (j+1:Nat))] NH hAs
    ⟨j+1,_,rfl,f,rfl,aae.Y3 _ _ _,by simp[s],GS.put go _ ag,K5.put _ nK,fun x hx=>?_⟩
   rw[al,VU,yM,jf];by_cases e:w=x
   .grind
   .rw[aal e,J x hx];simp[Hs e]
  .have aa:o.length<=j:=vp hf;rw[HV aa]at J;refine Uy ?_;refine TC.intro PJ ⟨qS33,rfl,WY⟩ (VQ W0 go (by rw[y6];omega)) ?_;rintro x h6 w6 ⟨rfl,ar,av⟩;have ay:=(av (rem (bl d) h5) (Sa _ _) (fun b hb=>by grind[DC,Zr])).own M _ (Th.2 ⟨r,fun K=>ag (Zr.1 K)⟩);have K6:=av _ K5 aK;rw[fM hR D a]at ar;have aT:Le (rem [M] m) (rem [M] h6):=K6.iV fun b hb=>by grind
   have aV:=gp.le (Nn.RL Nn.RP) aT;have hb:∀b,blk pv=some b->b∉[M]:=fun b hb K=>by grind
   have gu:RL RP (rem [M] (rem (bl pv) h6)) d (aaa (Ic n es i)):=by
    have q:GI (rem [M] (rem (bl pv) h6)) d (aaa (Ic n es i)):=GS.Fi (GS.Fi ar (l:=bl pv) fun b hb y=>aP b (Zr.1 y) hb) (l:=[M]) fun b sZ y=>by grind
    exact q.rl
   obtain⟨h7,az,h8,e7,e8,bj,l7,w7,f8,k8⟩:=Lj.mG (P:=Tryz.prog) (t:=27) (Nn.RL Nn.RP) Ji aV w6 gu gu.sl.one NH hb (fun b hb=>by rw[jf]at hb;subst hb;rw[ay];simp);obtain⟨aW,aX⟩:=k8 M _ ay np;have aB:Le h2 h6:=(leq.iV (l:=[M]) fun b hb=>by grind).trans K6;obtain⟨l8,a8⟩:=f8 h2 aB ap;simp only[HO,seval,alw h6 gu.sl,e7,e8,Tw i NH];refine tn (n-(i+1)) [(3,C),(5,az),(6,.slice (some ⟨M,0,none⟩) n n),(24,.int .i64 n),(25,.int .i64 (i+1:Nat))] NH hAs
    ⟨i+1,az,c,rfl,a,rfl,aW,s,?_,aX,l8,a8,fun w hw=>?_⟩
   .rcases yP i es with⟨h,_⟩|⟨_,u,hu,y⟩
    .grind[Gx.eq_1]
    grind
   .rw[J w hw,K w hw,D.mem];constructor
    .grind
    grind
variable {L:RZ} {cl cl':Nat->Nat->Prop} {es:List Pr} {met:II} {s u w:Nat} {x:Int}
structure Ar (n:Nat) (es:List Pr) (s:Nat) (L:RZ) (met:II) (cl:Nat->Nat->Prop):Prop where
 len:L.length=n
 val:∀(v:Nat)(x:Int),L[v]?=some x->x=-1\/0<=x/\v∈met
 mm:∀v∈met,v<n/\Pu es s v/\∃x:Int,L[v]?=some x/\0<=x
 nd:met.Nodup
 s0:L[s]?=some 0
 ms:s∈met
 pre:∀(v:Nat)(x:Int),L[v]?=some x->0<x->∃w,Jp es v w/\L[w]?=some (x-1)
 zero:∀(v:Nat),L[v]?=some 0->v=s
 cl:∀u w,cl u w->w∈met
 bd:∀(v:Nat)(x:Int),L[v]?=some x->x+1<=met.length
structure ai (n:Nat) (es:List Pr) (s:Nat) (L:RZ):Prop where
 len:L.length=n
 pos:∀(v:Nat)(x:Int),L[v]?=some x->(0<=x↔Pu es s v)
 pre:∀(v:Nat)(x:Int),L[v]?=some x->0<x->∃w,Jp es v w/\L[w]?=some (x-1)
 zero:∀(v:Nat),L[v]?=some 0->v=s
 bd:∀(v:Nat)(x:Int),L[v]?=some x->-1<=x/\x+1<=n
 self:L[s]?=some 0
theorem Ar.start(hs:s<n)(cl:Nat->Nat->Prop)(a:∀u w,¬cl u w):Ar n es s ((List.replicate n (-1)).set s 0) [s] cl:=by
 have b:((List.replicate n (-1:Int)).set s 0)[s]?=some 0:=pw;refine⟨Ma,fun v x h=>?_,fun v c=>?_,Ma,b,Ma,fun v x h d=>?_,fun v h=>?_,pw,fun v x h=>?_⟩
 .grind
 all_goals grind[Pu.refl]
theorem Ar.mono(t:Ar n es s L met cl)(h:∀u w,cl' u w->cl u w):Ar n es s L met cl':={t with cl:=fun u w a=>t.cl u w (h u w a)}
theorem Ar.stay(t:Ar n es s L met cl)(d:L[w]?=some x)(e:0<=x)(h:∀a b,cl' a b->cl a b\/b=w):Ar n es s L met cl':=
 have hw:w∈met:=by grind[Ar.val]
 {t with cl:=fun a b c=>(h a b c).elim (fun h=>t.cl a b h) pw}
theorem Ar.push(t:Ar n es s L met cl){d x:Int}(g:u∈met)(hd:L[u]?=some d)(ha:Jp es u w)(q:L[w]?=some x)(i:x<0)(h:∀a b,cl' a b->cl a b\/b=w):
  Ar n es s (L.set w (d+1)) (met++[w]) cl':=by
 have j:0<=d:=by obtain⟨_,_,y,c,i⟩:=t.mm u g;grind
 have k:w∉met:=fun l=>by obtain⟨_,_,y,c,m⟩:=t.mm w l;grind
 have keep:∀(v:Nat)(y:Int),L[v]?=some y->0<=y->(L.set w (d+1))[v]?=some y:=pw;have gs:∀(v:Nat)(y:Int),(L.set w (d+1))[v]?=some y->v=w/\y=d+1\/v≠w/\L[v]?=some y:=pw;refine⟨by simp[t.len],fun v y c=>?_,fun v e=>?_,?_,(by grind[Ar.s0]),(by grind[Ar.ms]),fun v y c f=>?_,fun v e=>?_,fun a b o=>?_,fun v y c=>?_⟩
 .grind[Ar.val]
 .rw[yM,jf]at e;rcases e with e|rfl
  .obtain⟨r,h2,y,c,f⟩:=t.mm v e;grind
  .exact⟨by grind[Ar.len],.step (t.mm u g).2.1 ha rfl,d+1,pw,NH⟩
 .grind[Ar.nd]
 .rcases gs v y c with⟨rfl,rfl⟩|⟨_,c⟩
  .grind[Jp.symm]
  .obtain⟨b,hb,p⟩:=t.pre v y c f;grind
 .grind[Ar.zero]
 .rw[yM,jf];rcases h a b o with h|rfl
  .exact .inl (t.cl a b h)
  grind
 .simp only[eR,qH];rcases gs v y c with⟨rfl,rfl⟩|⟨_,c⟩
  .have:=t.bd u d hd;omega
  .have:=t.bd v y c;omega
theorem Ar.abK(t:Ar n es s L met cl):met.length<=n:=by have:=t.nd.length_le_of_subset (l₂:=List.range n) fun v a=>j3.2 (t.mm v a).1;grind
theorem Ar.finish(t:Ar n es s L met cl)(h:∀u w,u∈met->Jp es u w->cl u w):ai n es s L:=by
 have all:∀v,Pu es s v->v∈met:=by
  intro v c
  induction c with
  |refl _=>exact t.ms
  |step _ a _ d=>exact t.cl _ _ (h _ _ d a)
 refine⟨t.len,fun v x b=>⟨fun e=>?_,fun c=>?_⟩,t.pre,t.zero,fun v x b=>?_,t.s0⟩
 .rcases t.val v x b with h|⟨_,h⟩
  .omega
  .exact(t.mm v h).2.1
 .obtain⟨_,_,y,f,e⟩:=t.mm v (all v c);grind
 .have:=t.bd v x b;have:=t.abK;rcases t.val v x b with h|⟨h,_⟩<;>omega
def awS(u:Nat)(st:RZ×II)(x:Int):RZ×II:=if st.1.getD x.toNat 0<0 then(st.1.set x.toNat (st.1.getD u 0+1),st.2++[x.toNat])else st
def awI(rows:AM)(n s:Nat):Nat->RZ×II
  |0=>((List.replicate n (-1)).set s 0,[s])
  |i+1=>match(awI rows n s i).2[i]? with
    |some u=>(rows.getD u []).foldl (awS u) (awI rows n s i)
    |none=>awI rows n s i
def NY(rows:AM)(n s:Nat):RZ:=(awI rows n s n).1
theorem vk{rows:AM}{n s i:Nat}(h:(awI rows n s i).2.length<=i):∀k,i<=k->awI rows n s k=awI rows n s i
 |0,a=>by grind
 |k+1,a=>by
  by_cases e:i=k+1
  .rw[e]
  .have b:=vk h k NH;grind[awI.eq_2]
theorem away_fun(W0:LA)(bv:Value)(n s:Nat)(es:List Pr)(h:aae)(hb:RL (RL RP) h bv (Zh n es))(hR:InR n es)(hn:n<=300)(a1:es.length<=1000)(hs:s<n):
  AC Tryz.prog W0 132 [bv,.int .i64 (s:Int)] h fun x h'=>∃L,RL RP h' x L/\ai n es s L/\Le h h'/\L=NY (Zh n es) n s:=by
 refine AC.vE ⟨Tryz.func132,rfl,WY⟩ Tryz.ntmps132 Tryz.results132 fun aq=>?_;simp only[Br,seval];have lb:=fun g=>hb.qP5 g;rw[Xq]at lb;obtain⟨h1,e1,l1,w1,o1⟩:=Tt aq [.int .i64 (-1)];simp only[HO,seval,DQ,e1,lb];refine TC.intro PJ ⟨NQ,rfl,WY⟩ (rN W0 _ n NH h1 (RL.Wh (RS.whole o1 rfl))) ?_;rintro x h2 w2 ⟨T,rfl,hT,o2,l2⟩
 have nT:h.own T=none:=l1.next w1 hT
 have oT:h2.own T=some (.cells (Bp (List.replicate n (-1)))):=by rw[o2];simp[Bp]
 have B:∀(k:IntKind)(j:Nat),j<n->abX Tryz.prog 49 (.slice (some ⟨T,0,none⟩) n n) (.int k j)=some (.pointer (some ⟨T,j,none⟩)):=fun k j hj=>by rw[Wc Mb Ac Ji j hj];simp[Ip]
 have Q:∀(g:aae)(L:RZ)(j:Nat)(l:Int),g.own T=some (.cells (Bp L))->L[j]?=some l->acd Tryz.prog g 3 ⟨T,j,none⟩=some (.int .i64 l):=fun g L j l ho hl=>by rw[Fq Ac rfl ho];simp[Bp,hl]
 have F:=QB (P:=Tryz.prog) (t:=3) (x:=.int .i64 0) Ac Ji oT (off:=s) (by simp[Bp,hs]) rfl rfl;rw[yy]at F;have w3:=w2.put (.cells (Bp ((List.replicate n (-1)).set s 0))) (w2.lt oT);have l3:Le h (h2.put T (.cells (Bp ((List.replicate n (-1)).set s 0)))):=(l1.trans l2).put _ nT;have G:(h2.put T (.cells (Bp ((List.replicate n (-1)).set s 0)))).own T=some (.cells (Bp ((List.replicate n (-1)).set s 0))):=aae.Y3 _ _ _;simp only[HO,seval,B _ s hs,F];generalize h2.put T (.cells (Bp ((List.replicate n (-1)).set s 0)))=O at*;obtain⟨h5,e5,H,ar,o5⟩:=Tt w3 [.int .i64 (s:Int)]
 have nM:h.own O.next=none:=l3.next w3 (qL0 _)
 have av:T≠O.next:=fun e=>by have:=w3.lt G;omega
 simp only[HO,seval,DQ,e5];have R:=Ar.start (es:=es) hs (fun a w=>(∃j,j<0/\[s][j]?=some a)/\Jp es a w) (fun a w h=>by grind)
 have gM:GI h5 (.slice (some ⟨O.next,0,none⟩) 1 1) (aaa [s]):=GS.full o5 rfl (show 1<1000000000000 by decide)
 refine aab.intro (fun k fr f=>∃(i:Nat)(L:RZ)(m:Value)(met:II),k=n-i/\i<=met.length/\fr=mkF [(0,bv),(5,.slice (some ⟨T,0,none⟩) n n),(6,m),(7,.int .i64 i)]/\
   f.own T=some (.cells (Bp L))/\Le h f/\GI f m (aaa met)/\blk m≠some T/\Z2 h m/\Ar n es s L met (fun a w=>(∃j,j<i/\met[j]?=some a)/\Jp es a w)/\(L,met)=awI (Zh n es) n s i)
  n [(0,bv),(5,.slice (some ⟨T,0,none⟩) n n),(6,.slice (some ⟨O.next,0,none⟩) 1 1),(7,.int .i64 (0:Nat))] hAs
  ⟨0,_,_,[s],rfl,WA _,rfl,H.own _ _ G,l3.trans H,gM,by grind[blk],fun b hb=>by grind[blk],R,rfl⟩ ?_
 clear R gM av nM o5 ar H e5 h5 G l3 w3 F oT o2 l2 w2;clear O h2;rintro k fr f C ⟨i,L,m,met,rfl,hi,rfl,oT,leq,gm,nm,am,v,eI⟩;have lm:=fun g=>gm.rl.DH g;have S:=v.abK;rw[y6]at lm;simp only[HO,seval,lm];refine Kl.intro (fun U=>?_) (fun hf=>?_)
 rotate_left
 .have V:met.length<=i:=vp hf;refine Uy ?_;refine⟨L,RL.Wh (RS.whole oT (by grind[Ar.len])),v.finish fun a w ha I=>⟨?_,I⟩,leq,by grind[NY.eq_1,vk]⟩;grind[List.mem_iff_getElem?]
 have c:i<met.length:=CC U;clear U;have o:=CA c;have W:=sY c;have D:=gm.rl.TA i (by rw[y6];exact c);have p:=gm.rl.Uc i (by rw[y6];exact c);rw[W]at p;generalize met[i]=u at o p;clear W;have y:u∈met:=BS o;have ay:u<n:=(v.mm u y).1;have J:u<(Zh n es).length:=by grind[Xq]
 have az:=hb.NS u J;obtain⟨uv,aB,r⟩:=hb.Wm u J;have aC:(Zh n es).getD u []=(Zh n es)[u]:=D4 J;generalize (Zh n es)[u]=row at r aC;have lr:=fun g=>r.DH g;have a7:row.length<=3000:=by have:=bV n es row (by grind);omega
 simp only[HO,seval,D,p,az,aB f leq,lr];have X:Ar n es s L met (fun a w=>((∃j,j<i/\met[j]?=some a)/\Jp es a w)\/(a=u/\(w:Int)∈row.take 0)):=v.mono fun a w h=>by grind
 refine aab.intro (fun k fr f=>∃(q:Nat)(L:RZ)(m:Value)(met:II),k=row.length-q/\q<=row.length/\fr=mkF [(0,bv),(5,.slice (some ⟨T,0,none⟩) n n),(6,m),(7,.int .i64 i),(31,uv),(32,.int .i64 row.length),(33,.int .i64 q)]/\
   f.own T=some (.cells (Bp L))/\Le h f/\GI f m (aaa met)/\blk m≠some T/\Z2 h m/\met[i]?=some u/\Ar n es s L met (fun a w=>((∃j,j<i/\met[j]?=some a)/\Jp es a w)\/(a=u/\(w:Int)∈row.take q))/\(L,met)=(row.take q).foldl (awS u) (awI (Zh n es) n s i))
  row.length [(0,bv),(5,.slice (some ⟨T,0,none⟩) n n),(6,m),(7,.int .i64 i),(31,uv),(32,.int .i64 row.length),(33,.int .i64 (0:Nat))] hAs
  ⟨0,L,m,met,rfl,WA _,rfl,oT,leq,gm,nm,am,o,X,eI⟩ ?_
 have aD:awI (Zh n es) n s (i+1)=row.foldl (awS u) (awI (Zh n es) n s i):=by grind[awI.eq_2]
 clear X eI D p lm;clear y o c S v am nm gm leq oT C hi;clear f L m met;rintro k fr f C ⟨q,L,m,met,rfl,a8,rfl,oT,leq,gm,nm,am,o,v,eI⟩;have y:u∈met:=BS o;have S:=v.abK;have c:=(Ny.1 o).1;refine Uy ?_;refine Kl.intro (fun U=>?_) (fun hf=>?_)
 rotate_left
 .have V:row.length<=q:=vp hf;simp only[HO,seval,Tw i NH];refine tn (n-(i+1)) [(0,bv),(5,.slice (some ⟨T,0,none⟩) n n),(6,m),(7,.int .i64 (i+1:Nat))] NH hAs ⟨i+1,L,m,met,rfl,c,rfl,oT,leq,gm,nm,am,v.mono fun a w h=>?_,by rw[aD,eI,HV V]⟩;grind[EW]
 have z:q<row.length:=CC U;clear U;have aa:=r.TA q z;have K:=(r.le Nn.RP leq).Uc q z;have aE:row.take (q+1)=row.take q++[row[q]]:=EL z;have M:row[q]∈(Zh n es).getD u []:=pw;generalize row[q]=x at K aE M;obtain⟨w,rfl,N⟩:=Ru hR M;have I:=(EW hR u w).1 M;have E:=CA (show w<L.length by grind[Ar.len]);generalize L[w]'(by grind)=lw at E
 have ae:=Q f L w lw oT E;have ag:∀(A:II),(∀j,j<met.length->A[j]?=met[j]?)->∀a b,((∃j,j<i/\A[j]?=some a)/\Jp es a b)\/(a=u/\(b:Int)∈row.take (q+1))->
   (((∃j,j<i/\met[j]?=some a)/\Jp es a b)\/(a=u/\(b:Int)∈row.take q))\/b=w:=fun A hm a b h=>by grind
 have eS:(row.take (q+1)).foldl (awS u) (awI (Zh n es) n s i)=awS u (L,met) (w:Int):=pw;have gw:L.getD w 0=lw:=pw;by_cases c4:lw<0
 rotate_left
 .simp only[HO,seval,aa,K,B _ w N,ae,c4,Tw q NH];exact tn (row.length-(q+1)) [(0,bv),(5,.slice (some ⟨T,0,none⟩) n n),(6,m),(7,.int .i64 i),(31,uv),(32,.int .i64 row.length),(33,.int .i64 (q+1:Nat))] NH hAs
   ⟨q+1,L,m,met,rfl,z,rfl,oT,leq,gm,nm,am,o,v.stay E NH (ag met fun _ _=>rfl),by grind[awS.eq_1,Int.toNat_natCast]⟩
 obtain⟨aX,_,d,hd,ba⟩:=v.mm u y;have bb:=v.bd u d hd;have aF:=Q f L u d oT hd;have D:=gm.rl.TA i (by rw[y6];exact c);have p:=gm.rl.Uc i (by rw[y6];exact c);rw[sY c,show met[i]=u by grind]at p;have aH:adA .i64 (d+1)=d+1:=ie _ NH NH;have st1:acs Tryz.prog f 3 (.pointer (some ⟨T,w,none⟩)) (.int .i64 (d+1))=some (f.put T (.cells (Bp (L.set w (d+1))))):=by rw[QB (P:=Tryz.prog) (t:=3) (x:=.int .i64 (d+1)) Ac Ji oT (off:=w) (by rw[uE,v.len];exact N) rfl rfl,yy]
 have aJ:WF (f.put T (.cells (Bp (L.set w (d+1))))):=C.put _ (C.lt oT);have aK:Le h (f.put T (.cells (Bp (L.set w (d+1))))):=leq.put _ nT;have aP:(f.put T (.cells (Bp (L.set w (d+1))))).own T=some (.cells (Bp (L.set w (d+1)))):=aae.Y3 _ _ _;have aT:GI (f.put T (.cells (Bp (L.set w (d+1))))) m (aaa met):=GS.put gm _ nm;simp only[HO,seval,aa,K,B _ w N,ae,c4,D,p,B _ u ay,aF,aH,st1];generalize f.put T (.cells (Bp (L.set w (d+1))))=O at*;obtain⟨aj,h5,h6,e5,e6,g6,w6,l5,hf,hk⟩:=aT.push aJ (w:Int) (by grind[y6]);obtain⟨l6,a6⟩:=hf h aK am;obtain⟨aV,aW⟩:=hk T _ aP nm;have al:aaa met++[(w:Int)]=aaa (met++[w]):=by simp[aaa]
 rw[al]at g6;simp only[HO,seval,e5,e6,Tw q NH];exact tn (row.length-(q+1)) [(0,bv),(5,.slice (some ⟨T,0,none⟩) n n),(6,aj),(7,.int .i64 i),(31,uv),(32,.int .i64 row.length),(33,.int .i64 (q+1:Nat))] NH hAs
  ⟨q+1,_,aj,met++[w],rfl,z,rfl,aV,l6,g6,aW,a6,(by grind),v.push y hd I E c4 (ag _ fun j hj=>kc hj),by rw[eS,awS,af8];simp only[gw];rw[AE c4,K4,hd];rfl⟩
def d20:decide ((20:Int)=0)=false:=by decide
theorem d2:decide ((2:Int)=0)=false:=by decide
def xe(x y:Int):ag1 Tryz.prog 38 [(0,.int .i64 x),(1,.int .i64 y)]=some (UI (x,y)):=Ji
section
variable{α:Type}[DecidableEq α]
def ahU:List (α×Int)->α->Int->List (α×Int)
 |[],k,v=>[(k,v)]
 |(a,b)::r,k,v=>if a=k then(k,v)::r else(a,b)::ahU r k v
def agP:List (α×Int)->α->Option Int
 |[],_=>none
 |(a,b)::r,k=>if a=k then some b else agP r k
theorem XR(l:List (α×Int))(k a:α)(v:Int):agP (ahU l k v) a=if k=a then some v else agP l a:=by
 induction l<;>grind[ahU,agP]
theorem HU{l:List (α×Int)}{k:α}:agP l k≠none↔k∈l.map (·.1):=by
 induction l<;>grind[agP]
theorem Kf(l:List (α×Int))(k a:α)(v:Int):a∈(ahU l k v).map (·.1)↔a=k\/a∈l.map (·.1):=by rw[<-HU,XR,<-HU];grind
theorem Ek(l:List (α×Int))(k:α)(v:Int):(agP l k=none/\ahU l k v=l++[(k,v)])\/∃(j:Nat)(b:Int),agP l k=some b/\l[j]?=some (k,b)/\(∀i,i<j->∀x,l[i]?=some x->x.1≠k)/\ahU l k v=l.set j (k,v):=by
 induction l with
 |nil=>exact .inl ⟨rfl,rfl⟩
 |cons x r e=>
  obtain⟨a,b⟩:=x;simp only[ahU,agP];by_cases h:a=k
  .subst h;rw[AE rfl,AE rfl];exact .inr ⟨0,b,rfl,rfl,NH,rfl⟩
  .rw[aal h,aal h];rcases e with⟨d,h2⟩|⟨j,c,d,h2,h3,f⟩
   .grind
   .refine .inr ⟨j+1,c,d,pw,fun i hi x g=>?_,by rw[f];rfl⟩;cases i<;>grind
end
def aan(l:List (Pr×Int)):List (Value×Value):=l.map fun x=>(UI x.1,.int .i64 x.2)
theorem ahC(k:Pr):∀(l:List (Pr×Int))(i:Nat),(agP l k=none->ahr Tryz.prog 38 (UI k) (aan l) i=some none)/\∀(j:Nat) b,l[j]?=some (k,b)->(∀q,q<j->∀x,l[q]?=some x->x.1≠k)->ahr Tryz.prog 38 (UI k) (aan l) i=some (some (i+j,.int .i64 b))
 |[],i=>⟨fun _=>rfl,pw⟩
 |(a,b)::r,i=>by
  obtain⟨g,h2⟩:=ahC k r (i+1)
  have un:ahr Tryz.prog 38 (UI k) (aan ((a,b)::r)) i=match aEq Tryz.prog 38 (UI k) (UI a)with|some true=>some (some (i,.int .i64 b))|some false=>ahr Tryz.prog 38 (UI k) (aan r) (i+1)|none=>none:=rfl
  rw[un,eqP];constructor
  .grind[agP]
  .intro j c f d;cases j with
   |zero=>grind
   |succ j=>
    have e:a≠k:=d 0 NH (a,b) rfl;have:decide (k=a)=false:=by simpa using Ne.symm e
    rw[this];show ahr Tryz.prog 38 (UI k) (aan r) (i+1)=_;rw[h2 j c (by simpa using f) pw];congr 3;omega
def keyP(p:Pr):ahj Tryz.prog 38 (UI p)=true:=by have:aeI [.int .i64 p.1,.int .i64 p.2]=some [(IntKind.i64,p.1),(IntKind.i64,p.2)]:=rfl;simp[ahj,qS8,Ac,UI,this,ts3]
def ahn{h:aae}{x:Value}(p:Pr)(ok:Bool):agI Tryz.prog h 88 x (UI p) ok=none:=by simp only[agI,qS25,UI]
def afa{h:aae}{x v:Value}(p:Pr):ahp Tryz.prog h 88 x (UI p) v=none:=by simp only[ahp,qS25,UI]
theorem Il{h:aae}{M:Nat}{l:List (Pr×Int)}(a:h.own M=some (.map (aan l)))(k:Pr)(ok:Bool):
  ahs Tryz.prog h 88 (.map (some M)) (UI k) ok=some (bif ok then .tuple #[.int .i64 ((agP l k).getD 0),.bool (agP l k).isSome]else .int .i64 ((agP l k).getD 0)):=by
 have c:ag2 Tryz.prog 3=some (.int .i64 0):=Ji;simp only[ahs,qS25,keyP,a,c,show flat (.int .i64 0)=true from rfl,if_true];rcases Ek l k 0 with⟨d,_⟩|⟨j,b,d,h2,h3,_⟩
 .grind[ahC]
 grind[ahC]
theorem pW{h:aae}{M:Nat}{l:List (Pr×Int)}(a:h.own M=some (.map (aan l)))(k:Pr)(v:Int):ahA Tryz.prog h 88 (.map (some M)) (UI k) (.int .i64 v)=some (h.put M (.map (aan (ahU l k v)))):=by
 simp only[ahA,qS25,keyP,a,if_true];rcases Ek l k v with⟨c,d⟩|⟨j,b,c,h2,h3,d⟩
 .grind[ahC,aan]
 grind[ahC,aan,List.map_set]
theorem Walk_any(j:LA)(v:Value)(n s:Nat)(es:List Pr)(h:aae)(hg:GR h v ⟨(n:Int),es⟩)(f:bX ⟨(n:Int),es⟩)(hs:s<n):
  AC Tryz.prog j 129 [v,.int .i64 (s:Int)] h fun x h'=>∃d U o up,x=.tuple #[d,.slice (some ⟨U,0,none⟩) n n,.int .i64 0]/\GI h' d (aaa o)/\(h'.own U=some (.cells (Bp up))/\blk d≠some U/\h.own U=none)/\Oc n es s o up/\Le h h'/\Z2 h d:=by
 have k:=hg
 obtain⟨ev,rfl,D⟩:=hg.open
 have z:(n:Int)<=200:=f.n1;have A:es.length<=594:=f.len;refine AC.vE ⟨Tryz.func129,rfl,WY⟩ Tryz.ntmps129 Tryz.results129 fun l=>?_;simp only[Br,seval];obtain⟨m,E,g,p,-,F⟩:=r8 (n:=(n:Int)) l D
 generalize h.next=B at*
 have q:=F m (Le.refl _);obtain⟨h2,G,l2,O,H⟩:=Tt p [.int .i64 (s:Int)]
 have rs:RL RP h2 (.slice (some ⟨m.next,0,none⟩) 1 1) [(s:Int)]:=RL.Wh (RS.whole H rfl)
 refine Sk (xU E q.1 @DQ G) ?_
 generalize Value.slice (some ⟨m.next,0,none⟩) 1 1=I at*
 refine kCi qS34 (N7 j _ I ⟨(n:Int),es⟩ [(s:Int)] h2 (k.le (g.trans l2)) rs Ma) ?_;rintro x h3 J ⟨r,K,e,rfl,L⟩;have c:=(g.trans l2).trans r;have i:∀x∈[(s:Int)],0<=x/\x<(n:Int):=fun x P=>by grind
 rcases L with⟨t,_,_⟩|⟨_,u,_,_⟩|⟨_,_,rfl,a⟩
 .exact absurd f t
 .exact absurd i u
 .simp only[af8]at a;refine Sk @bne.eq_1.{0} ?_
  refine kCi Tryz.func114 (V6 j K n s es h3 a f.GD f.q9 NH NH hs) ?_;rintro x Q M ⟨d,N,o,up,rfl,C,w,hd,y,ap⟩;refine Uy ?_;refine⟨d,N,o,up,rfl,C,⟨w.1,w.2.1,c.none w.2.2⟩,hd,c.trans y,?_⟩;intro b hb;cases C:h.own b with
  |none=>rfl
  |some o=>have:=ap b hb;grind[Le.own]
abbrev Lw:=Int×Int×Int
def MK(p:Lw):List Value:=[.int .i64 p.1,.int .i64 p.2.1,.int .i64 p.2.2]
def valL(p:Lw):Value:=.agg #[.int .i64 p.1,.int .i64 p.2.1,.int .i64 p.2.2]
def Wo(ps:List Lw):List Value:=ps.flatMap MK
theorem Fx:∀(ps:List Lw)(i:Nat)(p:Lw),ps[i]?=some p->(Wo ps)[i*3]?=some (.int .i64 p.1)/\(Wo ps)[i*3+1]?=some (.int .i64 p.2.1)/\(Wo ps)[i*3+2]?=some (.int .i64 p.2.2)
 |[],i,p,h=>by simp at h
 |q::ps,0,p,h=>by grind[Wo,MK]
 |q::ps,i+1,p,h=>by have:=Fx ps i p (by simpa using h);have e:Wo (q::ps)=.int .i64 q.1::.int .i64 q.2.1::.int .i64 q.2.2::Wo ps:=rfl;rw[e,show(i+1)*3=(i*3+2)+1 by omega];simpa using this
theorem cH:∀(ps:List Lw)(i:Nat)(p q:Lw),ps[i]?=some p->
  Wo (ps.set i q)=(((Wo ps).set (i*3) (.int .i64 q.1)).set (i*3+1) (.int .i64 q.2.1)).set (i*3+2) (.int .i64 q.2.2)
 |[],i,p,q,h=>by simp at h
 |r::ps,0,p,q,h=>by simp[Wo,MK]
 |r::ps,i+1,p,q,h=>by have:=cH ps i p q (by simpa using h);have e:∀(r:Lw) ps,Wo (r::ps)=.int .i64 r.1::.int .i64 r.2.1::.int .i64 r.2.2::Wo ps:=fun _ _=>rfl;grind
theorem afb(ps:List Lw)(i:Nat)(p:Lw)(x:Int)(h:ps[i]?=some p):Wo (ps.set i (p.1,p.2.1,x))=(Wo ps).set (i*3+2) (.int .i64 x):=by rw[cH ps i p _ h];obtain⟨a,b,c⟩:=Fx ps i p h;apply mJ;grind
def ts51:UA Tryz.prog 108=3:=Ji
def zrow3(n:Nat):ahh [Value.int .i64 0,.int .i64 0,.int .i64 0] n=Wo (List.replicate n (0,0,0)):=by
 induction n with
 |zero=>rfl
 |succ n a=>rw[ahh,a];rfl
def mkL(h:aae)(n:Nat)(e:n<=100000):afD Tryz.prog h 104 (.int .i64 n) (.int .i64 n)=some (.slice (some ⟨h.next,0,none⟩) n n,h.alloc (.cells (Wo (List.replicate n (0,0,0))))):=by
 have b:ag2 Tryz.prog 108=some (.agg #[.int .i64 0,.int .i64 0,.int .i64 0]):=Ji;have hb:Tryz.prog.bytesOf 108=24:=Ji;have c:(24:Int)*n<=140737488355328:=NH;have d:(n:Int)<=140737488355328:=NH;have one:(Wo (List.replicate n (0,0,0))).all (·.oneCell')=true:=by rw[DF];intro x a;rw[Wo,y5]at a;obtain⟨p,_,a⟩:=a;simp[MK]at a;rcases a with rfl|rfl|rfl<;>rfl
 simp[afD,qS9,qS40,b,hb,ts51,Value.cells,flat,c,d,IF,zrow3,one]
section
variable{h:aae}{L n:Nat}{ls:List Lw}
def Is{k:IntKind}{cap:Nat}(v:Nat)(b:v<n):abX Tryz.prog 104 (.slice (some ⟨L,0,none⟩) n cap) (.int k v)=some (.pointer (some ⟨L,v*3,none⟩)):=by have a:(v:Int)<(n:Int):=NH;simp[abX,qS9,qS40,a,ts51,Ip]
def fl0(a:Addr):agQ Tryz.prog 108 (.pointer (some a)) 0=some (.pointer (some (Ip a 0))):=rfl
def fl1(a:Addr):agQ Tryz.prog 108 (.pointer (some a)) 1=some (.pointer (some (Ip a 1))):=rfl
def fl2(a:Addr):agQ Tryz.prog 108 (.pointer (some a)) 2=some (.pointer (some (Ip a 2))):=rfl
def Nh(a:h.own L=some (.cells (Wo ls))){v:Nat}{p:Lw}(b:ls[v]?=some p):acd Tryz.prog h 3 ⟨L,v*3,none⟩=some (.int .i64 p.1):=by rw[Fq Ac rfl a,(Fx ls v p b).1]
def lUp(a:h.own L=some (.cells (Wo ls))){v:Nat}{p:Lw}(b:ls[v]?=some p):acd Tryz.prog h 3 ⟨L,v*3+1,none⟩=some (.int .i64 p.2.1):=by rw[Fq Ac rfl a,(Fx ls v p b).2.1]
def jA(a:h.own L=some (.cells (Wo ls))){v:Nat}{p:Lw}(b:ls[v]?=some p):acd Tryz.prog h 3 ⟨L,v*3+2,none⟩=some (.int .i64 p.2.2):=by rw[Fq Ac rfl a,(Fx ls v p b).2.2]
def sLow(b:h.own L=some (.cells (Wo ls))){v:Nat}{p:Lw}(a:ls[v]?=some p)(x:Int):
  acs Tryz.prog h 3 (.pointer (some ⟨L,v*3+2,none⟩)) (.int .i64 x)=some (h.put L (.cells (Wo (ls.set v (p.1,p.2.1,x))))):=by
 rw[afb ls v p x a];exact QB (P:=Tryz.prog) (t:=3) (x:=.int .i64 x) Ac Ji b (off:=v*3+2) (Ny.1 (Fx ls v p a).2.2).1 rfl rfl
def sAll(b:h.own L=some (.cells (Wo ls))){v:Nat}(c:v<ls.length)(q:Lw):
  acs Tryz.prog h 108 (.pointer (some ⟨L,v*3,none⟩)) (valL q)=some (h.put L (.cells (Wo (ls.set v q)))):=by
 have a:=CA c;rw[cH ls v _ q a];have e:=(Ny.1 (Fx ls v _ a).2.2).1;have d:v*3+3<=(Wo ls).length:=NH;simp[acs,b,valL,Value.cells,ts51,putCells,qS40,d,Value.oneCell']
end
variable {i v:Nat} {ls:List Lw} {o:II} {up:RZ}
def Ro(ls:List Lw)(v:Nat):Lw:=ls.getD v (0,0,0)
def ag6(up:RZ):II->List Lw×II->List Lw×II
 |[],st=>st
 |v::r,(ls,o)=>ag6 up r (ls.set v (((o.length+1:Nat):Int),up.getD v 0,((o.length+1:Nat):Int)),o++[v])
def jl(n:Nat)(es:List Pr)(i:Nat)(st:List Lw×II):List Lw×II:=if(Ro st.1 i).1=0 then ag6 (K9 n es i).2 (K9 n es i).1 st else st
def aeJ(n:Nat)(es:List Pr):Nat->List Lw×II
 |0=>(List.replicate n (0,0,0),[])
 |i+1=>jl n es i (aeJ n es i)
def bS(ls:List Lw)(e:Pr):List Lw:=
 let a:=e.1.toNat;let b:=e.2.toNat
 if(Ro ls a).2.1=e.2\/(Ro ls b).2.1=e.1 then ls
 else
  let l1:=ls.set a ((Ro ls a).1,(Ro ls a).2.1,min (Ro ls a).2.2 (Ro ls b).1)
  l1.set b ((Ro l1 b).1,(Ro l1 b).2.1,min (Ro l1 b).2.2 (Ro l1 a).1)
def Ke(ls:List Lw)(v:Nat):List Lw:=
 let u:=(Ro ls v).2.1
 if 0<=u then ls.set u.toNat ((Ro ls u.toNat).1,(Ro ls u.toNat).2.1,min (Ro ls u.toNat).2.2 (Ro ls v).2.2)else ls
def Jz(n:Nat)(es:List Pr):List Lw×II:=((aeJ n es n).2.reverse.foldl Ke (es.foldl bS (aeJ n es n).1),(aeJ n es n).2)
theorem V0(h:v<ls.length):ls[v]?=some (Ro ls v):=by grind[Ro]
structure LowI (n:Nat) (ls:List Lw) (o:II):Prop where
 len:ls.length=n
 up:∀v,v<n->(Ro ls v).2.1<(n:Int)
 lt:∀v∈o,v<n
 nd:o.Nodup
 num:∀v,v<n->((Ro ls v).1=0↔v∉o)
theorem Uw(ls:List Lw)(v:Nat)(q:Lw)(u:Nat):Ro (ls.set v q) u=if v=u/\v<ls.length then q else Ro ls u:=by grind[Ro]
theorem du.upR(a:InR n es)(hs:s<n)(d:du n es s o up):∀v,up.getD v 0<(n:Int):=by
 induction d with
 |start=>grind
 |@step o up k v w d c ha hw e hf b=>
  intro x;simp only[K4,VU];have:=b x;split
  .split
   .have:=(ha.lt a).1;simp;omega
   grind
  .exact this
theorem Rx{n:Nat}{up:RZ}(a:∀v,up.getD v 0<(n:Int)):∀(l:II){ls:List Lw}{o:II},LowI n ls o->l.Nodup->(∀v∈l,v<n/\v∉o)->
  LowI n (ag6 up l (ls,o)).1 (ag6 up l (ls,o)).2/\(ag6 up l (ls,o)).2=o++l
 |[],ls,o,I,_,_=>by grind[ag6]
 |v::r,ls,o,I,c,e=>by
  rw[jz]at c;have d:LowI n (ls.set v (((o.length+1:Nat):Int),up.getD v 0,((o.length+1:Nat):Int))) (o++[v]):=by
   refine⟨by simp[I.len],fun u b=>?_,fun u b=>?_,?_,fun u b=>?_⟩
   .rw[Uw];split
    .exact a v
    .exact I.up u b
   .grind[LowI.lt]
   .grind[LowI.nd]
   grind[Uw,LowI.len,LowI.num]
  obtain⟨f,g⟩:=Rx a r d c.2 pw;grind[ag6.eq_2]
theorem con_back(a:∀u w,Jp es u w->u∈o->w∈o)(h:Pu es i v):v∈o->i∈o:=by
 induction h<;>grind[Jp.symm]
structure cV (n:Nat) (es:List Pr) (ls:List Lw) (o:II):Prop extends LowI n ls o where
 cl:∀u w,Jp es u w->u∈o->w∈o
def TY(a:InR n es)(I:cV n es ls o)(hi:i<n)(c:(Ro ls i).1=0):
  (K9 n es i).1.Nodup/\∀v∈(K9 n es i).1,v<n/\v∉o:=by
 have D:=Te a hi;refine⟨D.KP.nodup,fun v b=>⟨((D.mem v).1 b).lt a hi,fun d=>(I.num i hi).1 c (con_back I.cl ((D.mem v).1 b) d)⟩⟩
theorem fromA_C(b:InR n es)(I:cV n es ls o)(hi:i<n):
  cV n es (jl n es i (ls,o)).1 (jl n es i (ls,o)).2/\i∈(jl n es i (ls,o)).2/\∀v∈o,v∈(jl n es i (ls,o)).2:=by
 unfold jl;split
 .rename_i c;obtain⟨f,g⟩:=TY b I hi c;have D:=Te b hi;obtain⟨d,h⟩:=Rx (D.KP.upR b hi) (K9 n es i).1 I.toLowI f g;rw[h]at d ⊢;refine⟨⟨d,fun u w ha a=>?_⟩,BR _ ((D.mem i).2 (Pu.refl es i)),(by grind[List.mem_append_left])⟩;rw[yM]at a ⊢;rcases a with a|a
  .grind[cV.cl]
  .exact .inr (D.full u a w ha)
 .rename_i c;refine⟨I,?_,fun v j=>j⟩;by_cases e:i∈o
  .exact e
  .exact absurd ((I.num i hi).2 e) c
theorem ZC{n:Nat}{es:List Pr}(a:InR n es):∀i,i<=n->cV n es (aeJ n es i).1 (aeJ n es i).2/\∀v,v<i->v∈(aeJ n es i).2
 |0,_=>⟨⟨⟨by simp[aeJ],(by grind[aeJ,Ro]),by simp[aeJ],by simp[aeJ],(by grind[aeJ,Ro])⟩,by simp[aeJ]⟩,NH⟩
 |i+1,hi=>by
  obtain⟨I,b⟩:=ZC a i NH;obtain⟨c,d,f⟩:=fromA_C a I (i:=i) NH;refine⟨c,fun v g=>?_⟩;by_cases e:v=i
  .subst e;exact d
  .exact f v (b v NH)
theorem LowI.Em(I:LowI n ls o):o.length<=n:=by have:=I.nd.length_le_of_subset (l₂:=List.range n) (by grind[LowI.lt]);grind
variable {L LV id:Nat} {h:aae} {ov:Value}
def mkCap(h:aae)(n:Nat)(d:n<=100000):afD Tryz.prog h 49 (.int .i64 0) (.int .i64 n)=some (.slice (some ⟨h.next,0,none⟩) 0 n,h.alloc (.cells (List.replicate n (.int .i64 0)))):=by have a:ag2 Tryz.prog 3=some (.int .i64 0):=Ji;have hb:Tryz.prog.bytesOf 3=8:=Ji;have b:(8:Int)*n<=140737488355328:=NH;have c:(n:Int)<=140737488355328:=NH;simp[afD,Mb,Ac,a,hb,ts3,Value.cells,flat,b,c,IF,HW,Value.oneCell']
def GU.cap(a:h.own id=some (.cells (List.replicate n (.int .i64 0))))(b:n<=100000):GU h (.slice (some ⟨id,0,none⟩) 0 n) []:=⟨by simp[Bp],.inr ⟨id,_,n,rfl,a,by simp[Bp],.inr ⟨WA _,NH,Ma⟩⟩⟩
theorem Dv(a b:Int):akU (.int .i64 a) [.int .i64 b]=some (.int .i64 (min a b)):=by grind[akU]
def bL(a b c:Int):ag1 Tryz.prog 108 [(0,.int .i64 a),(1,.int .i64 b),(2,.int .i64 c)]=some (valL (a,b,c)):=Ji
theorem vx(ls:List Lw)(e:Pr):(bS ls e).length=ls.length:=by grind[bS]
def OQ:∀(es:List Pr)(ls:List Lw),(es.foldl bS ls).length=ls.length
 |[],ls=>rfl
 |e::es,ls=>by rw[Dj,OQ es,vx]
theorem Bg(ls:List Lw)(a:Nat)(x:Int)(v:Nat):(Ro (ls.set a ((Ro ls a).1,(Ro ls a).2.1,x)) v).1=(Ro ls v).1/\(Ro (ls.set a ((Ro ls a).1,(Ro ls a).2.1,x)) v).2.1=(Ro ls v).2.1:=by grind[Uw]
theorem P1(ls:List Lw)(e:Pr)(v:Nat):(Ro (bS ls e) v).1=(Ro ls v).1/\(Ro (bS ls e) v).2.1=(Ro ls v).2.1:=by grind[bS,Bg]
theorem RK:∀(es:List Pr)(ls:List Lw)(v:Nat),(Ro (es.foldl bS ls) v).1=(Ro ls v).1/\(Ro (es.foldl bS ls) v).2.1=(Ro ls v).2.1
 |[],ls,v=>⟨rfl,rfl⟩
 |e::es,ls,v=>by rw[Dj];obtain⟨a,b⟩:=RK es (bS ls e) v;grind[P1]
theorem tU(ls:List Lw)(x v:Nat):(Ro (Ke ls x) v).1=(Ro ls v).1/\(Ro (Ke ls x) v).2.1=(Ro ls v).2.1:=by grind[Ke,Bg]
theorem mE:∀(o:II)(ls:List Lw)(v:Nat),(Ro (o.foldl Ke ls) v).1=(Ro ls v).1/\(Ro (o.foldl Ke ls) v).2.1=(Ro ls v).2.1
 |[],ls,v=>⟨rfl,rfl⟩
 |e::es,ls,v=>by rw[Dj];obtain⟨a,b⟩:=mE es (Ke ls e) v;grind[tU]
theorem bq(ls:List Lw)(v:Nat):(Ke ls v).length=ls.length:=by grind[Ke]
theorem Qp:∀(o:II)(ls:List Lw),(o.foldl Ke ls).length=ls.length
 |[],ls=>rfl
 |e::es,ls=>by rw[Dj,Qp es,bq]
def LG(h:aae):agH Tryz.prog h 104=some (.pointer (some ⟨h.next,0,none⟩),h.alloc (.cells [.slice none 0 0])):=rfl
structure TP (h1 hq:aae) (LV L n:Nat) (ov:Value) (ls:List Lw) (o:II):Prop where
 oV:hq.own LV=some (.cells [.slice (some ⟨L,0,none⟩) n n])
 oL:hq.own L=some (.cells (Wo ls))
 go:GU hq ov (aaa o)
 nb:blk ov≠some LV/\blk ov≠some L
 le:Le h1 hq
 nn:h1.own LV=none/\h1.own L=none/\LV≠L
 ao:Z2 h1 ov
theorem TP.put{b c:aae}{d L n:Nat}{e:Value}{ls:List Lw}{o:II}(S:TP b c d L n e ls o)(a:List Lw):TP b (c.put L (.cells (Wo a))) d L n e a o:=⟨by rw[aae.By _ _ _ _ S.nn.2.2];exact S.oV,aae.Y3 _ _ _,GT.put S.go _ S.nb.2,S.nb,S.le.put _ S.nn.2.1,S.nn,S.ao⟩
theorem TP.kept{a b c:aae}(S:TP a b LV L n ov ls o)(e:Le b c):TP a c LV L n ov ls o:=⟨e.own _ _ S.oV,e.own _ _ S.oL,S.go.le e,S.nb,S.le.trans e,S.nn,S.ao⟩
def Ze(up:RZ):∀(a b:II)(st:List Lw×II),ag6 up (a++b) st=ag6 up b (ag6 up a st)
 |[],b,st=>rfl
 |x::a,b,(ls,o)=>by rw[WZ,ag6,ag6,Ze up a b]
theorem TP.push{e a:aae}{i L n:Nat}{f:Value}{ls:List Lw}{o:II}(S:TP e a i L n f ls o)(g:WF a)(x:Nat)(s:o.length<=1000):
  ∃v' d c,abB Tryz.prog a 49 1 [(0,.int .i64 (x:Int))]=some (.slice (some ⟨a.next,0,none⟩) 1 1,d)/\adg Tryz.prog d 49 49 f (.slice (some ⟨a.next,0,none⟩) 1 1)=some (v',c)/\TP e c i L n v' ls (o++[x])/\WF c/\
   (∀b o,a.own b=some o->blk f≠some b->c.own b=some o/\blk v'≠some b):=by
 obtain⟨v',d,c,j,k,t,l,l4,hf,h⟩:=S.go.push g (x:Int) (by grind[y6]);obtain⟨k1,k2⟩:=h _ _ S.oV S.nb.1;obtain⟨m,p⟩:=h _ _ S.oL S.nb.2;obtain⟨q,r⟩:=hf e S.le S.ao;exact⟨v',d,c,j,k,⟨k1,m,by grind[aaa],⟨k2,p⟩,q,S.nn,r⟩,l,h⟩
theorem qX(W0:LA)(v:Value)(G:GM)(h:aae)(hg:GR h v G):
  AC Tryz.prog W0 84 [v] h fun x h'=>Le h h'/\((¬bX G/\x=.tuple #[.slice none 0 0,.slice none 0 0,.int .i64 20])\/
   (bX G/\∃L m,x=.tuple #[.slice (some ⟨L,0,none⟩) G.n.toNat G.n.toNat,m,.int .i64 0]/\h'.own L=some (.cells (Wo (Jz G.n.toNat G.es).1))/\h.own L=none/\GU h' m (aaa (Jz G.n.toNat G.es).2)/\blk m≠some L/\Z2 h m)):=by
 have aq:=hg;obtain⟨gn,es⟩:=G
 obtain⟨ev,rfl,hp⟩:=hg.open
 refine AC.vE ⟨Tryz.func84,rfl,WY⟩ Tryz.ntmps84 Tryz.results84 fun ba=>?_;simp only[Br,seval];obtain⟨h1,b1,T,cg,-,lA⟩:=r8 (n:=gn) ba hp
 generalize h.next=B at*
 have bg:=lA h1 (Le.refl _);simp only[HO,seval,b1,bg.1];refine TC.intro PJ ⟨zL,rfl,WY⟩ (ak W0 _ _ h1 (aq.le T)) ?_;rintro x h2 ar ⟨⟨bb,rfl,bh⟩,r⟩;cases bb with
 |false=>refine Uy ?_;grind[Le.trans]
 |true=>
 have hr:=bh.1 rfl;have h0:0<=gn:=hr.n0;obtain⟨n,rfl⟩:=Z6 h0;have b9:(n:Int)<=200:=hr.n1;have cc:es.length<=594:=hr.len;have hR:=hr.GD;simp only[af8];have bj:=lA h2 r;obtain⟨h3,e3,l3,w3,o3⟩:=Tt ar (Wo (List.replicate n (0,0,0)));have mk:=mkL h2 n NH;rw[e3]at mk;have al:=LG h3;obtain⟨h4,e4,l4,w4,o4⟩:=Tt w3 [.slice none 0 0];rw[e4]at al
 have st:=QB (P:=Tryz.prog) (t:=104) (x:=.slice (some ⟨h2.next,0,none⟩) n n) qS9 Ji o4 (off:=0) Ma rfl rfl
 have nV:h3.own h3.next=none:=(Le.refl h3).next w3 (qL0 _)
 have nL:h2.own h2.next=none:=(Le.refl h2).next ar (qL0 _)
 have w5:=w4.put (.cells ([Value.slice none 0 0].set 0 (.slice (some ⟨h2.next,0,none⟩) n n))) (w4.lt o4)
 have l5:=(l3.trans l4).put (.cells ([Value.slice none 0 0].set 0 (.slice (some ⟨h2.next,0,none⟩) n n))) (l3.none nV)
 have aa:=aae.Y3 h4 h3.next (.cells ([Value.slice none 0 0].set 0 (.slice (some ⟨h2.next,0,none⟩) n n)))
 have ne:h3.next≠h2.next:=fun e=>by grind
 have av:(h4.put h3.next (.cells ([Value.slice none 0 0].set 0 (.slice (some ⟨h2.next,0,none⟩) n n)))).own h2.next=some (.cells (Wo (List.replicate n (0,0,0)))):=by grind[aae.By,Le.own]
 have bk:=l3.none nV;simp only[HO,seval,Ii,Ip,Gc,bj.2.1,mk,al,st];clear st al mk e4 o4 e3 o3
 generalize h4.put h3.next (.cells ([Value.slice none 0 0].set 0 (.slice (some ⟨h2.next,0,none⟩) n n)))=I at*
 generalize h3.next=q at*
 generalize h2.next=L at*
 clear l3 w3 nV w4 l4;clear h3 h4;simp only[ake]at aa;have ay:=lA I (r.trans l5);obtain⟨h6,e6,l6,w6,o6⟩:=Tt w5 (List.replicate n (.int .i64 0));have mk:=mkCap I n NH;rw[e6]at mk;have az:=lA h6 ((r.trans l5).trans l6)
 have nO:I.own I.next=none:=(Le.refl I).next w5 (qL0 _)
 simp only[HO,seval,Ii,Ip,Gc,ay.2.1,mk,az.2.1]
 have S6:TP h2 h6 q L n (.slice (some ⟨I.next,0,none⟩) 0 n) (aeJ n es 0).1 (aeJ n es 0).2:=⟨l6.own _ _ aa,l6.own _ _ av,GU.cap o6 NH,⟨fun e=>(by injection e with e;grind),fun e=>(by injection e with e;grind)⟩,l5.trans l6,⟨bk,nL,ne⟩,fun b hb=>by injection hb with hb;grind[Le.none]⟩
 generalize Value.slice (some ⟨I.next,0,none⟩) 0 n=ae at*
 clear nO az mk o6 l6 e6 ay l5 av aa w5;refine aab.intro (fun k fr A=>∃(i:Nat)(m:Value),k=n-i/\i<=n/\fr=mkF [(1,.pointer (some ⟨B,0,none⟩)),(5,.pointer (some ⟨q,0,none⟩)),(6,m),(30,.int .i64 n),(31,.int .i64 i)]/\TP h2 A q L n m (aeJ n es i).1 (aeJ n es i).2)
  n [(1,.pointer (some ⟨B,0,none⟩)),(5,.pointer (some ⟨q,0,none⟩)),(6,ae),(30,.int .i64 n),(31,.int .i64 (0:Nat))] hAs ⟨0,ae,rfl,WA _,rfl,S6⟩ ?_
 clear S6 ae w6;clear h6 I;rintro k fr A J ⟨i,m,rfl,hi,rfl,S⟩;obtain⟨C,aB⟩:=ZC hR i hi;have s:=fun(g:aae)(o:g.own q=some (.cells [.slice (some ⟨L,0,none⟩) n n]))=>(Fq (P:=Tryz.prog) qS9 rfl o (off:=0):acd Tryz.prog g 104 ⟨q,0,none⟩=_);simp only[aa3]at s;refine Uy ?_;refine Kl.intro (fun ht=>?_) (fun hf=>?_)
 .have f:i<n:=CC ht;clear ht;have bm:=Nh S.oL (V0 (ls:=(aeJ n es i).1) (v:=i) (by rw[C.len];exact f));simp only[HO,seval,s A S.oV,Is i f,fl0,Ip,Qn,bm,bne];by_cases c:(Ro (aeJ n es i).1 i).1=0
  .have K:=lA A (r.trans S.le);simp only[HO,seval,c,K.1];refine TC.intro PJ ⟨Tryz.func129,rfl,WY⟩ (Walk_any W0 _ n i es A (aq.le ((T.trans r).trans S.le)) hr f) ?_;rintro x h7 w7 ⟨R,U,P,up,rfl,gw,⟨oU,nbU,nU⟩,D,l7,aw⟩;have S7:=S.kept l7;obtain⟨p1,p2⟩:=TY hR C f c;have aC:=D.KP.upR hR f;have ck:=D.KP.len.2;have y:aeJ n es (i+1)=ag6 up P (aeJ n es i):=by grind[Oc.eq,aeJ.eq_2,jl.eq_1]
   obtain⟨e1,-⟩:=D.eq hR f;rw[<-e1]at p1 p2;clear e1 D;have cm:P.length<=n:=by have:=p1.length_le_of_subset (l₂:=List.range n) fun x hx=>j3.2 (p2 x hx).1;grind
   have cp:U≠L/\U≠q:=⟨fun e=>(by rw[e,S.oL]at nU;cases nU),fun e=>(by grind[TP.oV])⟩;have bo:blk R≠some L/\blk R≠some q:=⟨fun e=>(by have:=aw _ e;rw[S.oL]at this;cases this),fun e=>(by have:=aw _ e;grind[TP.oV])⟩;have V:blk m≠some U:=fun e=>by obtain⟨c,hc⟩:=GT.Sy S.go e;grind
   have W:∀b,blk R=some b->blk m≠some b:=fun b hb e=>by obtain⟨c,hc⟩:=GT.Sy S.go e;rw[aw b hb]at hc;cases hc
   have lo:=fun g=>gw.rl.DH g;rw[y6]at lo;simp only[HO,seval,bne,lo];refine aab.intro (fun k fr hh=>∃(j:Nat)(z:Value),k=P.length-j/\j<=P.length/\fr=mkF [(1,.pointer (some ⟨B,0,none⟩)),(5,.pointer (some ⟨q,0,none⟩)),(6,z),(9,.slice (some ⟨U,0,none⟩) n n),(30,.int .i64 n),(31,.int .i64 i),(50,R),(51,.int .i64 P.length),(52,.int .i64 j)]/\
     TP h2 hh q L n z (ag6 up (P.take j) (aeJ n es i)).1 (ag6 up (P.take j) (aeJ n es i)).2/\GI hh R (aaa P)/\hh.own U=some (.cells (Bp up))/\blk z≠some U/\(∀b,blk R=some b->blk z≠some b))
    P.length [(1,.pointer (some ⟨B,0,none⟩)),(5,.pointer (some ⟨q,0,none⟩)),(6,m),(9,.slice (some ⟨U,0,none⟩) n n),(30,.int .i64 n),(31,.int .i64 i),(50,R),(51,.int .i64 P.length),(52,.int .i64 (0:Nat))] hAs
    ⟨0,m,rfl,WA _,rfl,S7,gw,oU,V,W⟩ ?_
   clear S7 oU gw l7 w7 lo V W aw nU S K;clear h7;rintro k fr hh br ⟨j,z,rfl,hj,rfl,S,gw,oU,V,W⟩;obtain⟨LI,-⟩:=Rx aC (P.take j) C.toLowI (p1.sublist (List.take_sublist _ _)) fun v hv=>p2 v (aez hv);have bx:(ag6 up (P.take j) (aeJ n es i)).2.length<=n:=LI.Em;have aD:(ag6 up (P.take j) (aeJ n es i)).1.length=n:=LI.len;refine Uy ?_;refine Kl.intro (fun ht=>?_) (fun hf=>?_)
   .have F:j<P.length:=CC ht;clear ht;have aE:=CA F;have ad:=gw.rl.TA j (by rw[y6];exact F);have ld:=gw.rl.Uc j (by rw[y6];exact F);rw[sY F]at ld;have X:P.take (j+1)=P.take j++[P[j]]:=EL F;generalize P[j]=w at aE ld X;have aF:w<n:=(p2 w (BS aE)).1;obtain⟨v',h4,I,e4,e5,S5,w5,k5⟩:=S.push br w NH;obtain⟨bB,aH⟩:=k5 U _ oU V;have bF:GI I R (aaa P):=GS.kept gw fun b o hb ho=>(k5 b o ho (W b hb)).1;have aJ:∀b,blk R=some b->blk v'≠some b:=fun b hb=>by
     have:=GS.Sy gw hb;cases ho:hh.own b<;>grind
    have aK:=fun g=>S5.go.rl.DH g;simp only[y6,eR,qH]at aK;have bH:=fun k=>Wc (P:=Tryz.prog) (a:=⟨U,0,none⟩) (n:=n) (cap:=n) (k:=k) Mb Ac Ji w aF;have bI:acd Tryz.prog I 3 ⟨U,w,none⟩=some (.int .i64 (up.getD w 0)):=by rw[Fq Ac rfl bB];grind[Bp]
    have st:=sAll S5.oL (v:=w) (by grind) (((((ag6 up (P.take j) (aeJ n es i)).2.length+1:Nat):Int),up.getD w 0,(((ag6 up (P.take j) (aeJ n es i)).2.length+1:Nat):Int)));simp only[HO,seval,ad,ld,e4,e5];refine gh (tA [0,1,2,3,4,5,6,7,8,9,10,11] (JQ 12 [0,1,2,3,4,5,6,7,8,9,10,11] .done)) ?_;simp only[HO,seval,Qg,s I S5.oV,aK,bH,bI,Is w aF,Ip,Gc,bL,st,Tw j NH];have ag:ag6 up (P.take (j+1)) (aeJ n es i)=((ag6 up (P.take j) (aeJ n es i)).1.set w (((((ag6 up (P.take j) (aeJ n es i)).2.length+1:Nat):Int),up.getD w 0,(((ag6 up (P.take j) (aeJ n es i)).2.length+1:Nat):Int))),(ag6 up (P.take j) (aeJ n es i)).2++[w]):=by rw[X,Ze];rfl
    have S6:=S5.put ((ag6 up (P.take j) (aeJ n es i)).1.set w (((((ag6 up (P.take j) (aeJ n es i)).2.length+1:Nat):Int),up.getD w 0,(((ag6 up (P.take j) (aeJ n es i)).2.length+1:Nat):Int))));refine tn (P.length-(j+1)) [(1,.pointer (some ⟨B,0,none⟩)),(5,.pointer (some ⟨q,0,none⟩)),(6,v'),(9,.slice (some ⟨U,0,none⟩) n n),(30,.int .i64 n),(31,.int .i64 i),(50,R),(51,.int .i64 P.length),(52,.int .i64 (j+1:Nat))] NH hAs
     ⟨j+1,v',rfl,F,rfl,(by grind),GS.put bF _ bo.1,by grind[aae.By],aH,aJ⟩
   .have H:P.length<=j:=vp hf;rw[HV H,<-y]at S;simp only[HO,seval,Tw i NH];exact tn (n-(i+1)) [(1,.pointer (some ⟨B,0,none⟩)),(5,.pointer (some ⟨q,0,none⟩)),(6,z),(30,.int .i64 n),(31,.int .i64 (i+1:Nat))] NH hAs ⟨i+1,z,rfl,f,rfl,S⟩
  .have y:aeJ n es (i+1)=aeJ n es i:=by rw[aeJ,jl,aal c]
   simp only[HO,seval,c,Tw i NH];exact tn (n-(i+1)) [(1,.pointer (some ⟨B,0,none⟩)),(5,.pointer (some ⟨q,0,none⟩)),(6,m),(30,.int .i64 n),(31,.int .i64 (i+1:Nat))] NH hAs ⟨i+1,m,rfl,f,rfl,by rw[y];exact S⟩
 have H:n<=i:=vp hf;obtain rfl:i=n:=NH;clear hf H hi aB;have K:=lA A (r.trans S.le);have bN:=hp.le (T.trans r);simp only[HO,seval,Di,Ip,Gc,K.2.2,hp.len];refine aab.intro (fun k fr hh=>∃(j:Nat),k=es.length-j/\j<=es.length/\fr=mkF [(5,.pointer (some ⟨q,0,none⟩)),(6,m),(75,ev),(76,.int .i64 es.length),(77,.int .i64 j)]/\TP h2 hh q L i m ((es.take j).foldl bS (aeJ i es i).1) (aeJ i es i).2)
  es.length [(5,.pointer (some ⟨q,0,none⟩)),(6,m),(75,ev),(76,.int .i64 es.length),(77,.int .i64 (0:Nat))] hAs ⟨0,rfl,WA _,rfl,S⟩ ?_
 clear K S J;clear A;rintro k fr A J ⟨j,rfl,hj,rfl,S⟩;have aD:((es.take j).foldl bS (aeJ i es i).1).length=i:=by rw[OQ];exact C.len
 refine Uy ?_;refine Kl.intro (fun ht=>?_) (fun hf=>?_)
 .have f:j<es.length:=CC ht;clear ht;have aP:=CA f;have X:es.take (j+1)=es.take j++[es[j]]:=EL f;have M:=hR es[j] (j9 f);generalize es[j]=p at aP X M;have ad:=hp.addr (k:=.i64) j f;have ld:=(bN.le S.le).load aP;obtain⟨a,c⟩:=p;simp only at M;obtain⟨a,rfl⟩:=Z6 M.1;obtain⟨c,rfl⟩:=Z6 (show 0<=c by omega);obtain⟨cq,h4,e4,bQ,bT,cr,o4⟩:=Ut J ((a:Int),(c:Int));have S4:=S.kept bT
  have nE:A.own A.next=none:=(Le.refl A).next J (qL0 _)
  have cx:A.next≠L:=fun e=>by rw[e,S.oL]at nE;cases nE
  generalize A.next=E at*
  have N:=lK o4;have Q:=HY o4;simp only at N Q;have bW:a<i:=NH;have bY:c<i:=NH;generalize cz:(es.take j).foldl bS (aeJ i es i).1=ls at*;have ga:=V0 (ls:=ls) (v:=a) NH;have gc:=V0 (ls:=ls) (v:=c) NH;have st1:=sLow S4.oL ga (min (Ro ls a).2.2 (Ro ls c).1);have S5:=S4.put (ls.set a ((Ro ls a).1,(Ro ls a).2.1,min (Ro ls a).2.2 (Ro ls c).1));generalize aT:ls.set a ((Ro ls a).1,(Ro ls a).2.1,min (Ro ls a).2.2 (Ro ls c).1)=l at*;have cd:l.length=i:=pw;have bZ:=V0 (ls:=l) (v:=a) NH;have aV:=V0 (ls:=l) (v:=c) NH;have st2:=sLow S5.oL aV (min (Ro l c).2.2 (Ro l a).1);have S6:=S5.put (l.set c ((Ro l c).1,(Ro l c).2.1,min (Ro l c).2.2 (Ro l a).1))
  have hB:bS ls ((a:Int),(c:Int))=if(Ro ls a).2.1=(c:Int)\/(Ro ls c).2.1=(a:Int)then ls else l.set c ((Ro l c).1,(Ro l c).2.1,min (Ro l c).2.2 (Ro l a).1):=by simp only[bS,af8,aT]
  have b0:(es.take (j+1)).foldl bS (aeJ i es i).1=bS ls ((a:Int),(c:Int)):=pw;simp only[HO,seval,ad,ld,e4,bQ];refine gh (tA [0,1,2,3,4,5,6,7,8,9] .done) ?_;simp only[HO,seval,Qg,Dh,Z0,Ip,Qn,Gc,N,Q,s h4 S4.oV,Is a bW,Is c bY];have u1:=lUp S4.oL ga;have u2:=lUp S4.oL gc;by_cases c1:(Ro ls a).2.1=(c:Int)
  .have d1:decide ((Ro ls a).2.1=(c:Int))=true:=XJ c1;refine gh (tA [0,1,2,3,4,5,6,7,8,9,10,11,12,13,14,15] .done) ?_;simp only[HO,seval,Qg,Dh,Z0,Ip,Qn,Gc,N,Q,fl0,fl1,fl2,u1,u2,d1,Tw j NH];refine tn (es.length-(j+1)) [(5,.pointer (some ⟨q,0,none⟩)),(6,m),(75,ev),(76,.int .i64 es.length),(77,.int .i64 (j+1:Nat))] NH hAs ⟨j+1,rfl,f,rfl,?_⟩;grind
  have d1:decide ((Ro ls a).2.1=(c:Int))=false:=Sb c1;by_cases c2:(Ro ls c).2.1=(a:Int)
  .have d2:decide ((Ro ls c).2.1=(a:Int))=true:=XJ c2;refine gh (tA [0,1,2,3,4,5,6,7,8,9,10,11,12,13,14,15] .done) ?_;simp only[HO,seval,Qg,Dh,Z0,Ip,Qn,Gc,N,Q,fl0,fl1,fl2,u1,u2,d1,d2,Tw j NH];refine tn (es.length-(j+1)) [(5,.pointer (some ⟨q,0,none⟩)),(6,m),(75,ev),(76,.int .i64 es.length),(77,.int .i64 (j+1:Nat))] NH hAs ⟨j+1,rfl,f,rfl,?_⟩;grind
  have d2:decide ((Ro ls c).2.1=(a:Int))=false:=Sb c2;refine gh (tA [0,1,2,3,4,5,6,7,8,9,10,11,12,13,14,15] .done) ?_;simp only[HO,seval,Qg,Dh,Z0,Ip,Qn,Gc,N,Q,fl0,fl1,fl2,u1,u2,d1,d2];refine gh (tA [0,1,2,3,4,5,6,7,8,9,10,11] (JQ 12 [0,1,2,3,4,5,6,7,8,9,11] .done)) ?_;simp only[HO,seval,Qg,Ip,Qn,Gc,fl0,fl1,fl2,jA S4.oL ga,Nh S4.oL gc,Dv,st1];refine gh (tA [0,1,2,3,4,5,6,7,8,9,10,11] (JQ 12 [0,1,2,3,4,5,6,7,8,9,11] .done)) ?_;simp only[HO,seval,Qg,Ip,Qn,Gc,fl0,fl1,fl2,jA S5.oL aV,Nh S5.oL bZ,Dv,st2,Tw j NH];refine tn (es.length-(j+1)) [(5,.pointer (some ⟨q,0,none⟩)),(6,m),(75,ev),(76,.int .i64 es.length),(77,.int .i64 (j+1:Nat))] NH hAs ⟨j+1,rfl,f,rfl,?_⟩;grind
 have H:es.length<=j:=vp hf;rw[HV H]at S aD;clear H hf hj;refine Uy ?_;refine TC.intro PJ ⟨Tryz.func130,rfl,WY⟩ (Back_any W0 m (aaa (aeJ i es i).2) A S.go.rl) ?_;rintro x h7 w7 ⟨B2,rfl,cC,b2,l7⟩;have S7:=S.kept l7;have cE:B2≠L:=fun e=>by have:=J.lt S.oL;omega
 have bx:(aeJ i es i).2.length<=i:=C.toLowI.Em;have b3:(aaa (aeJ i es i).2).length=(aeJ i es i).2.length:=y6 _;have aW:∀v∈(aeJ i es i).2,v<i:=C.lt;generalize hO:(aeJ i es i).2=O at*;have cf:Jz i es=(O.reverse.foldl Ke (es.foldl bS (aeJ i es i).1),O):=by rw[Jz,hO]
 have aX:∀v,v<i->(Ro (es.foldl bS (aeJ i es i).1) v).2.1<(i:Int):=fun v hv=>by rw[(RK es _ v).2];exact C.up v hv
 generalize es.foldl bS (aeJ i es i).1=LS at*;refine Uy ?_
 refine VK.rangeFunc (gf:=166) (first:=#[]) (cap:=#[.pointer (some ⟨B2,0,none⟩)]) (by simp only[HO,seval]) ⟨Tryz.func166,rfl,WY⟩ WY fun W1 lp hy=>?_
 refine(Tp W1 lp B2 m (aaa O) (fun k g=>TP h2 g q L i m (((O.drop k).reverse).foldl Ke LS) O/\g.own B2=some (.cells [m])) h7 NH (fun k g hi=>⟨hi.2,hi.1.go.rl⟩) ⟨(by grind),b2⟩ ?_).mono fun _ h8 b4 cM=>?_
 .intro k g hk wg hle b5;obtain⟨S,oB⟩:=b5;refine hy _ _ _ rfl hle ?_;rw[b3]at hk;have a1:=sY hk;have a6:=CA hk;have a7:O.drop k=O[k]::O.drop (k+1):=Yi hk;generalize O[k]=v at a1 a6 a7;have aj:=aW v (BS a6);have ag:(O.drop k).reverse.foldl Ke LS=Ke ((O.drop (k+1)).reverse.foldl Ke LS) v:=by rw[a7,Jj,amq];rfl
  have aT:((O.drop (k+1)).reverse.foldl Ke LS).length=i:=by grind[Qp]
  have a8:=(mE (O.drop (k+1)).reverse LS v).2;have b6:=aX v aj;rw[<-a8]at b6;clear a8;generalize (O.drop (k+1)).reverse.foldl Ke LS=ls at*;have gv:=V0 (ls:=ls) (v:=v) NH;simp only[HO,seval,List.toList_toArray,ah3,a1,s g S.oV,Is v aj,fl1,Ip,lUp S.oL gv];by_cases c:(Ro ls v).2.1>=0
  .obtain⟨u,hu⟩:=Z6 c;have b8:u<i:=NH;have gu:=V0 (ls:=ls) (v:=u) NH;have st:=sLow S.oL gu (min (Ro ls u).2.2 (Ro ls v).2.2);have cN:Ke ls v=ls.set u ((Ro ls u).1,(Ro ls u).2.1,min (Ro ls u).2.2 (Ro ls v).2.2):=by grind[Ke,Int.toNat_natCast]
   have d:decide ((u:Int)>=0)=true:=XJ NH;simp only[hu,d,HO,seval];refine gh (tA [0,1,2,3,4,5,6,7,8,9,10,11,12,13,14] (JQ 15 [0,1,2,3,4,5,6,7,8,9,10,11,12,14] .done)) ?_;simp only[HO,seval,Qg,s g S.oV,Is v aj,Is u b8,fl2,Ip,jA S.oL gu,jA S.oL gv,Dv,st,ah9];refine⟨hle,?_,?_⟩
   .grind[TP.put]
   grind[aae.By]
  .have d:decide ((Ro ls v).2.1>=0)=false:=Sb c;simp only[d,HO,seval,ah9];grind[Ke.eq_1]
 .obtain⟨S8,-⟩:=b4;rw[ti]at S8;simp only[HO,seval,s h8 S8.oV];have lb:Le h h2:=T.trans r;refine⟨lb.trans S8.le,.inr ⟨hr,L,m,rfl,by grind[TP.oL],lb.none nL,by grind[TP.go],S8.nb.2,fun b hb=>lb.none (S8.ao b hb)⟩⟩
end
end Go.Fw
