/- A text. -/
import Derived.Test.YtnakkbhjoiheoaaGreatFwLW2
import Derived.Test.YtnakkbhjoiheoaaGreatFwLB17
set_option linter.all false
set_option maxRecDepth 99999
set_option maxHeartbeats 9999999
open Go.Proofs
open Option renaming some→Z,none→Y
open Bool renaming true→tT,false→fF
open List renaming replicate→rP,range→rG
open Go.Value renaming slice→sL,pointer→pT
open Go renaming Value→vV
open Go.Proofs.Tryz renaming prog→pG
open Go.Proofs.Tryz
namespace Go.Fw
section
attribute [local irreducible] Kp MQ lU KO1 KO KN KX KE VK Kl ZJ TC aab
variable {n:Nat}
def mkL52(h:aai){u:vV}(a:xO u n):aas pG h 25 1 [(0,u)]=Z (sL (Z h.next) 1 1,h.alloc (.cells [u])):=by obtain⟨_,_,rfl,_⟩:=a;rfl
def mkL52e(h:aai):aas pG h 25 0 []=Z (sL (Z h.next) 0 0,h.alloc (.cells [])):=rfl
theorem It(W0:LA)(v:vV)(G:GM)(h:aai)(hg:GR h v G)(N:bX G):
  AC pG W0 30 [v] h fun x h'=>Lj (RL RP) h' x ((Gx G.n.toNat G.es G.n.toNat).map kz)/\Le h h'/\Z2 h x:=by
 have aC:=hg;obtain⟨gn,es⟩:=G
 obtain⟨ev,rfl,hp⟩:=hg.open
 have h0:0<=gn:=N.n0;obtain⟨n,rfl⟩:=Sb h0;have a6:(n:Int)<=200:=N.n1;have a7:es.length<=594:=N.len;have hR:=N.GD;have hA:=N.q9;simp only[Z6];refine AC.vE ⟨func30,rfl,WY⟩ ntmps30 results30 fun aD=>?_;simp only[Br,seval];obtain⟨h1,b1,A,bb,-,lA⟩:=r8 (n:=(n:Int)) aD hp
 generalize h.next=B at*
 have aF:=lA h1 (Le.refl _);simp only[HO,seval,b1,aF.1];refine TC.intro PJ ⟨func52,rfl,WY⟩ (N7 W0 _ (.slice Y 0 0) ⟨(n:Int),es⟩ [] h1 (aC.le A) RL.nil Ma) ?_;rintro x h2 O ⟨p,C,e,rfl,y⟩;obtain⟨rfl,E⟩:e=0/\RL (RL RP) h2 C (Zh n es):=hGr;clear y;obtain⟨h3,e3,l3,w3,o3⟩:=Tt O [];have fT:=lA h3 (p.trans l3);have mk:=Ye (P:=pG) (t:=41) (z:=.bool fF) h3 Uh rfl rfl rfl rfl Ji AV Ji n NH;obtain⟨h4,e4,l4,w4,o4⟩:=Tt w3 (rP n (.bool fF));rw[e4]at mk;have Q:=lA h4 ((p.trans l3).trans l4);simp only[HO,seval,Ii,Ip,Gc,mkL52e,e3,fT.2.1,mk,Q.2.1,bne]
 have nP:h2.own h2.next=Y:=(Le.refl h2).next O (qL0 _)
 have nM:h3.own h3.next=Y:=(Le.refl h3).next w3 (qL0 _)
 have bg:h2.own h3.next=Y:=l3.none nM
 have ne:h2.next≠h3.next:=fun e=>by grind
 generalize h3.next=M at*
 have oM:h4.own M=Z (.cells (Bo (rP n fF))):=by rw[o4];simp[Bo]
 have R:=((A.trans p).trans l3).trans l4
 have g0:Lj (RL RP) (rem [M] h4) (sL (Z h2.next) 0 0) ((Gx n es 0).map kz):=by grind[Gx,Es,Lj.empty,Th,Le.own]
 have S:Z2 h2 (sL (Z h2.next) 0 0):=fun b hb=>by injection hb with hb;grind
 have U:blk (sL (Z h2.next) 0 0)≠Z M:=fun e=>by injection e with e;exact ne e
 generalize vV.slice (Z h2.next) 0 0=V at*
 have F:∀(k:IntKind)(j:Nat),j<n->aao pG 41 (sL (Z M) n n) (.int k j)=Z (pT (Z ⟨M,j,Y⟩)):=fun k j hj=>by rw[Wc Uh AV Ji j hj];simp[Ip]
 have aH:∀(g:aai)(T:Nat)(L:List Bool)(j:Nat)(l:Bool),g.own T=Z (.cells (Bo L))->L[j]?=Z l->aaC pG g 4 ⟨T,j,Y⟩=Z (.bool l):=fun g T L j l ho hl=>by rw[Fq AV rfl ho];simp[Bo,hl]
 refine aab.intro (fun k fr m=>∃(i:Nat)(pv:vV)(met:List Bool),k=n-i/\i<=n/\fr=mkF [(3,C),(5,pv),(6,sL (Z M) n n),(24,n),(25,i)]/\
   m.own M=Z (.cells (Bo met))/\met.length=n/\Lj (RL RP) (rem [M] m) pv ((Gx n es i).map kz)/\blk pv≠Z M/\Le h2 m/\Z2 h2 pv/\∀w,w<n->(met[w]?=Z tT↔∃u,u<i/\Pu es u w))
  n [(3,C),(5,V),(6,sL (Z M) n n),(24,n),(25,(0:Nat))] fD
  ⟨0,_,_,rfl,abe _,rfl,oM,Ma,g0,U,l3.trans l4,S,fun w hw=>by simp[hw]⟩ ?_
 clear S U g0 R oM ne nM nP Q o4 w4 l4 e4 mk fT o3 w3 l3 e3;clear h4 V h3;rintro k fr m bh ⟨i,pv,met,rfl,hi,rfl,oM,W,gp,np,leq,ap,K⟩;have bk:((Gx n es i).map kz).length<=n:=by grind[vH,Gx]
 refine sSs ?_;refine Kl.intro (fun X=>?_) (fun hf=>?_)
 rotate_left
 .have aa:n<=i:=vp hf;obtain rfl:i=n:=NH;refine sSs ?_;exact⟨gp.le (Nn.RL Nn.RP) (Sa _ _),(A.trans p).trans leq,fun b hb=>(A.trans p).none (ap b hb)⟩
 have a:i<n:=CC X;clear X;have H:=CA (show i<met.length by omega);generalize met[i]'(by omega)=mb at H
 have I:=aH m M met i mb oM H;cases mb with
 |true=>
  have hx:=(K i a).1 H;simp only[HO,seval,F _ i a,I,aaa i NH];refine tn (n-(i+1)) [(3,C),(5,pv),(6,sL (Z M) n n),(24,n),(25,(i+1:Nat))] NH fD
   ⟨i+1,pv,met,rfl,a,rfl,oM,W,?_,np,leq,ap,fun w hw=>?_⟩
  .grind[yP,Gx.eq_1]
  .rw[K w hw];constructor
   .grind
   .rintro⟨u,hu,y⟩;by_cases e:u=i
    .subst e;obtain⟨u',aJ,aL⟩:=hx;exact⟨u',aJ,aL.trans y⟩
    grind
 |false=>
  have hx:∀u,u<i->¬Pu es u i:=fun u hu y=>by grind
  simp only[HO,seval,F _ i a,I];refine TC.intro PJ ⟨func53,rfl,WY⟩ (V6 W0 C n i es m (E.le (Nn.RL Nn.RP) leq) hR hA NH NH a) ?_;rintro x h5 ae ⟨d,uv,o,up,rfl,go,-,D,l5,ao⟩;have r:=l5.own _ _ oM;have ag:blk d≠Z M:=fun e=>by have:=ao _ e;grind
  have lo:=fun g=>go.rl.DH g;rw[y6]at lo;have bm:o.length<=n:=by have:=D.KP.nodup.length_le_of_subset (l₂:=rG n) fun w hw=>K4.2 (((D.mem w).1 hw).lt hR a);grind
  simp only[HO,seval,lo];have K0:Le (rem [M] m) h5:=(Sa _ _).trans l5;have nK:(rem [M] m).own M=Y:=by grind[DC]
  have aK:Z2 (rem [M] m) d:=fun b hb=>(Sa [M] m).none (ao b hb);have aN:∀b,blk pv=Z b->blk d≠Z b:=fun b hb y=>by obtain⟨us,g1,_⟩:=gp;have:=GS.Sy g1 hb;exact this (aK b y)
  refine aab.intro (fun k fr hh=>∃(j:Nat)(c:List Bool),k=o.length-j/\j<=o.length/\fr=mkF [(3,C),(5,pv),(6,sL (Z M) n n),(8,d),(24,n),(25,i),(38,d),(39,o.length),(40,.int .i64 j)]/\
    hh.own M=Z (.cells (Bo c))/\c.length=n/\GI hh d (kz o)/\Le (rem [M] m) hh/\∀w,w<n->(c[w]?=Z tT↔met[w]?=Z tT\/w∈o.take j))
   o.length [(3,C),(5,pv),(6,sL (Z M) n n),(8,d),(24,n),(25,i),(38,d),(39,o.length),(40,(0:Nat))] fD
   ⟨0,met,rfl,abe _,rfl,r,W,go,K0,fun w hw=>by simp⟩ ?_
  clear r lo go l5 ae K0 I;clear h5;rintro k fr h5 ae ⟨j,c,rfl,hj,rfl,r,s,go,K5,J⟩;refine sSs ?_;refine Kl.intro (fun X=>?_) (fun hf=>?_)
  .have f:j<o.length:=CC X;clear X;have ai:=CA f;have ad:=go.rl.TA j (by rw[y6];exact f);have ld:=go.rl.Uc j (by rw[y6];exact f);rw[sY f]at ld;have aj:o.take (j+1)=o.take j++[o[j]]:=EL f;generalize o[j]=w at ai ld aj;have al:w<n:=((D.mem w).1 (BS ai)).lt hR a;have st:=QB (P:=pG) (t:=4) (x:=.bool tT) AV Ji r (off:=w) (by rw[O2,s];exact al) rfl rfl;rw[Tr]at st;simp only[HO,seval,ad,ld,F _ w al,st,aaa j NH];refine tn (o.length-(j+1)) [(3,C),(5,pv),(6,sL (Z M) n n),(8,d),(24,n),(25,i),(38,d),(39,o.length),(40,(j+1:Nat))] NH fD
    ⟨j+1,_,rfl,f,rfl,aai.Y3 _ _ _,by simp[s],GS.put go _ ag,K5.put _ nK,fun x hx=>?_⟩
   rw[aj,Tn,aax,xD];by_cases e:w=x
   .grind
   .rw[yM e,J x hx];simp[j3 e]
  .have aa:o.length<=j:=vp hf;rw[HV aa]at J;refine sSs ?_;refine TC.intro PJ ⟨qS25,rfl,WY⟩ (VQ W0 go (by rw[y6];omega)) ?_;rintro x h6 w6 ⟨rfl,aq,ar⟩;have av:=(ar (rem (bl d) h5) (Sa _ _) (fun b hb=>by grind[DC,Zr])).own M _ (Th.2 ⟨r,fun K=>ag (Zr.1 K)⟩);have K6:=ar _ K5 aK;rw[sort_comp hR D a]at aq;have aP:Le (rem [M] m) (rem [M] h6):=K6.iV fun b hb=>by grind
   have aT:=gp.le (Nn.RL Nn.RP) aP;have hb:∀b,blk pv=Z b->b∉[M]:=fun b hb K=>by grind
   have gu:RL RP (rem [M] (rem (bl pv) h6)) d (kz (Ic n es i)):=by
    have q:GI (rem [M] (rem (bl pv) h6)) d (kz (Ic n es i)):=GS.Fi (GS.Fi aq (l:=bl pv) fun b hb y=>aN b (Zr.1 y) hb) (l:=[M]) fun b sZ y=>by grind
    exact q.rl
   obtain⟨h7,ay,h8,e7,e8,bo,l7,w7,f8,k8⟩:=Lj.mG (P:=pG) (t:=25) (Nn.RL Nn.RP) Ji aT w6 gu gu.sl.one NH hb (fun b hb=>by rw[xD]at hb;subst hb;rw[av];simp);obtain⟨aW,aX⟩:=k8 M _ av np;have az:Le h2 h6:=(leq.iV (l:=[M]) fun b hb=>by grind).trans K6;obtain⟨l8,a8⟩:=f8 h2 az ap;simp only[HO,seval,mkL52 h6 gu.sl,e7,e8,aaa i NH];refine tn (n-(i+1)) [(3,C),(5,ay),(6,sL (Z M) n n),(24,n),(25,(i+1:Nat))] NH fD
    ⟨i+1,ay,c,rfl,a,rfl,aW,s,?_,aX,l8,a8,fun w hw=>?_⟩
   .rcases yP i es with⟨h,_⟩|⟨_,u,hu,y⟩
    .grind[Gx.eq_1]
    grind
   .rw[J w hw,K w hw,D.mem];constructor
    .grind
    grind
variable {L:RZ} {cl cl':Nat->Nat->Prop} {es:List Pr} {met:II} {s u w:Nat} {x:Int}
structure Ar (n:Nat) (es:xLP) (s:Nat) (L:RZ) (met:II) (cl:Nat->Nat->Prop):Prop where
 len:L.length=n
 val:∀(v:Nat)(x:Int),L[v]?=Z x->x=-1\/0<=x/\v∈met
 mm:∀v∈met,v<n/\Pu es s v/\∃x:Int,L[v]?=Z x/\0<=x
 nd:met.Nodup
 s0:L[s]?=Z 0
 ms:s∈met
 pre:∀(v:Nat)(x:Int),L[v]?=Z x->0<x->∃w,Jp es v w/\L[w]?=Z (x-1)
 zero:∀(v:Nat),L[v]?=Z 0->v=s
 cl:∀u w,cl u w->w∈met
 bd:∀(v:Nat)(x:Int),L[v]?=Z x->x+1<=met.length
structure Far (n:Nat) (es:xLP) (s:Nat) (L:RZ):Prop where
 len:L.length=n
 pos:∀(v:Nat)(x:Int),L[v]?=Z x->(0<=x↔Pu es s v)
 pre:∀(v:Nat)(x:Int),L[v]?=Z x->0<x->∃w,Jp es v w/\L[w]?=Z (x-1)
 zero:∀(v:Nat),L[v]?=Z 0->v=s
 bd:∀(v:Nat)(x:Int),L[v]?=Z x->-1<=x/\x+1<=n
 self:L[s]?=Z 0
theorem Ar.start(hs:s<n)(cl:Nat->Nat->Prop)(a:∀u w,¬cl u w):Ar n es s ((rP n (-1)).set s 0) [s] cl:=by
 have b:((rP n (-1:Int)).set s 0)[s]?=Z 0:=hGr;refine⟨Ma,fun v x h=>?_,fun v c=>?_,Ma,b,Ma,fun v x h d=>?_,fun v h=>?_,hGr,fun v x h=>?_⟩
 .grind
 all_goals grind[Pu.refl]
theorem Ar.mono(t:Ar n es s L met cl)(h:∀u w,cl' u w->cl u w):Ar n es s L met cl':={t with cl:=fun u w a=>t.cl u w (h u w a)}
theorem Ar.stay(t:Ar n es s L met cl)(d:L[w]?=Z x)(e:0<=x)(h:∀a b,cl' a b->cl a b\/b=w):Ar n es s L met cl':=
 have hw:w∈met:=by grind[Ar.val]
 {t with cl:=fun a b c=>(h a b c).elim (fun h=>t.cl a b h) hGr}
theorem Ar.push(t:Ar n es s L met cl){d x:Int}(g:u∈met)(hd:L[u]?=Z d)(ha:Jp es u w)(q:L[w]?=Z x)(i:x<0)(h:∀a b,cl' a b->cl a b\/b=w):
  Ar n es s (L.set w (d+1)) (met++[w]) cl':=by
 have j:0<=d:=by obtain⟨_,_,y,c,i⟩:=t.mm u g;grind
 have k:w∉met:=fun l=>by obtain⟨_,_,y,c,m⟩:=t.mm w l;grind
 have keep:∀(v:Nat)(y:Int),L[v]?=Z y->0<=y->(L.set w (d+1))[v]?=Z y:=hGr;have gs:∀(v:Nat)(y:Int),(L.set w (d+1))[v]?=Z y->v=w/\y=d+1\/v≠w/\L[v]?=Z y:=hGr;refine⟨by simp[t.len],fun v y c=>?_,fun v e=>?_,?_,(by grind[Ar.s0]),(by grind[Ar.ms]),fun v y c f=>?_,fun v e=>?_,fun a b o=>?_,fun v y c=>?_⟩
 .grind[Ar.val]
 .rw[aax,xD]at e;rcases e with e|rfl
  .obtain⟨r,h2,y,c,f⟩:=t.mm v e;grind
  .exact⟨by grind[Ar.len],.step (t.mm u g).2.1 ha rfl,d+1,hGr,NH⟩
 .grind[Ar.nd]
 .rcases gs v y c with⟨rfl,rfl⟩|⟨_,c⟩
  .grind[Jp.symm]
  .obtain⟨b,hb,p⟩:=t.pre v y c f;grind
 .grind[Ar.zero]
 .rw[aax,xD];rcases h a b o with h|rfl
  .exact .inl (t.cl a b h)
  grind
 .simp only[aaf,OM];rcases gs v y c with⟨rfl,rfl⟩|⟨_,c⟩
  .have:=t.bd u d hd;omega
  .have:=t.bd v y c;omega
theorem Ar.abP(t:Ar n es s L met cl):met.length<=n:=by have:=t.nd.length_le_of_subset (l₂:=rG n) fun v a=>K4.2 (t.mm v a).1;grind
theorem Ar.finish(t:Ar n es s L met cl)(h:∀u w,u∈met->Jp es u w->cl u w):Far n es s L:=by
 have all:∀v,Pu es s v->v∈met:=by
  intro v c
  induction c with
  |refl _=>exact t.ms
  |step _ a _ d=>exact t.cl _ _ (h _ _ d a)
 refine⟨t.len,fun v x b=>⟨fun e=>?_,fun c=>?_⟩,t.pre,t.zero,fun v x b=>?_,t.s0⟩
 .rcases t.val v x b with h|⟨_,h⟩
  .omega
  .exact(t.mm v h).2.1
 .obtain⟨_,_,y,f,e⟩:=t.mm v (all v c);grind
 .have:=t.bd v x b;have:=t.abP;rcases t.val v x b with h|⟨h,_⟩<;>omega
def awS(u:Nat)(st:RZ×II)(x:Int):RZ×II:=if st.1.getD x.toNat 0<0 then(st.1.set x.toNat (st.1.getD u 0+1),st.2++[x.toNat])else st
def awI(rows:AM)(n s:Nat):Nat->RZ×II
  |0=>((rP n (-1)).set s 0,[s])
  |i+1=>match(awI rows n s i).2[i]? with
    |some u=>(rows.getD u []).foldl (awS u) (awI rows n s i)
    |none=>awI rows n s i
def NY(rows:AM)(n s:Nat):RZ:=(awI rows n s n).1
theorem vk{rows:AM}{n s i:Nat}(h:(awI rows n s i).2.length<=i):∀k,i<=k->awI rows n s k=awI rows n s i
 |0,a=>by grind
 |k+1,a=>by
  by_cases e:i=k+1
  .rw[e]
  .have b:=vk h k NH;grind[awI.eq_2]
theorem away_fun(W0:LA)(bv:vV)(n s:Nat)(es:xLP)(h:aai)(hb:RL (RL RP) h bv (Zh n es))(hR:aV n es)(hn:n<=300)(a7:es.length<=1000)(hs:s<n):
  AC pG W0 157 [bv,s] h fun x h'=>∃L,RL RP h' x L/\Far n es s L/\Le h h'/\L=NY (Zh n es) n s:=by
 refine AC.vE ⟨func157,rfl,WY⟩ ntmps157 results157 fun al=>?_;simp only[Br,seval];have lb:=fun g=>hb.qP5 g;rw[Xq]at lb;obtain⟨h1,e1,l1,w1,o1⟩:=Tt al [.int .i64 (-1)];simp only[HO,seval,DQ,e1,lb];refine TC.intro PJ ⟨akx,rfl,WY⟩ (rN W0 _ n NH h1 (RL.Wh (RS.whole o1 rfl))) ?_;rintro x h2 w2 ⟨T,rfl,hT,o2,l2⟩
 have nT:h.own T=Y:=l1.next w1 hT
 have oT:h2.own T=Z (.cells (Bp (rP n (-1)))):=by rw[o2];simp[Bp]
 have B:∀(k:IntKind)(j:Nat),j<n->aao pG 28 (sL (Z T) n n) (.int k j)=Z (pT (Z ⟨T,j,Y⟩)):=fun k j hj=>by rw[Wc Mb Ac Ji j hj];simp[Ip]
 have Q:∀(g:aai)(L:RZ)(j:Nat)(l:Int),g.own T=Z (.cells (Bp L))->L[j]?=Z l->aaC pG g 3 ⟨T,j,Y⟩=Z (.int .i64 l):=fun g L j l ho hl=>by rw[Fq Ac rfl ho];simp[Bp,hl]
 have F:=QB (P:=pG) (t:=3) (x:=.int .i64 0) Ac Ji oT (off:=s) (by simp[Bp,hs]) rfl rfl;rw[yy]at F;have w3:=w2.put (.cells (Bp ((rP n (-1)).set s 0))) (w2.lt oT);have l3:Le h (h2.put T (.cells (Bp ((rP n (-1)).set s 0)))):=(l1.trans l2).put _ nT;have G:(h2.put T (.cells (Bp ((rP n (-1)).set s 0)))).own T=Z (.cells (Bp ((rP n (-1)).set s 0))):=aai.Y3 _ _ _;simp only[HO,seval,B _ s hs,F];generalize h2.put T (.cells (Bp ((rP n (-1)).set s 0)))=O at*;obtain⟨h5,e5,H,aq,o5⟩:=Tt w3 [s]
 have nM:h.own O.next=Y:=l3.next w3 (qL0 _)
 have ar:T≠O.next:=fun e=>by have:=w3.lt G;omega
 simp only[HO,seval,DQ,e5];have R:=Ar.start (es:=es) hs (fun a w=>(∃j,j<0/\[s][j]?=Z a)/\Jp es a w) (fun a w h=>by grind)
 have gM:GI h5 (sL (Z O.next) 1 1) (kz [s]):=GS.full o5 rfl (show 1<1000000000000 by decide)
 refine aab.intro (fun k fr f=>∃(i:Nat)(L:RZ)(m:vV)(met:II),k=n-i/\i<=met.length/\fr=mkF [(0,bv),(5,sL (Z T) n n),(6,m),(7,i)]/\
   f.own T=Z (.cells (Bp L))/\Le h f/\GI f m (kz met)/\blk m≠Z T/\Z2 h m/\Ar n es s L met (fun a w=>(∃j,j<i/\met[j]?=Z a)/\Jp es a w)/\(L,met)=awI (Zh n es) n s i)
  n [(0,bv),(5,sL (Z T) n n),(6,sL (Z O.next) 1 1),(7,(0:Nat))] fD
  ⟨0,_,_,[s],rfl,abe _,rfl,H.own _ _ G,l3.trans H,gM,by grind[blk],fun b hb=>by grind[blk],R,rfl⟩ ?_
 clear R gM ar nM o5 aq H e5 h5 G l3 w3 F oT o2 l2 w2;clear O h2;rintro k fr f C ⟨i,L,m,met,rfl,hi,rfl,oT,leq,gm,nm,am,v,eI⟩;have lm:=fun g=>gm.rl.DH g;have S:=v.abP;rw[y6]at lm;simp only[HO,seval,lm];refine Kl.intro (fun U=>?_) (fun hf=>?_)
 rotate_left
 .have V:met.length<=i:=vp hf;refine sSs ?_;refine⟨L,RL.Wh (RS.whole oT (by grind[Ar.len])),v.finish fun a w ha I=>⟨?_,I⟩,leq,by grind[NY.eq_1,vk]⟩;grind[List.mem_iff_getElem?]
 have c:i<met.length:=CC U;clear U;have o:=CA c;have W:=sY c;have D:=gm.rl.TA i (by rw[y6];exact c);have p:=gm.rl.Uc i (by rw[y6];exact c);rw[W]at p;generalize met[i]=u at o p;clear W;have y:u∈met:=BS o;have av:u<n:=(v.mm u y).1;have J:u<(Zh n es).length:=by grind[Xq]
 have ay:=hb.Wm u J;obtain⟨uv,az,r⟩:=hb.NS u J;have aC:(Zh n es).getD u []=(Zh n es)[u]:=D4 J;generalize (Zh n es)[u]=row at r aC;have lr:=fun g=>r.DH g;have a8:row.length<=3000:=by have:=bV n es row (by grind);omega
 simp only[HO,seval,D,p,ay,az f leq,lr];have X:Ar n es s L met (fun a w=>((∃j,j<i/\met[j]?=Z a)/\Jp es a w)\/(a=u/\(w:Int)∈row.take 0)):=v.mono fun a w h=>by grind
 refine aab.intro (fun k fr f=>∃(q:Nat)(L:RZ)(m:vV)(met:II),k=row.length-q/\q<=row.length/\fr=mkF [(0,bv),(5,sL (Z T) n n),(6,m),(7,i),(31,uv),(32,row.length),(33,q)]/\
   f.own T=Z (.cells (Bp L))/\Le h f/\GI f m (kz met)/\blk m≠Z T/\Z2 h m/\met[i]?=Z u/\Ar n es s L met (fun a w=>((∃j,j<i/\met[j]?=Z a)/\Jp es a w)\/(a=u/\(w:Int)∈row.take q))/\(L,met)=(row.take q).foldl (awS u) (awI (Zh n es) n s i))
  row.length [(0,bv),(5,sL (Z T) n n),(6,m),(7,i),(31,uv),(32,row.length),(33,(0:Nat))] fD
  ⟨0,L,m,met,rfl,abe _,rfl,oT,leq,gm,nm,am,o,X,eI⟩ ?_
 have aD:awI (Zh n es) n s (i+1)=row.foldl (awS u) (awI (Zh n es) n s i):=by grind[awI.eq_2]
 clear X eI D p lm;clear y o c S v am nm gm leq oT C hi;clear f L m met;rintro k fr f C ⟨q,L,m,met,rfl,bb,rfl,oT,leq,gm,nm,am,o,v,eI⟩;have y:u∈met:=BS o;have S:=v.abP;have c:=(Ny.1 o).1;refine sSs ?_;refine Kl.intro (fun U=>?_) (fun hf=>?_)
 rotate_left
 .have V:row.length<=q:=vp hf;simp only[HO,seval,aaa i NH];refine tn (n-(i+1)) [(0,bv),(5,sL (Z T) n n),(6,m),(7,(i+1:Nat))] NH fD ⟨i+1,L,m,met,rfl,c,rfl,oT,leq,gm,nm,am,v.mono fun a w h=>?_,by rw[aD,eI,HV V]⟩;grind[EW]
 have z:q<row.length:=CC U;clear U;have aa:=r.TA q z;have K:=(r.le Nn.RP leq).Uc q z;have aF:row.take (q+1)=row.take q++[row[q]]:=EL z;have M:row[q]∈(Zh n es).getD u []:=hGr;generalize row[q]=x at K aF M;obtain⟨w,rfl,N⟩:=Ru hR M;have I:=(EW hR u w).1 M;have E:=CA (show w<L.length by grind[Ar.len]);generalize L[w]'(by grind)=lw at E
 have ae:=Q f L w lw oT E;have ag:∀(A:II),(∀j,j<met.length->A[j]?=met[j]?)->∀a b,((∃j,j<i/\A[j]?=Z a)/\Jp es a b)\/(a=u/\(b:Int)∈row.take (q+1))->
   (((∃j,j<i/\met[j]?=Z a)/\Jp es a b)\/(a=u/\(b:Int)∈row.take q))\/b=w:=fun A hm a b h=>by grind
 have eS:(row.take (q+1)).foldl (awS u) (awI (Zh n es) n s i)=awS u (L,met) (w:Int):=hGr;have gw:L.getD w 0=lw:=hGr;by_cases c4:lw<0
 rotate_left
 .simp only[HO,seval,aa,K,B _ w N,ae,c4,aaa q NH];exact tn (row.length-(q+1)) [(0,bv),(5,sL (Z T) n n),(6,m),(7,i),(31,uv),(32,row.length),(33,(q+1:Nat))] NH fD
   ⟨q+1,L,m,met,rfl,z,rfl,oT,leq,gm,nm,am,o,v.stay E NH (ag met fun _ _=>rfl),by grind[awS.eq_1,Int.toNat_natCast]⟩
 obtain⟨aX,_,d,hd,bg⟩:=v.mm u y;have bh:=v.bd u d hd;have aH:=Q f L u d oT hd;have D:=gm.rl.TA i (by rw[y6];exact c);have p:=gm.rl.Uc i (by rw[y6];exact c);rw[sY c,show met[i]=u by grind]at p;have aJ:aaY .i64 (d+1)=d+1:=ie _ NH NH;have st1:aaK pG f 3 (pT (Z ⟨T,w,Y⟩)) (.int .i64 (d+1))=Z (f.put T (.cells (Bp (L.set w (d+1))))):=by rw[QB (P:=pG) (t:=3) (x:=.int .i64 (d+1)) Ac Ji oT (off:=w) (by rw[uE,v.len];exact N) rfl rfl,yy]
 have aK:WF (f.put T (.cells (Bp (L.set w (d+1))))):=C.put _ (C.lt oT);have aL:Le h (f.put T (.cells (Bp (L.set w (d+1))))):=leq.put _ nT;have aN:(f.put T (.cells (Bp (L.set w (d+1))))).own T=Z (.cells (Bp (L.set w (d+1)))):=aai.Y3 _ _ _;have aP:GI (f.put T (.cells (Bp (L.set w (d+1))))) m (kz met):=GS.put gm _ nm;simp only[HO,seval,aa,K,B _ w N,ae,c4,D,p,B _ u av,aH,aJ,st1];generalize f.put T (.cells (Bp (L.set w (d+1))))=O at*;obtain⟨ai,h5,h6,e5,e6,g6,w6,l5,hf,hk⟩:=aP.push aK (w:Int) (by grind[y6]);obtain⟨l6,a6⟩:=hf h aL am;obtain⟨aT,aW⟩:=hk T _ aN nm;have aj:kz met++[(w:Int)]=kz (met++[w]):=by simp[kz]
 rw[aj]at g6;simp only[HO,seval,e5,e6,aaa q NH];exact tn (row.length-(q+1)) [(0,bv),(5,sL (Z T) n n),(6,ai),(7,i),(31,uv),(32,row.length),(33,(q+1:Nat))] NH fD
  ⟨q+1,_,ai,met++[w],rfl,z,rfl,aT,l6,g6,aW,a6,(by grind),v.push y hd I E c4 (ag _ fun j hj=>iy hj),by rw[eS,awS,Z6];simp only[gw];rw[IE c4,j9,hd];rfl⟩
def d20:decide ((20:Int)=0)=fF:=by decide
theorem d2:decide ((2:Int)=0)=fF:=by decide
def xe(x y:Int):acB pG 49 [(0,x),(1,y)]=Z (UI (x,y)):=Ji
def Index_any(s:LA)(l:vV)(ps:xLP)(p:Pr)(h:aai)(hw:PR h l ps)(z:ps.length<=1000000):
  AC pG s 72 [l,UI p] h fun x h'=>(∃i:Int,x=i/\(0<=i↔p∈ps))/\Le h h':=by
 refine AC.vE ⟨func72,rfl,WY⟩ ntmps72 results72 fun e=>?_;simp only[Br,seval];have t:=fun g=>hw.len g;obtain⟨u,v,l1,w1,w⟩:=Tt e (xM p)
 have A:h.own h.next=Y:=(Le.refl h).next e (qL0 _)
 refine sFa (adG @Ci v t) ?_
 generalize h.next=E at*
 refine lIn (fun k fr n=>∃i:Nat,k=ps.length-i/\i<=ps.length/\fr=mkF [(0,l),(3,pT (Z E)),(7,ps.length),(8,i)]/\n=u/\p∉ps.take i) ⟨0,rfl,abe _,rfl,rfl,Ma⟩ ?_;rintro k fr n y ⟨i,rfl,hi,rfl,rfl,b⟩;refine sSs ?_;refine Kl.intro (fun o=>?_) (fun hf=>?_)
 rotate_left
 .have m:ps.length<=i:=vp hf;rw[HV m]at b;refine sSs ?_;exact⟨⟨-1,rfl,by simp[b]⟩,l1⟩
 have a:i<ps.length:=CC o;clear o;have d:=CA a;have f:ps.take (i+1)=ps.take i++[ps[i]]:=EL a;generalize ps[i]=q at d f;have ad:=hw.addr (k:=.i64) i a;have ld:=(hw.le l1).load d;have r:=uM w;refine sSs ?_;refine gh (tA [0,1,2,3,4,5] .done) ?_;have j:=(abinP p q).1;by_cases c:p=q
 .have hd:decide (p=q)=tT:=by simpa using c
  rw[hd]at j;simp only[kS1,aer,aet,ab6,Zm,abr,aa6,acZ,aeb,aec,putDst,flat,kA,kB,Nat.reduceLT,↓reduceIte,kC,Nat.reduceEqDiff,ab0,mM,aci,ae3,adY,aUn,acy,agk,G8,acD,acf,ad7,mkF,Yx,reduceCtorEq,kD,kE,kF,kG,kH,kI,kJ,kK,acW,abt,kD1,Nat.reduceBEq,abj,kL,kM,kN,kO,ad,ld,r,j,-mM];exact⟨⟨i,rfl,by subst c;simp[BS d]⟩,l1⟩
 .have hd:decide (p=q)=fF:=by simpa using c
  rw[hd]at j;simp only[kS1,aer,aet,ab6,Zm,abr,aa6,acZ,aeb,aec,putDst,flat,kA,kB,Nat.reduceLT,↓reduceIte,kC,Nat.reduceEqDiff,ab0,mM,aci,ae3,adY,aUn,acy,agk,G8,acD,acf,ad7,mkF,Yx,reduceCtorEq,kD,kE,kF,kG,kH,kI,kJ,kK,acW,abt,kD1,Nat.reduceBEq,abj,kL,kM,kN,kO,ad,ld,r,j,-mM,aaa i NH];refine lgA NH ⟨i+1,rfl,a,rfl,rfl,?_⟩;rw[f];simp[b,c]
def aiZ(d:LA)(a:vV)(ps:xLP)(p:Pr)(h:aai)(hw:PR h a ps)(e:ps.length<=1000000):
  AC pG d 43 [a,UI p] h fun x h'=>x=.bool (decide (p∈ps))/\Le h h':=by
 refine AC.vE ⟨func43,rfl,WY⟩ ntmps43 results43 fun b=>?_;simp only[Br,seval];obtain⟨f,g,l1,w1,j⟩:=Tt b (xM p);have k:=uM j;refine sFa (adG @Ci g k) ?_;refine kCi func72 (Index_any d a ps p f (hw.le l1) e) ?_;rintro x h2 l ⟨⟨i,rfl,hi⟩,c⟩;have:decide (i>=0)=decide (p∈ps):=by simp only[fE];exact hi
 simp only[HO,seval,this];exact⟨trivial,l1.trans c⟩
section
variable{α:Type}[DecidableEq α]
def acs:List (α×Int)->α->Int->List (α×Int)
 |[],k,v=>[(k,v)]
 |(a,b)::r,k,v=>if a=k then(k,v)::r else(a,b)::acs r k v
def abo:List (α×Int)->α->Option Int
 |[],_=>Y
 |(a,b)::r,k=>if a=k then Z b else abo r k
theorem XR(l:List (α×Int))(k a:α)(v:Int):abo (acs l k v) a=if k=a then Z v else abo l a:=by
 induction l<;>grind[acs,abo]
theorem ahW{l:List (α×Int)}{k:α}:abo l k≠Y↔k∈l.map (·.1):=by
 induction l<;>grind[abo]
theorem setK_keys(l:List (α×Int))(k a:α)(v:Int):a∈(acs l k v).map (·.1)↔a=k\/a∈l.map (·.1):=by rw[<-ahW,XR,<-ahW];grind
theorem Ek(l:List (α×Int))(k:α)(v:Int):(abo l k=Y/\acs l k v=l++[(k,v)])\/∃(j:Nat)(b:Int),abo l k=Z b/\l[j]?=Z (k,b)/\(∀i,i<j->∀x,l[i]?=Z x->x.1≠k)/\acs l k v=l.set j (k,v):=by
 induction l with
 |nil=>exact .inl ⟨rfl,rfl⟩
 |cons x r e=>
  obtain⟨a,b⟩:=x;simp only[acs,abo];by_cases h:a=k
  .subst h;rw[IE rfl,IE rfl];exact .inr ⟨0,b,rfl,rfl,NH,rfl⟩
  .rw[yM h,yM h];rcases e with⟨d,h2⟩|⟨j,c,d,h2,h3,f⟩
   .grind
   .refine .inr ⟨j+1,c,d,hGr,fun i hi x g=>?_,by rw[f];rfl⟩;cases i<;>grind
end
def aie(l:List (Int×Int)):List (vV×vV):=l.map fun x=>(.int .i64 x.1,.int .i64 x.2)
theorem aha(k:Int):∀(l:List (Int×Int))(i:Nat),(abo l k=Y->adA .i64 k (aie l) i=Z Y)/\∀(j:Nat) b,l[j]?=Z (k,b)->(∀q,q<j->∀x,l[q]?=Z x->x.1≠k)->adA .i64 k (aie l) i=Z (Z (i+j,.int .i64 b))
 |[],i=>⟨fun _=>rfl,hGr⟩
 |(a,b)::r,i=>by
  obtain⟨g,h2⟩:=aha k r (i+1);constructor
  .intro h;simp only[abo]at h;by_cases e:a=k
   .rw[IE e]at h;cases h
   .rw[yM e]at h
    show(if IntKind.i64=IntKind.i64 then(if k=a then _ else adA .i64 k (aie r) (i+1))else Y)=_
    rw[IE rfl,yM (j3 e)];exact g h
  .intro j c d f;cases j with
   |zero=>
    simp at d;obtain⟨rfl,rfl⟩:=d
    show(if IntKind.i64=IntKind.i64 then(if a=a then _ else adA .i64 a (aie r) (i+1))else Y)=_
    rw[IE rfl,IE rfl];rfl
   |succ j=>
    have e:a≠k:=f 0 NH (a,b) rfl
    show(if IntKind.i64=IntKind.i64 then(if k=a then _ else adA .i64 k (aie r) (i+1))else Y)=_
    rw[IE rfl,yM (j3 e),h2 j c (by simpa using d) hGr];congr 3;omega
def aiO{h:aai}{M:Nat}{l:List (Int×Int)}(c:h.own M=Z (.map (aie l)))(k:Int)(ok:Bool):
  abB pG h 97 (.map (Z M)) k ok=Z (bif ok then .tuple #[.int .i64 ((abo l k).getD 0),.bool (abo l k).isSome]else .int .i64 ((abo l k).getD 0)):=by
 have d:acd pG 3=Z (.int .i64 0):=Ji;simp only[abB,qS42,Ac,c,d,show flat (.int .i64 0)=tT from rfl,if_true];rcases Ek l k 0 with⟨a,_⟩|⟨j,b,a,h2,h3,_⟩
 .rw[(aha k l 0).1 a,a];rfl
 .rw[(aha k l 0).2 j b h2 h3,a];rfl
def mapI_set{h:aai}{M:Nat}{l:List (Int×Int)}(d:h.own M=Z (.map (aie l)))(k v:Int):acM pG h 97 (.map (Z M)) k v=Z (h.put M (.map (aie (acs l k v)))):=by
 simp only[acM,qS42,Ac,d];rcases Ek l k v with⟨c,a⟩|⟨j,b,c,h2,h3,a⟩
 .rw[(aha k l 0).1 c,a];simp[aie]
 .rw[(aha k l 0).2 j b h2 h3,a];simp[aie,C4]
def wy(l:List (Pr×Int)):List (vV×vV):=l.map fun x=>(UI x.1,.int .i64 x.2)
theorem ady(k:Pr):∀(l:List (Pr×Int))(i:Nat),(abo l k=Y->adC pG 49 (UI k) (wy l) i=Z Y)/\∀(j:Nat) b,l[j]?=Z (k,b)->(∀q,q<j->∀x,l[q]?=Z x->x.1≠k)->adC pG 49 (UI k) (wy l) i=Z (Z (i+j,.int .i64 b))
 |[],i=>⟨fun _=>rfl,hGr⟩
 |(a,b)::r,i=>by
  obtain⟨g,h2⟩:=ady k r (i+1)
  have un:adC pG 49 (UI k) (wy ((a,b)::r)) i=match aEq pG 49 (UI k) (UI a)with|some tT=>Z (Z (i,.int .i64 b))|some fF=>adC pG 49 (UI k) (wy r) (i+1)|none=>Y:=rfl
  rw[un,eqP];constructor
  .grind[abo]
  .intro j c f d;cases j with
   |zero=>grind
   |succ j=>
    have e:a≠k:=d 0 NH (a,b) rfl;have:decide (k=a)=fF:=by simpa using Ne.symm e
    rw[this];show adC pG 49 (UI k) (wy r) (i+1)=_;rw[h2 j c (by simpa using f) hGr];congr 3;omega
def keyP(p:Pr):ac4 pG 49 (UI p)=tT:=by have:aa9 [p.1,p.2]=Z [(IntKind.i64,p.1),(IntKind.i64,p.2)]:=rfl;simp[ac4,qS8,Ac,UI,this,ts3]
def acS{h:aai}{x:vV}(p:Pr)(ok:Bool):abB pG h 74 x (UI p) ok=Y:=by simp only[abB,qS23,UI]
def aiP{h:aai}{x v:vV}(p:Pr):acM pG h 74 x (UI p) v=Y:=by simp only[acM,qS23,UI]
theorem Il{h:aai}{M:Nat}{l:List (Pr×Int)}(a:h.own M=Z (.map (wy l)))(k:Pr)(ok:Bool):
  adH pG h 74 (.map (Z M)) (UI k) ok=Z (bif ok then .tuple #[.int .i64 ((abo l k).getD 0),.bool (abo l k).isSome]else .int .i64 ((abo l k).getD 0)):=by
 have c:acd pG 3=Z (.int .i64 0):=Ji;simp only[adH,qS23,keyP,a,c,show flat (.int .i64 0)=tT from rfl,if_true];rcases Ek l k 0 with⟨d,_⟩|⟨j,b,d,h2,h3,_⟩
 .grind[ady]
 grind[ady]
theorem ajb{h:aai}{M:Nat}{l:List (Pr×Int)}(a:h.own M=Z (.map (wy l)))(k:Pr)(v:Int):aea pG h 74 (.map (Z M)) (UI k) v=Z (h.put M (.map (wy (acs l k v)))):=by
 simp only[aea,qS23,keyP,a,if_true];rcases Ek l k v with⟨c,d⟩|⟨j,b,c,h2,h3,d⟩
 .grind[ady,wy]
 grind[ady,wy,List.map_set]
theorem Walk_any(j:LA)(v:vV)(n s:Nat)(es:xLP)(h:aai)(hg:GR h v ⟨(n:Int),es⟩)(f:bX ⟨(n:Int),es⟩)(hs:s<n):
  AC pG j 84 [v,s] h fun x h'=>∃d U o up,x=.tuple #[d,sL (Z ⟨U,0,Y⟩) n n,.int .i64 0]/\GI h' d (kz o)/\(h'.own U=Z (.cells (Bp up))/\blk d≠Z U/\h.own U=Y)/\Oc n es s o up/\Le h h'/\Z2 h d:=by
 have k:=hg
 obtain⟨ev,rfl,D⟩:=hg.open
 have z:(n:Int)<=200:=f.n1;have A:es.length<=594:=f.len;refine AC.vE ⟨func84,rfl,WY⟩ ntmps84 results84 fun l=>?_;simp only[Br,seval];obtain⟨m,E,g,p,-,F⟩:=r8 (n:=(n:Int)) l D
 generalize h.next=B at*
 have q:=F m (Le.refl _);obtain⟨h2,G,l2,w2,H⟩:=Tt p [s]
 have rs:RL RP h2 (sL (Z m.next) 1 1) [(s:Int)]:=RL.Wh (RS.whole H rfl)
 refine sFa (ae7 E q.1 @DQ G) ?_
 generalize vV.slice (Z m.next) 1 1=I at*
 refine kCi func52 (N7 j _ I ⟨(n:Int),es⟩ [(s:Int)] h2 (k.le (g.trans l2)) rs Ma) ?_;rintro x h3 J ⟨r,K,e,rfl,L⟩;have c:=(g.trans l2).trans r;have i:∀x∈[(s:Int)],0<=x/\x<(n:Int):=fun x O=>by grind
 rcases L with⟨t,_,_⟩|⟨_,u,_,_⟩|⟨_,_,rfl,a⟩
 .exact absurd f t
 .exact absurd i u
 .simp only[Z6]at a;refine sFa @bne.eq_1.{0} ?_
  refine kCi func53 (V6 j K n s es h3 a f.GD f.q9 NH NH hs) ?_;rintro x P M ⟨d,N,o,up,rfl,C,w,hd,y,ap⟩;refine sSs ?_;refine⟨d,N,o,up,rfl,C,⟨w.1,w.2.1,c.none w.2.2⟩,hd,c.trans y,?_⟩;intro b hb;cases C:h.own b with
  |none=>rfl
  |some o=>have:=ap b hb;grind[Le.own]
abbrev Lw:=Int×Int×Int
def MK(p:Lw):xLV:=[.int .i64 p.1,.int .i64 p.2.1,.int .i64 p.2.2]
def valL(p:Lw):vV:=.agg #[p.1,p.2.1,p.2.2]
def Wo(ps:List Lw):xLV:=ps.flatMap MK
theorem Fx:∀(ps:List Lw)(i:Nat)(p:Lw),ps[i]?=Z p->(Wo ps)[i*3]?=Z (.int .i64 p.1)/\(Wo ps)[i*3+1]?=Z (.int .i64 p.2.1)/\(Wo ps)[i*3+2]?=Z (.int .i64 p.2.2)
 |[],i,p,h=>by simp at h
 |q::ps,0,p,h=>by grind[Wo,MK]
 |q::ps,i+1,p,h=>by have:=Fx ps i p (by simpa using h);have e:Wo (q::ps)=.int .i64 q.1::.int .i64 q.2.1::.int .i64 q.2.2::Wo ps:=rfl;rw[e,show(i+1)*3=(i*3+2)+1 by omega];simpa using this
theorem cH:∀(ps:List Lw)(i:Nat)(p q:Lw),ps[i]?=Z p->
  Wo (ps.set i q)=(((Wo ps).set (i*3) q.1).set (i*3+1) q.2.1).set (i*3+2) q.2.2
 |[],i,p,q,h=>by simp at h
 |r::ps,0,p,q,h=>by simp[Wo,MK]
 |r::ps,i+1,p,q,h=>by have:=cH ps i p q (by simpa using h);have e:∀(r:Lw) ps,Wo (r::ps)=.int .i64 r.1::.int .i64 r.2.1::.int .i64 r.2.2::Wo ps:=fun _ _=>rfl;grind
theorem flatL_low(ps:List Lw)(i:Nat)(p:Lw)(x:Int)(h:ps[i]?=Z p):Wo (ps.set i (p.1,p.2.1,x))=(Wo ps).set (i*3+2) x:=by rw[cH ps i p _ h];obtain⟨a,b,c⟩:=Fx ps i p h;apply wI;grind
def ts51:UA pG 94=3:=Ji
def zrow3(n:Nat):acY [vV.int .i64 0,.int .i64 0,.int .i64 0] n=Wo (rP n (0,0,0)):=by
 induction n with
 |zero=>rfl
 |succ n a=>rw[acY,a];rfl
def mkL(h:aai)(n:Nat)(e:n<=100000):abl pG h 90 n n=Z (sL (Z h.next) n n,h.alloc (.cells (Wo (rP n (0,0,0))))):=by
 have b:acd pG 94=Z (.agg #[.int .i64 0,.int .i64 0,.int .i64 0]):=Ji;have hb:pG.bytesOf 94=24:=Ji;have c:(24:Int)*n<=140737488355328:=NH;have d:(n:Int)<=140737488355328:=NH;have one:(Wo (rP n (0,0,0))).all (·.oneCell')=tT:=by rw[DF];intro x a;rw[Wo,y5]at a;obtain⟨p,_,a⟩:=a;simp[MK]at a;rcases a with rfl|rfl|rfl<;>rfl
 simp[abl,sU,qS43,b,hb,ts51,vV.cells,flat,c,d,IF,zrow3,one]
section
variable{h:aai}{L n:Nat}{ls:List Lw}
def Is{k:IntKind}{cap:Nat}(v:Nat)(b:v<n):aao pG 90 (sL (Z L) n cap) (.int k v)=Z (pT (Z ⟨L,v*3,Y⟩)):=by have a:(v:Int)<(n:Int):=NH;simp[aao,sU,qS43,a,ts51,Ip]
def fl0(a:Addr):aca pG 94 (pT (Z a)) 0=Z (pT (Z (Ip a 0))):=rfl
def fl1(a:Addr):aca pG 94 (pT (Z a)) 1=Z (pT (Z (Ip a 1))):=rfl
def fl2(a:Addr):aca pG 94 (pT (Z a)) 2=Z (pT (Z (Ip a 2))):=rfl
def Nh(a:h.own L=Z (.cells (Wo ls))){v:Nat}{p:Lw}(b:ls[v]?=Z p):aaC pG h 3 ⟨L,v*3,Y⟩=Z (.int .i64 p.1):=by rw[Fq Ac rfl a,(Fx ls v p b).1]
def lUp(a:h.own L=Z (.cells (Wo ls))){v:Nat}{p:Lw}(b:ls[v]?=Z p):aaC pG h 3 ⟨L,v*3+1,Y⟩=Z (.int .i64 p.2.1):=by rw[Fq Ac rfl a,(Fx ls v p b).2.1]
def lLow(a:h.own L=Z (.cells (Wo ls))){v:Nat}{p:Lw}(b:ls[v]?=Z p):aaC pG h 3 ⟨L,v*3+2,Y⟩=Z (.int .i64 p.2.2):=by rw[Fq Ac rfl a,(Fx ls v p b).2.2]
def sLow(b:h.own L=Z (.cells (Wo ls))){v:Nat}{p:Lw}(a:ls[v]?=Z p)(x:Int):
  aaK pG h 3 (pT (Z ⟨L,v*3+2,Y⟩)) x=Z (h.put L (.cells (Wo (ls.set v (p.1,p.2.1,x))))):=by
 rw[flatL_low ls v p x a];exact QB (P:=pG) (t:=3) (x:=x) Ac Ji b (off:=v*3+2) (Ny.1 (Fx ls v p a).2.2).1 rfl rfl
def sAll(b:h.own L=Z (.cells (Wo ls))){v:Nat}(c:v<ls.length)(q:Lw):
  aaK pG h 94 (pT (Z ⟨L,v*3,Y⟩)) (valL q)=Z (h.put L (.cells (Wo (ls.set v q)))):=by
 have a:=CA c;rw[cH ls v _ q a];have e:=(Ny.1 (Fx ls v _ a).2.2).1;have d:v*3+3<=(Wo ls).length:=NH;simp[aaK,b,valL,vV.cells,ts51,putCells,qS43,d,vV.oneCell']
end
variable {i v:Nat} {ls:List Lw} {o:II} {up:RZ}
def Ro(ls:List Lw)(v:Nat):Lw:=ls.getD v (0,0,0)
def acA(up:RZ):II->List Lw×II->List Lw×II
 |[],st=>st
 |v::r,(ls,o)=>acA up r (ls.set v (((o.length+1:Nat):Int),up.getD v 0,((o.length+1:Nat):Int)),o++[v])
def jl(n:Nat)(es:xLP)(i:Nat)(st:List Lw×II):List Lw×II:=if(Ro st.1 i).1=0 then acA (K9 n es i).2 (K9 n es i).1 st else st
def aba(n:Nat)(es:xLP):Nat->List Lw×II
 |0=>(rP n (0,0,0),[])
 |i+1=>jl n es i (aba n es i)
def bS(ls:List Lw)(e:Pr):List Lw:=
 let a:=e.1.toNat;let b:=e.2.toNat
 if(Ro ls a).2.1=e.2\/(Ro ls b).2.1=e.1 then ls
 else
  let l1:=ls.set a ((Ro ls a).1,(Ro ls a).2.1,min (Ro ls a).2.2 (Ro ls b).1)
  l1.set b ((Ro l1 b).1,(Ro l1 b).2.1,min (Ro l1 b).2.2 (Ro l1 a).1)
def Ke(ls:List Lw)(v:Nat):List Lw:=
 let u:=(Ro ls v).2.1
 if 0<=u then ls.set u.toNat ((Ro ls u.toNat).1,(Ro ls u.toNat).2.1,min (Ro ls u.toNat).2.2 (Ro ls v).2.2)else ls
def Jz(n:Nat)(es:xLP):List Lw×II:=((aba n es n).2.reverse.foldl Ke (es.foldl bS (aba n es n).1),(aba n es n).2)
theorem V0(h:v<ls.length):ls[v]?=Z (Ro ls v):=by grind[Ro]
structure LowI (n:Nat) (ls:List Lw) (o:II):Prop where
 len:ls.length=n
 up:∀v,v<n->(Ro ls v).2.1<(n:Int)
 lt:∀v∈o,v<n
 nd:o.Nodup
 num:∀v,v<n->((Ro ls v).1=0↔v∉o)
theorem Uw(ls:List Lw)(v:Nat)(q:Lw)(u:Nat):Ro (ls.set v q) u=if v=u/\v<ls.length then q else Ro ls u:=by grind[Ro]
theorem du.upR(a:aV n es)(hs:s<n)(d:du n es s o up):∀v,up.getD v 0<(n:Int):=by
 induction d with
 |start=>grind
 |@step o up k v w d c ha hw e hf b=>
  intro x;simp only[j9,Tn];have:=b x;split
  .split
   .have:=(ha.lt a).1;simp;omega
   grind
  .exact this
theorem Rx{n:Nat}{up:RZ}(a:∀v,up.getD v 0<(n:Int)):∀(l:II){ls:List Lw}{o:II},LowI n ls o->l.Nodup->(∀v∈l,v<n/\v∉o)->
  LowI n (acA up l (ls,o)).1 (acA up l (ls,o)).2/\(acA up l (ls,o)).2=o++l
 |[],ls,o,I,_,_=>by grind[acA]
 |v::r,ls,o,I,c,e=>by
  rw[jz]at c;have d:LowI n (ls.set v (((o.length+1:Nat):Int),up.getD v 0,((o.length+1:Nat):Int))) (o++[v]):=by
   refine⟨by simp[I.len],fun u b=>?_,fun u b=>?_,?_,fun u b=>?_⟩
   .rw[Uw];split
    .exact a v
    .exact I.up u b
   .grind[LowI.lt]
   .grind[LowI.nd]
   grind[Uw,LowI.len,LowI.num]
  obtain⟨f,g⟩:=Rx a r d c.2 hGr;grind[acA.eq_2]
theorem con_back(a:∀u w,Jp es u w->u∈o->w∈o)(h:Pu es i v):v∈o->i∈o:=by
 induction h<;>grind[Jp.symm]
structure cV (n:Nat) (es:xLP) (ls:List Lw) (o:II):Prop extends LowI n ls o where
 cl:∀u w,Jp es u w->u∈o->w∈o
def TY(a:aV n es)(I:cV n es ls o)(hi:i<n)(c:(Ro ls i).1=0):
  (K9 n es i).1.Nodup/\∀v∈(K9 n es i).1,v<n/\v∉o:=by
 have D:=Te a hi;refine⟨D.KP.nodup,fun v b=>⟨((D.mem v).1 b).lt a hi,fun d=>(I.num i hi).1 c (con_back I.cl ((D.mem v).1 b) d)⟩⟩
theorem fromA_C(b:aV n es)(I:cV n es ls o)(hi:i<n):
  cV n es (jl n es i (ls,o)).1 (jl n es i (ls,o)).2/\i∈(jl n es i (ls,o)).2/\∀v∈o,v∈(jl n es i (ls,o)).2:=by
 unfold jl;split
 .rename_i c;obtain⟨f,g⟩:=TY b I hi c;have D:=Te b hi;obtain⟨d,h⟩:=Rx (D.KP.upR b hi) (K9 n es i).1 I.toLowI f g;rw[h]at d ⊢;refine⟨⟨d,fun u w ha a=>?_⟩,ah7 _ ((D.mem i).2 (Pu.refl es i)),(by grind[List.mem_append_left])⟩;rw[aax]at a ⊢;rcases a with a|a
  .grind[cV.cl]
  .exact .inr (D.full u a w ha)
 .rename_i c;refine⟨I,?_,fun v j=>j⟩;by_cases e:i∈o
  .exact e
  .exact absurd ((I.num i hi).2 e) c
theorem ZC{n:Nat}{es:xLP}(a:aV n es):∀i,i<=n->cV n es (aba n es i).1 (aba n es i).2/\∀v,v<i->v∈(aba n es i).2
 |0,_=>⟨⟨⟨by simp[aba],(by grind[aba,Ro]),by simp[aba],by simp[aba],(by grind[aba,Ro])⟩,by simp[aba]⟩,NH⟩
 |i+1,hi=>by
  obtain⟨I,b⟩:=ZC a i NH;obtain⟨c,d,f⟩:=fromA_C a I (i:=i) NH;refine⟨c,fun v g=>?_⟩;by_cases e:v=i
  .subst e;exact d
  .exact f v (b v NH)
theorem LowI.Em(I:LowI n ls o):o.length<=n:=by have:=I.nd.length_le_of_subset (l₂:=rG n) (by grind[LowI.lt]);grind
end
end Go.Fw
