/- A text. -/
import Derived.Test.YtkccdnmaaelbiaaGreatFwLW2
import Derived.Test.YtkccdnmaaelbiaaGreatFwLB14
set_option linter.all false
set_option maxRecDepth 99999
set_option maxHeartbeats 9999999
namespace Go.Fw
section
attribute [local irreducible] Kp MQ lU KO1 KO KN KX KE VK Kl ZJ TC aab
open Go.Proofs
variable {n:Nat}
def mkL52 (h:AHeap) {u:Value} (a:xO u n):aBuildSlice Tryz.prog h 27 1 [(0,u)]=some (.slice (some ⟨h.next,0,none⟩) 1 1,h.alloc (.cells [u])):=by
 obtain⟨_,_,rfl,_⟩:=a;rfl
def mkL52e (h:AHeap):aBuildSlice Tryz.prog h 27 0 []=some (.slice (some ⟨h.next,0,none⟩) 0 0,h.alloc (.cells [])):=rfl
theorem It (W0:LA) (v:Value) (G:GM) (h:AHeap) (hg:GR h v G) (N:bX G):
  AC Tryz.prog W0 64 [v] h fun x h'=>Lj (RL RP) h' x ((Gx G.n.toNat G.es G.n.toNat).map kz)/\Le h h'/\Z2 h x:=by
 have az:=hg;obtain⟨gn,es⟩:=G
 obtain⟨ev,rfl,hp⟩:=hg.open
 have h0:0<=gn:=N.n0;obtain⟨n,rfl⟩:=WA h0;have a7:(n:Int)<=200:=N.n1;have bb:es.length<=594:=N.len;have hR:=N.GD;have hA:=N.q9;simp only[HV];refine AC.vE ⟨Tryz.func64,rfl,WY⟩ Tryz.ntmps64 Tryz.results64 fun aC=>?_;simp only[Br,Nat.reduceAdd];obtain⟨h1,b1,A,bg,-,lA⟩:=r8 (n:=(n:Int)) aC hp
 generalize h.next=B at*
 have aD:=lA h1 (Le.refl _);simp only[HO,Nat.reduceLT,↓reduceIte,Nat.reduceEqDiff,reduceCtorEq,b1,aD.1];refine TC.intro PJ ⟨qS33,rfl,WY⟩ (N7 W0 _ (.slice none 0 0) ⟨(n:Int),es⟩ [] h1 (az.le A) RL.nil Ma) ?_;rintro x h2 O ⟨p,C,e,rfl,y⟩;obtain⟨rfl,E⟩:e=0/\RL (RL RP) h2 C (Zh n es):=pw;clear y;obtain⟨h3,e3,l3,w3,o3⟩:=Tt O [];have fT:=lA h3 (p.trans l3);have mk:=Ye (P:=Tryz.prog) (t:=59) (z:=.bool false) h3 eY rfl rfl rfl rfl Ji AV Ji n NH;obtain⟨h4,e4,l4,w4,o4⟩:=Tt w3 (List.replicate n (.bool false));rw[e4]at mk;have Q:=lA h4 ((p.trans l3).trans l4);simp only[HO,Nat.reduceLT,↓reduceIte,Nat.reduceEqDiff,reduceCtorEq,Ii,Ip,XJ,mkL52e,e3,fT.2.1,mk,Q.2.1,bne]
 have nP:h2.own h2.next=none:=(Le.refl h2).next O (qL0 _)
 have nM:h3.own h3.next=none:=(Le.refl h3).next w3 (qL0 _)
 have bh:h2.own h3.next=none:=l3.none nM
 have ne:h2.next≠h3.next:=fun e=>by grind
 generalize h3.next=M at*
 have oM:h4.own M=some (.cells (Bo (List.replicate n false))):=by rw[o4];simp[Bo]
 have R:=((A.trans p).trans l3).trans l4
 have g0:Lj (RL RP) (rem [M] h4) (.slice (some ⟨h2.next,0,none⟩) 0 0) ((Gx n es 0).map kz):=by grind [Gx,Es,Lj.empty,Th,Le.own]
 have S:Z2 h2 (.slice (some ⟨h2.next,0,none⟩) 0 0):=fun b hb=>by injection hb with hb;grind
 have U:blk (.slice (some ⟨h2.next,0,none⟩) 0 0)≠some M:=fun e=>by injection e with e;exact ne e
 generalize Value.slice (some ⟨h2.next,0,none⟩) 0 0=V at*
 have F:∀(k:IntKind) (j:Nat),j<n->aIndexAddr Tryz.prog 59 (.slice (some ⟨M,0,none⟩) n n) (.int k j)=some (.pointer (some ⟨M,j,none⟩)):=fun k j hj=>by rw[Wc eY AV Ji j hj];simp[Ip]
 have aF:∀(g:AHeap) (T:Nat) (L:List Bool) (j:Nat) (l:Bool),g.own T=some (.cells (Bo L))->L[j]?=some l->aload Tryz.prog g 4 ⟨T,j,none⟩=some (.bool l):=fun g T L j l ho hl=>by rw[Fq AV rfl ho];simp[Bo,hl]
 refine aab.intro (fun k fr m=>∃(i:Nat) (pv:Value) (met:List Bool),k=n-i/\i<=n/\fr=mkF [(3,C),(5,pv),(6,.slice (some ⟨M,0,none⟩) n n),(24,.int .i64 n),(25,.int .i64 i)]/\
   m.own M=some (.cells (Bo met))/\met.length=n/\Lj (RL RP) (rem [M] m) pv ((Gx n es i).map kz)/\blk pv≠some M/\Le h2 m/\Z2 h2 pv/\∀w,w<n->(met[w]?=some true↔∃u,u<i/\Pu es u w))
  n [(3,C),(5,V),(6,.slice (some ⟨M,0,none⟩) n n),(24,.int .i64 n),(25,.int .i64 (0:Nat))] fD
  ⟨0,_,_,rfl,Og _,rfl,oM,Ma,g0,U,l3.trans l4,S,fun w hw=>by simp[hw]⟩ ?_
 clear S U g0 R oM ne nM nP Q o4 w4 l4 e4 mk fT o3 w3 l3 e3;clear h4 V h3;rintro k fr m bk ⟨i,pv,met,rfl,hi,rfl,oM,W,gp,np,leq,ap,K⟩;have bm:((Gx n es i).map kz).length<=n:=by grind [vH,Gx]
 refine Uy ?_;refine Kl.intro (fun X=>?_) (fun hf=>?_)
 rotate_left
 .have Y : n <= i := vp hf
  obtain rfl:i=n:=NH;refine Uy ?_;exact⟨gp.le (Nn.RL Nn.RP) (Sa _ _),(A.trans p).trans leq,fun b hb=>(A.trans p).none (ap b hb)⟩
 have a:i<n:=CC X;clear X;have H:=CA (show i<met.length by omega);generalize met[i]'(by omega)=mb at H
 have I:=aF m M met i mb oM H;cases mb with
 |true=>
  have hx:=(K i a).1 H;simp only[HO,Nat.reduceLT,↓reduceIte,Nat.reduceEqDiff,reduceCtorEq,F _ i a,I,aaa i NH];refine tn (n-(i+1)) [(3,C),(5,pv),(6,.slice (some ⟨M,0,none⟩) n n),(24,.int .i64 n),(25,.int .i64 (i+1:Nat))] NH fD
   ⟨i+1,pv,met,rfl,a,rfl,oM,W,?_,np,leq,ap,fun w hw=>?_⟩
  .grind [yP,Gx.eq_1]
  .rw [K w hw]
   constructor
   .grind
   .rintro ⟨u, hu, y⟩
    by_cases e:u=i
    .subst e;obtain⟨u',aH,aJ⟩:=hx;exact⟨u',aH,aJ.trans y⟩
    grind
 |false=>
  have hx:∀u,u<i->¬Pu es u i:=fun u hu y=>by grind
  simp only[HO,Nat.reduceLT,↓reduceIte,Nat.reduceEqDiff,reduceCtorEq,F _ i a,I];refine TC.intro PJ ⟨Tryz.func114,rfl,WY⟩ (V6 W0 C n i es m (E.le (Nn.RL Nn.RP) leq) hR hA NH NH a) ?_;rintro x h5 Z ⟨d,uv,o,up,rfl,go,-,D,l5,ao⟩;have r:=l5.own _ _ oM;have aa:blk d≠some M:=fun e=>by have:=ao _ e;grind
  have lo:=fun g=>go.rl.Uc g;rw[y6]at lo;have bo:o.length<=n:=by
   have:=D.KP.nodup.length_le_of_subset (l₂:=List.range n) fun w hw=>iy.2 (((D.mem w).1 hw).lt hR a)
   grind
  simp only[HO,Nat.reduceLT,↓reduceIte,Nat.reduceEqDiff,reduceCtorEq,lo];have K0:Le (rem [M] m) h5:=(Sa _ _).trans l5;have nK:(rem [M] m).own M=none:=by grind [DC]
  have aK:Z2 (rem [M] m) d:=fun b hb=>(Sa [M] m).none (ao b hb);have aP:∀b,blk pv=some b->blk d≠some b:=fun b hb y=>by
   obtain⟨us,g1,_⟩:=gp;have:=GS.Sy g1 hb;exact this (aK b y)
  refine aab.intro (fun k fr hh=>∃(j:Nat) (c:List Bool),k=o.length-j/\j<=o.length/\fr=mkF [(3,C),(5,pv),(6,.slice (some ⟨M,0,none⟩) n n),(8,d),(24,.int .i64 n),(25,.int .i64 i),(38,d),(39,.int .i64 o.length),(40,.int .i64 j)]/\
    hh.own M=some (.cells (Bo c))/\c.length=n/\GI hh d (kz o)/\Le (rem [M] m) hh/\∀w,w<n->(c[w]?=some true↔met[w]?=some true\/w∈o.take j))
   o.length [(3,C),(5,pv),(6,.slice (some ⟨M,0,none⟩) n n),(8,d),(24,.int .i64 n),(25,.int .i64 i),(38,d),(39,.int .i64 o.length),(40,.int .i64 (0:Nat))] fD
   ⟨0,met,rfl,Og _,rfl,r,W,go,K0,fun w hw=>by simp⟩ ?_
  clear r lo go l5 Z K0 I;clear h5;rintro k fr h5 Z ⟨j,c,rfl,hj,rfl,r,s,go,K5,J⟩;refine Uy ?_;refine Kl.intro (fun X=>?_) (fun hf=>?_)
  .have f : j < o.length := CC X
   clear X;have ae:=CA f;have ad:=go.rl.TA j (by rw[y6];exact f);have ld:=go.rl.DH j (by rw[y6];exact f);rw[sY f]at ld;have ag:o.take (j+1)=o.take j++[o[j]]:=Sb f;generalize o[j]=w at ae ld ag;have aj:w<n:=((D.mem w).1 (Gc ae)).lt hR a;have st:=QB (P:=Tryz.prog) (t:=4) (x:=.bool true) AV Ji r (off:=w) (by rw[O2,s];exact aj) rfl rfl;rw[Tr]at st;simp only[HO,Nat.reduceLT,↓reduceIte,Nat.reduceEqDiff,reduceCtorEq,ad,ld,F _ w aj,st,aaa j NH];refine tn (o.length-(j+1)) [(3,C),(5,pv),(6,.slice (some ⟨M,0,none⟩) n n),(8,d),(24,.int .i64 n),(25,.int .i64 i),(38,d),(39,.int .i64 o.length),(40,.int .i64 (j+1:Nat))] NH fD
    ⟨j+1,_,rfl,f,rfl,AHeap.Y3 _ _ _,by simp[s],GS.put go _ aa,K5.put _ nK,fun x hx=>?_⟩
   rw[ag,fj,qL7,jf];by_cases e:w=x
   .grind
   .rw[if_neg e,J x hx];simp[uV e]
  .have Y : o.length <= j := vp hf
   rw[yM Y]at J;refine Uy ?_;refine TC.intro PJ ⟨qS32,rfl,WY⟩ (VQ W0 go (by rw[y6];omega)) ?_;rintro x h6 w6 ⟨rfl,al,aq⟩;have ar:=(aq (rem (bl d) h5) (Sa _ _) (fun b hb=>by grind [DC,Zr])).own M _ (Th.2 ⟨r,fun K=>aa (Zr.1 K)⟩);have K6:=aq _ K5 aK;rw[fM hR D a]at al;have aT:Le (rem [M] m) (rem [M] h6):=K6.iV fun b hb=>by grind
   have aW:=gp.le (Nn.RL Nn.RP) aT;have hb:∀b,blk pv=some b->b∉[M]:=fun b hb K=>by grind
   have gu:RL RP (rem [M] (rem (bl pv) h6)) d (kz (Ic n es i)):=by
    have q:GI (rem [M] (rem (bl pv) h6)) d (kz (Ic n es i)):=GS.Fi (GS.Fi al (l:=bl pv) fun b hb y=>aP b (Zr.1 y) hb) (l:=[M]) fun b sZ y=>by grind
    exact q.rl
   obtain⟨h7,av,h8,e7,e8,br,l7,w7,f8,k8⟩:=Lj.mG (P:=Tryz.prog) (t:=27) (Nn.RL Nn.RP) Ji aW w6 gu gu.sl.one NH hb (fun b hb=>by rw[jf]at hb;subst hb;rw[ar];simp);obtain⟨aX,a6⟩:=k8 M _ ar np;have ay:Le h2 h6:=(leq.iV (l:=[M]) fun b hb=>by grind).trans K6;obtain⟨l8,a8⟩:=f8 h2 ay ap;simp only[HO,Nat.reduceLT,↓reduceIte,Nat.reduceEqDiff,reduceCtorEq,mkL52 h6 gu.sl,e7,e8,aaa i NH];refine tn (n-(i+1)) [(3,C),(5,av),(6,.slice (some ⟨M,0,none⟩) n n),(24,.int .i64 n),(25,.int .i64 (i+1:Nat))] NH fD
    ⟨i+1,av,c,rfl,a,rfl,aX,s,?_,a6,l8,a8,fun w hw=>?_⟩
   .rcases yP i es with ⟨h, _⟩ | ⟨_, u, hu, y⟩
    .grind [Gx.eq_1]
    grind
   .rw [J w hw, K w hw, D.mem]
    constructor
    .grind
    grind
end
section
open Go.Proofs
variable {L:RZ} {cl cl':Nat->Nat->Prop} {es:List Pr} {met:II} {n s u w:Nat} {x:Int}
structure Ar (n:Nat) (es:List Pr) (s:Nat) (L:RZ) (met:II) (cl:Nat->Nat->Prop):Prop where
 len:L.length=n
 val:∀(v:Nat) (x:Int),L[v]?=some x->x=-1\/0<=x/\v∈met
 mm:∀v∈met,v<n/\Pu es s v/\∃x:Int,L[v]?=some x/\0<=x
 nd:met.Nodup
 s0:L[s]?=some 0
 ms:s∈met
 pre:∀(v:Nat) (x:Int),L[v]?=some x->0<x->∃w,Jp es v w/\L[w]?=some (x-1)
 zero:∀(v:Nat),L[v]?=some 0->v=s
 cl:∀u w,cl u w->w∈met
 bd:∀(v:Nat) (x:Int),L[v]?=some x->x+1<=met.length
structure ai (n:Nat) (es:List Pr) (s:Nat) (L:RZ):Prop where
 len:L.length=n
 pos:∀(v:Nat) (x:Int),L[v]?=some x->(0<=x↔Pu es s v)
 pre:∀(v:Nat) (x:Int),L[v]?=some x->0<x->∃w,Jp es v w/\L[w]?=some (x-1)
 zero:∀(v:Nat),L[v]?=some 0->v=s
 bd:∀(v:Nat) (x:Int),L[v]?=some x->-1<=x/\x+1<=n
 self:L[s]?=some 0
theorem Ar.start (hs:s<n) (cl:Nat->Nat->Prop) (a:∀u w,¬cl u w):Ar n es s ((List.replicate n (-1)).set s 0) [s] cl:=by
 have b:((List.replicate n (-1:Int)).set s 0)[s]?=some 0:=pw;refine⟨Ma,fun v x h=>?_,fun v c=>?_,Ma,b,Ma,fun v x h d=>?_,fun v h=>?_,pw,fun v x h=>?_⟩
 .grind
 all_goals grind [Pu.refl]
theorem Ar.mono (t:Ar n es s L met cl) (h:∀u w,cl' u w->cl u w):Ar n es s L met cl':=
 {t with cl:=fun u w a=>t.cl u w (h u w a)}
theorem Ar.stay (t:Ar n es s L met cl) (d:L[w]?=some x) (e:0<=x) (h:∀a b,cl' a b->cl a b\/b=w):Ar n es s L met cl':=
 have hw:w∈met:=by grind [Ar.val]
 {t with cl:=fun a b c=>(h a b c).elim (fun h=>t.cl a b h) pw}
theorem Ar.push (t:Ar n es s L met cl) {d x:Int} (g:u∈met) (hd:L[u]?=some d) (ha:Jp es u w) (q:L[w]?=some x) (i:x<0) (h:∀a b,cl' a b->cl a b\/b=w):
  Ar n es s (L.set w (d+1)) (met++[w]) cl':=by
 have j:0<=d:=by obtain⟨_,_,y,c,i⟩:=t.mm u g;grind
 have k:w∉met:=fun l=>by obtain⟨_,_,y,c,m⟩:=t.mm w l;grind
 have keep:∀(v:Nat) (y:Int),L[v]?=some y->0<=y->(L.set w (d+1))[v]?=some y:=pw;have gs:∀(v:Nat) (y:Int),(L.set w (d+1))[v]?=some y->v=w/\y=d+1\/v≠w/\L[v]?=some y:=pw;refine⟨by simp[t.len],fun v y c=>?_,fun v e=>?_,?_,(by grind [Ar.s0]),(by grind [Ar.ms]),fun v y c f=>?_,fun v e=>?_,fun a b o=>?_,fun v y c=>?_⟩
 .grind [Ar.val]
 .rw [qL7, jf] at e
  rcases e with e|rfl
  .obtain ⟨r, h2, y, c, f⟩ := t.mm v e
   grind
  .exact⟨by grind [Ar.len],.step (t.mm u g).2.1 ha rfl,d+1,pw,NH⟩
 .grind [Ar.nd]
 .rcases gs v y c with ⟨rfl, rfl⟩ | ⟨_, c⟩
  .grind [Jp.symm]
  .obtain ⟨b, hb, p⟩ := t.pre v y c f
   grind
 .grind [Ar.zero]
 .rw [qL7, jf]
  rcases h a b o with h|rfl
  .exact .inl (t.cl a b h)
  grind
 .simp only [j9, QD]
  rcases gs v y c with⟨rfl,rfl⟩|⟨_,c⟩
  .have:=t.bd u d hd;omega
  .have:=t.bd v y c;omega
theorem Ar.abP (t:Ar n es s L met cl):met.length<=n:=by
 have:=t.nd.length_le_of_subset (l₂:=List.range n) fun v a=>iy.2 (t.mm v a).1
 grind
theorem Ar.finish (t:Ar n es s L met cl) (h:∀u w,u∈met->Jp es u w->cl u w):ai n es s L:=by
 have all:∀v,Pu es s v->v∈met:=by
  intro v c
  induction c with
  |refl _=>exact t.ms
  |step _ a _ d=>exact t.cl _ _ (h _ _ d a)
 refine⟨t.len,fun v x b=>⟨fun e=>?_,fun c=>?_⟩,t.pre,t.zero,fun v x b=>?_,t.s0⟩
 .rcases t.val v x b with h | ⟨_, h⟩
  .omega
  .exact(t.mm v h).2.1
 .obtain ⟨_, _, y, f, e⟩ := t.mm v (all v c)
  grind
 .have := t.bd v x b
  have:=t.abP;rcases t.val v x b with h|⟨h,_⟩<;>omega
end
section
attribute [local irreducible] Kp MQ lU KO1 KO KN KX KE VK Kl ZJ TC aab
open Go.Proofs
def awS (u:Nat) (st:RZ×II) (x:Int):RZ×II:=if st.1.getD x.toNat 0<0 then(st.1.set x.toNat (st.1.getD u 0+1),st.2++[x.toNat])else st
def awI (rows:AM) (n s:Nat):Nat->RZ×II
  |0=>((List.replicate n (-1)).set s 0,[s])
  |i+1=>match(awI rows n s i).2[i]? with
    |some u=>(rows.getD u []).foldl (awS u) (awI rows n s i)
    |none=>awI rows n s i
def NY (rows:AM) (n s:Nat):RZ:=(awI rows n s n).1
theorem vk {rows:AM} {n s i:Nat} (h:(awI rows n s i).2.length<=i):∀k,i<=k->awI rows n s k=awI rows n s i
 |0,a=>by grind
 |k+1,a=>by
  by_cases e:i=k+1
  .rw[e]
  .have b := vk h k NH
   grind [awI.eq_2]
theorem away_fun (W0:LA) (bv:Value) (n s:Nat) (es:List Pr) (h:AHeap) (hb:RL (RL RP) h bv (Zh n es)) (hR:aV n es) (hn:n<=300) (a8:es.length<=1000) (hs:s<n):
  AC Tryz.prog W0 132 [bv,.int .i64 (s:Int)] h fun x h'=>∃L,RL RP h' x L/\ai n es s L/\Le h h'/\L=NY (Zh n es) n s:=by
 refine AC.vE ⟨Tryz.func132,rfl,WY⟩ Tryz.ntmps132 Tryz.results132 fun aj=>?_;simp only[Br,Nat.reduceAdd];have lb:=fun g=>hb.len (P:=Tryz.prog) yU g;rw[Xq]at lb;obtain⟨h1,e1,l1,w1,o1⟩:=Tt aj [.int .i64 (-1)];simp only[HO,Nat.reduceLT,↓reduceIte,Nat.reduceEqDiff,reduceCtorEq,DQ,e1,lb];refine TC.intro PJ ⟨NQ,rfl,WY⟩ (rN W0 _ n NH h1 (RL.Wh (RS.whole o1 rfl))) ?_;rintro x h2 w2 ⟨T,rfl,hT,o2,l2⟩
 have nT:h.own T=none:=l1.next w1 hT
 have oT:h2.own T=some (.cells (Bp (List.replicate n (-1)))):=by rw[o2];simp[Bp]
 have B:∀(k:IntKind) (j:Nat),j<n->aIndexAddr Tryz.prog 49 (.slice (some ⟨T,0,none⟩) n n) (.int k j)=some (.pointer (some ⟨T,j,none⟩)):=fun k j hj=>by rw[Wc Ac Mb Ji j hj];simp[Ip]
 have Q:∀(g:AHeap) (L:RZ) (j:Nat) (l:Int),g.own T=some (.cells (Bp L))->L[j]?=some l->aload Tryz.prog g 3 ⟨T,j,none⟩=some (.int .i64 l):=fun g L j l ho hl=>by rw[Fq Mb rfl ho];simp[Bp,hl]
 have F:=QB (P:=Tryz.prog) (t:=3) (x:=.int .i64 0) Mb Ji oT (off:=s) (by simp[Bp,hs]) rfl rfl;rw[yy]at F;have w3:=w2.put (.cells (Bp ((List.replicate n (-1)).set s 0))) (w2.lt oT);have l3:Le h (h2.put T (.cells (Bp ((List.replicate n (-1)).set s 0)))):=(l1.trans l2).put _ nT;have G:(h2.put T (.cells (Bp ((List.replicate n (-1)).set s 0)))).own T=some (.cells (Bp ((List.replicate n (-1)).set s 0))):=AHeap.Y3 _ _ _;simp only[HO,Nat.reduceLT,↓reduceIte,Nat.reduceEqDiff,reduceCtorEq,B _ s hs,F];generalize h2.put T (.cells (Bp ((List.replicate n (-1)).set s 0)))=O at*;obtain⟨h5,e5,H,al,o5⟩:=Tt w3 [.int .i64 (s:Int)]
 have nM:h.own O.next=none:=l3.next w3 (qL0 _)
 have aq:T≠O.next:=fun e=>by have:=w3.lt G;omega
 simp only[HO,Nat.reduceLT,↓reduceIte,Nat.reduceEqDiff,reduceCtorEq,DQ,e5];have R:=Ar.start (es:=es) hs (fun a w=>(∃j,j<0/\[s][j]?=some a)/\Jp es a w) (fun a w h=>by grind)
 have gM:GI h5 (.slice (some ⟨O.next,0,none⟩) 1 1) (kz [s]):=GS.full o5 rfl (show 1<1000000000000 by decide)
 refine aab.intro (fun k fr f=>∃(i:Nat) (L:RZ) (m:Value) (met:II),k=n-i/\i<=met.length/\fr=mkF [(0,bv),(5,.slice (some ⟨T,0,none⟩) n n),(6,m),(7,.int .i64 i)]/\
   f.own T=some (.cells (Bp L))/\Le h f/\GI f m (kz met)/\blk m≠some T/\Z2 h m/\Ar n es s L met (fun a w=>(∃j,j<i/\met[j]?=some a)/\Jp es a w)/\(L,met)=awI (Zh n es) n s i)
  n [(0,bv),(5,.slice (some ⟨T,0,none⟩) n n),(6,.slice (some ⟨O.next,0,none⟩) 1 1),(7,.int .i64 (0:Nat))] fD
  ⟨0,_,_,[s],rfl,Og _,rfl,H.own _ _ G,l3.trans H,gM,by grind [blk],fun b hb=>by grind [blk],R,rfl⟩ ?_
 clear R gM aq nM o5 al H e5 h5 G l3 w3 F oT o2 l2 w2;clear O h2;rintro k fr f C ⟨i,L,m,met,rfl,hi,rfl,oT,leq,gm,nm,am,v,eI⟩;have lm:=fun g=>gm.rl.Uc g;have S:=v.abP;rw[y6]at lm;simp only[HO,Nat.reduceLT,↓reduceIte,Nat.reduceEqDiff,reduceCtorEq,lm];refine Kl.intro (fun U=>?_) (fun hf=>?_)
 rotate_left
 .have V : met.length <= i := vp hf
  refine Uy ?_;refine⟨L,RL.Wh (RS.whole oT (by grind [Ar.len])),v.finish fun a w ha I=>⟨?_,I⟩,leq,by grind [NY.eq_1,vk]⟩
  grind [List.mem_iff_getElem?]
 have c:i<met.length:=CC U;clear U;have o:=CA c;have W:=sY c;have D:=gm.rl.TA i (by rw[y6];exact c);have p:=gm.rl.DH i (by rw[y6];exact c);rw[W]at p;generalize met[i]=u at o p;clear W;have y:u∈met:=Gc o;have ar:u<n:=(v.mm u y).1;have J:u<(Zh n es).length:=by grind [Xq]
 have av:=hb.NS u J;obtain⟨uv,ay,r⟩:=hb.Wm u J;have az:(Zh n es).getD u []=(Zh n es)[u]:=D4 J;generalize (Zh n es)[u]=row at r az;have lr:=fun g=>r.Uc g;have bb:row.length<=3000:=by
  have:=bV n es row (by grind);omega
 simp only[HO,Nat.reduceLT,↓reduceIte,Nat.reduceEqDiff,reduceCtorEq,D,p,av,ay f leq,lr];have X:Ar n es s L met (fun a w=>((∃j,j<i/\met[j]?=some a)/\Jp es a w)\/(a=u/\(w:Int)∈row.take 0)):=v.mono fun a w h=>by grind
 refine aab.intro (fun k fr f=>∃(q:Nat) (L:RZ) (m:Value) (met:II),k=row.length-q/\q<=row.length/\fr=mkF [(0,bv),(5,.slice (some ⟨T,0,none⟩) n n),(6,m),(7,.int .i64 i),(31,uv),(32,.int .i64 row.length),(33,.int .i64 q)]/\
   f.own T=some (.cells (Bp L))/\Le h f/\GI f m (kz met)/\blk m≠some T/\Z2 h m/\met[i]?=some u/\Ar n es s L met (fun a w=>((∃j,j<i/\met[j]?=some a)/\Jp es a w)\/(a=u/\(w:Int)∈row.take q))/\(L,met)=(row.take q).foldl (awS u) (awI (Zh n es) n s i))
  row.length [(0,bv),(5,.slice (some ⟨T,0,none⟩) n n),(6,m),(7,.int .i64 i),(31,uv),(32,.int .i64 row.length),(33,.int .i64 (0:Nat))] fD
  ⟨0,L,m,met,rfl,Og _,rfl,oT,leq,gm,nm,am,o,X,eI⟩ ?_
 have aC:awI (Zh n es) n s (i+1)=row.foldl (awS u) (awI (Zh n es) n s i):=by grind [awI.eq_2]
 clear X eI D p lm;clear y o c S v am nm gm leq oT C hi;clear f L m met;rintro k fr f C ⟨q,L,m,met,rfl,bg,rfl,oT,leq,gm,nm,am,o,v,eI⟩;have y:u∈met:=Gc o;have S:=v.abP;have c:=(Ny.1 o).1;refine Uy ?_;refine Kl.intro (fun U=>?_) (fun hf=>?_)
 rotate_left
 .have V : row.length <= q := vp hf
  simp only[HO,Nat.reduceLT,↓reduceIte,Nat.reduceEqDiff,reduceCtorEq,aaa i NH];refine tn (n-(i+1)) [(0,bv),(5,.slice (some ⟨T,0,none⟩) n n),(6,m),(7,.int .i64 (i+1:Nat))] NH fD ⟨i+1,L,m,met,rfl,c,rfl,oT,leq,gm,nm,am,v.mono fun a w h=>?_,by rw[aC,eI,yM V]⟩
  grind [EW]
 have z:q<row.length:=CC U;clear U;have Y:=r.TA q z;have K:=(r.le Nn.RP leq).DH q z;have aD:row.take (q+1)=row.take q++[row[q]]:=Sb z;have M:row[q]∈(Zh n es).getD u []:=pw;generalize row[q]=x at K aD M;obtain⟨w,rfl,N⟩:=Ru hR M;have I:=(EW hR u w).1 M;have E:=CA (show w<L.length by grind [Ar.len]);generalize L[w]'(by grind)=lw at E
 have Z:=Q f L w lw oT E;have aa:∀(A:II),(∀j,j<met.length->A[j]?=met[j]?)->∀a b,((∃j,j<i/\A[j]?=some a)/\Jp es a b)\/(a=u/\(b:Int)∈row.take (q+1))->
   (((∃j,j<i/\met[j]?=some a)/\Jp es a b)\/(a=u/\(b:Int)∈row.take q))\/b=w:=fun A hm a b h=>by grind
 have eS:(row.take (q+1)).foldl (awS u) (awI (Zh n es) n s i)=awS u (L,met) (w:Int):=pw;have gw:L.getD w 0=lw:=pw;by_cases c4:lw<0
 rotate_left
 .simp only [HO, Nat.reduceLT, ↓reduceIte, Nat.reduceEqDiff, reduceCtorEq, Y, K, B _ w N, Z, c4, aaa q NH]
  exact tn (row.length-(q+1)) [(0,bv),(5,.slice (some ⟨T,0,none⟩) n n),(6,m),(7,.int .i64 i),(31,uv),(32,.int .i64 row.length),(33,.int .i64 (q+1:Nat))] NH fD
   ⟨q+1,L,m,met,rfl,z,rfl,oT,leq,gm,nm,am,o,v.stay E NH (aa met fun _ _=>rfl),by grind [awS.eq_1,Int.toNat_natCast]⟩
 obtain⟨a7,_,d,hd,bh⟩:=v.mm u y;have bk:=v.bd u d hd;have aF:=Q f L u d oT hd;have D:=gm.rl.TA i (by rw[y6];exact c);have p:=gm.rl.DH i (by rw[y6];exact c);rw[sY c,show met[i]=u by grind]at p;have aH:awrap .i64 (d+1)=d+1:=ie _ NH NH;have st1:aStore Tryz.prog f 3 (.pointer (some ⟨T,w,none⟩)) (.int .i64 (d+1))=some (f.put T (.cells (Bp (L.set w (d+1))))):=by rw[QB (P:=Tryz.prog) (t:=3) (x:=.int .i64 (d+1)) Mb Ji oT (off:=w) (by rw[uE,v.len];exact N) rfl rfl,yy]
 have aJ:WF (f.put T (.cells (Bp (L.set w (d+1))))):=C.put _ (C.lt oT);have aK:Le h (f.put T (.cells (Bp (L.set w (d+1))))):=leq.put _ nT;have aP:(f.put T (.cells (Bp (L.set w (d+1))))).own T=some (.cells (Bp (L.set w (d+1)))):=AHeap.Y3 _ _ _;have aT:GI (f.put T (.cells (Bp (L.set w (d+1))))) m (kz met):=GS.put gm _ nm;simp only[HO,Nat.reduceLT,↓reduceIte,Nat.reduceEqDiff,reduceCtorEq,Y,K,B _ w N,Z,c4,D,p,B _ u ar,aF,aH,st1];generalize f.put T (.cells (Bp (L.set w (d+1))))=O at*;obtain⟨ae,h5,h6,e5,e6,g6,w6,l5,hf,hk⟩:=aT.push aJ (w:Int) (by grind [y6]);obtain⟨l6,a6⟩:=hf h aK am;obtain⟨aW,aX⟩:=hk T _ aP nm;have ag:kz met++[(w:Int)]=kz (met++[w]):=by simp[kz]
 rw[ag]at g6;simp only[HO,Nat.reduceLT,↓reduceIte,Nat.reduceEqDiff,reduceCtorEq,e5,e6,aaa q NH];exact tn (row.length-(q+1)) [(0,bv),(5,.slice (some ⟨T,0,none⟩) n n),(6,ae),(7,.int .i64 i),(31,uv),(32,.int .i64 row.length),(33,.int .i64 (q+1:Nat))] NH fD
  ⟨q+1,_,ae,met++[w],rfl,z,rfl,aW,l6,g6,aX,a6,(by grind),v.push y hd I E c4 (aa _ fun j hj=>Eh hj),by rw[eS,awS,HV];simp only[gw];rw[if_pos c4,qH,hd];rfl⟩
def d20:decide ((20:Int)=0)=false:=by decide
theorem d2:decide ((2:Int)=0)=false:=by decide
def xe (x y:Int):aBuild Tryz.prog 38 [(0,.int .i64 x),(1,.int .i64 y)]=some (UI (x,y)):=Ji
def aem (i:LA) (v:Value) (G:GM) (a b:Int) (h:AHeap) (hg:GR h v G):AC Tryz.prog i 33 [v,.int .i64 a,.int .i64 b] h fun x h'=>RR (bX G/\(min a b,max a b)∈G.es) x/\Le h h':=by
 have j:=hg;obtain⟨A,es⟩:=G
 obtain⟨C,rfl,u⟩:=hg.open
 refine AC.vE ⟨Tryz.func33,rfl,WY⟩ Tryz.ntmps33 Tryz.results33 fun k=>?_;simp only[Br,Nat.reduceAdd];obtain⟨w,D,d,E,-,y⟩:=r8 (n:=A) k u
 generalize h.next=B at*
 have l:=y w (Le.refl _);refine Sk (XC D l.1) ?_;refine TC.intro PJ ⟨pE,rfl,WY⟩ (ak i _ _ w (j.le d)) ?_;rintro x h2 F ⟨⟨H,rfl,g⟩,e⟩;have m:=y h2 e;cases H with
 |false=>
  refine Uy ?_;exact⟨RR.f (fun h=>by cases g.2 h.1),d.trans e⟩
 |true=>
  have o:=g.1 rfl;have z:es.length<=594:=o.len;have mn:aMin (.int .i64 a) [.int .i64 b]=some (.int .i64 (min a b)):=by simp only[aMin,if_true];congr 2;rw[Int.min_def];split<;>split<;>omega
  have I:LZ (.int .i64 a) [.int .i64 b]=some (.int .i64 (max a b)):=by simp only[LZ,if_true];congr 2;rw[Int.max_def];split<;>split<;>omega
  simp only[HO,Nat.reduceLT,↓reduceIte,Nat.reduceEqDiff,reduceCtorEq,Di,Ip,XJ,m.2.2,mn,I,xe];refine TC.intro PJ ⟨Tryz.func70,rfl,WY⟩ (xm i 63 Tryz.f63 _ ⟨Tryz.func63,rfl,WY⟩ (fun p q h=>DU i p q h) C es (min a b,max a b) h2 (u.le (d.trans e)) NH o.q9) ?_;rintro x h3 J ⟨⟨K,c,rfl,r,s⟩,t⟩;refine Uy ?_;refine⟨⟨c,rfl,?_⟩,(d.trans e).trans t⟩;cases c with
  |true=>exact⟨fun _=>⟨o,Gc (r rfl)⟩,fun _=>rfl⟩
  |false=>exact⟨(fun h=>by cases h),fun h=>absurd h.2 (s rfl)⟩
end
end Go.Fw
namespace Go.Fw
open Go.Proofs
section
variable {α : Type} [DecidableEq α]
def setK:List (α×Int)->α->Int->List (α×Int)
 |[],k,v=>[(k,v)]
 |(a,b)::r,k,v=>if a=k then(k,v)::r else(a,b)::setK r k v
def lookK:List (α×Int)->α->Option Int
 |[],_=>none
 |(a,b)::r,k=>if a=k then some b else lookK r k
theorem XR (l:List (α×Int)) (k a:α) (v:Int):lookK (setK l k v) a=if k=a then some v else lookK l a:=by
 induction l<;>grind [setK,lookK]
theorem Ek (l:List (α×Int)) (k:α) (v:Int):(lookK l k=none/\setK l k v=l++[(k,v)])\/∃(j:Nat) (b:Int),lookK l k=some b/\l[j]?=some (k,b)/\(∀i,i<j->∀x,l[i]?=some x->x.1≠k)/\setK l k v=l.set j (k,v):=by
 induction l with
 |nil=>exact .inl ⟨rfl,rfl⟩
 |cons x r e=>
  obtain⟨a,b⟩:=x;simp only[setK,lookK];by_cases h:a=k
  .subst h
   rw[if_pos rfl,if_pos rfl];exact .inr ⟨0,b,rfl,rfl,NH,rfl⟩
  .rw [if_neg h, if_neg h]
   rcases e with⟨d,h2⟩|⟨j,c,d,h2,h3,f⟩
   .grind
   .refine .inr ⟨j + 1, c, d, pw, fun i hi x g => ?_, by rw [f]; rfl⟩
    cases i<;>grind
end
def wy (l:List (Pr×Int)):List (Value×Value):=l.map fun x=>(UI x.1,.int .i64 x.2)
theorem afind_mapP (k:Pr):∀(l:List (Pr×Int)) (i:Nat),(lookK l k=none->afind Tryz.prog 38 (UI k) (wy l) i=some none)/\∀(j:Nat) b,l[j]?=some (k,b)->(∀q,q<j->∀x,l[q]?=some x->x.1≠k)->afind Tryz.prog 38 (UI k) (wy l) i=some (some (i+j,.int .i64 b))
 |[],i=>⟨fun _=>rfl,pw⟩
 |(a,b)::r,i=>by
  obtain⟨g,h2⟩:=afind_mapP k r (i+1)
  have un:afind Tryz.prog 38 (UI k) (wy ((a,b)::r)) i=match aEq Tryz.prog 38 (UI k) (UI a)with|some true=>some (some (i,.int .i64 b))|some false=>afind Tryz.prog 38 (UI k) (wy r) (i+1)|none=>none:=rfl
  rw[un,eqP];constructor
  .grind [lookK]
  .intro j c f d
   cases j with
   |zero=>
    grind
   |succ j=>
    have e:a≠k:=d 0 NH (a,b) rfl;have:decide (k=a)=false:=by simpa using Ne.symm e
    rw[this];show afind Tryz.prog 38 (UI k) (wy r) (i+1)=_;rw[h2 j c (by simpa using f) pw];congr 3;omega
def keyP (p:Pr):keyArr Tryz.prog 38 (UI p)=true:=by
 have:allInts [.int .i64 p.1,.int .i64 p.2]=some [(IntKind.i64,p.1),(IntKind.i64,p.2)]:=rfl;simp[keyArr,qS8,Mb,UI,this,ts3]
def wD {h:AHeap} {x:Value} (p:Pr) (ok:Bool):aLookup Tryz.prog h 88 x (UI p) ok=none:=by simp only[aLookup,qS24,UI]
theorem Il {h:AHeap} {M:Nat} {l:List (Pr×Int)} (a:h.own M=some (.map (wy l))) (k:Pr) (ok:Bool):
  aLookupA Tryz.prog h 88 (.map (some M)) (UI k) ok=some (bif ok then .tuple #[.int .i64 ((lookK l k).getD 0),.bool (lookK l k).isSome]else .int .i64 ((lookK l k).getD 0)):=by
 have c:azero Tryz.prog 3=some (.int .i64 0):=Ji;simp only[aLookupA,qS24,keyP,a,c,show flat (.int .i64 0)=true from rfl,if_true];rcases Ek l k 0 with⟨d,_⟩|⟨j,b,d,h2,h3,_⟩
 .grind [afind_mapP]
 grind [afind_mapP]
end Go.Fw
namespace Go.Fw
section
attribute [local irreducible] Kp MQ lU KO1 KO KN KX KE VK Kl ZJ TC aab
open Go.Proofs
theorem Walk_any (j:LA) (v:Value) (n s:Nat) (es:List Pr) (h:AHeap) (hg:GR h v ⟨(n:Int),es⟩) (f:bX ⟨(n:Int),es⟩) (hs:s<n):
  AC Tryz.prog j 129 [v,.int .i64 (s:Int)] h fun x h'=>∃d U o up,x=.tuple #[d,.slice (some ⟨U,0,none⟩) n n,.int .i64 0]/\GI h' d (kz o)/\(h'.own U=some (.cells (Bp up))/\blk d≠some U/\h.own U=none)/\Oc n es s o up/\Le h h'/\Z2 h d:=by
 have k:=hg
 obtain⟨O,rfl,D⟩:=hg.open
 have z:(n:Int)<=200:=f.n1;have A:es.length<=594:=f.len;refine AC.vE ⟨Tryz.func129,rfl,WY⟩ Tryz.ntmps129 Tryz.results129 fun l=>?_;simp only[Br,Nat.reduceAdd];obtain⟨m,E,g,p,-,F⟩:=r8 (n:=(n:Int)) l D
 generalize h.next=B at*
 have q:=F m (Le.refl _);obtain⟨h2,G,l2,w2,H⟩:=Tt p [.int .i64 (s:Int)]
 have rs:RL RP h2 (.slice (some ⟨m.next,0,none⟩) 1 1) [(s:Int)]:=RL.Wh (RS.whole H rfl)
 refine Sk (xU E q.1 @DQ G) ?_
 generalize Value.slice (some ⟨m.next,0,none⟩) 1 1=I at*
 refine TC.intro PJ ⟨qS33,rfl,WY⟩ (N7 j _ I ⟨(n:Int),es⟩ [(s:Int)] h2 (k.le (g.trans l2)) rs Ma) ?_;rintro x h3 J ⟨r,K,e,rfl,L⟩;have c:=(g.trans l2).trans r;have i:∀x∈[(s:Int)],0<=x/\x<(n:Int):=fun x P=>by grind
 rcases L with⟨t,_,_⟩|⟨_,u,_,_⟩|⟨_,_,rfl,a⟩
 .exact absurd f t
 .exact absurd i u
 .simp only [HV] at a
  refine Sk @bne.eq_1.{0} ?_
  refine TC.intro PJ ⟨Tryz.func114,rfl,WY⟩ (V6 j K n s es h3 a f.GD f.q9 NH NH hs) ?_;rintro x Q M ⟨d,N,o,up,rfl,C,w,hd,y,ap⟩;refine Uy ?_;refine⟨d,N,o,up,rfl,C,⟨w.1,w.2.1,c.none w.2.2⟩,hd,c.trans y,?_⟩;intro b hb;cases C:h.own b with
  |none=>rfl
  |some o=>have:=ap b hb;grind [Le.own]
end
end Go.Fw
namespace Go.Fw
open Go.Proofs
abbrev Lw:=Int×Int×Int
def MK (p:Lw):List Value:=[.int .i64 p.1,.int .i64 p.2.1,.int .i64 p.2.2]
def valL (p:Lw):Value:=.agg #[.int .i64 p.1,.int .i64 p.2.1,.int .i64 p.2.2]
def Wo (ps:List Lw):List Value:=ps.flatMap MK
theorem Fx:∀(ps:List Lw) (i:Nat) (p:Lw),ps[i]?=some p->(Wo ps)[i*3]?=some (.int .i64 p.1)/\(Wo ps)[i*3+1]?=some (.int .i64 p.2.1)/\(Wo ps)[i*3+2]?=some (.int .i64 p.2.2)
 |[],i,p,h=>by simp at h
 |q::ps,0,p,h=>by grind [Wo,MK]
 |q::ps,i+1,p,h=>by
  have:=Fx ps i p (by simpa using h);have e:Wo (q::ps)=.int .i64 q.1::.int .i64 q.2.1::.int .i64 q.2.2::Wo ps:=rfl;rw[e,show(i+1)*3=(i*3+2)+1 by omega];simpa using this
theorem cH:∀(ps:List Lw) (i:Nat) (p q:Lw),ps[i]?=some p->
  Wo (ps.set i q)=(((Wo ps).set (i*3) (.int .i64 q.1)).set (i*3+1) (.int .i64 q.2.1)).set (i*3+2) (.int .i64 q.2.2)
 |[],i,p,q,h=>by simp at h
 |r::ps,0,p,q,h=>by simp[Wo,MK]
 |r::ps,i+1,p,q,h=>by
  have:=cH ps i p q (by simpa using h);have e:∀(r:Lw) ps,Wo (r::ps)=.int .i64 r.1::.int .i64 r.2.1::.int .i64 r.2.2::Wo ps:=fun _ _=>rfl
  grind
theorem agz (ps:List Lw) (i:Nat) (p:Lw) (x:Int) (h:ps[i]?=some p):Wo (ps.set i (p.1,p.2.1,x))=(Wo ps).set (i*3+2) (.int .i64 x):=by
 rw[cH ps i p _ h];obtain⟨a,b,c⟩:=Fx ps i p h;apply V3
 grind
def ts51:UA Tryz.prog 108=3:=Ji
def zrow3 (n:Nat):zrow [Value.int .i64 0,.int .i64 0,.int .i64 0] n=Wo (List.replicate n (0,0,0)):=by
 induction n with
 |zero=>rfl
 |succ n a=>rw[zrow,a];rfl
def mkL (h:AHeap) (n:Nat) (e:n<=100000):aMakeSlice Tryz.prog h 104 (.int .i64 n) (.int .i64 n)=some (.slice (some ⟨h.next,0,none⟩) n n,h.alloc (.cells (Wo (List.replicate n (0,0,0))))):=by
 have b:azero Tryz.prog 108=some (.agg #[.int .i64 0,.int .i64 0,.int .i64 0]):=Ji;have hb:Tryz.prog.bytesOf 108=24:=Ji;have c:(24:Int)*n<=140737488355328:=NH;have d:(n:Int)<=140737488355328:=NH;have one:(Wo (List.replicate n (0,0,0))).all (·.oneCell')=true:=by
  rw[ff];intro x a;rw[Wo,Yi]at a;obtain⟨p,_,a⟩:=a;simp[MK]at a;rcases a with rfl|rfl|rfl<;>rfl
 simp[aMakeSlice,qS9,qS37,b,hb,ts51,Value.cells,flat,c,d,IF,zrow3,one]
section
variable {h : AHeap} {L n : Nat} {ls : List Lw}
def Is {k:IntKind} {cap:Nat} (v:Nat) (b:v<n):aIndexAddr Tryz.prog 104 (.slice (some ⟨L,0,none⟩) n cap) (.int k v)=some (.pointer (some ⟨L,v*3,none⟩)):=by
 have a:(v:Int)<(n:Int):=NH;simp[aIndexAddr,qS9,qS37,a,ts51,Ip]
def fl0 (a:Addr):aField Tryz.prog 108 (.pointer (some a)) 0=some (.pointer (some (Ip a 0))):=rfl
def fl1 (a:Addr):aField Tryz.prog 108 (.pointer (some a)) 1=some (.pointer (some (Ip a 1))):=rfl
def fl2 (a:Addr):aField Tryz.prog 108 (.pointer (some a)) 2=some (.pointer (some (Ip a 2))):=rfl
def Nh (a:h.own L=some (.cells (Wo ls))) {v:Nat} {p:Lw} (b:ls[v]?=some p):aload Tryz.prog h 3 ⟨L,v*3,none⟩=some (.int .i64 p.1):=by rw[Fq Mb rfl a,(Fx ls v p b).1]
def lUp (a:h.own L=some (.cells (Wo ls))) {v:Nat} {p:Lw} (b:ls[v]?=some p):aload Tryz.prog h 3 ⟨L,v*3+1,none⟩=some (.int .i64 p.2.1):=by rw[Fq Mb rfl a,(Fx ls v p b).2.1]
def jA (a:h.own L=some (.cells (Wo ls))) {v:Nat} {p:Lw} (b:ls[v]?=some p):aload Tryz.prog h 3 ⟨L,v*3+2,none⟩=some (.int .i64 p.2.2):=by rw[Fq Mb rfl a,(Fx ls v p b).2.2]
def sLow (b:h.own L=some (.cells (Wo ls))) {v:Nat} {p:Lw} (a:ls[v]?=some p) (x:Int):
  aStore Tryz.prog h 3 (.pointer (some ⟨L,v*3+2,none⟩)) (.int .i64 x)=some (h.put L (.cells (Wo (ls.set v (p.1,p.2.1,x))))):=by
 rw[agz ls v p x a];exact QB (P:=Tryz.prog) (t:=3) (x:=.int .i64 x) Mb Ji b (off:=v*3+2) (Ny.1 (Fx ls v p a).2.2).1 rfl rfl
def sAll (b:h.own L=some (.cells (Wo ls))) {v:Nat} (c:v<ls.length) (q:Lw):
  aStore Tryz.prog h 108 (.pointer (some ⟨L,v*3,none⟩)) (valL q)=some (h.put L (.cells (Wo (ls.set v q)))):=by
 have a:=CA c;rw[cH ls v _ q a];have e:=(Ny.1 (Fx ls v _ a).2.2).1;have d:v*3+3<=(Wo ls).length:=NH;simp[aStore,b,valL,Value.cells,ts51,putCells,qS37,d,Value.oneCell']
end
end Go.Fw
namespace Go.Fw
section
open Go.Proofs
variable {es:List Pr} {i n s v:Nat} {ls:List Lw} {o:II} {up:RZ}
def Ro (ls:List Lw) (v:Nat):Lw:=ls.getD v (0,0,0)
def putA (up:RZ):II->List Lw×II->List Lw×II
 |[],st=>st
 |v::r,(ls,o)=>putA up r (ls.set v (((o.length+1:Nat):Int),up.getD v 0,((o.length+1:Nat):Int)),o++[v])
def jl (n:Nat) (es:List Pr) (i:Nat) (st:List Lw×II):List Lw×II:=
 if(Ro st.1 i).1=0 then putA (K9 n es i).2 (K9 n es i).1 st else st
def metM (n:Nat) (es:List Pr):Nat->List Lw×II
 |0=>(List.replicate n (0,0,0),[])
 |i+1=>jl n es i (metM n es i)
def bS (ls:List Lw) (e:Pr):List Lw:=
 let a:=e.1.toNat;let b:=e.2.toNat
 if(Ro ls a).2.1=e.2\/(Ro ls b).2.1=e.1 then ls
 else
  let l1:=ls.set a ((Ro ls a).1,(Ro ls a).2.1,min (Ro ls a).2.2 (Ro ls b).1)
  l1.set b ((Ro l1 b).1,(Ro l1 b).2.1,min (Ro l1 b).2.2 (Ro l1 a).1)
def Ke (ls:List Lw) (v:Nat):List Lw:=
 let u:=(Ro ls v).2.1
 if 0<=u then ls.set u.toNat ((Ro ls u.toNat).1,(Ro ls u.toNat).2.1,min (Ro ls u.toNat).2.2 (Ro ls v).2.2)else ls
def Jz (n:Nat) (es:List Pr):List Lw×II:=((metM n es n).2.reverse.foldl Ke (es.foldl bS (metM n es n).1),(metM n es n).2)
theorem V0 (h:v<ls.length):ls[v]?=some (Ro ls v):=by grind [Ro]
structure LowI (n:Nat) (ls:List Lw) (o:II):Prop where
 len:ls.length=n
 up:∀v,v<n->(Ro ls v).2.1<(n:Int)
 lt:∀v∈o,v<n
 nd:o.Nodup
 num:∀v,v<n->((Ro ls v).1=0↔v∉o)
theorem Uw (ls:List Lw) (v:Nat) (q:Lw) (u:Nat):Ro (ls.set v q) u=if v=u/\v<ls.length then q else Ro ls u:=by grind [Ro]
theorem du.upR (a:aV n es) (hs:s<n) (d:du n es s o up):∀v,up.getD v 0<(n:Int):=by
 induction d with
 |start=>
  grind
 |@step o up k v w d c ha hw e hf b=>
  intro x;simp only[qH,fj];have:=b x;split
  .split
   .have:=(ha.lt a).1;simp;omega
   grind
  .exact this
theorem Rx {n:Nat} {up:RZ} (a:∀v,up.getD v 0<(n:Int)):∀(l:II) {ls:List Lw} {o:II},LowI n ls o->l.Nodup->(∀v∈l,v<n/\v∉o)->
  LowI n (putA up l (ls,o)).1 (putA up l (ls,o)).2/\(putA up l (ls,o)).2=o++l
 |[],ls,o,I,_,_=>by grind [putA]
 |v::r,ls,o,I,c,e=>by
  rw[aaf]at c;have d:LowI n (ls.set v (((o.length+1:Nat):Int),up.getD v 0,((o.length+1:Nat):Int))) (o++[v]):=by
   refine⟨by simp[I.len],fun u b=>?_,fun u b=>?_,?_,fun u b=>?_⟩
   .rw [Uw]; split
    .exact a v
    .exact I.up u b
   .grind [LowI.lt]
   .grind [LowI.nd]
   grind [Uw,LowI.len,LowI.num]
  obtain⟨f,g⟩:=Rx a r d c.2 pw
  grind [putA.eq_2]
theorem con_back (a:∀u w,Jp es u w->u∈o->w∈o) (h:Pu es i v):v∈o->i∈o:=by
 induction h<;>grind [Jp.symm]
structure cV (n:Nat) (es:List Pr) (ls:List Lw) (o:II):Prop extends LowI n ls o where
 cl:∀u w,Jp es u w->u∈o->w∈o
def TY (a:aV n es) (I:cV n es ls o) (hi:i<n) (c:(Ro ls i).1=0):
  (K9 n es i).1.Nodup/\∀v∈(K9 n es i).1,v<n/\v∉o:=by
 have D:=Te a hi;refine⟨D.KP.nodup,fun v b=>⟨((D.mem v).1 b).lt a hi,fun d=>(I.num i hi).1 c (con_back I.cl ((D.mem v).1 b) d)⟩⟩
theorem fromA_C (b:aV n es) (I:cV n es ls o) (hi:i<n):
  cV n es (jl n es i (ls,o)).1 (jl n es i (ls,o)).2/\i∈(jl n es i (ls,o)).2/\∀v∈o,v∈(jl n es i (ls,o)).2:=by
 unfold jl;split
 .rename_i c
  obtain⟨f,g⟩:=TY b I hi c;have D:=Te b hi;obtain⟨d,h⟩:=Rx (D.KP.upR b hi) (K9 n es i).1 I.toLowI f g;rw[h]at d ⊢;refine⟨⟨d,fun u w ha a=>?_⟩,BR _ ((D.mem i).2 (Pu.refl es i)),(by grind [List.mem_append_left])⟩;rw[qL7]at a ⊢;rcases a with a|a
  .grind [cV.cl]
  .exact .inr (D.full u a w ha)
 .rename_i c
  refine⟨I,?_,fun v j=>j⟩;by_cases e:i∈o
  .exact e
  .exact absurd ((I.num i hi).2 e) c
theorem ZC {n:Nat} {es:List Pr} (a:aV n es):∀i,i<=n->cV n es (metM n es i).1 (metM n es i).2/\∀v,v<i->v∈(metM n es i).2
 |0,_=>⟨⟨⟨by simp[metM],(by grind [metM,Ro]),by simp[metM],by simp[metM],(by grind [metM,Ro])⟩,by simp[metM]⟩,NH⟩
 |i+1,hi=>by
  obtain⟨I,b⟩:=ZC a i NH;obtain⟨c,d,f⟩:=fromA_C a I (i:=i) NH;refine⟨c,fun v g=>?_⟩;by_cases e:v=i
  .subst e;exact d
  .exact f v (b v NH)
theorem LowI.Em (I:LowI n ls o):o.length<=n:=by
 have:=I.nd.length_le_of_subset (l₂:=List.range n) (by grind [LowI.lt])
 grind
end
section
attribute [local irreducible] Kp MQ lU KO1 KO KN KX KE VK Kl ZJ TC aab
open Go.Proofs
variable {L LV n:Nat} {h:AHeap} {ls:List Lw} {o:II} {ov:Value}
def mkCap (h:AHeap) (n:Nat) (d:n<=100000):aMakeSlice Tryz.prog h 49 (.int .i64 0) (.int .i64 n)=some (.slice (some ⟨h.next,0,none⟩) 0 n,h.alloc (.cells (List.replicate n (.int .i64 0)))):=by
 have a:azero Tryz.prog 3=some (.int .i64 0):=Ji;have hb:Tryz.prog.bytesOf 3=8:=Ji;have b:(8:Int)*n<=140737488355328:=NH;have c:(n:Int)<=140737488355328:=NH;simp[aMakeSlice,Ac,Mb,a,hb,ts3,Value.cells,flat,b,c,IF,HW,Value.oneCell']
def GU.cap {id n:Nat} (a:h.own id=some (.cells (List.replicate n (.int .i64 0)))) (b:n<=100000):GU h (.slice (some ⟨id,0,none⟩) 0 n) []:=
 ⟨by simp[Bp],.inr ⟨id,_,n,rfl,a,by simp[Bp],.inr ⟨Og _,NH,Ma⟩⟩⟩
theorem Dv (a b:Int):aMin (.int .i64 a) [.int .i64 b]=some (.int .i64 (min a b)):=by grind [aMin]
def bL (a b c:Int):aBuild Tryz.prog 108 [(0,.int .i64 a),(1,.int .i64 b),(2,.int .i64 c)]=some (valL (a,b,c)):=Ji
theorem acj (ls:List Lw) (e:Pr):(bS ls e).length=ls.length:=by grind [bS]
def OQ:∀(es:List Pr) (ls:List Lw),(es.foldl bS ls).length=ls.length
 |[],ls=>rfl
 |e::es,ls=>by rw[u3,OQ es,acj]
theorem Bg (ls:List Lw) (a:Nat) (x:Int) (v:Nat):(Ro (ls.set a ((Ro ls a).1,(Ro ls a).2.1,x)) v).1=(Ro ls v).1/\(Ro (ls.set a ((Ro ls a).1,(Ro ls a).2.1,x)) v).2.1=(Ro ls v).2.1:=by grind [Uw]
theorem ab7 (ls:List Lw) (e:Pr) (v:Nat):(Ro (bS ls e) v).1=(Ro ls v).1/\(Ro (bS ls e) v).2.1=(Ro ls v).2.1:=by grind [bS,Bg]
theorem RK:∀(es:List Pr) (ls:List Lw) (v:Nat),(Ro (es.foldl bS ls) v).1=(Ro ls v).1/\(Ro (es.foldl bS ls) v).2.1=(Ro ls v).2.1
 |[],ls,v=>⟨rfl,rfl⟩
 |e::es,ls,v=>by
  rw[u3];obtain⟨a1,a2⟩:=RK es (bS ls e) v
  grind [ab7]
theorem tU (ls:List Lw) (x v:Nat):(Ro (Ke ls x) v).1=(Ro ls v).1/\(Ro (Ke ls x) v).2.1=(Ro ls v).2.1:=by grind [Ke,Bg]
theorem ack:∀(o:II) (ls:List Lw) (v:Nat),(Ro (o.foldl Ke ls) v).1=(Ro ls v).1/\(Ro (o.foldl Ke ls) v).2.1=(Ro ls v).2.1
 |[],ls,v=>⟨rfl,rfl⟩
 |e::es,ls,v=>by
  rw[u3];obtain⟨a1,a2⟩:=ack es (Ke ls e) v
  grind [tU]
theorem bq (ls:List Lw) (v:Nat):(Ke ls v).length=ls.length:=by grind [Ke]
theorem Qp:∀(o:II) (ls:List Lw),(o.foldl Ke ls).length=ls.length
 |[],ls=>rfl
 |e::es,ls=>by rw[u3,Qp es,bq]
def LG (h:AHeap):aAlloc Tryz.prog h 104=some (.pointer (some ⟨h.next,0,none⟩),h.alloc (.cells [.slice none 0 0])):=rfl
structure TP (h1 hq:AHeap) (LV L n:Nat) (ov:Value) (ls:List Lw) (o:II):Prop where
 oV:hq.own LV=some (.cells [.slice (some ⟨L,0,none⟩) n n])
 oL:hq.own L=some (.cells (Wo ls))
 go:GU hq ov (kz o)
 nb:blk ov≠some LV/\blk ov≠some L
 le:Le h1 hq
 nn:h1.own LV=none/\h1.own L=none/\LV≠L
 ao:Z2 h1 ov
theorem TP.put {b c:AHeap} {d L n:Nat} {e:Value} {ls:List Lw} {o:II} (S:TP b c d L n e ls o) (a:List Lw):TP b (c.put L (.cells (Wo a))) d L n e a o:=
 ⟨by rw[AHeap.By _ _ _ _ S.nn.2.2];exact S.oV,AHeap.Y3 _ _ _,GT.put S.go _ S.nb.2,S.nb,S.le.put _ S.nn.2.1,S.nn,S.ao⟩
theorem TP.kept {a b c:AHeap} (S:TP a b LV L n ov ls o) (e:Le b c):TP a c LV L n ov ls o:=
 ⟨e.own _ _ S.oV,e.own _ _ S.oL,S.go.le e,S.nb,S.le.trans e,S.nn,S.ao⟩
def Ze (up:RZ):∀(a b:II) (st:List Lw×II),putA up (a++b) st=putA up b (putA up a st)
 |[],b,st=>rfl
 |x::a,b,(ls,o)=>by rw[WZ,putA,putA,Ze up a b]
theorem TP.push {e a:AHeap} {i L n:Nat} {f:Value} {ls:List Lw} {o:II} (S:TP e a i L n f ls o) (g:WF a) (x:Nat) (r:o.length<=1000):
  ∃v' d c,aBuildSlice Tryz.prog a 49 1 [(0,.int .i64 (x:Int))]=some (.slice (some ⟨a.next,0,none⟩) 1 1,d)/\aAppend Tryz.prog d 49 49 f (.slice (some ⟨a.next,0,none⟩) 1 1)=some (v',c)/\TP e c i L n v' ls (o++[x])/\WF c/\
   (∀b o,a.own b=some o->blk f≠some b->c.own b=some o/\blk v'≠some b):=by
 obtain⟨v',d,c,e4,j,s,k,l4,hf,h⟩:=S.go.push g (x:Int) (by grind [y6]);obtain⟨k1,k2⟩:=h _ _ S.oV S.nb.1;obtain⟨l,m⟩:=h _ _ S.oL S.nb.2;obtain⟨p,q⟩:=hf e S.le S.ao;exact⟨v',d,c,e4,j,⟨k1,l,by grind [kz],⟨k2,m⟩,p,S.nn,q⟩,k,h⟩
theorem qX (W0:LA) (v:Value) (G:GM) (h:AHeap) (hg:GR h v G):
  AC Tryz.prog W0 84 [v] h fun x h'=>Le h h'/\((¬bX G/\x=.tuple #[.slice none 0 0,.slice none 0 0,.int .i64 20])\/
   (bX G/\∃L m,x=.tuple #[.slice (some ⟨L,0,none⟩) G.n.toNat G.n.toNat,m,.int .i64 0]/\h'.own L=some (.cells (Wo (Jz G.n.toNat G.es).1))/\h.own L=none/\GU h' m (kz (Jz G.n.toNat G.es).2)/\blk m≠some L/\Z2 h m)):=by
 have aq:=hg;obtain⟨gn,es⟩:=G
 obtain⟨ev,rfl,hp⟩:=hg.open
 refine AC.vE ⟨Tryz.func84,rfl,WY⟩ Tryz.ntmps84 Tryz.results84 fun bo=>?_;simp only[Br,Nat.reduceAdd];obtain⟨h1,b1,T,cC,-,lA⟩:=r8 (n:=gn) bo hp
 generalize h.next=B at*
 have br:=lA h1 (Le.refl _);simp only[HO,Nat.reduceLT,↓reduceIte,Nat.reduceEqDiff,reduceCtorEq,b1,br.1];refine TC.intro PJ ⟨pE,rfl,WY⟩ (ak W0 _ _ h1 (aq.le T)) ?_;rintro x h2 ar ⟨⟨bb,rfl,bx⟩,r⟩;cases bb with
 |false=>
  refine Uy ?_
  grind [Le.trans]
 |true=>
 have hr:=bx.1 rfl;have h0:0<=gn:=hr.n0;obtain⟨n,rfl⟩:=WA h0;have cp:(n:Int)<=200:=hr.n1;have cq:es.length<=594:=hr.len;have hR:=hr.GD;simp only[HV];have bB:=lA h2 r;obtain⟨h3,e3,l3,w3,o3⟩:=Tt ar (Wo (List.replicate n (0,0,0)));have mk:=mkL h2 n NH;rw[e3]at mk;have al:=LG h3;obtain⟨h4,e4,l4,w4,o4⟩:=Tt w3 [.slice none 0 0];rw[e4]at al
 have st:=QB (P:=Tryz.prog) (t:=104) (x:=.slice (some ⟨h2.next,0,none⟩) n n) qS9 Ji o4 (off:=0) Ma rfl rfl
 have nV:h3.own h3.next=none:=(Le.refl h3).next w3 (qL0 _)
 have nL:h2.own h2.next=none:=(Le.refl h2).next ar (qL0 _)
 have w5:=w4.put (.cells ([Value.slice none 0 0].set 0 (.slice (some ⟨h2.next,0,none⟩) n n))) (w4.lt o4)
 have l5:=(l3.trans l4).put (.cells ([Value.slice none 0 0].set 0 (.slice (some ⟨h2.next,0,none⟩) n n))) (l3.none nV)
 have aa:=AHeap.Y3 h4 h3.next (.cells ([Value.slice none 0 0].set 0 (.slice (some ⟨h2.next,0,none⟩) n n)))
 have ne:h3.next≠h2.next:=fun e=>by grind
 have av:(h4.put h3.next (.cells ([Value.slice none 0 0].set 0 (.slice (some ⟨h2.next,0,none⟩) n n)))).own h2.next=some (.cells (Wo (List.replicate n (0,0,0)))):=by grind [AHeap.By,Le.own]
 have bF:=l3.none nV;simp only[HO,Nat.reduceLT,↓reduceIte,Nat.reduceEqDiff,reduceCtorEq,Ii,Ip,XJ,bB.2.1,mk,al,st];clear st al mk e4 o4 e3 o3
 generalize h4.put h3.next (.cells ([Value.slice none 0 0].set 0 (.slice (some ⟨h2.next,0,none⟩) n n)))=I at*
 generalize h3.next=q at*
 generalize h2.next=L at*
 clear l3 w3 nV w4 l4;clear h3 h4;simp only[List.set_cons_zero]at aa;have ay:=lA I (r.trans l5);obtain⟨h6,e6,l6,w6,o6⟩:=Tt w5 (List.replicate n (.int .i64 0));have mk:=mkCap I n NH;rw[e6]at mk;have az:=lA h6 ((r.trans l5).trans l6)
 have nO:I.own I.next=none:=(Le.refl I).next w5 (qL0 _)
 simp only[HO,Nat.reduceLT,↓reduceIte,Nat.reduceEqDiff,reduceCtorEq,Ii,Ip,XJ,ay.2.1,mk,az.2.1]
 have S6:TP h2 h6 q L n (.slice (some ⟨I.next,0,none⟩) 0 n) (metM n es 0).1 (metM n es 0).2:=
  ⟨l6.own _ _ aa,l6.own _ _ av,GU.cap o6 NH,⟨fun e=>(by injection e with e;grind),fun e=>(by injection e with e;grind)⟩,l5.trans l6,⟨bF,nL,ne⟩,fun b hb=>by injection hb with hb;grind [Le.none]⟩
 generalize Value.slice (some ⟨I.next,0,none⟩) 0 n=ae at*
 clear nO az mk o6 l6 e6 ay l5 av aa w5;refine aab.intro (fun k fr A=>∃(i:Nat) (m:Value),k=n-i/\i<=n/\fr=mkF [(1,.pointer (some ⟨B,0,none⟩)),(5,.pointer (some ⟨q,0,none⟩)),(6,m),(30,.int .i64 n),(31,.int .i64 i)]/\TP h2 A q L n m (metM n es i).1 (metM n es i).2)
  n [(1,.pointer (some ⟨B,0,none⟩)),(5,.pointer (some ⟨q,0,none⟩)),(6,ae),(30,.int .i64 n),(31,.int .i64 (0:Nat))] fD ⟨0,ae,rfl,Og _,rfl,S6⟩ ?_
 clear S6 ae w6;clear h6 I;rintro k fr A J ⟨i,m,rfl,hi,rfl,S⟩;obtain⟨C,aC⟩:=ZC hR i hi;have s:=fun(g:AHeap) (o:g.own q=some (.cells [.slice (some ⟨L,0,none⟩) n n]))=>(Fq (P:=Tryz.prog) qS9 rfl o (off:=0):aload Tryz.prog g 104 ⟨q,0,none⟩=_);simp only[im]at s;refine Uy ?_;refine Kl.intro (fun Z=>?_) (fun hf=>?_)
 .have f : i < n := CC Z
  clear Z;have bH:=Nh S.oL (V0 (ls:=(metM n es i).1) (v:=i) (by rw[C.len];exact f));simp only[HO,Nat.reduceLT,↓reduceIte,Nat.reduceEqDiff,reduceCtorEq,s A S.oV,Is i f,fl0,Ip,zx,bH,bne];by_cases c:(Ro (metM n es i).1 i).1=0
  .have K := lA A (r.trans S.le)
   simp only[HO,Nat.reduceLT,↓reduceIte,Nat.reduceEqDiff,reduceCtorEq,c,K.1];refine TC.intro PJ ⟨Tryz.func129,rfl,WY⟩ (Walk_any W0 _ n i es A (aq.le ((T.trans r).trans S.le)) hr f) ?_;rintro x h7 w7 ⟨R,U,P,up,rfl,gw,⟨oU,nbU,nU⟩,D,l7,aw⟩;have S7:=S.kept l7;obtain⟨p1,p2⟩:=TY hR C f c;have aD:=D.KP.upR hR f;have cE:=D.KP.len.2;have y:metM n es (i+1)=putA up P (metM n es i):=by grind [Oc.eq,metM.eq_2,jl.eq_1]
   obtain⟨e1,-⟩:=D.eq hR f;rw[<-e1]at p1 p2;clear e1 D;have cK:P.length<=n:=by
    have:=p1.length_le_of_subset (l₂:=List.range n) fun x hx=>iy.2 (p2 x hx).1
    grind
   have cM:U≠L/\U≠q:=⟨fun e=>(by rw[e,S.oL]at nU;cases nU),fun e=>(by grind [TP.oV])⟩;have bI:blk R≠some L/\blk R≠some q:=⟨fun e=>(by have:=aw _ e;rw[S.oL]at this;cases this),fun e=>(by have:=aw _ e;grind [TP.oV])⟩;have V:blk m≠some U:=fun e=>by
    obtain⟨c,hc⟩:=GT.Sy S.go e
    grind
   have W:∀b,blk R=some b->blk m≠some b:=fun b hb e=>by
    obtain⟨c,hc⟩:=GT.Sy S.go e;rw[aw b hb]at hc;cases hc
   have lo:=fun g=>gw.rl.Uc g;rw[y6]at lo;simp only[HO,Nat.reduceLT,↓reduceIte,Nat.reduceEqDiff,reduceCtorEq,bne,lo];refine aab.intro (fun k fr hh=>∃(j:Nat) (z:Value),k=P.length-j/\j<=P.length/\fr=mkF [(1,.pointer (some ⟨B,0,none⟩)),(5,.pointer (some ⟨q,0,none⟩)),(6,z),(9,.slice (some ⟨U,0,none⟩) n n),(30,.int .i64 n),(31,.int .i64 i),(50,R),(51,.int .i64 P.length),(52,.int .i64 j)]/\
     TP h2 hh q L n z (putA up (P.take j) (metM n es i)).1 (putA up (P.take j) (metM n es i)).2/\GI hh R (kz P)/\hh.own U=some (.cells (Bp up))/\blk z≠some U/\(∀b,blk R=some b->blk z≠some b))
    P.length [(1,.pointer (some ⟨B,0,none⟩)),(5,.pointer (some ⟨q,0,none⟩)),(6,m),(9,.slice (some ⟨U,0,none⟩) n n),(30,.int .i64 n),(31,.int .i64 i),(50,R),(51,.int .i64 P.length),(52,.int .i64 (0:Nat))] fD
    ⟨0,m,rfl,Og _,rfl,S7,gw,oU,V,W⟩ ?_
   clear S7 oU gw l7 w7 lo V W aw nU S K;clear h7;rintro k fr hh bN ⟨j,z,rfl,hj,rfl,S,gw,oU,V,W⟩;obtain⟨LI,-⟩:=Rx aD (P.take j) C.toLowI (p1.sublist (List.take_sublist _ _)) fun v hv=>p2 v (dr hv);have bQ:(putA up (P.take j) (metM n es i)).2.length<=n:=LI.Em;have aF:(putA up (P.take j) (metM n es i)).1.length=n:=LI.len;refine Uy ?_;refine Kl.intro (fun Z=>?_) (fun hf=>?_)
   .have F : j < P.length := CC Z
    clear Z;have aH:=CA F;have ad:=gw.rl.TA j (by rw[y6];exact F);have ld:=gw.rl.DH j (by rw[y6];exact F);rw[sY F]at ld;have X:P.take (j+1)=P.take j++[P[j]]:=Sb F;generalize P[j]=w at aH ld X;have aJ:w<n:=(p2 w (Gc aH)).1;obtain⟨v',h4,I,e4,e5,Y,w5,k5⟩:=S.push bN w NH;obtain⟨bW,aK⟩:=k5 U _ oU V;have bY:GI I R (kz P):=GS.kept gw fun b o hb ho=>(k5 b o ho (W b hb)).1;have aP:∀b,blk R=some b->blk v'≠some b:=fun b hb=>by
     have:=GS.Sy gw hb;cases ho:hh.own b<;>grind
    have aT:=fun g=>Y.go.rl.Uc g;simp only[y6,j9,QD]at aT;have bZ:=fun k=>Wc (P:=Tryz.prog) (a:=⟨U,0,none⟩) (n:=n) (cap:=n) (k:=k) Ac Mb Ji w aJ;have b0:aload Tryz.prog I 3 ⟨U,w,none⟩=some (.int .i64 (up.getD w 0)):=by
     rw[Fq Mb rfl bW]
     grind [Bp]
    have st:=sAll Y.oL (v:=w) (by grind) (((((putA up (P.take j) (metM n es i)).2.length+1:Nat):Int),up.getD w 0,(((putA up (P.take j) (metM n es i)).2.length+1:Nat):Int)));simp only[HO,Nat.reduceLT,↓reduceIte,Nat.reduceEqDiff,reduceCtorEq,ad,ld,e4,e5];refine gh (tA [0,1,2,3,4,5,6,7,8,9,10,11] (JQ 12 [0,1,2,3,4,5,6,7,8,9,10,11] .done)) ?_;simp only[HO,Nat.reduceLT,↓reduceIte,Nat.reduceEqDiff,reduceCtorEq,Nat.reduceBEq,Qg,s I Y.oV,aT,bZ,b0,Is w aJ,Ip,XJ,bL,st,aaa j NH];have ag:putA up (P.take (j+1)) (metM n es i)=((putA up (P.take j) (metM n es i)).1.set w (((((putA up (P.take j) (metM n es i)).2.length+1:Nat):Int),up.getD w 0,(((putA up (P.take j) (metM n es i)).2.length+1:Nat):Int))),(putA up (P.take j) (metM n es i)).2++[w]):=by rw[X,Ze];rfl
    have S6:=Y.put ((putA up (P.take j) (metM n es i)).1.set w (((((putA up (P.take j) (metM n es i)).2.length+1:Nat):Int),up.getD w 0,(((putA up (P.take j) (metM n es i)).2.length+1:Nat):Int))));refine tn (P.length-(j+1)) [(1,.pointer (some ⟨B,0,none⟩)),(5,.pointer (some ⟨q,0,none⟩)),(6,v'),(9,.slice (some ⟨U,0,none⟩) n n),(30,.int .i64 n),(31,.int .i64 i),(50,R),(51,.int .i64 P.length),(52,.int .i64 (j+1:Nat))] NH fD
     ⟨j+1,v',rfl,F,rfl,(by grind),GS.put bY _ bI.1,by grind [AHeap.By],aK,aP⟩
   .have H : P.length <= j := vp hf
    rw[yM H,<-y]at S;simp only[HO,Nat.reduceLT,↓reduceIte,Nat.reduceEqDiff,reduceCtorEq,aaa i NH];exact tn (n-(i+1)) [(1,.pointer (some ⟨B,0,none⟩)),(5,.pointer (some ⟨q,0,none⟩)),(6,z),(30,.int .i64 n),(31,.int .i64 (i+1:Nat))] NH fD ⟨i+1,z,rfl,f,rfl,S⟩
  .have y : metM n es (i + 1) = metM n es i := by rw [metM, jl, if_neg c]
   simp only[HO,Nat.reduceLT,↓reduceIte,Nat.reduceEqDiff,reduceCtorEq,c,aaa i NH];exact tn (n-(i+1)) [(1,.pointer (some ⟨B,0,none⟩)),(5,.pointer (some ⟨q,0,none⟩)),(6,m),(30,.int .i64 n),(31,.int .i64 (i+1:Nat))] NH fD ⟨i+1,m,rfl,f,rfl,by rw[y];exact S⟩
 have H:n<=i:=vp hf;obtain rfl:i=n:=NH;clear hf H hi aC;have K:=lA A (r.trans S.le);have b2:=hp.le (T.trans r);simp only[HO,Nat.reduceLT,↓reduceIte,Nat.reduceEqDiff,reduceCtorEq,Di,Ip,XJ,K.2.2,hp.len];refine aab.intro (fun k fr hh=>∃(j:Nat),k=es.length-j/\j<=es.length/\fr=mkF [(5,.pointer (some ⟨q,0,none⟩)),(6,m),(75,ev),(76,.int .i64 es.length),(77,.int .i64 j)]/\TP h2 hh q L i m ((es.take j).foldl bS (metM i es i).1) (metM i es i).2)
  es.length [(5,.pointer (some ⟨q,0,none⟩)),(6,m),(75,ev),(76,.int .i64 es.length),(77,.int .i64 (0:Nat))] fD ⟨0,rfl,Og _,rfl,S⟩ ?_
 clear K S J;clear A;rintro k fr A J ⟨j,rfl,hj,rfl,S⟩;have aF:((es.take j).foldl bS (metM i es i).1).length=i:=by rw[OQ];exact C.len
 refine Uy ?_;refine Kl.intro (fun Z=>?_) (fun hf=>?_)
 .have f : j < es.length := CC Z
  clear Z;have aW:=CA f;have X:es.take (j+1)=es.take j++[es[j]]:=Sb f;have M:=hR es[j] (ZT f);generalize es[j]=p at aW X M;have ad:=hp.addr (k:=.i64) j f;have ld:=(b2.le S.le).load aW;obtain⟨a,c⟩:=p;simp only at M;obtain⟨a,rfl⟩:=WA M.1;obtain⟨c,rfl⟩:=WA (show 0<=c by omega);obtain⟨cN,h4,e4,b3,b4,cP,o4⟩:=Ut J ((a:Int),(c:Int));have S4:=S.kept b4
  have nE:A.own A.next=none:=(Le.refl A).next J (qL0 _)
  have cR:A.next≠L:=fun e=>by rw[e,S.oL]at nE;cases nE
  generalize A.next=E at*
  have N:=lK o4;have Q:=HY o4;simp only at N Q;have b5:a<i:=NH;have b6:c<i:=NH;generalize cU:(es.take j).foldl bS (metM i es i).1=ls at*;have ga:=V0 (ls:=ls) (v:=a) NH;have gc:=V0 (ls:=ls) (v:=c) NH;have st1:=sLow S4.oL ga (min (Ro ls a).2.2 (Ro ls c).1);have Y:=S4.put (ls.set a ((Ro ls a).1,(Ro ls a).2.1,min (Ro ls a).2.2 (Ro ls c).1));generalize aX:ls.set a ((Ro ls a).1,(Ro ls a).2.1,min (Ro ls a).2.2 (Ro ls c).1)=l at*;have cx:l.length=i:=pw;have b8:=V0 (ls:=l) (v:=a) NH;have a6:=V0 (ls:=l) (v:=c) NH;have st2:=sLow Y.oL a6 (min (Ro l c).2.2 (Ro l a).1);have S6:=Y.put (l.set c ((Ro l c).1,(Ro l c).2.1,min (Ro l c).2.2 (Ro l a).1))
  have hB:bS ls ((a:Int),(c:Int))=if(Ro ls a).2.1=(c:Int)\/(Ro ls c).2.1=(a:Int)then ls else l.set c ((Ro l c).1,(Ro l c).2.1,min (Ro l c).2.2 (Ro l a).1):=by simp only[bS,HV,aX]
  have b9:(es.take (j+1)).foldl bS (metM i es i).1=bS ls ((a:Int),(c:Int)):=pw;simp only[HO,Nat.reduceLT,↓reduceIte,Nat.reduceEqDiff,reduceCtorEq,ad,ld,e4,b3];refine gh (tA [0,1,2,3,4,5,6,7,8,9] .done) ?_;simp only[HO,Nat.reduceLT,↓reduceIte,Nat.reduceEqDiff,reduceCtorEq,Nat.reduceBEq,Qg,Dh,Z0,Ip,zx,XJ,N,Q,s h4 S4.oV,Is a b5,Is c b6];have u1:=lUp S4.oL ga;have u2:=lUp S4.oL gc;by_cases c1:(Ro ls a).2.1=(c:Int)
  .have d1 : decide ((Ro ls a).2.1 = (c : Int)) = true := decide_eq_true c1
   refine gh (tA [0,1,2,3,4,5,6,7,8,9,10,11,12,13,14,15] .done) ?_;simp only[HO,Nat.reduceLT,↓reduceIte,Nat.reduceEqDiff,reduceCtorEq,Nat.reduceBEq,Qg,Dh,Z0,Ip,zx,XJ,N,Q,fl0,fl1,fl2,u1,u2,d1,aaa j NH];refine tn (es.length-(j+1)) [(5,.pointer (some ⟨q,0,none⟩)),(6,m),(75,ev),(76,.int .i64 es.length),(77,.int .i64 (j+1:Nat))] NH fD ⟨j+1,rfl,f,rfl,?_⟩
   grind
  have d1:decide ((Ro ls a).2.1=(c:Int))=false:=decide_eq_false c1;by_cases c2:(Ro ls c).2.1=(a:Int)
  .have d2 : decide ((Ro ls c).2.1 = (a : Int)) = true := decide_eq_true c2
   refine gh (tA [0,1,2,3,4,5,6,7,8,9,10,11,12,13,14,15] .done) ?_;simp only[HO,Nat.reduceLT,↓reduceIte,Nat.reduceEqDiff,reduceCtorEq,Nat.reduceBEq,Qg,Dh,Z0,Ip,zx,XJ,N,Q,fl0,fl1,fl2,u1,u2,d1,d2,aaa j NH];refine tn (es.length-(j+1)) [(5,.pointer (some ⟨q,0,none⟩)),(6,m),(75,ev),(76,.int .i64 es.length),(77,.int .i64 (j+1:Nat))] NH fD ⟨j+1,rfl,f,rfl,?_⟩
   grind
  have d2:decide ((Ro ls c).2.1=(a:Int))=false:=decide_eq_false c2;refine gh (tA [0,1,2,3,4,5,6,7,8,9,10,11,12,13,14,15] .done) ?_;simp only[HO,Nat.reduceLT,↓reduceIte,Nat.reduceEqDiff,reduceCtorEq,Nat.reduceBEq,Qg,Dh,Z0,Ip,zx,XJ,N,Q,fl0,fl1,fl2,u1,u2,d1,d2];refine gh (tA [0,1,2,3,4,5,6,7,8,9,10,11] (JQ 12 [0,1,2,3,4,5,6,7,8,9,11] .done)) ?_;simp only[HO,Nat.reduceLT,↓reduceIte,Nat.reduceEqDiff,reduceCtorEq,Nat.reduceBEq,Qg,Ip,zx,XJ,fl0,fl1,fl2,jA S4.oL ga,Nh S4.oL gc,Dv,st1];refine gh (tA [0,1,2,3,4,5,6,7,8,9,10,11] (JQ 12 [0,1,2,3,4,5,6,7,8,9,11] .done)) ?_;simp only[HO,Nat.reduceLT,↓reduceIte,Nat.reduceEqDiff,reduceCtorEq,Nat.reduceBEq,Qg,Ip,zx,XJ,fl0,fl1,fl2,jA Y.oL a6,Nh Y.oL b8,Dv,st2,aaa j NH];refine tn (es.length-(j+1)) [(5,.pointer (some ⟨q,0,none⟩)),(6,m),(75,ev),(76,.int .i64 es.length),(77,.int .i64 (j+1:Nat))] NH fD ⟨j+1,rfl,f,rfl,?_⟩
  grind
 have H:es.length<=j:=vp hf;rw[yM H]at S aF;clear H hf hj;refine Uy ?_;refine TC.intro PJ ⟨Tryz.func130,rfl,WY⟩ (Back_any W0 m (kz (metM i es i).2) A S.go.rl) ?_;rintro x h7 w7 ⟨B2,rfl,cZ,cc,l7⟩;have S7:=S.kept l7;have c0:B2≠L:=fun e=>by have:=J.lt S.oL;omega
 have bQ:(metM i es i).2.length<=i:=C.toLowI.Em;have cd:(kz (metM i es i).2).length=(metM i es i).2.length:=y6 _;have a7:∀v∈(metM i es i).2,v<i:=C.lt;generalize hO:(metM i es i).2=O at*;have cz:Jz i es=(O.reverse.foldl Ke (es.foldl bS (metM i es i).1),O):=by rw[Jz,hO]
 have a8:∀v,v<i->(Ro (es.foldl bS (metM i es i).1) v).2.1<(i:Int):=fun v hv=>by rw[(RK es _ v).2];exact C.up v hv
 generalize es.foldl bS (metM i es i).1=LS at*;refine Uy ?_
 refine VK.rangeFunc (gf:=166) (first:=#[]) (cap:=#[.pointer (some ⟨B2,0,none⟩)]) (by simp only[HO,Nat.reduceLT,↓reduceIte,Nat.reduceEqDiff,reduceCtorEq]) ⟨Tryz.func166,rfl,WY⟩ WY fun W1 lp hy=>?_
 refine(Tp W1 lp B2 m (kz O) (fun k g=>TP h2 g q L i m (((O.drop k).reverse).foldl Ke LS) O/\g.own B2=some (.cells [m])) h7 NH (fun k g hi=>⟨hi.2,hi.1.go.rl⟩) ⟨(by grind),cc⟩ ?_).mono fun _ h8 cf c3=>?_
 .intro k g hk wg hle cg
  obtain⟨S,oB⟩:=cg;refine hy _ _ _ rfl hle ?_;rw[cd]at hk;have bg:=sY hk;have bh:=CA hk;have bk:O.drop k=O[k]::O.drop (k+1):=vY hk;generalize O[k]=v at bg bh bk;have aj:=a7 v (Gc bh);have ag:(O.drop k).reverse.foldl Ke LS=Ke ((O.drop (k+1)).reverse.foldl Ke LS) v:=by rw[bk,List.reverse_cons,gS];rfl
  have aX:((O.drop (k+1)).reverse.foldl Ke LS).length=i:=by grind [Qp]
  have bm:=(ack (O.drop (k+1)).reverse LS v).2;have ck:=a8 v aj;rw[<-bm]at ck;clear bm;generalize (O.drop (k+1)).reverse.foldl Ke LS=ls at*;have gv:=V0 (ls:=ls) (v:=v) NH;simp only[HO,Nat.reduceLT,↓reduceIte,Nat.reduceEqDiff,reduceCtorEq,List.toList_toArray,putPs,bg,s g S.oV,Is v aj,fl1,Ip,lUp S.oL gv];by_cases c:(Ro ls v).2.1>=0
  .obtain ⟨u, hu⟩ := WA c
   have cm:u<i:=NH;have gu:=V0 (ls:=ls) (v:=u) NH;have st:=sLow S.oL gu (min (Ro ls u).2.2 (Ro ls v).2.2);have c4:Ke ls v=ls.set u ((Ro ls u).1,(Ro ls u).2.1,min (Ro ls u).2.2 (Ro ls v).2.2):=by grind [Ke,Int.toNat_natCast]
   have d:decide ((u:Int)>=0)=true:=decide_eq_true NH;simp only[hu,d,HO,Nat.reduceLT,↓reduceIte,Nat.reduceEqDiff,reduceCtorEq];refine gh (tA [0,1,2,3,4,5,6,7,8,9,10,11,12,13,14] (JQ 15 [0,1,2,3,4,5,6,7,8,9,10,11,12,14] .done)) ?_;simp only[HO,Nat.reduceLT,↓reduceIte,Nat.reduceEqDiff,reduceCtorEq,Nat.reduceBEq,Qg,s g S.oV,Is v aj,Is u cm,fl2,Ip,jA S.oL gu,jA S.oL gv,Dv,st,aB];refine⟨hle,?_,?_⟩
   .grind [TP.put]
   grind [AHeap.By]
  .have d : decide ((Ro ls v).2.1 >= 0) = false := decide_eq_false c
   simp only[d,HO,Nat.reduceLT,↓reduceIte,Nat.reduceEqDiff,reduceCtorEq,aB]
   grind [Ke.eq_1]
 .obtain ⟨S8, -⟩ := cf
  rw[Xz]at S8;simp only[HO,Nat.reduceLT,↓reduceIte,Nat.reduceEqDiff,reduceCtorEq,s h8 S8.oV];have lb:Le h h2:=T.trans r;refine⟨lb.trans S8.le,.inr ⟨hr,L,m,rfl,by grind [TP.oL],lb.none nL,by grind [TP.go],S8.nb.2,fun b hb=>lb.none (S8.ao b hb)⟩⟩
end
variable {a b i n s u:Nat} {es:List Pr} {ls:List Lw} {o:II} {up:RZ}
def upI (x:Int):Option Nat:=if 0<=x then some x.toNat else none
def Yp (up:RZ) (v:Nat):Option Nat:=upI (up.getD v (-1))
theorem acm (u:Nat):upI (u:Int)=some u:=by simp[upI]
theorem bA {x:Int} (h:upI x=some u):x=(u:Int):=by grind [upI]
structure DI (es:List Pr) (s:Nat) (o:II) (up:RZ):Prop where
 root:Yp up s=none
 mem:∀v u,Yp up v=some u->v∈o
 Kd:∀(k v:Nat),o[k]?=some v->v=s\/∃j u,j<k/\o[j]?=some u/\Yp up v=some u/\Jp es u v
 open_:∀x∈o,¬Full es o x->∀l,o.getLast?=some l->pJ (Yp up) x l
 anc:∀(j k a b:Nat),j<k->o[j]?=some a->o[k]?=some b->Jp es a b->pJ (Yp up) a b
theorem DI.idx (d:DI es s o up) (nd:o.Nodup) (h:pJ (Yp up) a b):∀(k:Nat),o[k]?=some b->∃j:Nat,j<=k/\o[j]?=some a:=by
 induction h<;>grind [DI.Kd,DI.root]
theorem pJ.mono {up d:Nat->Option Nat} (h:pJ up a b) (k:∀c u,up c=some u->d c=some u):pJ d a b:=by
 induction h with
 |refl=>exact .refl _
 |step h e f=>exact .step f (k _ _ e)
theorem du.di (N:aV n es) (d:du n es s o up):DI es s o up:=by
 induction d with
 |start=>
  have O:∀v,Yp (List.replicate n (-1)) v=none:=fun v=>by simp only[Yp,qH,List.getElem?_replicate];split<;>rfl
  refine⟨O s,pw,fun k v h=>?_,fun x m _ l B=>?_,fun j k a b L h2 h3=>?_⟩
  .grind
  .simp at m B;subst m;subst B;exact .refl _
  grind
 |@step o up k v w d M ha hw X hf C=>
  have P:=(ha.lt N).2;have Q:up.length=n:=d.len.2;have F:=d.nodup
  have Y:∀x,Yp (up.set w (v:Int)) x=if x=w then some v else Yp up x:=by grind [Yp,acm]
  have g:∀c u,Yp up c=some u->Yp (up.set w (v:Int)) c=some u:=by grind [DI.mem]
  have R:w≠s:=fun e=>by subst e;exact hw (Gc d.head)
  have S:=(Ny.1 M).1;have G:o≠[]:=fun e=>by grind
  obtain⟨l,B⟩:∃l,o.getLast?=some l:=⟨_,List.getLast?_eq_some_getLast G⟩;have H:=C.open_ v (Gc M) (fun f=>hw (f w ha)) l B;have p:∀x∈o,¬Full es o x->pJ (Yp up) x v:=fun x m z=>by
   have I:=C.open_ x m z l B;rcases I.chain H with h|h
   .exact h
   .obtain ⟨i, hi⟩ := IE.1 m
    obtain⟨j,T,U⟩:=C.idx F h i hi
    grind [List.getElem?_inj]
  refine⟨by grind [DI.root],fun x u h=>?_,fun i x m=>?_,fun x m z l' r=>?_,fun i j a b J hi t D=>?_⟩
  .grind [DI.mem]
  .rcases Tj i o.length with q | q
   .rw [Eh q] at m
    rcases C.Kd i x m with h|⟨j,u,L,h2,h3,V⟩
    .exact .inl h
    .exact .inr ⟨j,u,L,pw,g _ _ h3,V⟩
   .rw [vZ q] at m
    have:=(Ny.1 m).1;simp at this;have K:i-o.length=0:=NH;rw[K]at m;simp at m;subst m;exact .inr ⟨k,v,NH,pw,pw,ha⟩
  .rw [List.getLast?_concat] at r
   injection r with r;subst r;rw[qL7,jf]at m;rcases m with m|rfl
   .have E : ¬ Full es o x := fun f => z fun y W => AQ _ (f y W)
    exact((p x m E).mono g).step pw
   .exact .refl _
  .have q:i<o.length:=by
    have:=(Ny.1 t).1;grind
   rw[Eh q]at hi;rcases Tj j o.length with A|A
   .rw [Eh A] at t
    exact(C.anc i j a b J hi t D).mono g
   .rw [vZ A] at t
    have:=(Ny.1 t).1;simp at this;have K:j-o.length=0:=NH;rw[K]at t;simp at t;subst t;exact((p a (Gc hi) fun f=>hw (f w D)).mono g).step pw
def Oj (ls:List Lw) (v:Nat):Option Nat:=upI (Ro ls v).2.1
structure zJ (es:List Pr) (ls:List Lw) (o:II):Prop where
 num:∀(k v:Nat),o[k]?=some v->(Ro ls v).1=((k+1:Nat):Int)/\(Ro ls v).2.2=((k+1:Nat):Int)
 up:∀(k v:Nat),o[k]?=some v->(Ro ls v).2.1=-1\/∃j u:Nat,j<k/\o[j]?=some u/\(Ro ls v).2.1=(u:Int)/\Jp es u v
 anc:∀(j k a b:Nat),j<k->o[j]?=some a->o[k]?=some b->Jp es a b->pJ (Oj ls) a b
theorem JK {n:Nat} {up:RZ}:∀(l:II) {ls:List Lw} {o:II},ls.length=n->l.Nodup->(∀v∈l,v<n)->
  (∀(k v:Nat),l[k]?=some v->Ro (putA up l (ls,o)).1 v=(((o.length+k+1:Nat):Int),up.getD v 0,((o.length+k+1:Nat):Int)))/\∀v,v∉l->Ro (putA up l (ls,o)).1 v=Ro ls v
 |[],ls,o,_,_,_=>⟨pw,fun v _=>rfl⟩
 |x::r,ls,o,c,b,a=>by
  rw[aaf]at b;obtain⟨f,g⟩:=JK r (ls:=ls.set x (((o.length+1:Nat):Int),up.getD x 0,((o.length+1:Nat):Int))) (o:=o++[x]) (by simp[c]) b.2 fun v d=>a v (by simp[d]);refine⟨fun k v e=>?_,fun v d=>?_⟩
  .cases k with
   |zero=>
    simp at e;subst e;rw[putA,g x b.1,Uw,if_pos ⟨rfl,by rw[c];exact a x Ma⟩]
   |succ k=>
    rw[putA,f k v pw]
    grind [List.length_singleton]
  grind [putA.eq_2,Uw]
theorem zJ.xG {ls d:List Lw} (F:zJ es ls o) (hs:∀v∈o,Ro d v=Ro ls v) (h:pJ (Oj ls) a b):b∈o->pJ (Oj d) a b:=by
 induction h with
 |refl=>exact fun _=>.refl _
 |@step b c h e g=>
  intro i;obtain⟨k,l⟩:=IE.1 i;have e':Oj d c=some b:=by grind [Oj]
  rcases F.up k c l with f|⟨j,u,f,h2,h3,_⟩
  .unfold Oj at e;rw[f]at e;cases e
  .unfold Oj at e; rw [h3, acm] at e; injection e with e; subst e
   exact(g (Gc h2)).step e'
theorem du.upm (d:du n es s o up):∀v,-1<=up.getD v (-1):=by
 induction d with
 |start=>grind
 |step d _ _ _ _ _ a=>
  intro v;have:=a v
  grind
theorem fromA_F (q:aV n es) (I:cV n es ls o) (F:zJ es ls o) (hi:i<n):zJ es (jl n es i (ls,o)).1 (jl n es i (ls,o)).2:=by
 unfold jl;split
 .rename_i z
  obtain⟨t,A⟩:=TY q I hi z;have D:=Te q hi;obtain⟨_,B⟩:=Rx (D.KP.upR q hi) (K9 n es i).1 I.toLowI t A;have C:=D.KP.len.2;have di:=D.KP.di q;obtain⟨w,K⟩:=JK (up:=(K9 n es i).2) (K9 n es i).1 (ls:=ls) (o:=o) I.len t pw;have x:∀v∈o,Ro (putA (K9 n es i).2 (K9 n es i).1 (ls,o)).1 v=Ro ls v:=pw;rw[B];generalize (putA (K9 n es i).2 (K9 n es i).1 (ls,o)).1=l at*;generalize (K9 n es i).1=P at*;generalize (K9 n es i).2=up at*;have m:∀v∈P,up.getD v 0=up.getD v (-1):=pw;have p:∀{a b:Nat},pJ (Yp up) a b->b∈P->pJ (Oj l) a b:=by
   intro a b h
   induction h with
   |refl=>exact fun _=>.refl _
   |@step b c h e E=>
    intro y;obtain⟨k,d⟩:=IE.1 y;have e':Oj l c=some b:=by unfold Oj;rw[w k c d];rw[m c y];exact e
    rcases di.Kd k c d with g|⟨j,u,g,h2,h3,_⟩
    .grind [DI.root]
    .rw [h3] at e; injection e with e; subst e
     exact(E (Gc h2)).step e'
  refine⟨fun k v d=>?_,fun k v d=>?_,fun j k a b G r d s=>?_⟩
  .rcases Tj k o.length with h | h
   .grind [zJ.num]
   grind
  .rcases Tj k o.length with h | h
   .rw [Eh h] at d; rw [x v (Gc d)]
    rcases F.up k v d with g|⟨j,u,g,h2,h3⟩
    .exact .inl g
    .exact .inr ⟨j,u,g,pw,h3⟩
   .rw [vZ h] at d; rw [w _ v d]
    simp only;have H:=Gc d;rw[m v H];rcases di.Kd _ v d with g|⟨j,u,g,h2,h3,J⟩
    .subst g
     have f:=di.root;unfold Yp upI at f;split at f
     .cases f
     .have := D.KP.upm v
      omega
    .exact .inr ⟨o.length+j,u,NH,by rw[vZ NH];simpa using h2,bA h3,J⟩
  .rcases Tj k o.length with h | h
   .rw [Eh h] at d
    rw[Eh NH]at r;exact F.xG x (by grind [zJ.anc]) (Gc d)
   .rw [vZ h] at d
    rcases Tj j o.length with h'|h'
    .grind [cV.cl]
    .rw [vZ h'] at r
     exact p (di.anc _ _ a b NH r d s) (Gc d)
 .exact F
theorem PG {n:Nat} {es:List Pr} (a:aV n es):∀i,i<=n->zJ es (metM n es i).1 (metM n es i).2
 |0,_=>⟨by grind [metM],(by grind [metM]),(by grind [metM])⟩
 |i+1,hi=>fromA_F a (by grind [ZC]) (PG a i NH) NH
def Vu (ls:List Lw) (v:Nat):Nat:=(Ro ls v).1.toNat
theorem metM_fo (d:aV n es):Fo n es (Vu (metM n es n).1) (Oj (metM n es n).1):=by
 have F:=PG d n (qL0 _);obtain⟨C,i⟩:=ZC d n (qL0 _);have ex:∀v,v<n->∃k,(metM n es n).2[k]?=some v/\Vu (metM n es n).1 v=k+1:=fun v f=>by grind [List.mem_iff_getElem?,Vu,zJ.num]
 refine⟨d,fun u v o f e=>?_,fun v u f e=>?_,fun a b c h=>?_⟩
 .grind
 .obtain ⟨k, g, h2⟩ := ex v f
  unfold Oj at e;rcases F.up k v g with h|⟨j,w,h3,l,m,p⟩
  .rw[h]at e;cases e
  .rw[m,acm]at e;grind [Vu,zJ.num]
 .obtain ⟨k, g, h2⟩ := ex a (c.lt d).1
  obtain⟨j,h3,l⟩:=ex b (c.lt d).2;exact F.anc k j a b NH g h3 c
variable {D:Nat->Nat->Prop} {c v x y:Nat} {es':List Pr} {num:Nat->Nat} {up:Nat->Option Nat}
theorem EN {x:Int}:upI x=some u↔x=(u:Int):=by grind [bA,acm]
theorem Iw.congr (L:Iw es num up D v x) (h:∀u w,D v u->(Nt es' up u w↔Nt es up u w)):Iw es' num up D v x:=
 ⟨L.self,fun u w d k=>L.back u w d ((h u w d).1 k),(by grind [Iw.some_])⟩
theorem Iw.add (L:Iw es num up (fun a b=>a=b) v x) (h:∀w,Nt es' up v w↔Nt es up v w\/w=c):Iw es' num up (fun a b=>a=b) v (min x (num c)):=by
 refine⟨by grind [Iw.self],?_,?_⟩
 all_goals grind [Iw.back,Iw.some_]
theorem Iw.join (a:aV n es) {D b f:Nat->Nat->Prop} (L:Iw es num up b v x) (M:Iw es num up f c y) (g:num v<=num c) (h:∀u,u<n->(D v u↔b v u\/f c u)):Iw es num up D v (min x y):=by
 refine⟨by grind [Iw.self],?_,?_⟩
 .intro u w d k
  rcases(h u (k.1.lt a).1).1 d with d|d
  .grind [Iw.back]
  .have:=M.back u w d k;omega
 .by_cases q : x <= y
  .rw [Jj q]
   exact L.some_.imp id fun⟨u,w,d,k,e⟩=>⟨u,w,(h u (k.1.lt a).1).2 (.inl d),k,e⟩
  .rw [ahI NH]
   rcases M.some_ with e|⟨u,w,d,k,e⟩
   .have:=L.self;omega
   .exact .inr ⟨u,w,(h u (k.1.lt a).1).2 (.inr d),k,e⟩
structure Same (n:Nat) (num:Nat->Nat) (up:Nat->Option Nat) (ls:List Lw):Prop where
 len:ls.length=n
 fO:∀v,v<n->(Ro ls v).1=(num v:Int)
 ups:∀v,v<n->upI (Ro ls v).2.1=up v
structure jF (n:Nat) (es:List Pr) (num:Nat->Nat) (up:Nat->Option Nat) (D:Nat->Nat->Prop) (ls:List Lw):Prop extends Same n num up ls where
 low:∀v,v<n->∃x:Nat,(Ro ls v).2.2=(x:Int)/\Iw es num up D v x
theorem vz:Jp (es++[((a:Int),(c:Int))]) x y↔Jp es x y\/isE a c x y:=by grind [Jp,isE]
theorem edgeB_S (e:a<n) (f:c<n) (l:a≠c) (S:jF n es num up (fun a b=>a=b) ls):
  jF n (es++[((a:Int),(c:Int))]) num up (fun a b=>a=b) (bS ls ((a:Int),(c:Int))):=by
 have B:∀x y:Nat,x<n->((Ro ls x).2.1=(y:Int)↔up x=some y):=fun x y C=>by rw[<-S.ups x C,EN]
 have D:Same n num up (bS ls ((a:Int),(c:Int))):=
  ⟨by rw[acj];exact S.len,fun v g=>by rw[(ab7 ls _ v).1];exact S.fO v g,fun v g=>by rw[(ab7 ls _ v).2];exact S.ups v g⟩
 refine⟨D,fun v g=>?_⟩;by_cases t:up a=some c\/up c=some a
 .have m : bS ls ((a : Int), (c : Int)) = ls := by grind [bS, Int.toNat_natCast]
  rw[m];obtain⟨x,z,h2⟩:=S.low v g;refine⟨x,z,h2.congr fun u w _=>?_⟩;simp only[Nt,vz];constructor
  .rintro ⟨h | h, k1, k2⟩
   .grind
   .rcases h with⟨rfl,rfl⟩|⟨rfl,rfl⟩<;>rcases t with t|t<;>first|exact absurd t k1|grind
  grind
 .have o:∀u w,Nt (es++[((a:Int),(c:Int))]) up u w↔Nt es up u w\/isE a c u w:=fun u w=>by
   simp only[Nt,vz];constructor
   .grind
   .rintro (⟨h, k⟩ | h)
    .grind
    .refine ⟨.inr h, ?_⟩
     rcases h with⟨rfl,rfl⟩|⟨rfl,rfl⟩
     all_goals grind
  obtain⟨x,z,h2⟩:=S.low v g;obtain⟨xa,p,q⟩:=S.low a e;obtain⟨A,r,s⟩:=S.low c f
  have m:(Ro (bS ls ((a:Int),(c:Int))) v).2.2=if v=c then min (A:Int) (num a:Int)else if v=a then min (xa:Int) (num c:Int)else(x:Int):=by
   simp only[bS,HV];rw[if_neg pw];simp only[Uw,adP,S.len,e,f,and_true];by_cases i:v=c
   .subst i;simp[l,r,S.fO a e]
   .rw [if_neg (uV i), if_neg i]
    by_cases j:v=a
    .subst j;simp[p,S.fO c f]
    grind
  rw[m];by_cases i:v=c
  .subst i
   refine⟨min A (num a),NH,s.add fun w=>?_⟩;rw[o];constructor
   .rintro (h | ⟨h, _⟩ | ⟨_, h⟩)
    all_goals grind
   .rintro (h | rfl)
    .exact .inl h
    .exact .inr (.inr ⟨rfl,rfl⟩)
  .rw [if_neg i]
   by_cases j:v=a
   .subst j
    refine⟨min xa (num c),NH,q.add fun w=>?_⟩;rw[o];constructor
    .rintro (h | ⟨_, h⟩ | ⟨h, _⟩)
     all_goals grind
    .rintro (h | rfl)
     .exact .inl h
     .exact .inr (.inl ⟨rfl,rfl⟩)
   .rw [if_neg j]
    refine⟨x,rfl,h2.congr fun u w d=>?_⟩;rw[o];constructor
    .rintro (h | ⟨h, _⟩ | ⟨h, _⟩)
     all_goals grind
    .exact .inl
theorem Hl {n:Nat} {num:Nat->Nat} {up:Nat->Option Nat}:∀(rest es:List Pr) (ls:List Lw),aV n rest->jF n es num up (fun a b=>a=b) ls->jF n (es++rest) num up (fun a b=>a=b) (rest.foldl bS ls)
 |[],es,ls,_,S=>by simpa using S
 |(a,c)::rest,es,ls,d,S=>by
  have e:=d (a,c) Ma;obtain⟨a,rfl⟩:=WA e.1;obtain⟨c,rfl⟩:=WA (show 0<=c by omega);have:=Hl rest (es++[((a:Int),(c:Int))]) _ (fun q f=>d q (by simp[f])) (edgeB_S NH NH NH S)
  grind
def DT_ (up:Nat->Option Nat) (T:II) (v u:Nat):Prop:=u=v\/∃c∈T,up c=some v/\pJ up c u
theorem ups_S {n:Nat} {es:List Pr} {num:Nat->Nat} {up:Nat->Option Nat} (F:Fo n es num up) {ls:List Lw}:∀(T pre:II),(∀v,v<n->v∈pre++T)->(pre++T).Pairwise (fun a b=>num a<num b)->(∀v∈pre++T,v<n)->
  jF n es num up (fun a b=>a=b) ls->jF n es num up (DT_ up T) (T.foldr (fun x y=>Ke y x) ls)
 |[],pre,_,_,_,S=>by
  refine⟨S.toSame,fun v i=>?_⟩;obtain⟨x,E,h2⟩:=S.low v i;refine⟨x,E,h2.self,fun u w d=>?_,?_⟩
  .rcases d with rfl | ⟨c, I, _⟩
   .exact h2.back _ w rfl
   .simp at I
  .exact h2.some_.imp id fun⟨u,w,d,k,e⟩=>⟨u,w,.inl d.symm,k,e⟩
 |c::T,pre,G,R,o,J=>by
  have S:=ups_S F T (pre++[c]) pw pw pw J;rw[List.foldr_cons];generalize T.foldr (fun x y=>Ke y x) ls=l1 at*;have f:c<n:=o c Ma;have K:Same n num up (Ke l1 c):=
   ⟨by rw[bq];exact S.len,fun v i=>by rw[(tU l1 _ v).1];exact S.fO v i,fun v i=>by rw[(tU l1 _ v).2];exact S.ups v i⟩
  refine⟨K,fun v i=>?_⟩;obtain⟨x,E,h2⟩:=S.low v i;have r:∀d,up d=some c->d<n->d∈T:=fun d hd s=>by
   have H:=(F.Kd d c s hd).2
   grind
  have l:up c≠some v->Iw es num up (DT_ up (c::T)) v x:=fun L=>by
   refine⟨h2.self,fun u w d=>h2.back u w ?_,h2.some_.imp id fun⟨u,w,d,k⟩=>⟨u,w,?_,k⟩⟩
   .rcases d with rfl | ⟨d, hd, j, g⟩
    .exact .inl rfl
    .rw [EL] at hd
     rcases hd with rfl|hd
     .grind
     .exact .inr pw
   .exact d.imp id (by grind [List.mem_cons_of_mem])
  cases m:up c with
  |none=>
   have:Ke l1 c=l1:=by
    have:=S.ups c f;grind [upI,Ke]
   grind
  |some p=>
   have t:=F.Kd c p f m;have A:=(t.1.lt F.rD).1;obtain⟨y,M,B⟩:=S.low c f;obtain⟨z,N,C⟩:=S.low p A;have D:(Ro l1 c).2.1=(p:Int):=EN.1 ((S.ups c f).trans m)
   have O:(Ro (Ke l1 c) v).2.2=if v=p then min (z:Int) (y:Int)else(x:Int):=by
    simp only[Ke,D];rw[if_pos NH,HV,Uw,S.len]
    grind
   rw[O];by_cases e:v=p
   .subst e
    refine⟨min z y,NH,C.join F.rD B NH fun u U=>?_⟩;constructor
    .rintro (rfl | ⟨d, hd, j, g⟩)
     .exact .inl (.inl rfl)
     .rw [EL] at hd
      rcases hd with rfl|hd
      .by_cases q : d = u
       .subst q;exact .inr (.inl rfl)
       .obtain ⟨k, P, Q⟩ := g.child q
        exact .inr (.inr (by grind [Fo.yO]))
      .exact .inl (.inr pw)
    .rintro (h | h)
     .exact h.imp id (by grind [List.mem_cons_of_mem])
     .rcases h with rfl | ⟨d, hd, j, g⟩
      .exact .inr ⟨u,Ma,m,.refl _⟩
      .exact .inr ⟨c,Ma,m,(pJ.one j).trans g⟩
   grind
structure aay (n:Nat) (es:List Pr) (ls:List Lw) (o:II) (num:Nat->Nat) (up:Nat->Option Nat):Prop extends jF n es num up (pJ up) ls where
 fo:Fo n es num up
 ord:∀(k v:Nat),o[k]?=some v->num v=k+1
 mem:∀v,v∈o↔v<n
 nd:o.Nodup
 Em:o.length=n
 upr:∀v,v<n->-1<=(Ro ls v).2.1/\(Ro ls v).2.1<(n:Int)
theorem DT_all (F:Fo n es num up) {T:II} (b:∀v,v<n->v∈T) (d:u<n):DT_ up T v u↔pJ up v u:=by
 constructor
 .rintro (rfl | ⟨c, _, a, h2⟩)
  .exact .refl _
  .exact(pJ.one a).trans h2
 .intro h
  by_cases e:v=u
  .exact .inl e.symm
  .obtain ⟨c, a, h2⟩ := h.child e
   exact .inr (by grind [Fo.yO])
theorem Iw.congrD (a:aV n es) {D b:Nat->Nat->Prop} (L:Iw es num up D v x) (h:∀u,u<n->(b v u↔D v u)):Iw es num up b v x:=
 ⟨L.self,fun u w d k=>L.back u w ((h u (k.1.lt a).1).1 d) k,L.some_.imp id fun⟨u,w,d,k,e⟩=>⟨u,w,(h u (k.1.lt a).1).2 d,k,e⟩⟩
theorem Ob (o:aV n es):∃num up,aay n es (Jz n es).1 (Jz n es).2 num up:=by
 obtain⟨C,c⟩:=ZC o n (qL0 _);have F:=PG o n (qL0 _);have fo:=metM_fo o;have l:∀v,v∈(metM n es n).2↔v<n:=fun v=>⟨C.lt v,c v⟩;have d:∀(k v:Nat),(metM n es n).2[k]?=some v->Vu (metM n es n).1 v=k+1:=fun k v h=>by grind [Vu,zJ.num]
 have r:jF n [] (Vu (metM n es n).1) (Oj (metM n es n).1) (fun a b=>a=b) (metM n es n).1:=by
  refine⟨⟨C.len,fun v f=>?_,fun v f=>rfl⟩,fun v f=>?_⟩
  .grind [List.mem_iff_getElem?,zJ.num]
  .obtain ⟨k, p⟩ := IE.1 (c v f)
   refine⟨k+1,by grind [zJ.num],⟨pw,fun u w _ h=>?_,.inl (d k v p).symm⟩⟩;rcases h.1 with h|h<;>simp at h
 have q:=Hl es [] _ o r;rw[aey]at q;have g:((metM n es n).2).Pairwise fun a b=>Vu (metM n es n).1 a<Vu (metM n es n).1 b:=by
  rw[DF];intro i j hi s t;rw[d i _ (BS hi),d j _ (BS s)];omega
 have z:=ups_S fo (metM n es n).2 [] c g C.lt q;have m:(Jz n es).1=(metM n es n).2.foldr (fun x y=>Ke y x) (es.foldl bS (metM n es n).1):=by grind [Jz.eq_1]
 refine⟨Vu (metM n es n).1,Oj (metM n es n).1,⟨⟨?_,fun v f=>?_⟩,fo,d,l,C.nd,?_,fun v f=>?_⟩⟩
 .grind [jF.toSame]
 .grind [jF.low,Iw.congrD,DT_all]
 .have A := C.toLowI.Em
  have h2:=(VU (n:=n)).length_le_of_subset (l₂:=(metM n es n).2) (by grind);simp at h2;show(metM n es n).2.length=n;omega
 .rw [m]
  obtain⟨k,p⟩:=IE.1 (c v f);have e:(Ro ((metM n es n).2.foldr (fun x y=>Ke y x) (es.foldl bS (metM n es n).1)) v).2.1=(Ro (metM n es n).1 v).2.1:=by grind [Jz.eq_1,ack,RK]
  rw[e];refine⟨?_,C.up v f⟩
  grind [zJ.up]
section
attribute [local irreducible] Kp MQ lU KO1 KO KN KX KE VK Kl ZJ TC aab
open Go.Proofs
variable {h:AHeap} {xs ys:RZ}
theorem GI.join {v x:Value} (g:GI h v xs) (c:WF h) (d:RL RP h x ys) (i:xs.length+ys.length<=1000000000):
  ∃v' a,aAppend Tryz.prog h 49 49 v x=some (v',a)/\GI a v' (xs++ys)/\WF a/\
   (∀f,Le f h->Z2 f v->Le f a/\Z2 f v')/\(∀b o,h.own b=some o->blk v≠some b->a.own b=some o/\blk v'≠some b):=by
 have j:CS 1 h x ys.length (Bp ys):=by
  have:=RS.cs d.cellsI
  grind [Bp]
 obtain⟨v',a,m,n,hf⟩:=GS.append (P:=Tryz.prog) (t:=49) (xt:=49) (k:=1) Ji g (fun e l=>CS.src l j) (yG _) (yG _) (by simp[Bp]) i
 grind [xr,aG,Bp,GI.eq_1]
variable {j:Nat}
def mk2I (h:AHeap) (x y:Int):aBuildSlice Tryz.prog h 49 2 [(0,.int .i64 x),(1,.int .i64 y)]=some (.slice (some ⟨h.next,0,none⟩) 2 2,h.alloc (.cells [.int .i64 x,.int .i64 y])):=rfl
def pthM (rows:AM) (L:RZ):Nat->Nat->RZ
  |0,v=>[(v:Int)]
  |k+1,v=>(v:Int)::match(rows.getD v []).find? (fun w=>decide (L.getD w.toNat 0=L.getD v 0-1))with
    |some w=>pthM rows L k w.toNat
    |none=>[]
def DO (n:Nat) (es:List Pr) (a b:Nat):RZ:=pthM (Zh n es) (NY (Zh n es) n b) ((NY (Zh n es) n b).getD a 0).toNat a
theorem find_at {p:Int->Bool} {l:RZ} {x:Int} (b:l[j]?=some x) (c:p x=true) (a:∀(i:Nat) y,i<j->l[i]?=some y->p y=false):l.find? p=some x:=by grind [List.find?_eq_some_iff_getElem]
theorem Path_fun (W0:LA) (v:Value) (G:GM) (a b:Int) (h:AHeap) (hg:GR h v G):
  AC Tryz.prog W0 90 [v,.int .i64 a,.int .i64 b] h fun x h'=>Le h h'/\∃r e,x=.tuple #[r,.int .i64 e]/\r.oneCell'=true/\
   (bX G->0<=a->a<G.n->0<=b->b<G.n->(e=0↔Pu G.es b.toNat a.toNat)/\(e=0->GI h' r (DO G.n.toNat G.es a.toNat b.toNat)/\Z2 h r/\ai G.n.toNat G.es b.toNat (NY (Zh G.n.toNat G.es) G.n.toNat b.toNat))):=by
 have ar:=hg;obtain⟨gn,es⟩:=G
 obtain⟨ev,rfl,hp⟩:=hg.open
 refine AC.vE ⟨Tryz.func90,rfl,WY⟩ Tryz.ntmps90 Tryz.results90 fun av=>?_;simp only[Br,Nat.reduceAdd];obtain⟨h1,b1,R,ay,-,lA⟩:=r8 (n:=gn) av hp
 generalize h.next=B at*
 have az:=lA h1 (Le.refl _);obtain⟨h2,e2,l2,w2,o2⟩:=Tt ay [.int .i64 a,.int .i64 b]
 have rs:RL RP h2 (.slice (some ⟨h1.next,0,none⟩) 2 2) [a,b]:=RL.Wh (RS.whole o2 rfl)
 refine Sk (xU b1 az.1 @mk2I e2) ?_
 generalize Value.slice (some ⟨h1.next,0,none⟩) 2 2=sv at*
 refine TC.intro PJ ⟨qS33,rfl,WY⟩ (N7 W0 _ sv ⟨gn,es⟩ [a,b] h2 (ar.le (R.trans l2)) rs Ma) ?_;rintro x h3 bh ⟨aC,r,e,rfl,hc⟩;have d:=(R.trans l2).trans aC;rcases hc with⟨aD,rfl,rfl⟩|⟨J,bk,rfl,rfl⟩|⟨J,hs,rfl,c⟩
 .refine Sk (XC @bne.eq_1.{0} @d20) ?_
  exact⟨d,_,_,rfl,rfl,fun J=>absurd J aD⟩
 .refine Sk (XC @bne.eq_1.{0} @d2) ?_
  exact⟨d,_,_,rfl,rfl,fun _ h1 h2 h3 o=>by grind⟩
 have h0:0<=gn:=J.n0;obtain⟨n,rfl⟩:=WA h0;have bb:(n:Int)<=200:=J.n1;have bg:es.length<=594:=J.len;have hR:=J.GD;have ha:=hs a Ma;have hb:=hs b Ma;simp only at ha hb;obtain⟨a,rfl⟩:=WA ha.1;obtain⟨b,rfl⟩:=WA hb.1;have C:a<n:=NH;have aF:b<n:=NH;clear hs ha hb;simp only[HV]at c ⊢;refine Sk @bne.eq_1.{0} ?_
 refine TC.intro PJ ⟨Tryz.func132,rfl,WY⟩ (away_fun W0 r n b es h3 c hR NH NH aF) ?_;rintro D o S ⟨L,hL,P,s,eL⟩;have p:∀u,u<n->aIndexAddr Tryz.prog 49 D (.int .i64 u)=some (.pointer (some (elemAddr D u))):=fun u hu=>hL.TA u (by rw[P.len];exact hu);have K:∀g,Le o g->∀u l,u<n->L[u]?=some l->aload Tryz.prog g 3 (elemAddr D u)=some (.int .i64 l):=fun g lg u l hu hl=>by
  have:=(hL.le Nn.RP lg).DH u (by rw[P.len];exact hu)
  grind
 have q:=CA (show a<L.length by grind [ai.len]);generalize L[a]'(by grind)=la at q
 have T:=K o (Le.refl _) a la C q;have U:=P.pos a la q;by_cases c0:la<0
 .refine Sk (Yb (p a C) T c0) ?_
  exact⟨d.trans s,_,_,rfl,rfl,fun _ _ _ _ _=>⟨⟨(fun h=>by cases h),fun h=>by grind⟩,fun h=>by cases h⟩⟩
 obtain⟨k0,rfl⟩:=WA (show 0<=la by omega);obtain⟨h5,e5,l5,w5,o5⟩:=Tt S [.int .i64 (a:Int)];refine Sk (IX (p a C) T c0 @DQ e5) ?_
 have nW:o.own o.next=none:=(Le.refl o).next S (qL0 _)
 have g5:GI h5 (.slice (some ⟨o.next,0,none⟩) 1 1) [(a:Int)]:=GS.full o5 rfl (show 1<1000000000000 by decide)
 have V:Z2 o (.slice (some ⟨o.next,0,none⟩) 1 1):=fun b hb=>by grind [blk]
 generalize Value.slice (some ⟨o.next,0,none⟩) 1 1=M at*
 have W:=(P.bd a _ q).2;refine aab.intro (fun k fr X=>∃(v:Nat) (N:Value) (xs:RZ),fr=mkF [(2,.int .i64 b),(8,r),(10,D),(11,N),(12,.int .i64 v)]/\v<n/\L[v]?=some (k:Int)/\GI X N xs/\xs.length+k<=300/\Le o X/\Z2 o N/\∃pre,xs=pre++[(v:Int)]/\pre++pthM (Zh n es) L k v=pthM (Zh n es) L k0 a)
  k0 [(2,.int .i64 b),(8,r),(10,D),(11,M),(12,.int .i64 a)] fD ⟨a,M,[(a:Int)],rfl,C,q,g5,by simp;omega,l5,V,[],rfl,rfl⟩ ?_
 clear V g5 nW o5 w5 l5 e5;clear h5 M;rintro k fr X bm ⟨v,N,xs,rfl,hv,E,gw,bo,leq,Y,pre,aH,aJ⟩;by_cases c1:(v:Int)=(b:Int)
 .obtain rfl : v = b := NH
  have cc:decide ((v:Int)=(v:Int))=true:=by simp
  refine Sk (XC @bne.eq_1.{0} cc) ?_
  refine⟨(d.trans s).trans leq,_,_,rfl,gw.rl.one,fun _ _ _ _ _=>⟨⟨fun _=>U.1 NH,fun _=>rfl⟩,fun _=>⟨?_,fun b hb=>(d.trans s).none (Y b hb),pw⟩⟩⟩;have W:k=0:=by grind [ai.self]
  subst W;have e1:DO n es a v=pthM (Zh n es) L k0 a:=by
   unfold DO;rw[<-eL,qH,q];rfl
  grind [pthM]
 have hk:0<k:=by
  rcases Nat.eq_zero_or_pos k with rfl|h
  all_goals grind [ai.zero]
 have cc:decide ((v:Int)=(b:Int))=false:=pw;have F:v<(Zh n es).length:=by grind [Xq]
 have aK:=c.NS v F;obtain⟨uv,aP,f⟩:=c.Wm v F;have t:(Zh n es).getD v []=(Zh n es)[v]:=D4 F;generalize (Zh n es)[v]=row at f t;have lr:=fun g=>f.Uc g;have br:row.length<=3000:=by
  have:=bV n es row (by rw[<-t,D4 F];grind);omega
 simp only[HO,Nat.reduceLT,↓reduceIte,Nat.reduceEqDiff,reduceCtorEq,bne,cc,aK,aP X (s.trans leq),lr];refine aab.intro (fun m fr hh=>∃j:Nat,m=row.length-j/\j<=row.length/\fr=mkF [(2,.int .i64 b),(8,r),(10,D),(11,N),(12,.int .i64 v),(43,uv),(44,.int .i64 row.length),(45,.int .i64 j)]/\hh=X/\∀(i:Nat) (w:Nat),i<j->row[i]?=some (w:Int)->L[w]?≠some ((k:Int)-1))
  row.length [(2,.int .i64 b),(8,r),(10,D),(11,N),(12,.int .i64 v),(43,uv),(44,.int .i64 row.length),(45,.int .i64 (0:Nat))] fD ⟨0,rfl,Og _,rfl,rfl,NH⟩ ?_
 rintro m fr hh aT ⟨j,rfl,hj,rfl,rfl,aW⟩;refine Uy ?_;refine Kl.intro (fun ht=>?_) (fun hf=>?_)
 rotate_left
 .have bx : row.length <= j := vp hf
  exfalso;obtain⟨w,aX,A⟩:=P.pre v k E NH;have hm:=(EW hR v w).2 aX;rw[t]at hm;obtain⟨i,hi⟩:=IE.1 hm
  grind
 have H:j<row.length:=CC ht;clear ht;have O:=CA H;have Z:=f.TA j H;have aa:=(f.le Nn.RP (s.trans leq)).DH j H;have ae:row[j]∈(Zh n es).getD v []:=pw;generalize row[j]=x at aa O ae;obtain⟨w,rfl,I⟩:=Ru hR ae;have A:=CA (show w<L.length by grind [ai.len]);generalize L[w]'(by grind)=lw at A
 have ag:=K hh leq w lw I A;have aj:=K hh leq v k hv E;have al:awrap .i64 ((k:Int)-1)=(k:Int)-1:=ie _ NH NH;refine Sk (XC Z aa) ?_;refine gh (tA [0,1,2,3,4,5,6,7,8,9] .done) ?_;by_cases c2:lw=(k:Int)-1
 .have dd : decide (lw = (k : Int) - 1) = true := pw
  obtain⟨aq,h6,h7,e6,e7,g7,w7,l6,hf,bB⟩:=gw.push aT (w:Int) NH;obtain⟨l7,a7⟩:=hf o leq Y;refine CO (bG (p w I) ag (p v hv) aj al dd) ?_;refine Sk (XC e6 e7) ?_;refine tn (k-1) [(2,.int .i64 b),(8,r),(10,D),(11,aq),(12,.int .i64 w)] NH fD ⟨w,aq,_,rfl,I,by rw[A,c2];congr 1;omega,g7,by simp;omega,l7,a7,pre++[(v:Int)],by rw[aH],?_⟩;rw[<-aJ,Ki];congr 1;obtain⟨k,rfl⟩:∃k',k=k'+1:=⟨k-1,NH⟩;rw[pthM,t,find_at O (by rw[decide_eq_true_eq,HV,qH,qH,A,E];exact c2) (fun i y hi Q=>by
   have a6:y∈(Zh n es).getD v []:=by rw[t];exact Gc Q
   obtain⟨z,rfl,hz⟩:=Ru hR a6;have a8:=CA (show z<L.length by rw[P.len];exact hz);have:=aW i z hi Q;rw[decide_eq_false_iff_not,HV,qH,qH,E];intro e;rw[a8]at this e;exact this (by congr 1))]
  simp
 .have dd : decide (lw = (k : Int) - 1) = false := pw
  refine CO (bG (p w I) ag (p v hv) aj al dd) ?_;refine Sk (aaa j NH) ?_;refine tn (row.length-(j+1)) [(2,.int .i64 b),(8,r),(10,D),(11,N),(12,.int .i64 v),(43,uv),(44,.int .i64 row.length),(45,.int .i64 (j+1:Nat))] NH fD ⟨j+1,rfl,H,rfl,rfl,fun i y hi Q=>?_⟩;by_cases e:i=j
  .subst e; rw [O] at Q; injection Q with Q
   obtain rfl:w=y:=NH
   grind
  grind
end
end Go.Fw
