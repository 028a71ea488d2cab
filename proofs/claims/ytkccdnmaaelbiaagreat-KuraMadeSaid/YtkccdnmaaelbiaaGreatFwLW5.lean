/- A text. -/
import Derived.Test.YtkccdnmaaelbiaaGreatFwLW2
import Derived.Test.YtkccdnmaaelbiaaGreatFwLB17
set_option linter.all false
set_option maxRecDepth 99999
set_option maxHeartbeats 9999999
namespace Go.Fw
section
attribute [local irreducible] Kp MQ lU rS KO KN KX KE VK Kl ZJ TC aab
open Go.Proofs
variable {n:Nat}
def mkL52 (h:AHeap) {u:Value} (a:xO u n):aBuildSlice Tryz.prog h 27 1 [(0,u)]=some (.slice (some ⟨h.next,0,none⟩) 1 1,h.alloc (.cells [u])):=by
 obtain⟨_,_,rfl,_⟩:=a;rfl
def mkL52e (h:AHeap):aBuildSlice Tryz.prog h 27 0 []=some (.slice (some ⟨h.next,0,none⟩) 0 0,h.alloc (.cells [])):=rfl
theorem It (W0:LA) (v:Value) (G:GM) (h:AHeap) (hg:GR h v G) (N:bX G):
  AC Tryz.prog W0 64 [v] h fun x h'=>Lj (RL RP) h' x ((Gx G.n.toNat G.es G.n.toNat).map aaa)/\Le h h'/\Z2 h x:=by
 have aC:=hg;obtain⟨gn,es⟩:=G
 obtain⟨ev,rfl,hp⟩:=hg.open
 have h0:0<=gn:=N.n0;obtain⟨n,rfl⟩:=yY h0;have bg:(n:Int)<=200:=N.n1;have bh:es.length<=594:=N.len;have hR:=N.GD;have hA:=N.q9;simp only[Z6];refine AC.vE ⟨Tryz.func64,rfl,WY⟩ Tryz.ntmps64 Tryz.results64 fun aD=>?_;simp only[Br,Nat.reduceAdd];obtain⟨h1,b1,A,bk,-,lA⟩:=r8 (n:=(n:Int)) aD hp
 generalize h.next=B at*
 have aH:=lA h1 (Le.refl _);simp only[HO,Nat.reduceLT,↓reduceIte,Nat.reduceEqDiff,reduceCtorEq,b1,aH.1];refine TC.intro PJ ⟨qS37,rfl,WY⟩ (N7 W0 _ (.slice none 0 0) ⟨(n:Int),es⟩ [] h1 (aC.le A) RL.nil Ma) ?_;rintro x h2 O ⟨p,C,e,rfl,y⟩;obtain⟨rfl,E⟩:e=0/\RL (RL RP) h2 C (Zh n es):=pw;clear y;obtain⟨h3,e3,l3,w3,o3⟩:=Tt O [];have fT:=lA h3 (p.trans l3);have mk:=Ye (P:=Tryz.prog) (t:=59) (z:=.bool false) h3 Uh rfl rfl rfl rfl Ji AV Ji n NH;obtain⟨h4,e4,l4,w4,o4⟩:=Tt w3 (List.replicate n (.bool false));rw[e4]at mk;have Q:=lA h4 ((p.trans l3).trans l4);simp only[HO,Nat.reduceLT,↓reduceIte,Nat.reduceEqDiff,reduceCtorEq,Ii,Ip,BS,mkL52e,e3,fT.2.1,mk,Q.2.1,bne]
 have nP:h2.own h2.next=none:=(Le.refl h2).next O (qL0 _)
 have nM:h3.own h3.next=none:=(Le.refl h3).next w3 (qL0 _)
 have bm:h2.own h3.next=none:=l3.none nM
 have ne:h2.next≠h3.next:=fun e=>by grind
 generalize h3.next=M at*
 have oM:h4.own M=some (.cells (Bo (List.replicate n false))):=by rw[o4];simp[Bo]
 have R:=((A.trans p).trans l3).trans l4
 have g0:Lj (RL RP) (rem [M] h4) (.slice (some ⟨h2.next,0,none⟩) 0 0) ((Gx n es 0).map aaa):=by grind [Gx,Es,Lj.empty,Th,Le.own]
 have S:Z2 h2 (.slice (some ⟨h2.next,0,none⟩) 0 0):=fun b hb=>by injection hb with hb;grind
 have U:blk (.slice (some ⟨h2.next,0,none⟩) 0 0)≠some M:=fun e=>by injection e with e;exact ne e
 generalize Value.slice (some ⟨h2.next,0,none⟩) 0 0=V at*
 have F:∀(k:IntKind) (j:Nat),j<n->aIndexAddr Tryz.prog 59 (.slice (some ⟨M,0,none⟩) n n) (.int k j)=some (.pointer (some ⟨M,j,none⟩)):=fun k j hj=>by rw[Wc Uh AV Ji j hj];simp[Ip]
 have aJ:∀(g:AHeap) (T:Nat) (L:List Bool) (j:Nat) (l:Bool),g.own T=some (.cells (Bo L))->L[j]?=some l->aload Tryz.prog g 4 ⟨T,j,none⟩=some (.bool l):=fun g T L j l ho hl=>by rw[Fq AV rfl ho];simp[Bo,hl]
 refine aab.intro (fun k fr m=>∃(i:Nat) (pv:Value) (met:List Bool),k=n-i/\i<=n/\fr=mkF [(3,C),(5,pv),(6,.slice (some ⟨M,0,none⟩) n n),(24,.int .i64 n),(25,.int .i64 i)]/\
   m.own M=some (.cells (Bo met))/\met.length=n/\Lj (RL RP) (rem [M] m) pv ((Gx n es i).map aaa)/\blk pv≠some M/\Le h2 m/\Z2 h2 pv/\∀w,w<n->(met[w]?=some true↔∃u,u<i/\Pu es u w))
  n [(3,C),(5,V),(6,.slice (some ⟨M,0,none⟩) n n),(24,.int .i64 n),(25,.int .i64 (0:Nat))] fD
  ⟨0,_,_,rfl,aal _,rfl,oM,Ma,g0,U,l3.trans l4,S,fun w hw=>by simp[hw]⟩ ?_
 clear S U g0 R oM ne nM nP Q o4 w4 l4 e4 mk fT o3 w3 l3 e3;clear h4 V h3;rintro k fr m bo ⟨i,pv,met,rfl,hi,rfl,oM,W,gp,np,leq,ap,K⟩;have br:((Gx n es i).map aaa).length<=n:=by grind [vH,Gx]
 refine Uy ?_;refine Kl.intro (fun X=>?_) (fun hf=>?_)
 rotate_left
 .have Y : n <= i := vp hf
  obtain rfl:i=n:=NH;refine Uy ?_;exact⟨gp.le (Nn.RL Nn.RP) (Sa _ _),(A.trans p).trans leq,fun b hb=>(A.trans p).none (ap b hb)⟩
 have a:i<n:=CC X;clear X;have H:=CA (show i<met.length by omega);generalize met[i]'(by omega)=mb at H
 have I:=aJ m M met i mb oM H;cases mb with
 |true=>
  have hx:=(K i a).1 H;simp only[HO,Nat.reduceLT,↓reduceIte,Nat.reduceEqDiff,reduceCtorEq,F _ i a,I,Tw i NH];refine tn (n-(i+1)) [(3,C),(5,pv),(6,.slice (some ⟨M,0,none⟩) n n),(24,.int .i64 n),(25,.int .i64 (i+1:Nat))] NH fD
   ⟨i+1,pv,met,rfl,a,rfl,oM,W,?_,np,leq,ap,fun w hw=>?_⟩
  .grind [yP,Gx.eq_1]
  .rw [K w hw]
   constructor
   .grind
   .rintro ⟨u, hu, y⟩
    by_cases e:u=i
    .subst e;obtain⟨u',aP,aT⟩:=hx;exact⟨u',aP,aT.trans y⟩
    grind
 |false=>
  have hx:∀u,u<i->¬Pu es u i:=fun u hu y=>by grind
  simp only[HO,Nat.reduceLT,↓reduceIte,Nat.reduceEqDiff,reduceCtorEq,F _ i a,I];refine TC.intro PJ ⟨Tryz.func114,rfl,WY⟩ (V6 W0 C n i es m (E.le (Nn.RL Nn.RP) leq) hR hA NH NH a) ?_;rintro x h5 Z ⟨d,uv,o,up,rfl,go,-,D,l5,ao⟩;have r:=l5.own _ _ oM;have ae:blk d≠some M:=fun e=>by have:=ao _ e;grind
  have lo:=fun g=>go.rl.Uc g;rw[y6]at lo;have bx:o.length<=n:=by
   have:=D.KP.nodup.length_le_of_subset (l₂:=List.range n) fun w hw=>uV.2 (((D.mem w).1 hw).lt hR a)
   grind
  simp only[HO,Nat.reduceLT,↓reduceIte,Nat.reduceEqDiff,reduceCtorEq,lo];have K0:Le (rem [M] m) h5:=(Sa _ _).trans l5;have nK:(rem [M] m).own M=none:=by grind [DC]
  have aK:Z2 (rem [M] m) d:=fun b hb=>(Sa [M] m).none (ao b hb);have aW:∀b,blk pv=some b->blk d≠some b:=fun b hb y=>by
   obtain⟨us,g1,_⟩:=gp;have:=GS.Sy g1 hb;exact this (aK b y)
  refine aab.intro (fun k fr hh=>∃(j:Nat) (c:List Bool),k=o.length-j/\j<=o.length/\fr=mkF [(3,C),(5,pv),(6,.slice (some ⟨M,0,none⟩) n n),(8,d),(24,.int .i64 n),(25,.int .i64 i),(38,d),(39,.int .i64 o.length),(40,.int .i64 j)]/\
    hh.own M=some (.cells (Bo c))/\c.length=n/\GI hh d (aaa o)/\Le (rem [M] m) hh/\∀w,w<n->(c[w]?=some true↔met[w]?=some true\/w∈o.take j))
   o.length [(3,C),(5,pv),(6,.slice (some ⟨M,0,none⟩) n n),(8,d),(24,.int .i64 n),(25,.int .i64 i),(38,d),(39,.int .i64 o.length),(40,.int .i64 (0:Nat))] fD
   ⟨0,met,rfl,aal _,rfl,r,W,go,K0,fun w hw=>by simp⟩ ?_
  clear r lo go l5 Z K0 I;clear h5;rintro k fr h5 Z ⟨j,c,rfl,hj,rfl,r,s,go,K5,J⟩;refine Uy ?_;refine Kl.intro (fun X=>?_) (fun hf=>?_)
  .have f : j < o.length := CC X
   clear X;have ag:=CA f;have ad:=go.rl.TA j (by rw[y6];exact f);have ld:=go.rl.DH j (by rw[y6];exact f);rw[sY f]at ld;have aj:o.take (j+1)=o.take j++[o[j]]:=EL f;generalize o[j]=w at ag ld aj;have al:w<n:=((D.mem w).1 (Gc ag)).lt hR a;have st:=QB (P:=Tryz.prog) (t:=4) (x:=.bool true) AV Ji r (off:=w) (by rw[O2,s];exact al) rfl rfl;rw[Tr]at st;simp only[HO,Nat.reduceLT,↓reduceIte,Nat.reduceEqDiff,reduceCtorEq,ad,ld,F _ w al,st,Tw j NH];refine tn (o.length-(j+1)) [(3,C),(5,pv),(6,.slice (some ⟨M,0,none⟩) n n),(8,d),(24,.int .i64 n),(25,.int .i64 i),(38,d),(39,.int .i64 o.length),(40,.int .i64 (j+1:Nat))] NH fD
    ⟨j+1,_,rfl,f,rfl,AHeap.Y3 _ _ _,by simp[s],GS.put go _ ae,K5.put _ nK,fun x hx=>?_⟩
   rw[aj,K4,Sb,jf];by_cases e:w=x
   .grind
   .rw[if_neg e,J x hx];simp[fj e]
  .have Y : o.length <= j := vp hf
   rw[IE Y]at J;refine Uy ?_;refine TC.intro PJ ⟨qS36,rfl,WY⟩ (VQ W0 go (by rw[y6];omega)) ?_;rintro x h6 w6 ⟨rfl,aq,ar⟩;have av:=(ar (rem (bl d) h5) (Sa _ _) (fun b hb=>by grind [DC,Zr])).own M _ (Th.2 ⟨r,fun K=>ae (Zr.1 K)⟩);have K6:=ar _ K5 aK;rw[fM hR D a]at aq;have aX:Le (rem [M] m) (rem [M] h6):=K6.iV fun b hb=>by grind
   have a6:=gp.le (Nn.RL Nn.RP) aX;have hb:∀b,blk pv=some b->b∉[M]:=fun b hb K=>by grind
   have gu:RL RP (rem [M] (rem (bl pv) h6)) d (aaa (Ic n es i)):=by
    have q:GI (rem [M] (rem (bl pv) h6)) d (aaa (Ic n es i)):=GS.Fi (GS.Fi aq (l:=bl pv) fun b hb y=>aW b (Zr.1 y) hb) (l:=[M]) fun b sZ y=>by grind
    exact q.rl
   obtain⟨h7,ay,h8,e7,e8,bB,l7,w7,f8,k8⟩:=Lj.mG (P:=Tryz.prog) (t:=27) (Nn.RL Nn.RP) Ji a6 w6 gu gu.sl.one NH hb (fun b hb=>by rw[jf]at hb;subst hb;rw[av];simp);obtain⟨a7,bb⟩:=k8 M _ av np;have az:Le h2 h6:=(leq.iV (l:=[M]) fun b hb=>by grind).trans K6;obtain⟨l8,a8⟩:=f8 h2 az ap;simp only[HO,Nat.reduceLT,↓reduceIte,Nat.reduceEqDiff,reduceCtorEq,mkL52 h6 gu.sl,e7,e8,Tw i NH];refine tn (n-(i+1)) [(3,C),(5,ay),(6,.slice (some ⟨M,0,none⟩) n n),(24,.int .i64 n),(25,.int .i64 (i+1:Nat))] NH fD
    ⟨i+1,ay,c,rfl,a,rfl,a7,s,?_,bb,l8,a8,fun w hw=>?_⟩
   .rcases yP i es with ⟨h, _⟩ | ⟨_, u, hu, y⟩
    .grind [Gx.eq_1]
    grind
   .rw [J w hw, K w hw, D.mem]
    constructor
    .grind
    grind
end
section
open Go.Proofs
variable {L:RZ} {cl cl':Nat->Nat->Prop} {es:List Pr} {met:II} {n s u w:Nat} {x:Int}
structure Ar (n:Nat) (es:List Pr) (s:Nat) (L:RZ) (met:II) (cl:Nat->Nat->Prop):Prop where
 len:L.length=n
 val:∀(v:Nat) (x:Int),L[v]?=some x->x=-1\/0<=x/\v∈met
 mm:∀v∈met,v<n/\Pu es s v/\∃x:Int,L[v]?=some x/\0<=x
 nd:met.Nodup
 s0:L[s]?=some 0
 ms:s∈met
 pre:∀(v:Nat) (x:Int),L[v]?=some x->0<x->∃w,Jp es v w/\L[w]?=some (x-1)
 zero:∀(v:Nat),L[v]?=some 0->v=s
 cl:∀u w,cl u w->w∈met
 bd:∀(v:Nat) (x:Int),L[v]?=some x->x+1<=met.length
structure ai (n:Nat) (es:List Pr) (s:Nat) (L:RZ):Prop where
 len:L.length=n
 pos:∀(v:Nat) (x:Int),L[v]?=some x->(0<=x↔Pu es s v)
 pre:∀(v:Nat) (x:Int),L[v]?=some x->0<x->∃w,Jp es v w/\L[w]?=some (x-1)
 zero:∀(v:Nat),L[v]?=some 0->v=s
 bd:∀(v:Nat) (x:Int),L[v]?=some x->-1<=x/\x+1<=n
 self:L[s]?=some 0
theorem Ar.start (hs:s<n) (cl:Nat->Nat->Prop) (a:∀u w,¬cl u w):Ar n es s ((List.replicate n (-1)).set s 0) [s] cl:=by
 have b:((List.replicate n (-1:Int)).set s 0)[s]?=some 0:=pw;refine⟨Ma,fun v x h=>?_,fun v c=>?_,Ma,b,Ma,fun v x h d=>?_,fun v h=>?_,pw,fun v x h=>?_⟩
 .grind
 all_goals grind [Pu.refl]
theorem Ar.mono (t:Ar n es s L met cl) (h:∀u w,cl' u w->cl u w):Ar n es s L met cl':=
 {t with cl:=fun u w a=>t.cl u w (h u w a)}
theorem Ar.stay (t:Ar n es s L met cl) (d:L[w]?=some x) (e:0<=x) (h:∀a b,cl' a b->cl a b\/b=w):Ar n es s L met cl':=
 have hw:w∈met:=by grind [Ar.val]
 {t with cl:=fun a b c=>(h a b c).elim (fun h=>t.cl a b h) pw}
theorem Ar.push (t:Ar n es s L met cl) {d x:Int} (g:u∈met) (hd:L[u]?=some d) (ha:Jp es u w) (q:L[w]?=some x) (i:x<0) (h:∀a b,cl' a b->cl a b\/b=w):
  Ar n es s (L.set w (d+1)) (met++[w]) cl':=by
 have j:0<=d:=by obtain⟨_,_,y,c,i⟩:=t.mm u g;grind
 have k:w∉met:=fun l=>by obtain⟨_,_,y,c,m⟩:=t.mm w l;grind
 have keep:∀(v:Nat) (y:Int),L[v]?=some y->0<=y->(L.set w (d+1))[v]?=some y:=pw;have gs:∀(v:Nat) (y:Int),(L.set w (d+1))[v]?=some y->v=w/\y=d+1\/v≠w/\L[v]?=some y:=pw;refine⟨by simp[t.len],fun v y c=>?_,fun v e=>?_,?_,(by grind [Ar.s0]),(by grind [Ar.ms]),fun v y c f=>?_,fun v e=>?_,fun a b o=>?_,fun v y c=>?_⟩
 .grind [Ar.val]
 .rw [Sb, jf] at e
  rcases e with e|rfl
  .obtain ⟨r, h2, y, c, f⟩ := t.mm v e
   grind
  .exact⟨by grind [Ar.len],.step (t.mm u g).2.1 ha rfl,d+1,pw,NH⟩
 .grind [Ar.nd]
 .rcases gs v y c with ⟨rfl, rfl⟩ | ⟨_, c⟩
  .grind [Jp.symm]
  .obtain ⟨b, hb, p⟩ := t.pre v y c f
   grind
 .grind [Ar.zero]
 .rw [Sb, jf]
  rcases h a b o with h|rfl
  .exact .inl (t.cl a b h)
  grind
 .simp only [vZ, AQ]
  rcases gs v y c with⟨rfl,rfl⟩|⟨_,c⟩
  .have:=t.bd u d hd;omega
  .have:=t.bd v y c;omega
theorem Ar.abK (t:Ar n es s L met cl):met.length<=n:=by
 have:=t.nd.length_le_of_subset (l₂:=List.range n) fun v a=>uV.2 (t.mm v a).1
 grind
theorem Ar.finish (t:Ar n es s L met cl) (h:∀u w,u∈met->Jp es u w->cl u w):ai n es s L:=by
 have all:∀v,Pu es s v->v∈met:=by
  intro v c
  induction c with
  |refl _=>exact t.ms
  |step _ a _ d=>exact t.cl _ _ (h _ _ d a)
 refine⟨t.len,fun v x b=>⟨fun e=>?_,fun c=>?_⟩,t.pre,t.zero,fun v x b=>?_,t.s0⟩
 .rcases t.val v x b with h | ⟨_, h⟩
  .omega
  .exact(t.mm v h).2.1
 .obtain ⟨_, _, y, f, e⟩ := t.mm v (all v c)
  grind
 .have := t.bd v x b
  have:=t.abK;rcases t.val v x b with h|⟨h,_⟩<;>omega
end
section
attribute [local irreducible] Kp MQ lU rS KO KN KX KE VK Kl ZJ TC aab
open Go.Proofs
def awS (u:Nat) (st:RZ×II) (x:Int):RZ×II:=if st.1.getD x.toNat 0<0 then(st.1.set x.toNat (st.1.getD u 0+1),st.2++[x.toNat])else st
def awI (rows:AM) (n s:Nat):Nat->RZ×II
  |0=>((List.replicate n (-1)).set s 0,[s])
  |i+1=>match(awI rows n s i).2[i]? with
    |some u=>(rows.getD u []).foldl (awS u) (awI rows n s i)
    |none=>awI rows n s i
def NY (rows:AM) (n s:Nat):RZ:=(awI rows n s n).1
theorem vk {rows:AM} {n s i:Nat} (h:(awI rows n s i).2.length<=i):∀k,i<=k->awI rows n s k=awI rows n s i
 |0,a=>by grind
 |k+1,a=>by
  by_cases e:i=k+1
  .rw[e]
  .have b := vk h k NH
   grind [awI.eq_2]
theorem GO (W0:LA) (bv:Value) (n s:Nat) (es:List Pr) (h:AHeap) (hb:RL (RL RP) h bv (Zh n es)) (hR:aV n es) (hn:n<=300) (bg:es.length<=1000) (hs:s<n):
  AC Tryz.prog W0 132 [bv,.int .i64 (s:Int)] h fun x h'=>∃L,RL RP h' x L/\ai n es s L/\Le h h'/\L=NY (Zh n es) n s:=by
 refine AC.vE ⟨Tryz.func132,rfl,WY⟩ Tryz.ntmps132 Tryz.results132 fun al=>?_;simp only[Br,Nat.reduceAdd];have lb:=fun g=>hb.len (P:=Tryz.prog) pE g;rw[Xq]at lb;obtain⟨h1,e1,l1,w1,o1⟩:=Tt al [.int .i64 (-1)];simp only[HO,Nat.reduceLT,↓reduceIte,Nat.reduceEqDiff,reduceCtorEq,DQ,e1,lb];refine TC.intro PJ ⟨Xv,rfl,WY⟩ (rN W0 _ n NH h1 (RL.Wh (RS.whole o1 rfl))) ?_;rintro x h2 w2 ⟨T,rfl,hT,o2,l2⟩
 have nT:h.own T=none:=l1.next w1 hT
 have oT:h2.own T=some (.cells (Bp (List.replicate n (-1)))):=by rw[o2];simp[Bp]
 have B:∀(k:IntKind) (j:Nat),j<n->aIndexAddr Tryz.prog 49 (.slice (some ⟨T,0,none⟩) n n) (.int k j)=some (.pointer (some ⟨T,j,none⟩)):=fun k j hj=>by rw[Wc Ac Mb Ji j hj];simp[Ip]
 have Q:∀(g:AHeap) (L:RZ) (j:Nat) (l:Int),g.own T=some (.cells (Bp L))->L[j]?=some l->aload Tryz.prog g 3 ⟨T,j,none⟩=some (.int .i64 l):=fun g L j l ho hl=>by rw[Fq Mb rfl ho];simp[Bp,hl]
 have F:=QB (P:=Tryz.prog) (t:=3) (x:=.int .i64 0) Mb Ji oT (off:=s) (by simp[Bp,hs]) rfl rfl;rw[yy]at F;have w3:=w2.put (.cells (Bp ((List.replicate n (-1)).set s 0))) (w2.lt oT);have l3:Le h (h2.put T (.cells (Bp ((List.replicate n (-1)).set s 0)))):=(l1.trans l2).put _ nT;have G:(h2.put T (.cells (Bp ((List.replicate n (-1)).set s 0)))).own T=some (.cells (Bp ((List.replicate n (-1)).set s 0))):=AHeap.Y3 _ _ _;simp only[HO,Nat.reduceLT,↓reduceIte,Nat.reduceEqDiff,reduceCtorEq,B _ s hs,F];generalize h2.put T (.cells (Bp ((List.replicate n (-1)).set s 0)))=O at*;obtain⟨h5,e5,H,aq,o5⟩:=Tt w3 [.int .i64 (s:Int)]
 have nM:h.own O.next=none:=l3.next w3 (qL0 _)
 have ar:T≠O.next:=fun e=>by have:=w3.lt G;omega
 simp only[HO,Nat.reduceLT,↓reduceIte,Nat.reduceEqDiff,reduceCtorEq,DQ,e5];have R:=Ar.start (es:=es) hs (fun a w=>(∃j,j<0/\[s][j]?=some a)/\Jp es a w) (fun a w h=>by grind)
 have gM:GI h5 (.slice (some ⟨O.next,0,none⟩) 1 1) (aaa [s]):=GS.full o5 rfl (show 1<1000000000000 by decide)
 refine aab.intro (fun k fr f=>∃(i:Nat) (L:RZ) (m:Value) (met:II),k=n-i/\i<=met.length/\fr=mkF [(0,bv),(5,.slice (some ⟨T,0,none⟩) n n),(6,m),(7,.int .i64 i)]/\
   f.own T=some (.cells (Bp L))/\Le h f/\GI f m (aaa met)/\blk m≠some T/\Z2 h m/\Ar n es s L met (fun a w=>(∃j,j<i/\met[j]?=some a)/\Jp es a w)/\(L,met)=awI (Zh n es) n s i)
  n [(0,bv),(5,.slice (some ⟨T,0,none⟩) n n),(6,.slice (some ⟨O.next,0,none⟩) 1 1),(7,.int .i64 (0:Nat))] fD
  ⟨0,_,_,[s],rfl,aal _,rfl,H.own _ _ G,l3.trans H,gM,by grind [blk],fun b hb=>by grind [blk],R,rfl⟩ ?_
 clear R gM ar nM o5 aq H e5 h5 G l3 w3 F oT o2 l2 w2;clear O h2;rintro k fr f C ⟨i,L,m,met,rfl,hi,rfl,oT,leq,gm,nm,am,v,eI⟩;have lm:=fun g=>gm.rl.Uc g;have S:=v.abK;rw[y6]at lm;simp only[HO,Nat.reduceLT,↓reduceIte,Nat.reduceEqDiff,reduceCtorEq,lm];refine Kl.intro (fun U=>?_) (fun hf=>?_)
 rotate_left
 .have V : met.length <= i := vp hf
  refine Uy ?_;refine⟨L,RL.Wh (RS.whole oT (by grind [Ar.len])),v.finish fun a w ha I=>⟨?_,I⟩,leq,by grind [NY.eq_1,vk]⟩
  grind [List.mem_iff_getElem?]
 have c:i<met.length:=CC U;clear U;have o:=CA c;have W:=sY c;have D:=gm.rl.TA i (by rw[y6];exact c);have p:=gm.rl.DH i (by rw[y6];exact c);rw[W]at p;generalize met[i]=u at o p;clear W;have y:u∈met:=Gc o;have av:u<n:=(v.mm u y).1;have J:u<(Zh n es).length:=by grind [Xq]
 have ay:=hb.NS u J;obtain⟨uv,az,r⟩:=hb.Wm u J;have aC:(Zh n es).getD u []=(Zh n es)[u]:=D4 J;generalize (Zh n es)[u]=row at r aC;have lr:=fun g=>r.Uc g;have bh:row.length<=3000:=by
  have:=bV n es row (by grind);omega
 simp only[HO,Nat.reduceLT,↓reduceIte,Nat.reduceEqDiff,reduceCtorEq,D,p,ay,az f leq,lr];have X:Ar n es s L met (fun a w=>((∃j,j<i/\met[j]?=some a)/\Jp es a w)\/(a=u/\(w:Int)∈row.take 0)):=v.mono fun a w h=>by grind
 refine aab.intro (fun k fr f=>∃(q:Nat) (L:RZ) (m:Value) (met:II),k=row.length-q/\q<=row.length/\fr=mkF [(0,bv),(5,.slice (some ⟨T,0,none⟩) n n),(6,m),(7,.int .i64 i),(31,uv),(32,.int .i64 row.length),(33,.int .i64 q)]/\
   f.own T=some (.cells (Bp L))/\Le h f/\GI f m (aaa met)/\blk m≠some T/\Z2 h m/\met[i]?=some u/\Ar n es s L met (fun a w=>((∃j,j<i/\met[j]?=some a)/\Jp es a w)\/(a=u/\(w:Int)∈row.take q))/\(L,met)=(row.take q).foldl (awS u) (awI (Zh n es) n s i))
  row.length [(0,bv),(5,.slice (some ⟨T,0,none⟩) n n),(6,m),(7,.int .i64 i),(31,uv),(32,.int .i64 row.length),(33,.int .i64 (0:Nat))] fD
  ⟨0,L,m,met,rfl,aal _,rfl,oT,leq,gm,nm,am,o,X,eI⟩ ?_
 have aD:awI (Zh n es) n s (i+1)=row.foldl (awS u) (awI (Zh n es) n s i):=by grind [awI.eq_2]
 clear X eI D p lm;clear y o c S v am nm gm leq oT C hi;clear f L m met;rintro k fr f C ⟨q,L,m,met,rfl,bk,rfl,oT,leq,gm,nm,am,o,v,eI⟩;have y:u∈met:=Gc o;have S:=v.abK;have c:=(Ny.1 o).1;refine Uy ?_;refine Kl.intro (fun U=>?_) (fun hf=>?_)
 rotate_left
 .have V : row.length <= q := vp hf
  simp only[HO,Nat.reduceLT,↓reduceIte,Nat.reduceEqDiff,reduceCtorEq,Tw i NH];refine tn (n-(i+1)) [(0,bv),(5,.slice (some ⟨T,0,none⟩) n n),(6,m),(7,.int .i64 (i+1:Nat))] NH fD ⟨i+1,L,m,met,rfl,c,rfl,oT,leq,gm,nm,am,v.mono fun a w h=>?_,by rw[aD,eI,IE V]⟩
  grind [EW]
 have z:q<row.length:=CC U;clear U;have Y:=r.TA q z;have K:=(r.le Nn.RP leq).DH q z;have aH:row.take (q+1)=row.take q++[row[q]]:=EL z;have M:row[q]∈(Zh n es).getD u []:=pw;generalize row[q]=x at K aH M;obtain⟨w,rfl,N⟩:=Ru hR M;have I:=(EW hR u w).1 M;have E:=CA (show w<L.length by grind [Ar.len]);generalize L[w]'(by grind)=lw at E
 have Z:=Q f L w lw oT E;have ae:∀(A:II),(∀j,j<met.length->A[j]?=met[j]?)->∀a b,((∃j,j<i/\A[j]?=some a)/\Jp es a b)\/(a=u/\(b:Int)∈row.take (q+1))->
   (((∃j,j<i/\met[j]?=some a)/\Jp es a b)\/(a=u/\(b:Int)∈row.take q))\/b=w:=fun A hm a b h=>by grind
 have eS:(row.take (q+1)).foldl (awS u) (awI (Zh n es) n s i)=awS u (L,met) (w:Int):=pw;have gw:L.getD w 0=lw:=pw;by_cases c4:lw<0
 rotate_left
 .simp only [HO, Nat.reduceLT, ↓reduceIte, Nat.reduceEqDiff, reduceCtorEq, Y, K, B _ w N, Z, c4, Tw q NH]
  exact tn (row.length-(q+1)) [(0,bv),(5,.slice (some ⟨T,0,none⟩) n n),(6,m),(7,.int .i64 i),(31,uv),(32,.int .i64 row.length),(33,.int .i64 (q+1:Nat))] NH fD
   ⟨q+1,L,m,met,rfl,z,rfl,oT,leq,gm,nm,am,o,v.stay E NH (ae met fun _ _=>rfl),by grind [awS.eq_1,Int.toNat_natCast]⟩
 obtain⟨bb,_,d,hd,bm⟩:=v.mm u y;have bo:=v.bd u d hd;have aJ:=Q f L u d oT hd;have D:=gm.rl.TA i (by rw[y6];exact c);have p:=gm.rl.DH i (by rw[y6];exact c);rw[sY c,show met[i]=u by grind]at p;have aK:awrap .i64 (d+1)=d+1:=ie _ NH NH;have st1:aStore Tryz.prog f 3 (.pointer (some ⟨T,w,none⟩)) (.int .i64 (d+1))=some (f.put T (.cells (Bp (L.set w (d+1))))):=by rw[QB (P:=Tryz.prog) (t:=3) (x:=.int .i64 (d+1)) Mb Ji oT (off:=w) (by rw[uE,v.len];exact N) rfl rfl,yy]
 have aP:WF (f.put T (.cells (Bp (L.set w (d+1))))):=C.put _ (C.lt oT);have aT:Le h (f.put T (.cells (Bp (L.set w (d+1))))):=leq.put _ nT;have aW:(f.put T (.cells (Bp (L.set w (d+1))))).own T=some (.cells (Bp (L.set w (d+1)))):=AHeap.Y3 _ _ _;have aX:GI (f.put T (.cells (Bp (L.set w (d+1))))) m (aaa met):=GS.put gm _ nm;simp only[HO,Nat.reduceLT,↓reduceIte,Nat.reduceEqDiff,reduceCtorEq,Y,K,B _ w N,Z,c4,D,p,B _ u av,aJ,aK,st1];generalize f.put T (.cells (Bp (L.set w (d+1))))=O at*;obtain⟨ag,h5,h6,e5,e6,g6,w6,l5,hf,hk⟩:=aX.push aP (w:Int) (by grind [y6]);obtain⟨l6,a6⟩:=hf h aT am;obtain⟨a7,a8⟩:=hk T _ aW nm;have aj:aaa met++[(w:Int)]=aaa (met++[w]):=by simp[aaa]
 rw[aj]at g6;simp only[HO,Nat.reduceLT,↓reduceIte,Nat.reduceEqDiff,reduceCtorEq,e5,e6,Tw q NH];exact tn (row.length-(q+1)) [(0,bv),(5,.slice (some ⟨T,0,none⟩) n n),(6,ag),(7,.int .i64 i),(31,uv),(32,.int .i64 row.length),(33,.int .i64 (q+1:Nat))] NH fD
  ⟨q+1,_,ag,met++[w],rfl,z,rfl,a7,l6,g6,a8,a6,(by grind),v.push y hd I E c4 (ae _ fun j hj=>fR hj),by rw[eS,awS,Z6];simp only[gw];rw[if_pos c4,mJ,hd];rfl⟩
def d20:decide ((20:Int)=0)=false:=by decide
theorem d2:decide ((2:Int)=0)=false:=by decide
end
end Go.Fw
