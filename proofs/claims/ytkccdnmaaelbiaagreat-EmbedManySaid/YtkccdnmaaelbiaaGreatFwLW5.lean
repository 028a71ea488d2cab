/- A text. -/
import Derived.Test.YtkccdnmaaelbiaaGreatFwLW2
import Derived.Test.YtkccdnmaaelbiaaGreatFwLB17
set_option linter.all false
set_option maxRecDepth 99999
set_option maxHeartbeats 9999999
namespace Go.Fw
section
attribute [local irreducible] Kp MQ lU rS KO KN KX KE VK Kl ZJ TC gU
open Go.Proofs
variable {n:Nat}
def mkL52 (h:AHeap) {u:Value} (a:xO u n):aBuildSlice Tryz.prog h 27 1 [(0,u)]=some (.slice (some ⟨h.next,0,none⟩) 1 1,h.alloc (.cells [u])):=by
 obtain⟨_,_,rfl,_⟩:=a;rfl
def Sf (h:AHeap):aBuildSlice Tryz.prog h 27 0 []=some (.slice (some ⟨h.next,0,none⟩) 0 0,h.alloc (.cells [])):=rfl
theorem It (W0:LA) (v:Value) (G:GM) (h:AHeap) (hg:GR h v G) (N:bX G):
  AC Tryz.prog W0 64 [v] h fun x h'=>Lj (RL RP) h' x ((Gx G.n.toNat G.es G.n.toNat).map kz)/\Le h h'/\Z2 h x:=by
 have aJ:=hg;obtain⟨gn,es⟩:=G
 obtain⟨ev,rfl,hp⟩:=hg.open
 have h0:0<=gn:=N.n0;obtain⟨n,rfl⟩:=HV h0;have br:(n:Int)<=200:=N.n1;have bx:es.length<=594:=N.len;have hR:=N.GD;have hA:=N.q9;simp only[yY];refine AC.vE ⟨Tryz.func64,rfl,WY⟩ Tryz.ntmps64 Tryz.results64 fun aP=>?_;simp only[Br,Nat.reduceAdd];obtain⟨h1,b1,A,bB,-,lA⟩:=r8 (n:=(n:Int)) aP hp
 generalize h.next=B at*
 have aT:=lA h1 (Le.refl _);simp only[HO,Nat.reduceLT,↓reduceIte,Nat.reduceEqDiff,reduceCtorEq,b1,aT.1];refine TC.intro PJ ⟨XV,rfl,WY⟩ (N7 W0 _ (.slice none 0 0) ⟨(n:Int),es⟩ [] h1 (aJ.le A) RL.nil Ma) ?_;rintro x h2 O ⟨p,C,e,rfl,y⟩;obtain⟨rfl,E⟩:e=0/\RL (RL RP) h2 C (Zh n es):=pw;clear y;obtain⟨h3,e3,l3,w3,o3⟩:=Tt O [];have fT:=lA h3 (p.trans l3);have mk:=Ye (P:=Tryz.prog) (t:=59) (z:=.bool false) h3 eY rfl rfl rfl rfl Ji AV Ji n NH;obtain⟨h4,e4,l4,w4,o4⟩:=Tt w3 (List.replicate n (.bool false));rw[e4]at mk;have Q:=lA h4 ((p.trans l3).trans l4);simp only[HO,Nat.reduceLT,↓reduceIte,Nat.reduceEqDiff,reduceCtorEq,Ii,Ip,BS,Sf,e3,fT.2.1,mk,Q.2.1,bne]
 have nP:h2.own h2.next=none:=(Le.refl h2).next O (vT _)
 have nM:h3.own h3.next=none:=(Le.refl h3).next w3 (vT _)
 have bF:h2.own h3.next=none:=l3.none nM
 have ne:h2.next≠h3.next:=fun e=>by grind
 generalize h3.next=M at*
 have oM:h4.own M=some (.cells (Bo (List.replicate n false))):=by rw[o4];simp[Bo]
 have R:=((A.trans p).trans l3).trans l4
 have g0:Lj (RL RP) (rem [M] h4) (.slice (some ⟨h2.next,0,none⟩) 0 0) ((Gx n es 0).map kz):=by grind [Gx,Es,Lj.empty,Th,Le.own]
 have S:Z2 h2 (.slice (some ⟨h2.next,0,none⟩) 0 0):=fun b hb=>by injection hb with hb;grind
 have U:blk (.slice (some ⟨h2.next,0,none⟩) 0 0)≠some M:=fun e=>by injection e with e;exact ne e
 generalize Value.slice (some ⟨h2.next,0,none⟩) 0 0=V at*
 have F:∀(k:IntKind) (j:Nat),j<n->aIndexAddr Tryz.prog 59 (.slice (some ⟨M,0,none⟩) n n) (.int k j)=some (.pointer (some ⟨M,j,none⟩)):=fun k j hj=>by rw[Wc eY AV Ji j hj];simp[Ip]
 have aW:∀(g:AHeap) (T:Nat) (L:List Bool) (j:Nat) (l:Bool),g.own T=some (.cells (Bo L))->L[j]?=some l->aload Tryz.prog g 4 ⟨T,j,none⟩=some (.bool l):=fun g T L j l ho hl=>by rw[Fq AV rfl ho];simp[Bo,hl]
 refine gU.intro (fun k fr m=>∃(i:Nat) (pv:Value) (met:List Bool),k=n-i/\i<=n/\fr=mkF [(3,C),(5,pv),(6,.slice (some ⟨M,0,none⟩) n n),(24,.int .i64 n),(25,.int .i64 i)]/\
   m.own M=some (.cells (Bo met))/\met.length=n/\Lj (RL RP) (rem [M] m) pv ((Gx n es i).map kz)/\blk pv≠some M/\Le h2 m/\Z2 h2 pv/\∀w,w<n->(met[w]?=some true↔∃u,u<i/\Pu es u w))
  n [(3,C),(5,V),(6,.slice (some ⟨M,0,none⟩) n n),(24,.int .i64 n),(25,.int .i64 (0:Nat))] fD
  ⟨0,_,_,rfl,IE _,rfl,oM,Ma,g0,U,l3.trans l4,S,fun w hw=>by simp[hw]⟩ ?_
 clear S U g0 R oM ne nM nP Q o4 w4 l4 e4 mk fT o3 w3 l3 e3;clear h4 V h3;rintro k fr m bH ⟨i,pv,met,rfl,hi,rfl,oM,W,gp,np,leq,ap,K⟩;have bI:((Gx n es i).map kz).length<=n:=by grind [vH,Gx]
 refine Uy ?_;refine Kl.intro (fun X=>?_) (fun hf=>?_)
 rotate_left
 .have Y : n <= i := vp hf
  obtain rfl:i=n:=NH;refine Uy ?_;exact⟨gp.le (Nn.RL Nn.RP) (Sa _ _),(A.trans p).trans leq,fun b hb=>(A.trans p).none (ap b hb)⟩
 have a:i<n:=CC X;clear X;have H:=CA (show i<met.length by omega);generalize met[i]'(by omega)=mb at H
 have I:=aW m M met i mb oM H;cases mb with
 |true=>
  have hx:=(K i a).1 H;simp only[HO,Nat.reduceLT,↓reduceIte,Nat.reduceEqDiff,reduceCtorEq,F _ i a,I,Tw i NH];refine tn (n-(i+1)) [(3,C),(5,pv),(6,.slice (some ⟨M,0,none⟩) n n),(24,.int .i64 n),(25,.int .i64 (i+1:Nat))] NH fD
   ⟨i+1,pv,met,rfl,a,rfl,oM,W,?_,np,leq,ap,fun w hw=>?_⟩
  .grind [yP,Gx.eq_1]
  .rw [K w hw]
   constructor
   .grind
   .rintro ⟨u, hu, y⟩
    by_cases e:u=i
    .subst e;obtain⟨u',aX,a1⟩:=hx;exact⟨u',aX,a1.trans y⟩
    grind
 |false=>
  have hx:∀u,u<i->¬Pu es u i:=fun u hu y=>by grind
  simp only[HO,Nat.reduceLT,↓reduceIte,Nat.reduceEqDiff,reduceCtorEq,F _ i a,I];refine TC.intro PJ ⟨Tryz.func114,rfl,WY⟩ (V6 W0 C n i es m (E.le (Nn.RL Nn.RP) leq) hR hA NH NH a) ?_;rintro x h5 Z ⟨d,uv,o,up,rfl,go,-,D,l5,ao⟩;have r:=l5.own _ _ oM;have ag:blk d≠some M:=fun e=>by have:=ao _ e;grind
  have lo:=fun g=>go.rl.Uc g;rw[y6]at lo;have bW:o.length<=n:=by
   have:=D.KP.nodup.length_le_of_subset (l₂:=List.range n) fun w hw=>fR.2 (((D.mem w).1 hw).lt hR a)
   grind
  simp only[HO,Nat.reduceLT,↓reduceIte,Nat.reduceEqDiff,reduceCtorEq,lo];have K0:Le (rem [M] m) h5:=(Sa _ _).trans l5;have nK:(rem [M] m).own M=none:=by grind [DC]
  have aK:Z2 (rem [M] m) d:=fun b hb=>(Sa [M] m).none (ao b hb);have a6:∀b,blk pv=some b->blk d≠some b:=fun b hb y=>by
   obtain⟨us,g1,_⟩:=gp;have:=GS.Sy g1 hb;exact this (aK b y)
  refine gU.intro (fun k fr hh=>∃(j:Nat) (c:List Bool),k=o.length-j/\j<=o.length/\fr=mkF [(3,C),(5,pv),(6,.slice (some ⟨M,0,none⟩) n n),(8,d),(24,.int .i64 n),(25,.int .i64 i),(38,d),(39,.int .i64 o.length),(40,.int .i64 j)]/\
    hh.own M=some (.cells (Bo c))/\c.length=n/\GI hh d (kz o)/\Le (rem [M] m) hh/\∀w,w<n->(c[w]?=some true↔met[w]?=some true\/w∈o.take j))
   o.length [(3,C),(5,pv),(6,.slice (some ⟨M,0,none⟩) n n),(8,d),(24,.int .i64 n),(25,.int .i64 i),(38,d),(39,.int .i64 o.length),(40,.int .i64 (0:Nat))] fD
   ⟨0,met,rfl,IE _,rfl,r,W,go,K0,fun w hw=>by simp⟩ ?_
  clear r lo go l5 Z K0 I;clear h5;rintro k fr h5 Z ⟨j,c,rfl,hj,rfl,r,s,go,K5,J⟩;refine Uy ?_;refine Kl.intro (fun X=>?_) (fun hf=>?_)
  .have f : j < o.length := CC X
   clear X;have aj:=CA f;have ad:=go.rl.TA j (by rw[y6];exact f);have ld:=go.rl.DH j (by rw[y6];exact f);rw[sY f]at ld;have al:o.take (j+1)=o.take j++[o[j]]:=EL f;generalize o[j]=w at aj ld al;have aq:w<n:=((D.mem w).1 (Gc aj)).lt hR a;have st:=QB (P:=Tryz.prog) (t:=4) (x:=.bool true) AV Ji r (off:=w) (by rw[O2,s];exact aq) rfl rfl;rw[Tr]at st;simp only[HO,Nat.reduceLT,↓reduceIte,Nat.reduceEqDiff,reduceCtorEq,ad,ld,F _ w aq,st,Tw j NH];refine tn (o.length-(j+1)) [(3,C),(5,pv),(6,.slice (some ⟨M,0,none⟩) n n),(8,d),(24,.int .i64 n),(25,.int .i64 i),(38,d),(39,.int .i64 o.length),(40,.int .i64 (j+1:Nat))] NH fD
    ⟨j+1,_,rfl,f,rfl,AHeap.Y3 _ _ _,by simp[s],GS.put go _ ag,K5.put _ nK,fun x hx=>?_⟩
   rw[al,jz,Sb,si];by_cases e:w=x
   .grind
   .rw[if_neg e,J x hx];simp[uV e]
  .have Y : o.length <= j := vp hf
   rw[vZ Y]at J;refine Uy ?_;refine TC.intro PJ ⟨qS31,rfl,WY⟩ (VQ W0 go (by rw[y6];omega)) ?_;rintro x h6 w6 ⟨rfl,ar,av⟩;have ay:=(av (rem (bl d) h5) (Sa _ _) (fun b hb=>by grind [DC,Zr])).own M _ (Th.2 ⟨r,fun K=>ag (Zr.1 K)⟩);have K6:=av _ K5 aK;rw[fM hR D a]at ar;have a7:Le (rem [M] m) (rem [M] h6):=K6.iV fun b hb=>by grind
   have bb:=gp.le (Nn.RL Nn.RP) a7;have hb:∀b,blk pv=some b->b∉[M]:=fun b hb K=>by grind
   have gu:RL RP (rem [M] (rem (bl pv) h6)) d (kz (Ic n es i)):=by
    have q:GI (rem [M] (rem (bl pv) h6)) d (kz (Ic n es i)):=GS.Fi (GS.Fi ar (l:=bl pv) fun b hb y=>a6 b (Zr.1 y) hb) (l:=[M]) fun b sZ y=>by grind
    exact q.rl
   obtain⟨h7,aD,h8,e7,e8,b0,l7,w7,f8,k8⟩:=Lj.mG (P:=Tryz.prog) (t:=27) (Nn.RL Nn.RP) Ji bb w6 gu gu.sl.one NH hb (fun b hb=>by rw[si]at hb;subst hb;rw[ay];simp);obtain⟨bh,bo⟩:=k8 M _ ay np;have aH:Le h2 h6:=(leq.iV (l:=[M]) fun b hb=>by grind).trans K6;obtain⟨l8,a8⟩:=f8 h2 aH ap;simp only[HO,Nat.reduceLT,↓reduceIte,Nat.reduceEqDiff,reduceCtorEq,mkL52 h6 gu.sl,e7,e8,Tw i NH];refine tn (n-(i+1)) [(3,C),(5,aD),(6,.slice (some ⟨M,0,none⟩) n n),(24,.int .i64 n),(25,.int .i64 (i+1:Nat))] NH fD
    ⟨i+1,aD,c,rfl,a,rfl,bh,s,?_,bo,l8,a8,fun w hw=>?_⟩
   .rcases yP i es with ⟨h, _⟩ | ⟨_, u, hu, y⟩
    .grind [Gx.eq_1]
    grind
   .rw [J w hw, K w hw, D.mem]
    constructor
    .grind
    grind
end
section
open Go.Proofs
variable {L:RZ} {cl cl':Nat->Nat->Prop} {es:List Pr} {met:II} {n s u w:Nat} {x:Int}
structure Ar (n:Nat) (es:List Pr) (s:Nat) (L:RZ) (met:II) (cl:Nat->Nat->Prop):Prop where
 len:L.length=n
 val:∀(v:Nat) (x:Int),L[v]?=some x->x=-1\/0<=x/\v∈met
 mm:∀v∈met,v<n/\Pu es s v/\∃x:Int,L[v]?=some x/\0<=x
 nd:met.Nodup
 s0:L[s]?=some 0
 ms:s∈met
 pre:∀(v:Nat) (x:Int),L[v]?=some x->0<x->∃w,Jp es v w/\L[w]?=some (x-1)
 zero:∀(v:Nat),L[v]?=some 0->v=s
 cl:∀u w,cl u w->w∈met
 bd:∀(v:Nat) (x:Int),L[v]?=some x->x+1<=met.length
structure ai (n:Nat) (es:List Pr) (s:Nat) (L:RZ):Prop where
 len:L.length=n
 pos:∀(v:Nat) (x:Int),L[v]?=some x->(0<=x↔Pu es s v)
 pre:∀(v:Nat) (x:Int),L[v]?=some x->0<x->∃w,Jp es v w/\L[w]?=some (x-1)
 zero:∀(v:Nat),L[v]?=some 0->v=s
 bd:∀(v:Nat) (x:Int),L[v]?=some x->-1<=x/\x+1<=n
 self:L[s]?=some 0
theorem Ar.start (hs:s<n) (cl:Nat->Nat->Prop) (a:∀u w,¬cl u w):Ar n es s ((List.replicate n (-1)).set s 0) [s] cl:=by
 have gs:∀(v:Nat) (x:Int),((List.replicate n (-1:Int)).set s 0)[v]?=some x->v=s/\x=0\/x=-1:=pw;have b:((List.replicate n (-1:Int)).set s 0)[s]?=some 0:=pw;refine⟨Ma,fun v x h=>?_,fun v c=>?_,Ma,b,Ma,fun v x h d=>?_,fun v h=>?_,fun u w h=>absurd h (a u w),fun v x h=>?_⟩
 .grind
 all_goals grind [Pu.refl]
theorem Ar.mono (t:Ar n es s L met cl) (h:∀u w,cl' u w->cl u w):Ar n es s L met cl':=
 {t with cl:=fun u w a=>t.cl u w (h u w a)}
theorem Ar.stay (t:Ar n es s L met cl) (d:L[w]?=some x) (f:0<=x) (h:∀a b,cl' a b->cl a b\/b=w):Ar n es s L met cl':=
 have hw:w∈met:=by grind [Ar.val]
 {t with cl:=fun a b c=>(h a b c).elim (fun h=>t.cl a b h) (fun e=>by grind)}
theorem Ar.push (t:Ar n es s L met cl) {d x:Int} (g:u∈met) (i:L[u]?=some d) (ha:Jp es u w) (j:L[w]?=some x) (k:x<0) (h:∀a b,cl' a b->cl a b\/b=w):
  Ar n es s (L.set w (d+1)) (met++[w]) cl':=by
 have l:=(Ny.1 j).1;have m:0<=d:=by obtain⟨_,_,y,c,k⟩:=t.mm u g;grind
 have o:w∉met:=fun p=>by obtain⟨_,_,y,c,q⟩:=t.mm w p;grind
 have keep:∀(v:Nat) (y:Int),L[v]?=some y->0<=y->(L.set w (d+1))[v]?=some y:=fun v y c e=>by grind
 have gs:∀(v:Nat) (y:Int),(L.set w (d+1))[v]?=some y->v=w/\y=d+1\/v≠w/\L[v]?=some y:=fun v y c=>by grind
 refine⟨by simp[t.len],fun v y c=>?_,fun v f=>?_,?_,keep _ _ t.s0 (Int.le_refl _),vg _ t.ms,fun v y c e=>?_,fun v f=>?_,fun a b r=>?_,fun v y c=>?_⟩
 .grind [Ar.val]
 .rw [Sb, si] at f
  rcases f with f|rfl
  .obtain ⟨A, h2, y, c, e⟩ := t.mm v f
   grind
  .exact⟨by grind [Ar.len],.step (t.mm u g).2.1 ha rfl,d+1,pw,NH⟩
 .grind [Ar.nd]
 .rcases gs v y c with ⟨rfl, rfl⟩ | ⟨_, c⟩
  .grind [Jp.symm]
  .obtain ⟨b, hb, z⟩ := t.pre v y c e
   grind
 .grind [Ar.zero]
 .rw [Sb, si]
  rcases h a b r with h|rfl
  .exact .inl (t.cl a b h)
  grind
 .simp only [eR, Uz]
  rcases gs v y c with⟨rfl,rfl⟩|⟨_,c⟩
  .have:=t.bd u d i;omega
  .have:=t.bd v y c;omega
theorem Ar.vU (t:Ar n es s L met cl):met.length<=n:=by
 have:=t.nd.length_le_of_subset (l₂:=List.range n) fun v a=>fR.2 (t.mm v a).1
 grind
theorem Ar.finish (t:Ar n es s L met cl) (h:∀u w,u∈met->Jp es u w->cl u w):ai n es s L:=by
 have all:∀v,Pu es s v->v∈met:=by
  intro v c
  induction c with
  |refl _=>exact t.ms
  |step _ a _ d=>exact t.cl _ _ (h _ _ d a)
 refine⟨t.len,fun v x b=>⟨fun e=>?_,fun c=>?_⟩,t.pre,t.zero,fun v x b=>?_,t.s0⟩
 .rcases t.val v x b with h | ⟨_, h⟩
  .omega
  .exact(t.mm v h).2.1
 .obtain ⟨_, _, y, f, e⟩ := t.mm v (all v c)
  grind
 .have := t.bd v x b
  have:=t.vU;rcases t.val v x b with h|⟨h,_⟩<;>omega
end
section
attribute [local irreducible] Kp MQ lU rS KO KN KX KE VK Kl ZJ TC gU
open Go.Proofs
def awS (u:Nat) (st:RZ×II) (x:Int):RZ×II:=if st.1.getD x.toNat 0<0 then(st.1.set x.toNat (st.1.getD u 0+1),st.2++[x.toNat])else st
def awI (rows:AM) (n s:Nat):Nat->RZ×II
  |0=>((List.replicate n (-1)).set s 0,[s])
  |i+1=>match(awI rows n s i).2[i]? with
    |some u=>(rows.getD u []).foldl (awS u) (awI rows n s i)
    |none=>awI rows n s i
def NY (rows:AM) (n s:Nat):RZ:=(awI rows n s n).1
theorem vk {rows:AM} {n s i:Nat} (h:(awI rows n s i).2.length<=i):∀k,i<=k->awI rows n s k=awI rows n s i
 |0,a=>by grind
 |k+1,a=>by
  by_cases e:i=k+1
  .rw[e]
  .have b := vk h k NH
   grind [awI.eq_2]
theorem GO (W0:LA) (bv:Value) (n s:Nat) (es:List Pr) (h:AHeap) (hb:RL (RL RP) h bv (Zh n es)) (hR:aV n es) (hn:n<=300) (bo:es.length<=1000) (hs:s<n):
  AC Tryz.prog W0 132 [bv,.int .i64 (s:Int)] h fun x h'=>∃L,RL RP h' x L/\ai n es s L/\Le h h'/\L=NY (Zh n es) n s:=by
 refine AC.vE ⟨Tryz.func132,rfl,WY⟩ Tryz.ntmps132 Tryz.results132 fun al=>?_;simp only[Br,Nat.reduceAdd];have lb:=fun g=>hb.fy g;rw[Xq]at lb;obtain⟨h1,e1,l1,w1,o1⟩:=Tt al [.int .i64 (-1)];simp only[HO,Nat.reduceLT,↓reduceIte,Nat.reduceEqDiff,reduceCtorEq,DQ,e1,lb];refine TC.intro PJ ⟨Xv,rfl,WY⟩ (rN W0 _ n NH h1 (RL.Wh (RS.whole o1 rfl))) ?_;rintro x h2 w2 ⟨T,rfl,hT,o2,l2⟩
 have nT:h.own T=none:=l1.next w1 hT
 have oT:h2.own T=some (.cells (Bp (List.replicate n (-1)))):=by rw[o2];simp[Bp]
 have B:∀(k:IntKind) (j:Nat),j<n->aIndexAddr Tryz.prog 49 (.slice (some ⟨T,0,none⟩) n n) (.int k j)=some (.pointer (some ⟨T,j,none⟩)):=fun k j hj=>by rw[Wc Mb Ac Ji j hj];simp[Ip]
 have Q:∀(g:AHeap) (L:RZ) (j:Nat) (l:Int),g.own T=some (.cells (Bp L))->L[j]?=some l->aload Tryz.prog g 3 ⟨T,j,none⟩=some (.int .i64 l):=fun g L j l ho hl=>by rw[Fq Ac rfl ho];simp[Bp,hl]
 have F:=QB (P:=Tryz.prog) (t:=3) (x:=.int .i64 0) Ac Ji oT (off:=s) (by simp[Bp,hs]) rfl rfl;rw[yy]at F;have w3:=w2.put (.cells (Bp ((List.replicate n (-1)).set s 0))) (w2.lt oT);have l3:Le h (h2.put T (.cells (Bp ((List.replicate n (-1)).set s 0)))):=(l1.trans l2).put _ nT;have G:(h2.put T (.cells (Bp ((List.replicate n (-1)).set s 0)))).own T=some (.cells (Bp ((List.replicate n (-1)).set s 0))):=AHeap.Y3 _ _ _;simp only[HO,Nat.reduceLT,↓reduceIte,Nat.reduceEqDiff,reduceCtorEq,B _ s hs,F];generalize h2.put T (.cells (Bp ((List.replicate n (-1)).set s 0)))=O at*;obtain⟨h5,e5,H,aq,o5⟩:=Tt w3 [.int .i64 (s:Int)]
 have nM:h.own O.next=none:=l3.next w3 (vT _)
 have ar:T≠O.next:=fun e=>by have:=w3.lt G;omega
 simp only[HO,Nat.reduceLT,↓reduceIte,Nat.reduceEqDiff,reduceCtorEq,DQ,e5];have R:=Ar.start (es:=es) hs (fun a w=>(∃j,j<0/\[s][j]?=some a)/\Jp es a w) (fun a w h=>by grind)
 have gM:GI h5 (.slice (some ⟨O.next,0,none⟩) 1 1) (kz [s]):=GS.full o5 rfl (show 1<1000000000000 by decide)
 refine gU.intro (fun k fr f=>∃(i:Nat) (L:RZ) (m:Value) (met:II),k=n-i/\i<=met.length/\fr=mkF [(0,bv),(5,.slice (some ⟨T,0,none⟩) n n),(6,m),(7,.int .i64 i)]/\
   f.own T=some (.cells (Bp L))/\Le h f/\GI f m (kz met)/\blk m≠some T/\Z2 h m/\Ar n es s L met (fun a w=>(∃j,j<i/\met[j]?=some a)/\Jp es a w)/\(L,met)=awI (Zh n es) n s i)
  n [(0,bv),(5,.slice (some ⟨T,0,none⟩) n n),(6,.slice (some ⟨O.next,0,none⟩) 1 1),(7,.int .i64 (0:Nat))] fD
  ⟨0,_,_,[s],rfl,IE _,rfl,H.own _ _ G,l3.trans H,gM,by grind [blk],fun b hb=>by grind [blk],R,rfl⟩ ?_
 clear R gM ar nM o5 aq H e5 h5 G l3 w3 F oT o2 l2 w2;clear O h2;rintro k fr f C ⟨i,L,m,met,rfl,hi,rfl,oT,leq,gm,nm,am,v,eI⟩;have lm:=fun g=>gm.rl.Uc g;have S:=v.vU;rw[y6]at lm;simp only[HO,Nat.reduceLT,↓reduceIte,Nat.reduceEqDiff,reduceCtorEq,lm];refine Kl.intro (fun U=>?_) (fun hf=>?_)
 rotate_left
 .have V : met.length <= i := vp hf
  refine Uy ?_;refine⟨L,RL.Wh (RS.whole oT (by grind [Ar.len])),v.finish fun a w ha I=>⟨?_,I⟩,leq,by grind [NY.eq_1,vk]⟩
  grind [List.mem_iff_getElem?]
 have c:i<met.length:=CC U;clear U;have o:=CA c;have W:=sY c;have D:=gm.rl.TA i (by rw[y6];exact c);have p:=gm.rl.DH i (by rw[y6];exact c);rw[W]at p;generalize met[i]=u at o p;clear W;have y:u∈met:=Gc o;have av:u<n:=(v.mm u y).1;have J:u<(Zh n es).length:=by grind [Xq]
 have ay:=hb.Wm u J;obtain⟨uv,aD,r⟩:=hb.NS u J;have aH:(Zh n es).getD u []=(Zh n es)[u]:=D4 J;generalize (Zh n es)[u]=row at r aH;have lr:=fun g=>r.Uc g;have br:row.length<=3000:=by
  have:=bV n es row (by grind);omega
 simp only[HO,Nat.reduceLT,↓reduceIte,Nat.reduceEqDiff,reduceCtorEq,D,p,ay,aD f leq,lr];have X:Ar n es s L met (fun a w=>((∃j,j<i/\met[j]?=some a)/\Jp es a w)\/(a=u/\(w:Int)∈row.take 0)):=v.mono fun a w h=>by grind
 refine gU.intro (fun k fr f=>∃(q:Nat) (L:RZ) (m:Value) (met:II),k=row.length-q/\q<=row.length/\fr=mkF [(0,bv),(5,.slice (some ⟨T,0,none⟩) n n),(6,m),(7,.int .i64 i),(31,uv),(32,.int .i64 row.length),(33,.int .i64 q)]/\
   f.own T=some (.cells (Bp L))/\Le h f/\GI f m (kz met)/\blk m≠some T/\Z2 h m/\met[i]?=some u/\Ar n es s L met (fun a w=>((∃j,j<i/\met[j]?=some a)/\Jp es a w)\/(a=u/\(w:Int)∈row.take q))/\(L,met)=(row.take q).foldl (awS u) (awI (Zh n es) n s i))
  row.length [(0,bv),(5,.slice (some ⟨T,0,none⟩) n n),(6,m),(7,.int .i64 i),(31,uv),(32,.int .i64 row.length),(33,.int .i64 (0:Nat))] fD
  ⟨0,L,m,met,rfl,IE _,rfl,oT,leq,gm,nm,am,o,X,eI⟩ ?_
 have aJ:awI (Zh n es) n s (i+1)=row.foldl (awS u) (awI (Zh n es) n s i):=by grind [awI.eq_2]
 clear X eI D p lm;clear y o c S v am nm gm leq oT C hi;clear f L m met;rintro k fr f C ⟨q,L,m,met,rfl,bx,rfl,oT,leq,gm,nm,am,o,v,eI⟩;have y:u∈met:=Gc o;have S:=v.vU;have c:=(Ny.1 o).1;refine Uy ?_;refine Kl.intro (fun U=>?_) (fun hf=>?_)
 rotate_left
 .have V : row.length <= q := vp hf
  simp only[HO,Nat.reduceLT,↓reduceIte,Nat.reduceEqDiff,reduceCtorEq,Tw i NH];refine tn (n-(i+1)) [(0,bv),(5,.slice (some ⟨T,0,none⟩) n n),(6,m),(7,.int .i64 (i+1:Nat))] NH fD ⟨i+1,L,m,met,rfl,c,rfl,oT,leq,gm,nm,am,v.mono fun a w h=>?_,by rw[aJ,eI,vZ V]⟩
  grind [EW]
 have z:q<row.length:=CC U;clear U;have Y:=r.TA q z;have K:=(r.le Nn.RP leq).DH q z;have aK:row.take (q+1)=row.take q++[row[q]]:=EL z;have M:row[q]∈(Zh n es).getD u []:=pw;generalize row[q]=x at K aK M;obtain⟨w,rfl,N⟩:=Ru hR M;have I:=(EW hR u w).1 M;have E:=CA (show w<L.length by grind [Ar.len]);generalize L[w]'(by grind)=lw at E
 have Z:=Q f L w lw oT E;have ad:∀(A:II),(∀j,j<met.length->A[j]?=met[j]?)->∀a b,((∃j,j<i/\A[j]?=some a)/\Jp es a b)\/(a=u/\(b:Int)∈row.take (q+1))->
   (((∃j,j<i/\met[j]?=some a)/\Jp es a b)\/(a=u/\(b:Int)∈row.take q))\/b=w:=fun A hm a b h=>by grind
 have eS:(row.take (q+1)).foldl (awS u) (awI (Zh n es) n s i)=awS u (L,met) (w:Int):=pw;have gw:L.getD w 0=lw:=pw;by_cases c4:lw<0
 rotate_left
 .simp only [HO, Nat.reduceLT, ↓reduceIte, Nat.reduceEqDiff, reduceCtorEq, Y, K, B _ w N, Z, c4, Tw q NH]
  exact tn (row.length-(q+1)) [(0,bv),(5,.slice (some ⟨T,0,none⟩) n n),(6,m),(7,.int .i64 i),(31,uv),(32,.int .i64 row.length),(33,.int .i64 (q+1:Nat))] NH fD
   ⟨q+1,L,m,met,rfl,z,rfl,oT,leq,gm,nm,am,o,v.stay E NH (ad met fun _ _=>rfl),by grind [awS.eq_1,Int.toNat_natCast]⟩
 obtain⟨bh,_,d,hd,bB⟩:=v.mm u y;have bF:=v.bd u d hd;have aP:=Q f L u d oT hd;have D:=gm.rl.TA i (by rw[y6];exact c);have p:=gm.rl.DH i (by rw[y6];exact c);rw[sY c,show met[i]=u by grind]at p;have aT:awrap .i64 (d+1)=d+1:=ie _ NH NH;have st1:aStore Tryz.prog f 3 (.pointer (some ⟨T,w,none⟩)) (.int .i64 (d+1))=some (f.put T (.cells (Bp (L.set w (d+1))))):=by rw[QB (P:=Tryz.prog) (t:=3) (x:=.int .i64 (d+1)) Ac Ji oT (off:=w) (by rw[uE,v.len];exact N) rfl rfl,yy]
 have aW:WF (f.put T (.cells (Bp (L.set w (d+1))))):=C.put _ (C.lt oT);have aX:Le h (f.put T (.cells (Bp (L.set w (d+1))))):=leq.put _ nT;have a1:(f.put T (.cells (Bp (L.set w (d+1))))).own T=some (.cells (Bp (L.set w (d+1)))):=AHeap.Y3 _ _ _;have a7:GI (f.put T (.cells (Bp (L.set w (d+1))))) m (kz met):=GS.put gm _ nm;simp only[HO,Nat.reduceLT,↓reduceIte,Nat.reduceEqDiff,reduceCtorEq,Y,K,B _ w N,Z,c4,D,p,B _ u av,aP,aT,st1];generalize f.put T (.cells (Bp (L.set w (d+1))))=O at*;obtain⟨ag,h5,h6,e5,e6,g6,w6,l5,hf,hk⟩:=a7.push aW (w:Int) (by grind [y6]);obtain⟨l6,a6⟩:=hf h aX am;obtain⟨a8,bb⟩:=hk T _ a1 nm;have aj:kz met++[(w:Int)]=kz (met++[w]):=by simp[kz]
 rw[aj]at g6;simp only[HO,Nat.reduceLT,↓reduceIte,Nat.reduceEqDiff,reduceCtorEq,e5,e6,Tw q NH];exact tn (row.length-(q+1)) [(0,bv),(5,.slice (some ⟨T,0,none⟩) n n),(6,ag),(7,.int .i64 i),(31,uv),(32,.int .i64 row.length),(33,.int .i64 (q+1:Nat))] NH fD
  ⟨q+1,_,ag,met++[w],rfl,z,rfl,a8,l6,g6,bb,a6,(by grind),v.push y hd I E c4 (ad _ fun j hj=>kc hj),by rw[eS,awS,yY];simp only[gw];rw[if_pos c4,Hs,hd];rfl⟩
def d20:decide ((20:Int)=0)=false:=by decide
theorem d2:decide ((2:Int)=0)=false:=by decide
def xe (x y:Int):aBuild Tryz.prog 38 [(0,.int .i64 x),(1,.int .i64 y)]=some (UI (x,y)):=Ji
def aas (i:LA) (v:Value) (G:GM) (a b:Int) (h:AHeap) (hg:GR h v G):AC Tryz.prog i 33 [v,.int .i64 a,.int .i64 b] h fun x h'=>RR (bX G/\(min a b,max a b)∈G.es) x/\Le h h':=by
 have j:=hg;obtain⟨A,es⟩:=G
 obtain⟨ev,rfl,u⟩:=hg.open
 refine AC.vE ⟨Tryz.func33,rfl,WY⟩ Tryz.ntmps33 Tryz.results33 fun k=>?_;simp only[Br,Nat.reduceAdd];obtain⟨w,C,d,D,-,y⟩:=r8 (n:=A) k u
 generalize h.next=B at*
 have l:=y w (Le.refl _);refine Sk (XC C l.1) ?_;refine TC.intro PJ ⟨yo,rfl,WY⟩ (ak i _ _ w (j.le d)) ?_;rintro x h2 E ⟨⟨F,rfl,g⟩,e⟩;have m:=y h2 e;cases F with
 |false=>
  refine Uy ?_;exact⟨RR.f (fun h=>by cases g.2 h.1),d.trans e⟩
 |true=>
  have o:=g.1 rfl;have z:es.length<=594:=o.len;have mn:aMin (.int .i64 a) [.int .i64 b]=some (.int .i64 (min a b)):=by simp only[aMin,if_true];congr 2;rw[Int.min_def];split<;>split<;>omega
  have H:LZ (.int .i64 a) [.int .i64 b]=some (.int .i64 (max a b)):=by simp only[LZ,if_true];congr 2;rw[Int.max_def];split<;>split<;>omega
  simp only[HO,Nat.reduceLT,↓reduceIte,Nat.reduceEqDiff,reduceCtorEq,Di,Ip,BS,m.2.2,mn,H,xe];refine TC.intro PJ ⟨Tryz.func70,rfl,WY⟩ (xm i 63 Tryz.f63 _ ⟨Tryz.func63,rfl,WY⟩ (fun p q h=>DU i p q h) ev es (min a b,max a b) h2 (u.le (d.trans e)) NH o.q9) ?_;rintro x h3 I ⟨⟨J,c,rfl,r,s⟩,t⟩;refine Uy ?_;refine⟨⟨c,rfl,?_⟩,(d.trans e).trans t⟩;cases c with
  |true=>exact⟨fun _=>⟨o,Gc (r rfl)⟩,fun _=>rfl⟩
  |false=>exact⟨(fun h=>by cases h),fun h=>absurd h.2 (s rfl)⟩
end
end Go.Fw
namespace Go.Fw
open Go.Proofs
section
variable {α : Type} [DecidableEq α]
def setK:List (α×Int)->α->Int->List (α×Int)
 |[],k,v=>[(k,v)]
 |(a,b)::r,k,v=>if a=k then(k,v)::r else(a,b)::setK r k v
def lookK:List (α×Int)->α->Option Int
 |[],_=>none
 |(a,b)::r,k=>if a=k then some b else lookK r k
theorem XR (l:List (α×Int)) (k a:α) (v:Int):lookK (setK l k v) a=if k=a then some v else lookK l a:=by
 induction l<;>grind [setK,lookK]
theorem HU {l:List (α×Int)} {k:α}:lookK l k≠none↔k∈l.map (·.1):=by
 induction l<;>grind [lookK]
theorem Kf (l:List (α×Int)) (k a:α) (v:Int):a∈(setK l k v).map (·.1)↔a=k\/a∈l.map (·.1):=by
 rw[<-HU,XR,<-HU]
 grind
theorem Ek (l:List (α×Int)) (k:α) (v:Int):(lookK l k=none/\setK l k v=l++[(k,v)])\/∃(j:Nat) (b:Int),lookK l k=some b/\l[j]?=some (k,b)/\(∀i,i<j->∀x,l[i]?=some x->x.1≠k)/\setK l k v=l.set j (k,v):=by
 induction l with
 |nil=>exact .inl ⟨rfl,rfl⟩
 |cons x r e=>
  obtain⟨a,b⟩:=x;simp only[setK,lookK];by_cases h:a=k
  .subst h
   rw[if_pos rfl,if_pos rfl];exact .inr ⟨0,b,rfl,rfl,NH,rfl⟩
  .rw [if_neg h, if_neg h]
   rcases e with⟨d,h2⟩|⟨j,c,d,h2,h3,f⟩
   .grind
   .refine .inr ⟨j + 1, c, d, pw, fun i hi x g => ?_, by rw [f]; rfl⟩
    cases i<;>grind
end
def wy (l:List (Pr×Int)):List (Value×Value):=l.map fun x=>(UI x.1,.int .i64 x.2)
theorem afind_mapP (k:Pr):∀(l:List (Pr×Int)) (i:Nat),(lookK l k=none->afind Tryz.prog 38 (UI k) (wy l) i=some none)/\∀(j:Nat) b,l[j]?=some (k,b)->(∀q,q<j->∀x,l[q]?=some x->x.1≠k)->afind Tryz.prog 38 (UI k) (wy l) i=some (some (i+j,.int .i64 b))
 |[],i=>⟨fun _=>rfl,fun j b h=>by simp at h⟩
 |(a,b)::r,i=>by
  obtain⟨m,h2⟩:=afind_mapP k r (i+1)
  have un:afind Tryz.prog 38 (UI k) (wy ((a,b)::r)) i=match aEq Tryz.prog 38 (UI k) (UI a)with|some true=>some (some (i,.int .i64 b))|some false=>afind Tryz.prog 38 (UI k) (wy r) (i+1)|none=>none:=rfl
  rw[un,eqP];constructor
  .grind [lookK]
  .intro j c f d
   cases j with
   |zero=>
    grind
   |succ j=>
    have e:a≠k:=d 0 NH (a,b) rfl;have:decide (k=a)=false:=by simpa using Ne.symm e
    rw[this];show afind Tryz.prog 38 (UI k) (wy r) (i+1)=_;rw[h2 j c (by simpa using f) fun q n x g=>d (q+1) NH x (by simpa using g)];congr 3;omega
def y7 (p:Pr):keyArr Tryz.prog 38 (UI p)=true:=by
 have:allInts [.int .i64 p.1,.int .i64 p.2]=some [(IntKind.i64,p.1),(IntKind.i64,p.2)]:=rfl;simp[keyArr,Y2,Ac,UI,this,ts3]
def wD {h:AHeap} {x:Value} (p:Pr) (ok:Bool):aLookup Tryz.prog h 88 x (UI p) ok=none:=by simp only[aLookup,qL,UI]
def nN {h:AHeap} {x v:Value} (p:Pr):aMapSet Tryz.prog h 88 x (UI p) v=none:=by simp only[aMapSet,qL,UI]
theorem Il {h:AHeap} {M:Nat} {l:List (Pr×Int)} (a:h.own M=some (.map (wy l))) (k:Pr) (ok:Bool):
  aLookupA Tryz.prog h 88 (.map (some M)) (UI k) ok=some (bif ok then .tuple #[.int .i64 ((lookK l k).getD 0),.bool (lookK l k).isSome]else .int .i64 ((lookK l k).getD 0)):=by
 have c:azero Tryz.prog 3=some (.int .i64 0):=Ji;simp only[aLookupA,qL,y7,a,c,show flat (.int .i64 0)=true from rfl,if_true];rcases Ek l k 0 with⟨d,_⟩|⟨j,b,d,h2,h3,_⟩
 .grind [afind_mapP]
 grind [afind_mapP]
theorem pW {h:AHeap} {M:Nat} {l:List (Pr×Int)} (a:h.own M=some (.map (wy l))) (k:Pr) (v:Int):aMapSetA Tryz.prog h 88 (.map (some M)) (UI k) (.int .i64 v)=some (h.put M (.map (wy (setK l k v)))):=by
 simp only[aMapSetA,qL,y7,a,if_true];rcases Ek l k v with⟨c,d⟩|⟨j,b,c,h2,h3,d⟩
 .grind [afind_mapP,wy]
 grind [afind_mapP,wy,List.map_set]
end Go.Fw
namespace Go.Fw
section
attribute [local irreducible] Kp MQ lU rS KO KN KX KE VK Kl ZJ TC gU
open Go.Proofs
theorem YX (j:LA) (v:Value) (n s:Nat) (es:List Pr) (h:AHeap) (hg:GR h v ⟨(n:Int),es⟩) (f:bX ⟨(n:Int),es⟩) (hs:s<n):
  AC Tryz.prog j 129 [v,.int .i64 (s:Int)] h fun x h'=>∃d U o up,x=.tuple #[d,.slice (some ⟨U,0,none⟩) n n,.int .i64 0]/\GI h' d (kz o)/\(h'.own U=some (.cells (Bp up))/\blk d≠some U/\h.own U=none)/\Oc n es s o up/\Le h h'/\Z2 h d:=by
 have k:=hg
 obtain⟨ev,rfl,D⟩:=hg.open
 have z:(n:Int)<=200:=f.n1;have A:es.length<=594:=f.len;refine AC.vE ⟨Tryz.func129,rfl,WY⟩ Tryz.ntmps129 Tryz.results129 fun l=>?_;simp only[Br,Nat.reduceAdd];obtain⟨m,E,g,p,-,F⟩:=r8 (n:=(n:Int)) l D
 generalize h.next=B at*
 have q:=F m (Le.refl _);obtain⟨h2,G,l2,P,H⟩:=Tt p [.int .i64 (s:Int)]
 have rs:RL RP h2 (.slice (some ⟨m.next,0,none⟩) 1 1) [(s:Int)]:=RL.Wh (RS.whole H rfl)
 refine Sk (xU E q.1 @DQ G) ?_
 generalize Value.slice (some ⟨m.next,0,none⟩) 1 1=I at*
 refine TC.intro PJ ⟨XV,rfl,WY⟩ (N7 j _ I ⟨(n:Int),es⟩ [(s:Int)] h2 (k.le (g.trans l2)) rs Ma) ?_;rintro x h3 J ⟨r,K,e,rfl,L⟩;have c:=(g.trans l2).trans r;have i:∀x∈[(s:Int)],0<=x/\x<(n:Int):=fun x Q=>by grind
 rcases L with⟨t,_,_⟩|⟨_,u,_,_⟩|⟨_,_,rfl,a⟩
 .exact absurd f t
 .exact absurd i u
 .simp only [yY] at a
  refine Sk @bne.eq_1.{0} ?_
  refine TC.intro PJ ⟨Tryz.func114,rfl,WY⟩ (V6 j K n s es h3 a f.GD f.q9 NH NH hs) ?_;rintro x R M ⟨d,N,o,up,rfl,C,w,O,y,ap⟩;refine Uy ?_;refine⟨d,N,o,up,rfl,C,⟨w.1,w.2.1,c.none w.2.2⟩,O,c.trans y,?_⟩;intro b hb;cases C:h.own b with
  |none=>rfl
  |some o=>have:=ap b hb;grind [Le.own]
end
end Go.Fw
namespace Go.Fw
open Go.Proofs
abbrev Lw:=Int×Int×Int
def MK (p:Lw):List Value:=[.int .i64 p.1,.int .i64 p.2.1,.int .i64 p.2.2]
def valL (p:Lw):Value:=.agg #[.int .i64 p.1,.int .i64 p.2.1,.int .i64 p.2.2]
def Wo (ps:List Lw):List Value:=ps.flatMap MK
theorem Fx:∀(ps:List Lw) (i:Nat) (p:Lw),ps[i]?=some p->(Wo ps)[i*3]?=some (.int .i64 p.1)/\(Wo ps)[i*3+1]?=some (.int .i64 p.2.1)/\(Wo ps)[i*3+2]?=some (.int .i64 p.2.2)
 |[],i,p,h=>by simp at h
 |q::ps,0,p,h=>by grind [Wo,MK]
 |q::ps,i+1,p,h=>by
  have:=Fx ps i p (by simpa using h);have e:Wo (q::ps)=.int .i64 q.1::.int .i64 q.2.1::.int .i64 q.2.2::Wo ps:=rfl;rw[e,show(i+1)*3=(i*3+2)+1 by omega];simpa using this
theorem cH:∀(ps:List Lw) (i:Nat) (p q:Lw),ps[i]?=some p->
  Wo (ps.set i q)=(((Wo ps).set (i*3) (.int .i64 q.1)).set (i*3+1) (.int .i64 q.2.1)).set (i*3+2) (.int .i64 q.2.2)
 |[],i,p,q,h=>by simp at h
 |r::ps,0,p,q,h=>by simp[Wo,MK]
 |r::ps,i+1,p,q,h=>by
  have:=cH ps i p q (by simpa using h);have e:∀(r:Lw) ps,Wo (r::ps)=.int .i64 r.1::.int .i64 r.2.1::.int .i64 r.2.2::Wo ps:=fun _ _=>rfl
  grind
theorem eQ (ps:List Lw) (i:Nat) (p:Lw) (x:Int) (h:ps[i]?=some p):Wo (ps.set i (p.1,p.2.1,x))=(Wo ps).set (i*3+2) (.int .i64 x):=by
 rw[cH ps i p _ h];obtain⟨a,b,c⟩:=Fx ps i p h;apply Qn;intro j;simp only[jz,mg]
 grind
def ts51:UA Tryz.prog 108=3:=Ji
def zrow3 (n:Nat):zrow [Value.int .i64 0,.int .i64 0,.int .i64 0] n=Wo (List.replicate n (0,0,0)):=by
 induction n with
 |zero=>rfl
 |succ n a=>rw[zrow,a];rfl
def mkL (h:AHeap) (n:Nat) (e:n<=100000):aMakeSlice Tryz.prog h 104 (.int .i64 n) (.int .i64 n)=some (.slice (some ⟨h.next,0,none⟩) n n,h.alloc (.cells (Wo (List.replicate n (0,0,0))))):=by
 have b:azero Tryz.prog 108=some (.agg #[.int .i64 0,.int .i64 0,.int .i64 0]):=Ji;have hb:Tryz.prog.bytesOf 108=24:=Ji;have c:(24:Int)*n<=140737488355328:=NH;have d:(n:Int)<=140737488355328:=NH;have one:(Wo (List.replicate n (0,0,0))).all (·.oneCell')=true:=by
  rw[qH];intro x a;rw[Wo,V9]at a;obtain⟨p,_,a⟩:=a;simp[MK]at a;rcases a with rfl|rfl|rfl<;>rfl
 simp[aMakeSlice,qS9,qS35,b,hb,ts51,Value.cells,flat,c,d,IF,zrow3,one]
section
variable {h : AHeap} {L n : Nat} {ls : List Lw}
def Is {k:IntKind} {cap:Nat} (v:Nat) (b:v<n):aIndexAddr Tryz.prog 104 (.slice (some ⟨L,0,none⟩) n cap) (.int k v)=some (.pointer (some ⟨L,v*3,none⟩)):=by
 have a:(v:Int)<(n:Int):=NH;simp[aIndexAddr,qS9,qS35,a,ts51,Ip]
def D8 (a:Addr):aField Tryz.prog 108 (.pointer (some a)) 0=some (.pointer (some (Ip a 0))):=rfl
def fl1 (a:Addr):aField Tryz.prog 108 (.pointer (some a)) 1=some (.pointer (some (Ip a 1))):=rfl
def fl2 (a:Addr):aField Tryz.prog 108 (.pointer (some a)) 2=some (.pointer (some (Ip a 2))):=rfl
def Nh (a:h.own L=some (.cells (Wo ls))) {v:Nat} {p:Lw} (b:ls[v]?=some p):aload Tryz.prog h 3 ⟨L,v*3,none⟩=some (.int .i64 p.1):=by rw[Fq Ac rfl a,(Fx ls v p b).1]
def lUp (a:h.own L=some (.cells (Wo ls))) {v:Nat} {p:Lw} (b:ls[v]?=some p):aload Tryz.prog h 3 ⟨L,v*3+1,none⟩=some (.int .i64 p.2.1):=by rw[Fq Ac rfl a,(Fx ls v p b).2.1]
def jA (a:h.own L=some (.cells (Wo ls))) {v:Nat} {p:Lw} (b:ls[v]?=some p):aload Tryz.prog h 3 ⟨L,v*3+2,none⟩=some (.int .i64 p.2.2):=by rw[Fq Ac rfl a,(Fx ls v p b).2.2]
def sLow (b:h.own L=some (.cells (Wo ls))) {v:Nat} {p:Lw} (a:ls[v]?=some p) (x:Int):
  aStore Tryz.prog h 3 (.pointer (some ⟨L,v*3+2,none⟩)) (.int .i64 x)=some (h.put L (.cells (Wo (ls.set v (p.1,p.2.1,x))))):=by
 rw[eQ ls v p x a];exact QB (P:=Tryz.prog) (t:=3) (x:=.int .i64 x) Ac Ji b (off:=v*3+2) (Ny.1 (Fx ls v p a).2.2).1 rfl rfl
def sAll (b:h.own L=some (.cells (Wo ls))) {v:Nat} (c:v<ls.length) (q:Lw):
  aStore Tryz.prog h 108 (.pointer (some ⟨L,v*3,none⟩)) (valL q)=some (h.put L (.cells (Wo (ls.set v q)))):=by
 have a:=CA c;rw[cH ls v _ q a];have e:=(Ny.1 (Fx ls v _ a).2.2).1;have d:v*3+3<=(Wo ls).length:=NH;simp[aStore,b,valL,Value.cells,ts51,putCells,qS35,d,Value.oneCell']
end
end Go.Fw
namespace Go.Fw
section
open Go.Proofs
variable {es:List Pr} {i n s v:Nat} {ls:List Lw} {o:II} {up:RZ}
def Ro (ls:List Lw) (v:Nat):Lw:=ls.getD v (0,0,0)
def putA (up:RZ):II->List Lw×II->List Lw×II
 |[],st=>st
 |v::r,(ls,o)=>putA up r (ls.set v (((o.length+1:Nat):Int),up.getD v 0,((o.length+1:Nat):Int)),o++[v])
def jl (n:Nat) (es:List Pr) (i:Nat) (st:List Lw×II):List Lw×II:=
 if(Ro st.1 i).1=0 then putA (K9 n es i).2 (K9 n es i).1 st else st
def metM (n:Nat) (es:List Pr):Nat->List Lw×II
 |0=>(List.replicate n (0,0,0),[])
 |i+1=>jl n es i (metM n es i)
def bS (ls:List Lw) (e:Pr):List Lw:=
 let a:=e.1.toNat;let b:=e.2.toNat
 if(Ro ls a).2.1=e.2\/(Ro ls b).2.1=e.1 then ls
 else
  let l1:=ls.set a ((Ro ls a).1,(Ro ls a).2.1,min (Ro ls a).2.2 (Ro ls b).1)
  l1.set b ((Ro l1 b).1,(Ro l1 b).2.1,min (Ro l1 b).2.2 (Ro l1 a).1)
def Ke (ls:List Lw) (v:Nat):List Lw:=
 let u:=(Ro ls v).2.1
 if 0<=u then ls.set u.toNat ((Ro ls u.toNat).1,(Ro ls u.toNat).2.1,min (Ro ls u.toNat).2.2 (Ro ls v).2.2)else ls
def Jz (n:Nat) (es:List Pr):List Lw×II:=((metM n es n).2.reverse.foldl Ke (es.foldl bS (metM n es n).1),(metM n es n).2)
theorem V0 (h:v<ls.length):ls[v]?=some (Ro ls v):=by grind [Ro]
structure LowI (n:Nat) (ls:List Lw) (o:II):Prop where
 len:ls.length=n
 up:∀v,v<n->(Ro ls v).2.1<(n:Int)
 lt:∀v∈o,v<n
 nd:o.Nodup
 num:∀v,v<n->((Ro ls v).1=0↔v∉o)
theorem Uw (ls:List Lw) (v:Nat) (q:Lw) (u:Nat):Ro (ls.set v q) u=if v=u/\v<ls.length then q else Ro ls u:=by grind [Ro]
theorem du.upR (a:aV n es) (hs:s<n) (d:du n es s o up):∀v,up.getD v 0<(n:Int):=by
 induction d with
 |start=>
  grind
 |@step o up k v w d c ha hw e hf b=>
  intro x;simp only[Hs,jz];have:=b x;simp only[Hs]at this;split
  .split
   .have:=(ha.lt a).1;simp;omega
   grind
  .exact this
theorem Rx {n:Nat} {up:RZ} (a:∀v,up.getD v 0<(n:Int)):∀(l:II) {ls:List Lw} {o:II},LowI n ls o->l.Nodup->(∀v∈l,v<n/\v∉o)->
  LowI n (putA up l (ls,o)).1 (putA up l (ls,o)).2/\(putA up l (ls,o)).2=o++l
 |[],ls,o,I,_,_=>⟨I,by simp[putA]⟩
 |v::r,ls,o,I,c,d=>by
  rw[Gw]at c;have f:=d v Ma;have e:LowI n (ls.set v (((o.length+1:Nat):Int),up.getD v 0,((o.length+1:Nat):Int))) (o++[v]):=by
   refine⟨by simp[I.len],fun u b=>?_,fun u b=>?_,?_,fun u b=>?_⟩
   .rw [Uw]; split
    .exact a v
    .exact I.up u b
   .grind [LowI.lt]
   .grind [LowI.nd]
   grind [Uw,LowI.len,LowI.num]
  obtain⟨g,h⟩:=Rx a r e c.2 fun u b=>⟨(d u (by simp[b])).1,fun i=>by grind⟩
  grind [putA.eq_2]
theorem PA (a:∀u w,Jp es u w->u∈o->w∈o) (h:Pu es i v):v∈o->i∈o:=by
 induction h<;>grind [Jp.symm]
structure cV (n:Nat) (es:List Pr) (ls:List Lw) (o:II):Prop extends LowI n ls o where
 cl:∀u w,Jp es u w->u∈o->w∈o
def TY (a:aV n es) (I:cV n es ls o) (hi:i<n) (c:(Ro ls i).1=0):
  (K9 n es i).1.Nodup/\∀v∈(K9 n es i).1,v<n/\v∉o:=by
 have D:=Te a hi;refine⟨D.KP.nodup,fun v b=>⟨((D.mem v).1 b).lt a hi,fun d=>(I.num i hi).1 c (PA I.cl ((D.mem v).1 b) d)⟩⟩
theorem DN (b:aV n es) (I:cV n es ls o) (hi:i<n):
  cV n es (jl n es i (ls,o)).1 (jl n es i (ls,o)).2/\i∈(jl n es i (ls,o)).2/\∀v∈o,v∈(jl n es i (ls,o)).2:=by
 unfold jl;split
 .rename_i c
  obtain⟨g,h⟩:=TY b I hi c;have D:=Te b hi;obtain⟨e,j⟩:=Rx (D.KP.upR b hi) (K9 n es i).1 I.toLowI g h;rw[j]at e ⊢;refine⟨⟨e,fun u w ha a=>?_⟩,OM _ ((D.mem i).2 (Pu.refl es i)),fun v d=>vg _ d⟩;rw[Sb]at a ⊢;rcases a with a|a
  .grind [cV.cl]
  .exact .inr (D.full u a w ha)
 .rename_i c
  refine⟨I,?_,fun v d=>d⟩;by_cases f:i∈o
  .exact f
  .exact absurd ((I.num i hi).2 f) c
theorem ZC {n:Nat} {es:List Pr} (a:aV n es):∀i,i<=n->cV n es (metM n es i).1 (metM n es i).2/\∀v,v<i->v∈(metM n es i).2
 |0,_=>⟨⟨⟨by simp[metM],fun v b=>by grind [metM,Ro],by simp[metM],by simp[metM],fun v b=>by grind [metM,Ro]⟩,by simp[metM]⟩,NH⟩
 |i+1,hi=>by
  obtain⟨I,c⟩:=ZC a i NH;obtain⟨d,f,g⟩:=DN a I (i:=i) NH;refine⟨d,fun v b=>?_⟩;by_cases e:v=i
  .subst e;exact f
  .exact g v (c v NH)
theorem LowI.Em (I:LowI n ls o):o.length<=n:=by
 have:=I.nd.length_le_of_subset (l₂:=List.range n) fun v a=>fR.2 (I.lt v a)
 grind
end
end Go.Fw
