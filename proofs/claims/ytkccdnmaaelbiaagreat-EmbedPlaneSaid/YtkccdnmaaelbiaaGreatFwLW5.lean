/- A text. -/
import Derived.Test.YtkccdnmaaelbiaaGreatFwLW2
import Derived.Test.YtkccdnmaaelbiaaGreatFwLB14
set_option linter.all false
set_option maxRecDepth 99999
set_option maxHeartbeats 9999999
namespace Go.Fw
section
attribute [local irreducible] Ax YH XZ Uk KO KN KX KE VK DK Q7 dK W9
open Go.Proofs
variable {n:Nat}
def mkL52 (h:AHeap) {u:Value} (a:vW u n):aBuildSlice Tryz.prog h 27 1 [(0,u)]=some (.slice (some ⟨h.next,0,none⟩) 1 1,h.alloc (.cells [u])):=by
 obtain⟨_,_,rfl,_⟩:=a;rfl
def gi (h:AHeap):aBuildSlice Tryz.prog h 27 0 []=some (.slice (some ⟨h.next,0,none⟩) 0 0,h.alloc (.cells [])):=rfl
def dq (W0:Ac) (v:Value) (G:GM) (h:AHeap) (hg:GR h v G) (R:xO G):
  AC Tryz.prog W0 64 [v] h fun x h'=>Is (RL IJ) h' x ((rP G.n.toNat G.es G.n.toNat).map aW)/\Le h h'/\tQ h x:=by
 have aE:=hg;obtain⟨gn,es⟩:=G
 obtain⟨ev,rfl,hp⟩:=hg.open
 have h0:0<=gn:=R.n0;obtain⟨n,rfl⟩:=RT h0;have br:(n:Int)<=200:=R.n1;have bx:es.length<=594:=R.len;have hR:=R.si;have hA:=R.Fx;simp only[TK];refine AC.vE ⟨Tryz.func64,rfl,xr⟩ Tryz.ntmps64 Tryz.results64 fun aM=>?_;simp only[xq,Nat.reduceAdd];obtain⟨h1,b1,A,bF,-,lA⟩:=WY (n:=(n:Int)) aM hp
 generalize h.next=B at*
 have aQ:=lA h1 (Le.refl _);simp only[Ud,Nat.reduceLT,↓reduceIte,Nat.reduceEqDiff,b1,aQ.1];refine dK.intro pK ⟨qS32,rfl,xr⟩ (PZ W0 _ (.slice none 0 0) ⟨(n:Int),es⟩ [] h1 (aE.le A) RL.nil YX) ?_;rintro x h2 U ⟨s,C,e,rfl,a⟩;obtain⟨rfl,I⟩:e=0/\RL (RL IJ) h2 C (Oc n es):=by
  rcases a with⟨h,_⟩|⟨_,h,_⟩|⟨_,_,h,h'⟩
  .exact absurd R h
  .exact absurd YX h
  .exact⟨h,by simpa using h'⟩
 clear a;obtain⟨h3,e3,l3,w3,o3⟩:=mV U [];have zH:=lA h3 (s.trans l3);have mk:=IG (P:=Tryz.prog) (t:=59) (z:=.bool false) h3 aO rfl rfl rfl rfl zd v7 zd n QT;obtain⟨h4,e4,l4,w4,o4⟩:=mV w3 (List.replicate n (.bool false));rw[e4]at mk;have V:=lA h4 ((s.trans l3).trans l4);simp only[Ud,Nat.reduceLT,↓reduceIte,Nat.reduceEqDiff,Cq,Co,Qs,gi,e3,zH.2.1,mk,V.2.1,bne]
 have nP:h2.own h2.next=none:=(Le.refl h2).next U (J4 _)
 have nM:h3.own h3.next=none:=(Le.refl h3).next w3 (J4 _)
 have aT:h2.own h3.next=none:=l3.none nM
 have ne:h2.next≠h3.next:=fun e=>by rw[<-e,o3]at nM;cases nM
 generalize h3.next=M at*
 have oM:h4.own M=some (.cells (Bo (List.replicate n false))):=by rw[o4];simp[Bo]
 have W:=((A.trans s).trans l3).trans l4
 have g0:Is (RL IJ) (rem [M] h4) (.slice (some ⟨h2.next,0,none⟩) 0 0) ((rP n es 0).map aW):=by
  have:(rP n es 0).map aW=[]:=by simp[rP,Ju]
  rw[this];exact Is.empty _ (MR.2 ⟨l4.own _ _ o3,by simpa using ne⟩)
 have X:tQ h2 (.slice (some ⟨h2.next,0,none⟩) 0 0):=fun b hb=>by injection hb with hb;subst hb;exact nP
 have Y:blk (.slice (some ⟨h2.next,0,none⟩) 0 0)≠some M:=fun e=>by injection e with e;exact ne e
 generalize Value.slice (some ⟨h2.next,0,none⟩) 0 0=Z at*
 have J:∀(k:IntKind) (j:Nat),j<n->aIndexAddr Tryz.prog 59 (.slice (some ⟨M,0,none⟩) n n) (.int k j)=some (.pointer (some ⟨M,j,none⟩)):=fun k j hj=>by rw[vj aO v7 zd j hj];simp[Co]
 have aX:∀(g:AHeap) (T:Nat) (L:List Bool) (j:Nat) (l:Bool),g.own T=some (.cells (Bo L))->L[j]?=some l->aload Tryz.prog g 4 ⟨T,j,none⟩=some (.bool l):=fun g T L j l ho hl=>by
  rw[wT v7 rfl ho];simp[Bo,hl]
 refine W9.intro (fun k fr r=>∃(i:Nat) (pv:Value) (met:List Bool),k=n-i/\i<=n/\fr=mkF [(3,C),(5,pv),(6,.slice (some ⟨M,0,none⟩) n n),(24,.int .i64 n),(25,.int .i64 i)]/\
   r.own M=some (.cells (Bo met))/\met.length=n/\Is (RL IJ) (rem [M] r) pv ((rP n es i).map aW)/\blk pv≠some M/\Le h2 r/\tQ h2 pv/\∀w,w<n->(met[w]?=some true↔∃u,u<i/\Xb es u w))
  n [(3,C),(5,Z),(6,.slice (some ⟨M,0,none⟩) n n),(24,.int .i64 n),(25,.int .i64 (0:Nat))] vy
  ⟨0,_,_,rfl,KW _,rfl,oM,YX,g0,Y,l3.trans l4,X,fun w hw=>by simp[hw]⟩ ?_
 clear X Y g0 W oM ne nM nP V o4 w4 l4 e4 mk zH o3 w3 l3 e3;clear h4 Z h3;rintro k fr r bI ⟨i,pv,met,rfl,hi,rfl,oM,ag,gp,np,leq,ap,E⟩;have bQ:((rP n es i).map aW).length<=n:=by
  have:=NS i es;simp only[rP,yA];omega
 refine yq ?_;refine DK.intro (fun ht=>?_) (fun hf=>?_)
 rotate_left
 .have ah : n <= i := Yv hf
  obtain rfl:i=n:=QT;refine yq ?_;exact⟨gp.le (Rr.RL Rr.IJ) (iq _ _),(A.trans s).trans leq,fun b hb=>(A.trans s).none (ap b hb)⟩
 have c:i<n:=Ub ht;clear ht;have F:=XR (show i<met.length by omega);generalize met[i]'(by omega)=mb at F
 have K:=aX r M met i mb oM F;cases mb with
 |true=>
  have S:=(E i c).1 F;simp only[Ud,Nat.reduceLT,↓reduceIte,Nat.reduceEqDiff,J _ i c,K,Gm i QT];refine cX (n-(i+1)) [(3,C),(5,pv),(6,.slice (some ⟨M,0,none⟩) n n),(24,.int .i64 n),(25,.int .i64 (i+1:Nat))] QT vy
   ⟨i+1,pv,met,rfl,c,rfl,oM,ag,?_,np,leq,ap,fun w hw=>?_⟩
  .rcases KG i es with ⟨_, h⟩ | ⟨h, _⟩
   .obtain⟨u,H,a⟩:=S;exact absurd a (h u H)
   .rw[rP,h];exact gp
  .rw [E w hw]
   constructor
   .rintro⟨u,H,a⟩;exact⟨u,QT,a⟩
   .rintro ⟨u, H, a⟩
    by_cases e:u=i
    .subst e;obtain⟨u',aY,a1⟩:=S;exact⟨u',aY,a1.trans a⟩
    .exact⟨u,QT,a⟩
 |false=>
  have S:∀u,u<i->¬Xb es u i:=fun u H a=>by have:=(E i c).2 ⟨u,H,a⟩;rw[F]at this;cases this
  simp only[Ud,Nat.reduceLT,↓reduceIte,Nat.reduceEqDiff,J _ i c,K];refine dK.intro pK ⟨Tryz.func114,rfl,xr⟩ (Wf W0 C n i es r (I.le (Rr.RL Rr.IJ) leq) hR hA QT QT c) ?_;rintro x h5 aj ⟨m,uv,o,up,rfl,go,-,D,l5,ao⟩;have y:=l5.own _ _ oM;have N:blk m≠some M:=fun e=>by have:=ao _ e;rw[oM]at this;cases this
  have lo:=fun g=>go.rl.zw g;rw[tG]at lo;have bV:o.length<=n:=by
   have:=D.E5.nodup.length_le_of_subset (l₂:=List.range n) fun w hw=>vq.2 (((D.mem w).1 hw).lt hR c);simpa using this
  simp only[Ud,Nat.reduceLT,↓reduceIte,Nat.reduceEqDiff,lo];have K0:Le (rem [M] r) h5:=(iq _ _).trans l5;have nK:(rem [M] r).own M=none:=by rw[Q3,if_pos YX]
  have aK:tQ (rem [M] r) m:=fun b hb=>(iq [M] r).none (ao b hb);have a6:∀b,blk pv=some b->blk m≠some b:=fun b hb a=>by
   obtain⟨us,g1,_⟩:=gp;have:=GS.Rf g1 hb;exact this (aK b a)
  refine W9.intro (fun k fr hh=>∃(j:Nat) (d:List Bool),k=o.length-j/\j<=o.length/\fr=mkF [(3,C),(5,pv),(6,.slice (some ⟨M,0,none⟩) n n),(8,m),(24,.int .i64 n),(25,.int .i64 i),(38,m),(39,.int .i64 o.length),(40,.int .i64 j)]/\
    hh.own M=some (.cells (Bo d))/\d.length=n/\GI hh m (aW o)/\Le (rem [M] r) hh/\∀w,w<n->(d[w]?=some true↔met[w]?=some true\/w∈o.take j))
   o.length [(3,C),(5,pv),(6,.slice (some ⟨M,0,none⟩) n n),(8,m),(24,.int .i64 n),(25,.int .i64 i),(38,m),(39,.int .i64 o.length),(40,.int .i64 (0:Nat))] vy
   ⟨0,met,rfl,KW _,rfl,y,ag,go,K0,fun w hw=>by simp⟩ ?_
  clear y lo go l5 aj K0 K;clear h5;rintro k fr h5 aj ⟨j,d,rfl,hj,rfl,y,f,go,K5,O⟩;refine yq ?_;refine DK.intro (fun ht=>?_) (fun hf=>?_)
  .have p : j < o.length := Ub ht
   clear ht;have ak:=XR p;have ad:=go.rl.qW j (by rw[tG];exact p);have ld:=go.rl.HN j (by rw[tG];exact p);rw[uD p]at ld;have al:o.take (j+1)=o.take j++[o[j]]:=QM p;generalize o[j]=w at ak ld al;have Q:w<n:=((D.mem w).1 (Jb ak)).lt hR c;have st:=Qr (P:=Tryz.prog) (t:=4) (x:=.bool true) v7 zd y (off:=w) (by rw[YM,f];exact Q) rfl rfl;rw[GZ]at st;simp only[Ud,Nat.reduceLT,↓reduceIte,Nat.reduceEqDiff,ad,ld,J _ w Q,st,Gm j QT];refine cX (o.length-(j+1)) [(3,C),(5,pv),(6,.slice (some ⟨M,0,none⟩) n n),(8,m),(24,.int .i64 n),(25,.int .i64 i),(38,m),(39,.int .i64 o.length),(40,.int .i64 (j+1:Nat))] QT vy
    ⟨j+1,_,rfl,p,rfl,AHeap.zm _ _ _,by simp[f],GS.put go _ N,K5.put _ nK,fun x S=>?_⟩
   rw[al,v8,uK,Rb];by_cases e:w=x
   .subst e;simp[f,Q]
   .rw[if_neg e,O x S];simp[Hn e]
  .have ah : o.length <= j := Yv hf
   rw[xV ah]at O;refine yq ?_;refine dK.intro pK ⟨qS31,rfl,xr⟩ (ND W0 go (by rw[tG];omega)) ?_;rintro x h6 w6 ⟨rfl,aq,ar⟩;have av:=(ar (rem (bl m) h5) (iq _ _) (fun b hb=>by rw[Q3,if_pos (ED.2 hb)])).own M _ (MR.2 ⟨y,fun E=>N (ED.1 E)⟩);have K6:=ar _ K5 aK;rw[yi hR D c]at aq;have a7:Le (rem [M] r) (rem [M] h6):=K6.Cj fun b hb=>by rw[Rb]at hb;subst hb;exact nK
   have bb:=gp.le (Rr.RL Rr.IJ) a7;have hb:∀b,blk pv=some b->b∉[M]:=fun b hb E=>by rw[Rb]at E;subst E;exact np hb
   have gu:RL IJ (rem [M] (rem (bl pv) h6)) m (aW (sH n es i)):=by
    have q:GI (rem [M] (rem (bl pv) h6)) m (aW (sH n es i)):=GS.TQ (GS.TQ aq (l:=bl pv) fun b hb a=>a6 b (ED.1 a) hb) (l:=[M]) fun b AD a=>by
     rw[Rb]at a;exact N (a▸AD)
    exact q.rl
   obtain⟨h7,ay,h8,e7,e8,bj,l7,w7,f8,k8⟩:=Is.zS (P:=Tryz.prog) (t:=27) (Rr.RL Rr.IJ) zd bb w6 gu gu.sl.one QT hb (fun b hb=>by rw[Rb]at hb;subst hb;rw[av];simp);obtain⟨bm,bo⟩:=k8 M _ av np;have aB:Le h2 h6:=(leq.Cj (l:=[M]) fun b hb=>by rw[Rb]at hb;subst hb;exact aT).trans K6;obtain⟨l8,a8⟩:=f8 h2 aB ap;simp only[Ud,Nat.reduceLT,↓reduceIte,Nat.reduceEqDiff,mkL52 h6 gu.sl,e7,e8,Gm i QT];refine cX (n-(i+1)) [(3,C),(5,ay),(6,.slice (some ⟨M,0,none⟩) n n),(24,.int .i64 n),(25,.int .i64 (i+1:Nat))] QT vy
    ⟨i+1,ay,d,rfl,c,rfl,bm,f,?_,bo,l8,a8,fun w hw=>?_⟩
   .rcases KG i es with ⟨h, _⟩ | ⟨_, u, H, a⟩
    .rw[rP,h,qy,qy];exact bj
    .exact absurd a (S u H)
   .rw [O w hw, E w hw, D.mem]
    constructor
    .rintro (⟨u, H, a⟩ | a)
     .exact⟨u,QT,a⟩
     .exact⟨i,QT,a⟩
    .rintro ⟨u, H, a⟩
     by_cases e:u=i
     .subst e;exact .inr a
     .exact .inl ⟨u,QT,a⟩
end
section
open Go.Proofs
variable {L:LF} {cl cl':Nat->Nat->Prop} {es:List Pr} {met:wi} {n s u w:Nat} {x:Int}
structure Cy (n:Nat) (es:List Pr) (s:Nat) (L:LF) (met:wi) (cl:Nat->Nat->Prop):Prop where
 len:L.length=n
 val:∀(v:Nat) (x:Int),L[v]?=some x->x=-1\/0<=x/\v∈met
 mm:∀v∈met,v<n/\Xb es s v/\∃x:Int,L[v]?=some x/\0<=x
 nd:met.Nodup
 s0:L[s]?=some 0
 ms:s∈met
 pre:∀(v:Nat) (x:Int),L[v]?=some x->0<x->∃w,xA es v w/\L[w]?=some (x-1)
 zero:∀(v:Nat),L[v]?=some 0->v=s
 cl:∀u w,cl u w->w∈met
 bd:∀(v:Nat) (x:Int),L[v]?=some x->x+1<=met.length
structure Far (n:Nat) (es:List Pr) (s:Nat) (L:LF):Prop where
 len:L.length=n
 pos:∀(v:Nat) (x:Int),L[v]?=some x->(0<=x↔Xb es s v)
 pre:∀(v:Nat) (x:Int),L[v]?=some x->0<x->∃w,xA es v w/\L[w]?=some (x-1)
 zero:∀(v:Nat),L[v]?=some 0->v=s
 bd:∀(v:Nat) (x:Int),L[v]?=some x->-1<=x/\x+1<=n
 self:L[s]?=some 0
def Cy.start (hs:s<n) (cl:Nat->Nat->Prop) (a:∀u w,¬cl u w):Cy n es s ((List.replicate n (-1)).set s 0) [s] cl:=by
 have gs:∀(v:Nat) (x:Int),((List.replicate n (-1:Int)).set s 0)[v]?=some x->v=s/\x=0\/x=-1:=by
  intro v x h;rw[v8]at h;split at h
  .rename_i e; split at h
   .injection h with h;exact .inl ⟨e.symm,h.symm⟩
   .cases h
  .rw [gG] at h
   split at h
   .injection h with h;exact .inr h.symm
   .cases h
 have b:((List.replicate n (-1:Int)).set s 0)[s]?=some 0:=by rw[v8];simp[hs]
 refine⟨YX,fun v x h=>?_,fun v c=>?_,YX,b,YX,fun v x h d=>?_,fun v h=>?_,fun u w h=>absurd h (a u w),fun v x h=>?_⟩
 .rcases gs v x h with ⟨rfl, rfl⟩ | rfl
  .exact .inr ⟨Int.le_refl _,YX⟩
  .exact .inl rfl
 .rw[Rb]at c;subst c;exact⟨hs,Xb.refl es _,0,b,Int.le_refl _⟩
 .rcases gs v x h with⟨rfl,rfl⟩|rfl<;>omega
 .rcases gs v 0 h with ⟨rfl, _⟩ | e
  .rfl
  .omega
 .rcases gs v x h with⟨rfl,rfl⟩|rfl<;>simp
def Cy.mono (t:Cy n es s L met cl) (h:∀u w,cl' u w->cl u w):Cy n es s L met cl':=
 {t with cl:=fun u w a=>t.cl u w (h u w a)}
def Cy.stay (t:Cy n es s L met cl) (c:L[w]?=some x) (f:0<=x) (h:∀a b,cl' a b->cl a b\/b=w):Cy n es s L met cl':=
 have hw:w∈met:=by
  rcases t.val _ _ c with h|h
  .omega
  .exact h.2
 {t with cl:=fun a b d=>(h a b d).elim (fun h=>t.cl a b h) (fun e=>by rw[e];exact hw)}
def Cy.push (t:Cy n es s L met cl) {d x:Int} (r:u∈met) (j:L[u]?=some d) (ha:xA es u w) (k:L[w]?=some x) (z:x<0) (h:∀a b,cl' a b->cl a b\/b=w):
  Cy n es s (L.set w (d+1)) (met++[w]) cl':=by
 have i:=(bH.1 k).1;have l:0<=d:=by obtain⟨_,_,y,c,z⟩:=t.mm u r;rw[j]at c;injection c with c;omega
 have m:w∉met:=fun A=>by obtain⟨_,_,y,c,B⟩:=t.mm w A;rw[k]at c;injection c with c;omega
 have keep:∀(v:Nat) (y:Int),L[v]?=some y->0<=y->(L.set w (d+1))[v]?=some y:=fun v y c f=>by
  rw[v8];split
  .rename_i e;subst e;rw[k]at c;injection c with c;omega
  .exact c
 have gs:∀(v:Nat) (y:Int),(L.set w (d+1))[v]?=some y->v=w/\y=d+1\/v≠w/\L[v]?=some y:=fun v y c=>by
  rw[v8]at c;split at c
  .rename_i e;injection c with c;exact .inl ⟨e.symm,c.symm⟩
  .rename_i e;exact .inr ⟨Hn e,c⟩
 refine⟨by simp[t.len],fun v y c=>?_,fun v g=>?_,?_,keep _ _ t.s0 (Int.le_refl _),KF _ t.ms,fun v y c f=>?_,fun v g=>?_,fun a b C=>?_,fun v y c=>?_⟩
 .rcases gs v y c with ⟨rfl, rfl⟩ | ⟨_, c⟩
  .exact .inr ⟨QT,YX⟩
  .rcases t.val v y c with h | ⟨o, h2⟩
   .exact .inl h
   .exact .inr ⟨o,KF _ h2⟩
 .rw [uK, Rb] at g
  rcases g with g|rfl
  .obtain ⟨o, h2, y, c, f⟩ := t.mm v g
   exact⟨o,h2,y,keep _ _ c f,f⟩
  .exact⟨by rw[<-t.len];exact i,.step (t.mm u r).2.1 ha rfl,d+1,by rw[v8];simp[i],QT⟩
 .rw [KM]
  exact⟨t.nd,YX,fun a p b hb e=>by rw[Rb]at hb;subst hb;subst e;exact m p⟩
 .rcases gs v y c with ⟨rfl, rfl⟩ | ⟨_, c⟩
  .exact⟨u,ha.symm,by rw[show d+1-1=d by omega];exact keep _ _ j l⟩
  .obtain ⟨b, hb, q⟩ := t.pre v y c f
   exact⟨b,hb,keep _ _ q QT⟩
 .rcases gs v 0 g with ⟨_, e⟩ | ⟨_, c⟩
  .omega
  .exact t.zero v c
 .rw [uK, Rb]
  rcases h a b C with h|rfl
  .exact .inl (t.cl a b h)
  .exact .inr rfl
 .simp only [Vw, SB]
  rcases gs v y c with⟨rfl,rfl⟩|⟨_,c⟩
  .have:=t.bd u d j;omega
  .have:=t.bd v y c;omega
def Cy.Eg (t:Cy n es s L met cl):met.length<=n:=by
 have:=t.nd.length_le_of_subset (l₂:=List.range n) fun v a=>vq.2 (t.mm v a).1;simpa using this
def Cy.finish (t:Cy n es s L met cl) (h:∀u w,u∈met->xA es u w->cl u w):Far n es s L:=by
 have all:∀v,Xb es s v->v∈met:=by
  intro v c
  induction c with
  |refl _=>exact t.ms
  |step _ a _ e=>exact t.cl _ _ (h _ _ e a)
 refine⟨t.len,fun v x b=>⟨fun f=>?_,fun c=>?_⟩,t.pre,t.zero,fun v x b=>?_,t.s0⟩
 .rcases t.val v x b with h | ⟨_, h⟩
  .omega
  .exact(t.mm v h).2.1
 .obtain ⟨_, _, y, d, f⟩ := t.mm v (all v c)
  rw[b]at d;injection d with d;omega
 .have := t.bd v x b
  have:=t.Eg;rcases t.val v x b with h|⟨h,_⟩<;>omega
end
section
attribute [local irreducible] Ax YH XZ Uk KO KN KX KE VK DK Q7 dK W9
open Go.Proofs
def awS (u:Nat) (st:LF×wi) (x:Int):LF×wi:=if st.1.getD x.toNat 0<0 then(st.1.set x.toNat (st.1.getD u 0+1),st.2++[x.toNat])else st
def awI (rows:CA) (n s:Nat):Nat->LF×wi
  |0=>((List.replicate n (-1)).set s 0,[s])
  |i+1=>match(awI rows n s i).2[i]? with
    |some u=>(rows.getD u []).foldl (awS u) (awI rows n s i)
    |none=>awI rows n s i
def Oh (rows:CA) (n s:Nat):LF:=(awI rows n s n).1
def Ad {rows:CA} {n s i:Nat} (h:(awI rows n s i).2.length<=i):∀k,i<=k->awI rows n s k=awI rows n s i
 |0,a=>by rw[show i=0 by omega]
 |k+1,a=>by
  by_cases e:i=k+1
  .rw[e]
  .have b := Ad h k QT
   rw[awI,b,Tz QT]
def fK (W0:Ac) (bv:Value) (n s:Nat) (es:List Pr) (h:AHeap) (hb:RL (RL IJ) h bv (Oc n es)) (hR:I7 n es) (hn:n<=300) (bm:es.length<=1000) (hs:s<n):
  AC Tryz.prog W0 132 [bv,.int .i64 (s:Int)] h fun x h'=>∃L,RL IJ h' x L/\Far n es s L/\Le h h'/\L=Oh (Oc n es) n s:=by
 refine AC.vE ⟨Tryz.func132,rfl,xr⟩ Tryz.ntmps132 Tryz.results132 fun ay=>?_;simp only[xq,Nat.reduceAdd];have lb:=fun g=>hb.ae g;rw[XM]at lb;obtain⟨h1,e1,l1,w1,o1⟩:=mV ay [.int .i64 (-1)];simp only[Ud,Nat.reduceLT,↓reduceIte,reduceCtorEq,Vb,e1,lb];refine dK.intro pK ⟨lH,rfl,xr⟩ (SV W0 _ n QT h1 (RL.Kr (RS.whole o1 rfl))) ?_;rintro x h2 w2 ⟨T,rfl,hT,o2,l2⟩
 have nT:h.own T=none:=l1.next w1 hT
 have oT:h2.own T=some (.cells (oY (List.replicate n (-1)))):=by rw[o2];simp[oY]
 have H:∀(k:IntKind) (j:Nat),j<n->aIndexAddr Tryz.prog 49 (.slice (some ⟨T,0,none⟩) n n) (.int k j)=some (.pointer (some ⟨T,j,none⟩)):=fun k j I=>by rw[vj Rm Ik zd j I];simp[Co]
 have X:∀(g:AHeap) (L:LF) (j:Nat) (l:Int),g.own T=some (.cells (oY L))->L[j]?=some l->aload Tryz.prog g 3 ⟨T,j,none⟩=some (.int .i64 l):=fun g L j l ho hl=>by
  rw[wT Ik rfl ho];simp[oY,hl]
 have O:=Qr (P:=Tryz.prog) (t:=3) (x:=.int .i64 0) Ik zd oT (off:=s) (by simp[oY,hs]) rfl rfl;rw[Ko]at O;have w3:=w2.put (.cells (oY ((List.replicate n (-1)).set s 0))) (w2.lt oT);have l3:Le h (h2.put T (.cells (oY ((List.replicate n (-1)).set s 0)))):=(l1.trans l2).put _ nT;have Q:(h2.put T (.cells (oY ((List.replicate n (-1)).set s 0)))).own T=some (.cells (oY ((List.replicate n (-1)).set s 0))):=AHeap.zm _ _ _;simp only[Ud,Nat.reduceLT,↓reduceIte,Nat.reduceEqDiff,H _ s hs,O];generalize h2.put T (.cells (oY ((List.replicate n (-1)).set s 0)))=W at*;obtain⟨h5,e5,R,aB,o5⟩:=mV w3 [.int .i64 (s:Int)]
 have nM:h.own W.next=none:=l3.next w3 (J4 _)
 have Y:T≠W.next:=fun e=>by have:=w3.lt Q;omega
 simp only[Ud,Nat.reduceLT,↓reduceIte,Vb,e5];have Z:=Cy.start (es:=es) hs (fun a w=>(∃j,j<0/\[s][j]?=some a)/\xA es a w) (fun a w h=>by obtain⟨⟨j,h,_⟩,_⟩:=h;omega)
 have gM:GI h5 (.slice (some ⟨W.next,0,none⟩) 1 1) (aW [s]):=GS.full o5 rfl (show 1<1000000000000 by decide)
 refine W9.intro (fun k fr m=>∃(i:Nat) (L:LF) (o:Value) (met:wi),k=n-i/\i<=met.length/\fr=mkF [(0,bv),(5,.slice (some ⟨T,0,none⟩) n n),(6,o),(7,.int .i64 i)]/\
   m.own T=some (.cells (oY L))/\Le h m/\GI m o (aW met)/\blk o≠some T/\tQ h o/\Cy n es s L met (fun a w=>(∃j,j<i/\met[j]?=some a)/\xA es a w)/\(L,met)=awI (Oc n es) n s i)
  n [(0,bv),(5,.slice (some ⟨T,0,none⟩) n n),(6,.slice (some ⟨W.next,0,none⟩) 1 1),(7,.int .i64 (0:Nat))] vy
  ⟨0,_,_,[s],rfl,KW _,rfl,R.own _ _ Q,l3.trans R,gM,by simp[blk,Hn Y],fun b hb=>by simp[blk]at hb;subst hb;exact nM,Z,rfl⟩ ?_
 clear Z gM Y nM o5 aB R e5 h5 Q l3 w3 O oT o2 l2 w2;clear W h2;rintro k fr m J ⟨i,L,o,met,rfl,hi,rfl,oT,leq,gm,nm,am,p,N⟩;have lm:=fun g=>gm.rl.zw g;have ad:=p.Eg;rw[tG]at lm;simp only[Ud,Nat.reduceLT,↓reduceIte,Nat.reduceEqDiff,reduceCtorEq,lm];refine DK.intro (fun ht=>?_) (fun hf=>?_)
 rotate_left
 .have K : met.length <= i := Yv hf
  refine yq ?_;refine⟨L,RL.Kr (RS.whole oT (by simpa using p.len)),p.finish fun a w ha z=>⟨?_,z⟩,leq,by rw[Oh,Ad (i:=i) (by rw[<-N];exact K) n QT,<-N]⟩;obtain⟨j,I⟩:=OH.1 ha;exact⟨j,by have:=(bH.1 I).1;omega,I⟩
 have f:i<met.length:=Ub ht;clear ht;have c:=XR f;have ag:=uD f;have M:=gm.rl.qW i (by rw[tG];exact f);have r:=gm.rl.HN i (by rw[tG];exact f);rw[ag]at r;generalize met[i]=u at c r;clear ag;have B:u∈met:=Jb c;have ah:u<n:=(p.mm u B).1;have C:u<(Oc n es).length:=by rw[XM];exact ah
 have aE:=hb.Jl u C;obtain⟨uv,aK,y⟩:=hb.To u C;have D:(Oc n es).getD u []=(Oc n es)[u]:=YR C;generalize (Oc n es)[u]=row at y D;have lr:=fun g=>y.zw g;have bo:row.length<=3000:=by
  have:=OI n es row (by rw[<-D,YR C];exact om C);omega
 simp only[Ud,Nat.reduceLT,↓reduceIte,Nat.reduceEqDiff,reduceCtorEq,M,r,aE,aK m leq,lr];have aj:Cy n es s L met (fun a w=>((∃j,j<i/\met[j]?=some a)/\xA es a w)\/(a=u/\(w:Int)∈row.take 0)):=p.mono fun a w h=>by
  rcases h with h|⟨_,h⟩
  .exact h
  .simp at h
 refine W9.intro (fun k fr m=>∃(q:Nat) (L:LF) (o:Value) (met:wi),k=row.length-q/\q<=row.length/\fr=mkF [(0,bv),(5,.slice (some ⟨T,0,none⟩) n n),(6,o),(7,.int .i64 i),(31,uv),(32,.int .i64 row.length),(33,.int .i64 q)]/\
   m.own T=some (.cells (oY L))/\Le h m/\GI m o (aW met)/\blk o≠some T/\tQ h o/\met[i]?=some u/\Cy n es s L met (fun a w=>((∃j,j<i/\met[j]?=some a)/\xA es a w)\/(a=u/\(w:Int)∈row.take q))/\(L,met)=(row.take q).foldl (awS u) (awI (Oc n es) n s i))
  row.length [(0,bv),(5,.slice (some ⟨T,0,none⟩) n n),(6,o),(7,.int .i64 i),(31,uv),(32,.int .i64 row.length),(33,.int .i64 (0:Nat))] vy
  ⟨0,L,o,met,rfl,KW _,rfl,oT,leq,gm,nm,am,c,aj,N⟩ ?_
 have aM:awI (Oc n es) n s (i+1)=row.foldl (awS u) (awI (Oc n es) n s i):=by rw[awI,<-N];simp only[c];rw[D]
 clear aj N M r lm;clear B c f ad p am nm gm leq oT J hi;clear m L o met;rintro k fr m J ⟨q,L,o,met,rfl,br,rfl,oT,leq,gm,nm,am,c,p,N⟩;have B:u∈met:=Jb c;have ad:=p.Eg;have f:=(bH.1 c).1;refine yq ?_;refine DK.intro (fun ht=>?_) (fun hf=>?_)
 rotate_left
 .have K : row.length <= q := Yv hf
  simp only[Ud,Nat.reduceLT,↓reduceIte,Nat.reduceEqDiff,reduceCtorEq,Gm i QT];refine cX (n-(i+1)) [(0,bv),(5,.slice (some ⟨T,0,none⟩) n n),(6,o),(7,.int .i64 (i+1:Nat))] QT vy ⟨i+1,L,o,met,rfl,f,rfl,oT,leq,gm,nm,am,p.mono fun a w h=>?_,by rw[aM,N,xV K]⟩;obtain⟨⟨j,I,v⟩,z⟩:=h;by_cases e:j=i
  .subst e
   rw[c]at v;injection v with v;subst v;exact .inr ⟨rfl,by rw[xV K,<-D];exact(M8 hR u w).2 z⟩
  .exact .inl ⟨⟨j,QT,v⟩,z⟩
 have A:q<row.length:=Ub ht;clear ht;have ak:=y.qW q A;have S:=(y.le Rr.IJ leq).HN q A;have U:row.take (q+1)=row.take q++[row[q]]:=QM A;have V:row[q]∈(Oc n es).getD u []:=by rw[D];exact om A
 generalize row[q]=x at S U V;obtain⟨w,rfl,E⟩:=iz hR V;have z:=(M8 hR u w).1 V;have F:=XR (show w<L.length by rw[p.len];exact E);generalize L[w]'(by rw[p.len];exact E)=lw at F
 have al:=X m L w lw oT F;have aq:∀(G:wi),(∀j,j<met.length->G[j]?=met[j]?)->∀a b,((∃j,j<i/\G[j]?=some a)/\xA es a b)\/(a=u/\(b:Int)∈row.take (q+1))->
   (((∃j,j<i/\met[j]?=some a)/\xA es a b)\/(a=u/\(b:Int)∈row.take q))\/b=w:=fun G hm a b h=>by
  rcases h with⟨⟨j,I,v⟩,h2⟩|⟨h1,h2⟩
  .exact .inl (.inl ⟨⟨j,I,by rw[<-hm j QT];exact v⟩,h2⟩)
  .rw [U, uK, Rb] at h2
   rcases h2 with h2|h2
   .exact .inl (.inr ⟨h1,h2⟩)
   .exact .inr QT
 have eS:(row.take (q+1)).foldl (awS u) (awI (Oc n es) n s i)=awS u (L,met) (w:Int):=by rw[U,Tr,<-N];rfl
 have gw:L.getD w 0=lw:=by rw[OO,F];rfl
 by_cases c4:lw<0
 rotate_left
 .simp only [Ud, Nat.reduceLT, ↓reduceIte, Nat.reduceEqDiff, reduceCtorEq, ak, S, H _ w E, al, c4, Gm q QT]
  exact cX (row.length-(q+1)) [(0,bv),(5,.slice (some ⟨T,0,none⟩) n n),(6,o),(7,.int .i64 i),(31,uv),(32,.int .i64 row.length),(33,.int .i64 (q+1:Nat))] QT vy
   ⟨q+1,L,o,met,rfl,A,rfl,oT,leq,gm,nm,am,c,p.stay F QT (aq met fun _ _=>rfl),by rw[eS,awS,TK];simp only[gw];rw[if_neg c4]⟩
 obtain⟨bj,_,d,hd,bx⟩:=p.mm u B;have bF:=p.bd u d hd;have aQ:=X m L u d oT hd;have M:=gm.rl.qW i (by rw[tG];exact f);have r:=gm.rl.HN i (by rw[tG];exact f);rw[uD f,show met[i]=u by rw[bH]at c;exact c.2]at r;have aT:awrap .i64 (d+1)=d+1:=GQ _ QT QT;have st1:aStore Tryz.prog m 3 (.pointer (some ⟨T,w,none⟩)) (.int .i64 (d+1))=some (m.put T (.cells (oY (L.set w (d+1))))):=by
  rw[Qr (P:=Tryz.prog) (t:=3) (x:=.int .i64 (d+1)) Ik zd oT (off:=w) (by rw[CW,p.len];exact E) rfl rfl,Ko]
 have aX:WF (m.put T (.cells (oY (L.set w (d+1))))):=J.put _ (J.lt oT);have aY:Le h (m.put T (.cells (oY (L.set w (d+1))))):=leq.put _ nT;have a1:(m.put T (.cells (oY (L.set w (d+1))))).own T=some (.cells (oY (L.set w (d+1)))):=AHeap.zm _ _ _;have a7:GI (m.put T (.cells (oY (L.set w (d+1))))) o (aW met):=GS.put gm _ nm;simp only[Ud,Nat.reduceLT,↓reduceIte,Nat.reduceEqDiff,reduceCtorEq,ak,S,H _ w E,al,c4,M,r,H _ u ah,aQ,aT,st1];generalize m.put T (.cells (oY (L.set w (d+1))))=W at*;obtain⟨ar,h5,h6,e5,e6,g6,w6,l5,hf,hk⟩:=a7.push aX (w:Int) (by rw[tG];omega);obtain⟨l6,a6⟩:=hf h aY am;obtain⟨a8,bb⟩:=hk T _ a1 nm;have av:aW met++[(w:Int)]=aW (met++[w]):=by simp[aW]
 rw[av]at g6;simp only[Ud,Nat.reduceLT,↓reduceIte,Nat.reduceEqDiff,reduceCtorEq,e5,e6,Gm q QT];exact cX (row.length-(q+1)) [(0,bv),(5,.slice (some ⟨T,0,none⟩) n n),(6,ar),(7,.int .i64 i),(31,uv),(32,.int .i64 row.length),(33,.int .i64 (q+1:Nat))] QT vy
  ⟨q+1,_,ar,met++[w],rfl,A,rfl,a8,l6,g6,bb,a6,by rw[US f];exact c,p.push B hd z F c4 (aq _ fun j I=>US I),by rw[eS,awS,TK];simp only[gw];rw[if_pos c4,OO,hd];rfl⟩
def d20:decide ((20:Int)=0)=false:=by decide
def d2:decide ((2:Int)=0)=false:=by decide
def NJ (x y:Int):aBuild Tryz.prog 38 [(0,.int .i64 x),(1,.int .i64 y)]=some (Ov (x,y)):=zd
end
end Go.Fw
namespace Go.Fw
open Go.Proofs
section
variable {α : Type} [DecidableEq α]
def setK:List (α×Int)->α->Int->List (α×Int)
 |[],k,v=>[(k,v)]
 |(a,b)::r,k,v=>if a=k then(k,v)::r else(a,b)::setK r k v
def lookK:List (α×Int)->α->Option Int
 |[],_=>none
 |(a,b)::r,k=>if a=k then some b else lookK r k
def kx (l:List (α×Int)) (k c:α) (v:Int):lookK (setK l k v) c=if k=c then some v else lookK l c:=by
 induction l with
 |nil=>simp[setK,lookK]
 |cons x r d=>
  obtain⟨a,b⟩:=x;simp only[setK];by_cases h:a=k
  .subst h;rw[if_pos rfl];simp only[lookK];split<;>simp_all
  .rw [if_neg h]; simp only [lookK, d]
   by_cases h2:a=c
   .subst h2;simp[Hn h]
   .simp[h2]
def zB {l:List (α×Int)} {k:α}:lookK l k≠none↔k∈l.map (·.1):=by
 induction l with
 |nil=>simp[lookK]
 |cons x r c=>
  obtain⟨a,b⟩:=x;simp only[lookK,Kj,aH];by_cases h:a=k
  .simp[h]
  .rw[if_neg h,c];simp[Hn h]
def rH (l:List (α×Int)) (k a:α) (v:Int):a∈(setK l k v).map (·.1)↔a=k\/a∈l.map (·.1):=by
 rw[<-zB,kx,<-zB];by_cases h:k=a
 .simp[h]
 .simp[h,Hn h]
def cN (l:List (α×Int)) (k:α) (v:Int):(lookK l k=none/\setK l k v=l++[(k,v)])\/∃(j:Nat) (b:Int),lookK l k=some b/\l[j]?=some (k,b)/\(∀i,i<j->∀x,l[i]?=some x->x.1≠k)/\setK l k v=l.set j (k,v):=by
 induction l with
 |nil=>exact .inl ⟨rfl,rfl⟩
 |cons x r f=>
  obtain⟨a,b⟩:=x;simp only[setK,lookK];by_cases h:a=k
  .subst h
   rw[if_pos rfl,if_pos rfl];exact .inr ⟨0,b,rfl,rfl,QT,rfl⟩
  .rw [if_neg h, if_neg h]
   rcases f with⟨d,h2⟩|⟨j,c,d,h2,h3,g⟩
   .exact .inl ⟨d,by rw[h2];rfl⟩
   .refine .inr ⟨j + 1, c, d, by simpa using h2, fun i hi x e => ?_, by rw [g]; rfl⟩
    cases i with
    |zero=>simp at e;subst e;exact h
    |succ i=>exact h3 i QT x (by simpa using e)
end
def JW (l:List (Pr×Int)):List (Value×Value):=l.map fun x=>(Ov x.1,.int .i64 x.2)
def Ha (k:Pr):∀(l:List (Pr×Int)) (i:Nat),(lookK l k=none->afind Tryz.prog 38 (Ov k) (JW l) i=some none)/\∀(j:Nat) b,l[j]?=some (k,b)->(∀q,q<j->∀x,l[q]?=some x->x.1≠k)->afind Tryz.prog 38 (Ov k) (JW l) i=some (some (i+j,.int .i64 b))
 |[],i=>⟨fun _=>rfl,fun j b h=>by simp at h⟩
 |(a,b)::r,i=>by
  obtain⟨g,h2⟩:=Ha k r (i+1)
  have un:afind Tryz.prog 38 (Ov k) (JW ((a,b)::r)) i=match aEq Tryz.prog 38 (Ov k) (Ov a)with|some true=>some (some (i,.int .i64 b))|some false=>afind Tryz.prog 38 (Ov k) (JW r) (i+1)|none=>none:=rfl
  rw[un,eqP];constructor
  .intro h
   simp only[lookK]at h;by_cases e:a=k
   .rw[if_pos e]at h;cases h
   .rw [if_neg e] at h
    have:decide (k=a)=false:=by simpa using Ne.symm e
    rw[this];exact g h
  .intro j c f d
   cases j with
   |zero=>
    simp at f;obtain⟨rfl,rfl⟩:=f;have:decide (a=a)=true:=by simp
    rw[this];rfl
   |succ j=>
    have e:a≠k:=d 0 QT (a,b) rfl;have:decide (k=a)=false:=by simpa using Ne.symm e
    rw[this];show afind Tryz.prog 38 (Ov k) (JW r) (i+1)=_;rw[h2 j c (by simpa using f) fun q n x m=>d (q+1) QT x (by simpa using m)];congr 3;omega
def keyP (p:Pr):keyArr Tryz.prog 38 (Ov p)=true:=by
 have:allInts [.int .i64 p.1,.int .i64 p.2]=some [(IntKind.i64,p.1),(IntKind.i64,p.2)]:=rfl;simp[keyArr,Ov,this,ts3]
def uI {h:AHeap} {x:Value} (p:Pr) (ok:Bool):aLookup Tryz.prog h 88 x (Ov p) ok=none:=by
 simp only[aLookup,qS23,Ov]
def Cw {h:AHeap} {x v:Value} (p:Pr):aMapSet Tryz.prog h 88 x (Ov p) v=none:=by
 simp only[aMapSet,qS23,Ov]
def JK {h:AHeap} {M:Nat} {l:List (Pr×Int)} (c:h.own M=some (.map (JW l))) (k:Pr) (ok:Bool):
  aLookupA Tryz.prog h 88 (.map (some M)) (Ov k) ok=some (bif ok then .tuple #[.int .i64 ((lookK l k).getD 0),.bool (lookK l k).isSome]else .int .i64 ((lookK l k).getD 0)):=by
 have d:azero Tryz.prog 3=some (.int .i64 0):=zd;simp only[aLookupA,qS23,keyP,c,d,show flat (.int .i64 0)=true from rfl,if_true];rcases cN l k 0 with⟨a,_⟩|⟨j,b,a,h2,h3,_⟩
 .rw[(Ha k l 0).1 a,a];rfl
 .rw[(Ha k l 0).2 j b h2 h3,a];rfl
def Ge {h:AHeap} {M:Nat} {l:List (Pr×Int)} (d:h.own M=some (.map (JW l))) (k:Pr) (v:Int):aMapSetA Tryz.prog h 88 (.map (some M)) (Ov k) (.int .i64 v)=some (h.put M (.map (JW (setK l k v)))):=by
 simp only[aMapSetA,qS23,keyP,d,if_true];rcases cN l k v with⟨c,a⟩|⟨j,b,c,h2,h3,a⟩
 .rw[(Ha k l 0).1 c,a];simp[JW]
 .rw[(Ha k l 0).2 j b h2 h3,a];simp[JW]
end Go.Fw
namespace Go.Fw
section
attribute [local irreducible] Ax YH XZ Uk KO KN KX KE VK DK Q7 dK W9
open Go.Proofs
def Mn (j:Ac) (v:Value) (n s:Nat) (es:List Pr) (h:AHeap) (hg:GR h v ⟨(n:Int),es⟩) (f:xO ⟨(n:Int),es⟩) (hs:s<n):
  AC Tryz.prog j 129 [v,.int .i64 (s:Int)] h fun x h'=>∃d U o up,x=.tuple #[d,.slice (some ⟨U,0,none⟩) n n,.int .i64 0]/\GI h' d (aW o)/\(h'.own U=some (.cells (oY up))/\blk d≠some U/\h.own U=none)/\zn n es s o up/\Le h h'/\tQ h d:=by
 have k:=hg
 obtain⟨ev,rfl,E⟩:=hg.open
 have A:(n:Int)<=200:=f.n1;have C:es.length<=594:=f.len;refine AC.vE ⟨Tryz.func129,rfl,xr⟩ Tryz.ntmps129 Tryz.results129 fun l=>?_;simp only[xq,Nat.reduceAdd];obtain⟨m,F,g,p,-,G⟩:=WY (n:=(n:Int)) l E
 generalize h.next=B at*
 have q:=G m (Le.refl _);obtain⟨h2,H,l2,Q,I⟩:=mV p [.int .i64 (s:Int)]
 have rs:RL IJ h2 (.slice (some ⟨m.next,0,none⟩) 1 1) [(s:Int)]:=RL.Kr (RS.whole I rfl)
 simp only[Ud,Nat.reduceLT,↓reduceIte,Nat.reduceEqDiff,F,q.1,Vb,H]
 generalize Value.slice (some ⟨m.next,0,none⟩) 1 1=J at*
 refine dK.intro pK ⟨qS32,rfl,xr⟩ (PZ j _ J ⟨(n:Int),es⟩ [(s:Int)] h2 (k.le (g.trans l2)) rs YX) ?_;rintro x h3 K ⟨r,L,e,rfl,M⟩;have a:=(g.trans l2).trans r;have i:∀x∈[(s:Int)],0<=x/\x<(n:Int):=fun x D=>by rw[Rb]at D;subst D;omega
 rcases M with⟨t,_,_⟩|⟨_,u,_,_⟩|⟨_,_,rfl,c⟩
 .exact absurd f t
 .exact absurd i u
 .simp only [TK] at c
  simp only[Ud,Nat.reduceLT,↓reduceIte,Nat.reduceEqDiff,bne];refine dK.intro pK ⟨Tryz.func114,rfl,xr⟩ (Wf j L n s es h3 c f.si f.Fx QT QT hs) ?_;rintro x R N ⟨d,O,o,up,rfl,w,y,P,z,ap⟩;refine yq ?_;refine⟨d,O,o,up,rfl,w,⟨y.1,y.2.1,a.none y.2.2⟩,P,a.trans z,?_⟩;intro b hb;cases w:h.own b with
  |none=>rfl
  |some o=>have:=ap b hb;rw[a.own _ _ w]at this;cases this
end
end Go.Fw
namespace Go.Fw
open Go.Proofs
abbrev Lw:=Int×Int×Int
def Lg (p:Lw):List Value:=[.int .i64 p.1,.int .i64 p.2.1,.int .i64 p.2.2]
def valL (p:Lw):Value:=.agg #[.int .i64 p.1,.int .i64 p.2.1,.int .i64 p.2.2]
def Wu (ps:List Lw):List Value:=ps.flatMap Lg
def V3:∀(ps:List Lw) (i:Nat) (p:Lw),ps[i]?=some p->(Wu ps)[i*3]?=some (.int .i64 p.1)/\(Wu ps)[i*3+1]?=some (.int .i64 p.2.1)/\(Wu ps)[i*3+2]?=some (.int .i64 p.2.2)
 |[],i,p,h=>by simp at h
 |q::ps,0,p,h=>by simp at h;subst h;simp[Wu,Lg]
 |q::ps,i+1,p,h=>by
  have:=V3 ps i p (by simpa using h);have e:Wu (q::ps)=.int .i64 q.1::.int .i64 q.2.1::.int .i64 q.2.2::Wu ps:=rfl;rw[e,show(i+1)*3=(i*3+2)+1 by omega];simpa using this
def eK:∀(ps:List Lw) (i:Nat) (p q:Lw),ps[i]?=some p->
  Wu (ps.set i q)=(((Wu ps).set (i*3) (.int .i64 q.1)).set (i*3+1) (.int .i64 q.2.1)).set (i*3+2) (.int .i64 q.2.2)
 |[],i,p,q,h=>by simp at h
 |r::ps,0,p,q,h=>by simp[Wu,Lg]
 |r::ps,i+1,p,q,h=>by
  have:=eK ps i p q (by simpa using h);have e:∀(r:Lw) ps,Wu (r::ps)=.int .i64 r.1::.int .i64 r.2.1::.int .i64 r.2.2::Wu ps:=fun _ _=>rfl;rw[List.set_cons_succ,e,e,this,show(i+1)*3=(i*3+2)+1 by omega];simp
def J2 (ps:List Lw) (i:Nat) (p:Lw) (x:Int) (h:ps[i]?=some p):Wu (ps.set i (p.1,p.2.1,x))=(Wu ps).set (i*3+2) (.int .i64 x):=by
 rw[eK ps i p _ h];obtain⟨d,e,f⟩:=V3 ps i p h;apply Lc;intro j;simp only[v8,qm];by_cases a:i*3+2=j
 .simp[a]
 .simp only [a, if_false]
  by_cases b:i*3+1=j
  .subst b
   obtain⟨q,r⟩:=bH.1 e;simp[q,r]
  .simp only [b, if_false]
   by_cases c:i*3=j
   .subst c
    obtain⟨q,r⟩:=bH.1 d;simp[q,r]
   .simp[c]
def ts51:JO Tryz.prog 108=3:=zd
def zrow3 (n:Nat):zrow [Value.int .i64 0,.int .i64 0,.int .i64 0] n=Wu (List.replicate n (0,0,0)):=by
 induction n with
 |zero=>rfl
 |succ n a=>rw[zrow,a];rfl
def mkL (h:AHeap) (n:Nat) (e:n<=100000):aMakeSlice Tryz.prog h 104 (.int .i64 n) (.int .i64 n)=some (.slice (some ⟨h.next,0,none⟩) n n,h.alloc (.cells (Wu (List.replicate n (0,0,0))))):=by
 have b:azero Tryz.prog 108=some (.agg #[.int .i64 0,.int .i64 0,.int .i64 0]):=zd;have hb:Tryz.prog.bytesOf 108=24:=zd;have c:(24:Int)*n<=140737488355328:=QT;have d:(n:Int)<=140737488355328:=QT;have one:(Wu (List.replicate n (0,0,0))).all (·.oneCell')=true:=by
  rw[jE];intro x a;rw[Wu,H0]at a;obtain⟨p,_,a⟩:=a;simp[Lg]at a;rcases a with rfl|rfl|rfl<;>rfl
 simp[aMakeSlice,b,hb,ts51,Value.cells,flat,c,d,QX,zrow3,one]
section
variable {h : AHeap} {L n : Nat} {ls : List Lw}
def bT {k:IntKind} {cap:Nat} (v:Nat) (b:v<n):aIndexAddr Tryz.prog 104 (.slice (some ⟨L,0,none⟩) n cap) (.int k v)=some (.pointer (some ⟨L,v*3,none⟩)):=by
 have a:(v:Int)<(n:Int):=QT;simp[aIndexAddr,a,ts51,Co]
def fl0 (a:Addr):aField Tryz.prog 108 (.pointer (some a)) 0=some (.pointer (some (Co a 0))):=rfl
def fl1 (a:Addr):aField Tryz.prog 108 (.pointer (some a)) 1=some (.pointer (some (Co a 1))):=rfl
def fl2 (a:Addr):aField Tryz.prog 108 (.pointer (some a)) 2=some (.pointer (some (Co a 2))):=rfl
def rF (a:h.own L=some (.cells (Wu ls))) {v:Nat} {p:Lw} (b:ls[v]?=some p):aload Tryz.prog h 3 ⟨L,v*3,none⟩=some (.int .i64 p.1):=by rw[wT Ik rfl a,(V3 ls v p b).1]
def lUp (a:h.own L=some (.cells (Wu ls))) {v:Nat} {p:Lw} (b:ls[v]?=some p):aload Tryz.prog h 3 ⟨L,v*3+1,none⟩=some (.int .i64 p.2.1):=by rw[wT Ik rfl a,(V3 ls v p b).2.1]
def W6 (a:h.own L=some (.cells (Wu ls))) {v:Nat} {p:Lw} (b:ls[v]?=some p):aload Tryz.prog h 3 ⟨L,v*3+2,none⟩=some (.int .i64 p.2.2):=by rw[wT Ik rfl a,(V3 ls v p b).2.2]
def sLow (b:h.own L=some (.cells (Wu ls))) {v:Nat} {p:Lw} (a:ls[v]?=some p) (x:Int):
  aStore Tryz.prog h 3 (.pointer (some ⟨L,v*3+2,none⟩)) (.int .i64 x)=some (h.put L (.cells (Wu (ls.set v (p.1,p.2.1,x))))):=by
 rw[J2 ls v p x a];exact Qr (P:=Tryz.prog) (t:=3) (x:=.int .i64 x) Ik zd b (off:=v*3+2) (bH.1 (V3 ls v p a).2.2).1 rfl rfl
def sAll (b:h.own L=some (.cells (Wu ls))) {v:Nat} (c:v<ls.length) (q:Lw):
  aStore Tryz.prog h 108 (.pointer (some ⟨L,v*3,none⟩)) (valL q)=some (h.put L (.cells (Wu (ls.set v q)))):=by
 have a:=XR c;rw[eK ls v _ q a];have e:=(bH.1 (V3 ls v _ a).2.2).1;have d:v*3+3<=(Wu ls).length:=QT;simp[aStore,b,valL,Value.cells,ts51,putCells,d,Value.oneCell']
end
end Go.Fw
namespace Go.Fw
section
open Go.Proofs
variable {es:List Pr} {i n s v:Nat} {ls:List Lw} {o:wi} {up:LF}
def ZZ (ls:List Lw) (v:Nat):Lw:=ls.getD v (0,0,0)
def putA (up:LF):wi->List Lw×wi->List Lw×wi
 |[],st=>st
 |v::r,(ls,o)=>putA up r (ls.set v (((o.length+1:Nat):Int),up.getD v 0,((o.length+1:Nat):Int)),o++[v])
def C3 (n:Nat) (es:List Pr) (i:Nat) (st:List Lw×wi):List Lw×wi:=
 if(ZZ st.1 i).1=0 then putA (sk n es i).2 (sk n es i).1 st else st
def metM (n:Nat) (es:List Pr):Nat->List Lw×wi
 |0=>(List.replicate n (0,0,0),[])
 |i+1=>C3 n es i (metM n es i)
def yS (ls:List Lw) (e:Pr):List Lw:=
 let a:=e.1.toNat;let b:=e.2.toNat
 if(ZZ ls a).2.1=e.2\/(ZZ ls b).2.1=e.1 then ls
 else
  let l1:=ls.set a ((ZZ ls a).1,(ZZ ls a).2.1,min (ZZ ls a).2.2 (ZZ ls b).1)
  l1.set b ((ZZ l1 b).1,(ZZ l1 b).2.1,min (ZZ l1 b).2.2 (ZZ l1 a).1)
def Si (ls:List Lw) (v:Nat):List Lw:=
 let u:=(ZZ ls v).2.1
 if 0<=u then ls.set u.toNat ((ZZ ls u.toNat).1,(ZZ ls u.toNat).2.1,min (ZZ ls u.toNat).2.2 (ZZ ls v).2.2)else ls
def xM (n:Nat) (es:List Pr):List Lw×wi:=((metM n es n).2.reverse.foldl Si (es.foldl yS (metM n es n).1),(metM n es n).2)
def O2 (h:v<ls.length):ls[v]?=some (ZZ ls v):=by
 simp[ZZ,List.getD,dR h]
structure LowI (n:Nat) (ls:List Lw) (o:wi):Prop where
 len:ls.length=n
 up:∀v,v<n->(ZZ ls v).2.1<(n:Int)
 lt:∀v∈o,v<n
 nd:o.Nodup
 num:∀v,v<n->((ZZ ls v).1=0↔v∉o)
def HJ (ls:List Lw) (v:Nat) (q:Lw) (u:Nat):ZZ (ls.set v q) u=if v=u/\v<ls.length then q else ZZ ls u:=by
 simp only[ZZ,OO,v8];by_cases e:v=u
 .subst e
  by_cases h:v<ls.length
  .simp[h]
  .simp[h]
 .simp[e]
def Zu.upR (a:I7 n es) (hs:s<n) (d:Zu n es s o up):∀v,up.getD v 0<(n:Int):=by
 induction d with
 |start=>
  intro v;simp only[OO,gG];split<;>simp<;>omega
 |@step o up k v w d c ha hw e hf b=>
  intro x;simp only[OO,v8];have:=b x;simp only[OO]at this;split
  .split
   .have:=(ha.lt a).1;simp;omega
   .simp;omega
  .exact this
def Ou {n:Nat} {up:LF} (d:∀v,up.getD v 0<(n:Int)):∀(l:wi) {ls:List Lw} {o:wi},LowI n ls o->l.Nodup->(∀v∈l,v<n/\v∉o)->
  LowI n (putA up l (ls,o)).1 (putA up l (ls,o)).2/\(putA up l (ls,o)).2=o++l
 |[],ls,o,I,_,_=>⟨I,by simp[putA]⟩
 |v::r,ls,o,I,g,h=>by
  rw[tS]at g;have i:=h v YX;have j:LowI n (ls.set v (((o.length+1:Nat):Int),up.getD v 0,((o.length+1:Nat):Int))) (o++[v]):=by
   refine⟨by simp[I.len],fun u c=>?_,fun u c=>?_,?_,fun u c=>?_⟩
   .rw [HJ]; split
    .exact d v
    .exact I.up u c
   .rw [uK, Rb] at c
    rcases c with c|rfl
    .exact I.lt u c
    .exact i.1
   .rw [KM]
    exact⟨I.nd,YX,fun a ha b hb e=>by rw[Rb]at hb;subst hb;subst e;exact i.2 ha⟩
   .rw [HJ, uK, Rb]
    by_cases e:v=u
    .subst e;simp[I.len,c];omega
    .rw[if_neg (by simp[e]),I.num u c];simp[Hn e]
  obtain⟨k,m⟩:=Ou d r j g.2 fun u c=>⟨(h u (by simp[c])).1,fun f=>by
   rw[uK,Rb]at f;rcases f with f|rfl
   .exact(h u (by simp[c])).2 f
   .exact g.1 c⟩
  exact⟨k,by rw[putA,m];simp⟩
def ZL (b:∀u w,xA es u w->u∈o->w∈o) (h:Xb es i v):v∈o->i∈o:=by
 induction h with
 |refl _=>exact id
 |step _ a _ c=>exact fun d=>c (b _ _ a.symm d)
structure GO (n:Nat) (es:List Pr) (ls:List Lw) (o:wi):Prop extends LowI n ls o where
 cl:∀u w,xA es u w->u∈o->w∈o
def UO (a:I7 n es) (I:GO n es ls o) (hi:i<n) (c:(ZZ ls i).1=0):
  (sk n es i).1.Nodup/\∀v∈(sk n es i).1,v<n/\v∉o:=by
 have D:=SX a hi;refine⟨D.E5.nodup,fun v b=>⟨((D.mem v).1 b).lt a hi,fun d=>(I.num i hi).1 c (ZL I.cl ((D.mem v).1 b) d)⟩⟩
def fromA_C (b:I7 n es) (I:GO n es ls o) (hi:i<n):
  GO n es (C3 n es i (ls,o)).1 (C3 n es i (ls,o)).2/\i∈(C3 n es i (ls,o)).2/\∀v∈o,v∈(C3 n es i (ls,o)).2:=by
 unfold C3;split
 .rename_i c
  obtain⟨g,h⟩:=UO b I hi c;have D:=SX b hi;obtain⟨e,j⟩:=Ou (D.E5.upR b hi) (sk n es i).1 I.toLowI g h;rw[j]at e ⊢;refine⟨⟨e,fun u w ha a=>?_⟩,KQ _ ((D.mem i).2 (Xb.refl es i)),fun v d=>KF _ d⟩;rw[uK]at a ⊢;rcases a with a|a
  .exact .inl (I.cl u w ha a)
  .exact .inr (D.full u a w ha)
 .rename_i c
  refine⟨I,?_,fun v d=>d⟩;by_cases f:i∈o
  .exact f
  .exact absurd ((I.num i hi).2 f) c
def Tt {n:Nat} {es:List Pr} (b:I7 n es):∀i,i<=n->GO n es (metM n es i).1 (metM n es i).2/\∀v,v<i->v∈(metM n es i).2
 |0,_=>⟨⟨⟨by simp[metM],fun v a=>by simp[metM,ZZ,a];omega,by simp[metM],by simp[metM],fun v a=>by simp[metM,ZZ,a]⟩,by simp[metM]⟩,QT⟩
 |i+1,hi=>by
  obtain⟨I,c⟩:=Tt b i QT;obtain⟨d,f,g⟩:=fromA_C b I (i:=i) QT;refine⟨d,fun v a=>?_⟩;by_cases e:v=i
  .subst e;exact f
  .exact g v (c v QT)
def LowI.sI (I:LowI n ls o):o.length<=n:=by
 have:=I.nd.length_le_of_subset (l₂:=List.range n) fun v a=>vq.2 (I.lt v a);simpa using this
end
section
attribute [local irreducible] Ax YH XZ Uk KO KN KX KE VK DK Q7 dK W9
open Go.Proofs
variable {L LV id n:Nat} {h:AHeap} {ls:List Lw} {o:wi} {ov:Value}
def mkCap (h:AHeap) (n:Nat) (d:n<=100000):aMakeSlice Tryz.prog h 49 (.int .i64 0) (.int .i64 n)=some (.slice (some ⟨h.next,0,none⟩) 0 n,h.alloc (.cells (List.replicate n (.int .i64 0)))):=by
 have a:azero Tryz.prog 3=some (.int .i64 0):=zd;have hb:Tryz.prog.bytesOf 3=8:=zd;have b:(8:Int)*n<=140737488355328:=QT;have c:(n:Int)<=140737488355328:=QT;simp[aMakeSlice,a,hb,ts3,Value.cells,flat,b,c,QX,By,Value.oneCell']
def GU.cap (a:h.own id=some (.cells (List.replicate n (.int .i64 0)))) (b:n<=100000):GU h (.slice (some ⟨id,0,none⟩) 0 n) []:=
 ⟨by simp[oY],.inr ⟨id,_,n,rfl,a,by simp[oY],.inr ⟨KW _,QT,YX⟩⟩⟩
def OE (a b:Int):aMin (.int .i64 a) [.int .i64 b]=some (.int .i64 (min a b)):=by
 have:(if b<a then b else a)=min a b:=by split<;>omega
 simp only[aMin,if_true,this]
def bL (a b c:Int):aBuild Tryz.prog 108 [(0,.int .i64 a),(1,.int .i64 b),(2,.int .i64 c)]=some (valL (a,b,c)):=zd
def gW (ls:List Lw) (e:Pr):(yS ls e).length=ls.length:=by simp only[yS];split<;>simp
def wA:∀(es:List Pr) (ls:List Lw),(es.foldl yS ls).length=ls.length
 |[],ls=>rfl
 |e::es,ls=>by rw[kT,wA es,gW]
def Td (ls:List Lw) (a:Nat) (x:Int) (v:Nat):(ZZ (ls.set a ((ZZ ls a).1,(ZZ ls a).2.1,x)) v).1=(ZZ ls v).1/\(ZZ (ls.set a ((ZZ ls a).1,(ZZ ls a).2.1,x)) v).2.1=(ZZ ls v).2.1:=by
 rw[HJ];split
 .rename_i h;rw[h.1];exact⟨rfl,rfl⟩
 .exact⟨rfl,rfl⟩
def tR (ls:List Lw) (e:Pr) (v:Nat):(ZZ (yS ls e) v).1=(ZZ ls v).1/\(ZZ (yS ls e) v).2.1=(ZZ ls v).2.1:=by
 simp only[yS];split
 .exact⟨rfl,rfl⟩
 .obtain ⟨a, b⟩ := Td ls e.1.toNat (min (ZZ ls e.1.toNat).2.2 (ZZ ls e.2.toNat).1) v
  obtain⟨c,d⟩:=Td (ls.set e.1.toNat ((ZZ ls e.1.toNat).1,(ZZ ls e.1.toNat).2.1,min (ZZ ls e.1.toNat).2.2 (ZZ ls e.2.toNat).1)) e.2.toNat (min (ZZ (ls.set e.1.toNat ((ZZ ls e.1.toNat).1,(ZZ ls e.1.toNat).2.1,min (ZZ ls e.1.toNat).2.2 (ZZ ls e.2.toNat).1)) e.2.toNat).2.2 (ZZ (ls.set e.1.toNat ((ZZ ls e.1.toNat).1,(ZZ ls e.1.toNat).2.1,min (ZZ ls e.1.toNat).2.2 (ZZ ls e.2.toNat).1)) e.1.toNat).1) v;exact⟨c.trans a,d.trans b⟩
def Qu:∀(es:List Pr) (ls:List Lw) (v:Nat),(ZZ (es.foldl yS ls) v).1=(ZZ ls v).1/\(ZZ (es.foldl yS ls) v).2.1=(ZZ ls v).2.1
 |[],ls,v=>⟨rfl,rfl⟩
 |e::es,ls,v=>by
  rw[kT];obtain⟨a,b⟩:=Qu es (yS ls e) v;obtain⟨c,d⟩:=tR ls e v;exact⟨a.trans c,b.trans d⟩
def TJ (ls:List Lw) (x v:Nat):(ZZ (Si ls x) v).1=(ZZ ls v).1/\(ZZ (Si ls x) v).2.1=(ZZ ls v).2.1:=by
 simp only[Si];split
 .exact Td _ _ _ _
 .exact⟨rfl,rfl⟩
def vT:∀(o:wi) (ls:List Lw) (v:Nat),(ZZ (o.foldl Si ls) v).1=(ZZ ls v).1/\(ZZ (o.foldl Si ls) v).2.1=(ZZ ls v).2.1
 |[],ls,v=>⟨rfl,rfl⟩
 |e::es,ls,v=>by
  rw[kT];obtain⟨a,b⟩:=vT es (Si ls e) v;obtain⟨c,d⟩:=TJ ls e v;exact⟨a.trans c,b.trans d⟩
def Ku (ls:List Lw) (v:Nat):(Si ls v).length=ls.length:=by simp only[Si];split<;>simp
def xj:∀(o:wi) (ls:List Lw),(o.foldl Si ls).length=ls.length
 |[],ls=>rfl
 |e::es,ls=>by rw[kT,xj es,Ku]
def qg (h:AHeap):aAlloc Tryz.prog h 104=some (.pointer (some ⟨h.next,0,none⟩),h.alloc (.cells [.slice none 0 0])):=rfl
structure N8 (h1 hq:AHeap) (LV L n:Nat) (ov:Value) (ls:List Lw) (o:wi):Prop where
 oV:hq.own LV=some (.cells [.slice (some ⟨L,0,none⟩) n n])
 oL:hq.own L=some (.cells (Wu ls))
 go:GU hq ov (aW o)
 nb:blk ov≠some LV/\blk ov≠some L
 le:Le h1 hq
 nn:h1.own LV=none/\h1.own L=none/\LV≠L
 ao:tQ h1 ov
def N8.put {b c:AHeap} {d L n:Nat} {e:Value} {ls:List Lw} {o:wi} (S:N8 b c d L n e ls o) (a:List Lw):N8 b (c.put L (.cells (Wu a))) d L n e a o:=
 ⟨by rw[AHeap.Dz _ _ _ _ S.nn.2.2];exact S.oV,AHeap.zm _ _ _,GT.put S.go _ S.nb.2,S.nb,S.le.put _ S.nn.2.1,S.nn,S.ao⟩
def N8.kept {a b c:AHeap} (S:N8 a b LV L n ov ls o) (e:Le b c):N8 a c LV L n ov ls o:=
 ⟨e.own _ _ S.oV,e.own _ _ S.oL,S.go.le e,S.nb,S.le.trans e,S.nn,S.ao⟩
def Dq (up:LF):∀(a b:wi) (st:List Lw×wi),putA up (a++b) st=putA up b (putA up a st)
 |[],b,st=>rfl
 |x::a,b,(ls,o)=>by rw[E9,putA,putA,Dq up a b]
def N8.push {e a:AHeap} {i L n:Nat} {f:Value} {ls:List Lw} {o:wi} (S:N8 e a i L n f ls o) (g:WF a) (x:Nat) (t:o.length<=1000):
  ∃v' d c,aBuildSlice Tryz.prog a 49 1 [(0,.int .i64 (x:Int))]=some (.slice (some ⟨a.next,0,none⟩) 1 1,d)/\aAppend Tryz.prog d 49 49 f (.slice (some ⟨a.next,0,none⟩) 1 1)=some (v',c)/\N8 e c i L n v' ls (o++[x])/\WF c/\
   (∀b o,a.own b=some o->blk f≠some b->c.own b=some o/\blk v'≠some b):=by
 obtain⟨v',d,c,j,k,l,m,l4,hf,h⟩:=S.go.push g (x:Int) (by rw[tG];omega);obtain⟨k1,k2⟩:=h _ _ S.oV S.nb.1;obtain⟨p,q⟩:=h _ _ S.oL S.nb.2;obtain⟨r,s⟩:=hf e S.le S.ao;exact⟨v',d,c,j,k,⟨k1,p,by simpa[aW]using l,⟨k2,q⟩,r,S.nn,s⟩,m,h⟩
def rh (W0:Ac) (v:Value) (G:GM) (h:AHeap) (hg:GR h v G):
  AC Tryz.prog W0 84 [v] h fun x h'=>Le h h'/\((¬xO G/\x=.tuple #[.slice none 0 0,.slice none 0 0,.int .i64 20])\/
   (xO G/\∃L m,x=.tuple #[.slice (some ⟨L,0,none⟩) G.n.toNat G.n.toNat,m,.int .i64 0]/\h'.own L=some (.cells (Wu (xM G.n.toNat G.es).1))/\h.own L=none/\GU h' m (aW (xM G.n.toNat G.es).2)/\blk m≠some L/\tQ h m)):=by
 have aB:=hg;obtain⟨gn,es⟩:=G
 obtain⟨ev,rfl,hp⟩:=hg.open
 refine AC.vE ⟨Tryz.func84,rfl,xr⟩ Tryz.ntmps84 Tryz.results84 fun bW=>?_;simp only[xq,Nat.reduceAdd];obtain⟨h1,b1,N,dc,-,lA⟩:=WY (n:=gn) bW hp
 generalize h.next=B at*
 have bX:=lA h1 (Le.refl _);simp only[Ud,Nat.reduceLT,↓reduceIte,Nat.reduceEqDiff,b1,bX.1];refine dK.intro pK ⟨Zj,rfl,xr⟩ (qG W0 _ _ h1 (aB.le N)) ?_;rintro x h2 aE ⟨⟨bb,rfl,aK⟩,s⟩;cases bb with
 |false=>
  refine yq ?_;exact⟨N.trans s,.inl ⟨(fun hr=>by cases aK.2 hr),trivial⟩⟩
 |true=>
 have hr:=aK.1 rfl;have h0:0<=gn:=hr.n0;obtain⟨n,rfl⟩:=RT h0;have c6:(n:Int)<=200:=hr.n1;have da:es.length<=594:=hr.len;have hR:=hr.si;simp only[TK];have bY:=lA h2 s;obtain⟨h3,e3,l3,w3,o3⟩:=mV aE (Wu (List.replicate n (0,0,0)));have mk:=mkL h2 n QT;rw[e3]at mk;have al:=qg h3;obtain⟨h4,e4,l4,w4,o4⟩:=mV w3 [.slice none 0 0];rw[e4]at al
 have st:=Qr (P:=Tryz.prog) (t:=104) (x:=.slice (some ⟨h2.next,0,none⟩) n n) iC zd o4 (off:=0) YX rfl rfl
 have nV:h3.own h3.next=none:=(Le.refl h3).next w3 (J4 _)
 have nL:h2.own h2.next=none:=(Le.refl h2).next aE (J4 _)
 have w5:=w4.put (.cells ([Value.slice none 0 0].set 0 (.slice (some ⟨h2.next,0,none⟩) n n))) (w4.lt o4)
 have l5:=(l3.trans l4).put (.cells ([Value.slice none 0 0].set 0 (.slice (some ⟨h2.next,0,none⟩) n n))) (l3.none nV)
 have ag:=AHeap.zm h4 h3.next (.cells ([Value.slice none 0 0].set 0 (.slice (some ⟨h2.next,0,none⟩) n n)))
 have ne:h3.next≠h2.next:=fun e=>by rw[e,o3]at nV;cases nV
 have ak:(h4.put h3.next (.cells ([Value.slice none 0 0].set 0 (.slice (some ⟨h2.next,0,none⟩) n n)))).own h2.next=some (.cells (Wu (List.replicate n (0,0,0)))):=by
  rw[AHeap.Dz _ _ _ _ (Hn ne)];exact l4.own _ _ o3
 have b0:=l3.none nV;simp only[Ud,Nat.reduceLT,↓reduceIte,Nat.reduceEqDiff,Cq,Co,Qs,bY.2.1,mk,al,st];clear st al mk e4 o4 e3 o3
 generalize h4.put h3.next (.cells ([Value.slice none 0 0].set 0 (.slice (some ⟨h2.next,0,none⟩) n n)))=M at*
 generalize h3.next=r at*
 generalize h2.next=L at*
 clear l3 w3 nV w4 l4;clear h3 h4;simp only[aae]at ag;have aM:=lA M (s.trans l5);obtain⟨h6,e6,l6,w6,o6⟩:=mV w5 (List.replicate n (.int .i64 0));have mk:=mkCap M n QT;rw[e6]at mk;have aQ:=lA h6 ((s.trans l5).trans l6)
 have nO:M.own M.next=none:=(Le.refl M).next w5 (J4 _)
 simp only[Ud,Nat.reduceLT,↓reduceIte,Nat.reduceEqDiff,Cq,Co,Qs,aM.2.1,mk,aQ.2.1]
 have S6:N8 h2 h6 r L n (.slice (some ⟨M.next,0,none⟩) 0 n) (metM n es 0).1 (metM n es 0).2:=
  ⟨l6.own _ _ ag,l6.own _ _ ak,GU.cap o6 QT,⟨fun e=>(by injection e with e;rw[e,ag]at nO;cases nO),fun e=>(by injection e with e;rw[e,ak]at nO;cases nO)⟩,l5.trans l6,⟨b0,nL,ne⟩,fun b hb=>by injection hb with hb;subst hb;exact l5.none nO⟩
 generalize Value.slice (some ⟨M.next,0,none⟩) 0 n=aq at*
 clear nO aQ mk o6 l6 e6 aM l5 ak ag w5;refine W9.intro (fun k fr I=>∃(i:Nat) (m:Value),k=n-i/\i<=n/\fr=mkF [(1,.pointer (some ⟨B,0,none⟩)),(5,.pointer (some ⟨r,0,none⟩)),(6,m),(30,.int .i64 n),(31,.int .i64 i)]/\N8 h2 I r L n m (metM n es i).1 (metM n es i).2)
  n [(1,.pointer (some ⟨B,0,none⟩)),(5,.pointer (some ⟨r,0,none⟩)),(6,aq),(30,.int .i64 n),(31,.int .i64 (0:Nat))] vy ⟨0,aq,rfl,KW _,rfl,S6⟩ ?_
 clear S6 aq w6;clear h6 M;rintro k fr I Q ⟨i,m,rfl,hi,rfl,S⟩;obtain⟨C,aT⟩:=Tt hR i hi;have z:=fun(g:AHeap) (o:g.own r=some (.cells [.slice (some ⟨L,0,none⟩) n n]))=>(wT (P:=Tryz.prog) iC rfl o (off:=0):aload Tryz.prog g 104 ⟨r,0,none⟩=_);simp only[WJ]at z;refine yq ?_;refine DK.intro (fun ht=>?_) (fun hf=>?_)
 .have f : i < n := Ub ht
  clear ht;have b2:=rF S.oL (O2 (ls:=(metM n es i).1) (v:=i) (by rw[C.len];exact f));simp only[Ud,Nat.reduceLT,↓reduceIte,Nat.reduceEqDiff,z I S.oV,bT i f,fl0,Co,dX,b2,bne];by_cases c:(ZZ (metM n es i).1 i).1=0
  .have R := lA I (s.trans S.le)
   simp only[Ud,Nat.reduceLT,↓reduceIte,Nat.reduceEqDiff,c,R.1];refine dK.intro pK ⟨Tryz.func129,rfl,xr⟩ (Mn W0 _ n i es I (aB.le ((N.trans s).trans S.le)) hr f) ?_;rintro x h7 w7 ⟨wv,U,P,up,rfl,gw,⟨oU,nbU,nU⟩,D,l7,aw⟩;have S7:=S.kept l7;obtain⟨p1,p2⟩:=UO hR C f c;have aX:=D.E5.upR hR f;have dd:=D.E5.len.2;have A:metM n es (i+1)=putA up P (metM n es i):=by
    obtain⟨e1,e2⟩:=D.eq hR f;rw[metM,C3,if_pos c,<-e1,<-e2]
   obtain⟨e1,-⟩:=D.eq hR f;rw[<-e1]at p1 p2;clear e1 D;have dj:P.length<=n:=by
    have:=p1.length_le_of_subset (l₂:=List.range n) fun x hx=>vq.2 (p2 x hx).1;simpa using this
   have b3:U≠L/\U≠r:=⟨fun e=>(by rw[e,S.oL]at nU;cases nU),fun e=>(by rw[e,S.oV]at nU;cases nU)⟩;have b4:blk wv≠some L/\blk wv≠some r:=⟨fun e=>(by have:=aw _ e;rw[S.oL]at this;cases this),fun e=>(by have:=aw _ e;rw[S.oV]at this;cases this)⟩;have ah:blk m≠some U:=fun e=>by
    obtain⟨c,hc⟩:=GT.Rf S.go e;rw[nU]at hc;cases hc
   have T:∀b,blk wv=some b->blk m≠some b:=fun b hb e=>by
    obtain⟨c,hc⟩:=GT.Rf S.go e;rw[aw b hb]at hc;cases hc
   have lo:=fun g=>gw.rl.zw g;rw[tG]at lo;simp only[Ud,Nat.reduceLT,↓reduceIte,Nat.reduceEqDiff,bne,lo];refine W9.intro (fun k fr hh=>∃(j:Nat) (F:Value),k=P.length-j/\j<=P.length/\fr=mkF [(1,.pointer (some ⟨B,0,none⟩)),(5,.pointer (some ⟨r,0,none⟩)),(6,F),(9,.slice (some ⟨U,0,none⟩) n n),(30,.int .i64 n),(31,.int .i64 i),(50,wv),(51,.int .i64 P.length),(52,.int .i64 j)]/\
     N8 h2 hh r L n F (putA up (P.take j) (metM n es i)).1 (putA up (P.take j) (metM n es i)).2/\GI hh wv (aW P)/\hh.own U=some (.cells (oY up))/\blk F≠some U/\(∀b,blk wv=some b->blk F≠some b))
    P.length [(1,.pointer (some ⟨B,0,none⟩)),(5,.pointer (some ⟨r,0,none⟩)),(6,m),(9,.slice (some ⟨U,0,none⟩) n n),(30,.int .i64 n),(31,.int .i64 i),(50,wv),(51,.int .i64 P.length),(52,.int .i64 (0:Nat))] vy
    ⟨0,m,rfl,KW _,rfl,S7,gw,oU,ah,T⟩ ?_
   clear S7 oU gw l7 w7 lo ah T aw nU S R;clear h7;rintro k fr hh b5 ⟨j,F,rfl,hj,rfl,S,gw,oU,ah,T⟩;obtain⟨LI,-⟩:=Ou aX (P.take j) C.toLowI (p1.sublist (List.take_sublist _ _)) fun v hv=>p2 v (Wg hv);have b6:(putA up (P.take j) (metM n es i)).2.length<=n:=LI.sI;have V:(putA up (P.take j) (metM n es i)).1.length=n:=LI.len;refine yq ?_;refine DK.intro (fun ht=>?_) (fun hf=>?_)
   .have J : j < P.length := Ub ht
    clear ht;have aY:=XR J;have ad:=gw.rl.qW j (by rw[tG];exact J);have ld:=gw.rl.HN j (by rw[tG];exact J);rw[uD J]at ld;have W:P.take (j+1)=P.take j++[P[j]]:=QM J;generalize P[j]=w at aY ld W;have ar:w<n:=(p2 w (Jb aY)).1;obtain⟨v',h4,M,e4,e5,S5,w5,k5⟩:=S.push b5 w QT;obtain⟨a1,a6⟩:=k5 U _ oU ah;have b8:GI M wv (aW P):=GS.kept gw fun b o hb ho=>(k5 b o ho (T b hb)).1;have a7:∀b,blk wv=some b->blk v'≠some b:=fun b hb=>by
     have:=GS.Rf gw hb;cases ho:hh.own b with
     |none=>exact absurd ho this
     |some o=>exact(k5 b o ho (T b hb)).2
    have a8:=fun g=>S5.go.rl.zw g;simp only[tG,Vw,SB]at a8;have b9:=fun k=>vj (P:=Tryz.prog) (a:=⟨U,0,none⟩) (n:=n) (cap:=n) (k:=k) Rm Ik zd w ar;have cc:aload Tryz.prog M 3 ⟨U,w,none⟩=some (.int .i64 (up.getD w 0)):=by
     rw[wT Ik rfl a1];simp[oY,XR (show w<up.length by omega)]
    have st:=sAll S5.oL (v:=w) (by rw[V];exact ar) (((((putA up (P.take j) (metM n es i)).2.length+1:Nat):Int),up.getD w 0,(((putA up (P.take j) (metM n es i)).2.length+1:Nat):Int)));simp only[Ud,Nat.reduceLT,↓reduceIte,Nat.reduceEqDiff,ad,ld,e4,e5];refine rD (vu [0,1,2,3,4,5,6,7,8,9,10,11] (PO 12 [0,1,2,3,4,5,6,7,8,9,10,11] .done)) ?_;simp only[Ud,Nat.reduceLT,↓reduceIte,Nat.reduceEqDiff,Nat.reduceBEq,rm,z M S5.oV,a8,b9,cc,bT w ar,Co,Qs,bL,st,Gm j QT];have y:putA up (P.take (j+1)) (metM n es i)=((putA up (P.take j) (metM n es i)).1.set w (((((putA up (P.take j) (metM n es i)).2.length+1:Nat):Int),up.getD w 0,(((putA up (P.take j) (metM n es i)).2.length+1:Nat):Int))),(putA up (P.take j) (metM n es i)).2++[w]):=by
     rw[W,Dq];rfl
    have S6:=S5.put ((putA up (P.take j) (metM n es i)).1.set w (((((putA up (P.take j) (metM n es i)).2.length+1:Nat):Int),up.getD w 0,(((putA up (P.take j) (metM n es i)).2.length+1:Nat):Int))));refine cX (P.length-(j+1)) [(1,.pointer (some ⟨B,0,none⟩)),(5,.pointer (some ⟨r,0,none⟩)),(6,v'),(9,.slice (some ⟨U,0,none⟩) n n),(30,.int .i64 n),(31,.int .i64 i),(50,wv),(51,.int .i64 P.length),(52,.int .i64 (j+1:Nat))] QT vy
     ⟨j+1,v',rfl,J,rfl,by rw[y];exact S6,GS.put b8 _ b4.1,by rw[AHeap.Dz _ _ _ _ b3.1];exact a1,a6,a7⟩
   .have K : P.length <= j := Yv hf
    rw[xV K,<-A]at S;simp only[Ud,Nat.reduceLT,↓reduceIte,Nat.reduceEqDiff,Gm i QT];exact cX (n-(i+1)) [(1,.pointer (some ⟨B,0,none⟩)),(5,.pointer (some ⟨r,0,none⟩)),(6,F),(30,.int .i64 n),(31,.int .i64 (i+1:Nat))] QT vy ⟨i+1,F,rfl,f,rfl,S⟩
  .have A : metM n es (i + 1) = metM n es i := by rw [metM, C3, if_neg c]
   simp only[Ud,Nat.reduceLT,↓reduceIte,Nat.reduceEqDiff,c,Gm i QT];exact cX (n-(i+1)) [(1,.pointer (some ⟨B,0,none⟩)),(5,.pointer (some ⟨r,0,none⟩)),(6,m),(30,.int .i64 n),(31,.int .i64 (i+1:Nat))] QT vy ⟨i+1,m,rfl,f,rfl,by rw[A];exact S⟩
 have K:n<=i:=Yv hf;obtain rfl:i=n:=QT;clear hf K hi aT;have R:=lA I (s.trans S.le);have cd:=hp.le (N.trans s);simp only[Ud,Nat.reduceLT,↓reduceIte,Nat.reduceEqDiff,vz,Co,Qs,R.2.2,hp.len];refine W9.intro (fun k fr hh=>∃(j:Nat),k=es.length-j/\j<=es.length/\fr=mkF [(5,.pointer (some ⟨r,0,none⟩)),(6,m),(75,ev),(76,.int .i64 es.length),(77,.int .i64 j)]/\N8 h2 hh r L i m ((es.take j).foldl yS (metM i es i).1) (metM i es i).2)
  es.length [(5,.pointer (some ⟨r,0,none⟩)),(6,m),(75,ev),(76,.int .i64 es.length),(77,.int .i64 (0:Nat))] vy ⟨0,rfl,KW _,rfl,S⟩ ?_
 clear R S Q;clear I;rintro k fr I Q ⟨j,rfl,hj,rfl,S⟩;have V:((es.take j).foldl yS (metM i es i).1).length=i:=by rw[wA];exact C.len
 refine yq ?_;refine DK.intro (fun ht=>?_) (fun hf=>?_)
 .have f : j < es.length := Ub ht
  clear ht;have bj:=XR f;have W:es.take (j+1)=es.take j++[es[j]]:=QM f;have X:=hR es[j] (om f);generalize es[j]=p at bj W X;have ad:=hp.addr (k:=.i64) j f;have ld:=(cd.le S.le).load bj;obtain⟨a,c⟩:=p;simp only at X;obtain⟨a,rfl⟩:=RT X.1;obtain⟨c,rfl⟩:=RT (show 0<=c by omega);obtain⟨dk,h4,e4,cg,ck,dm,o4⟩:=bS Q ((a:Int),(c:Int));have S4:=S.kept ck
  have nE:I.own I.next=none:=(Le.refl I).next Q (J4 _)
  have dp:I.next≠L:=fun e=>by rw[e,S.oL]at nE;cases nE
  generalize I.next=E at*
  have Y:=Ol o4;have Z:=Lt o4;simp only at Y Z;have cm:a<i:=QT;have cr:c<i:=QT;generalize cx:(es.take j).foldl yS (metM i es i).1=ls at*;have ga:=O2 (ls:=ls) (v:=a) QT;have gc:=O2 (ls:=ls) (v:=c) QT;have st1:=sLow S4.oL ga (min (ZZ ls a).2.2 (ZZ ls c).1);have S5:=S4.put (ls.set a ((ZZ ls a).1,(ZZ ls a).2.1,min (ZZ ls a).2.2 (ZZ ls c).1));generalize av:ls.set a ((ZZ ls a).1,(ZZ ls a).2.1,min (ZZ ls a).2.2 (ZZ ls c).1)=l at*;have db:l.length=i:=by rw[<-av];simpa using V
  have cE:=O2 (ls:=l) (v:=a) QT;have bm:=O2 (ls:=l) (v:=c) QT;have st2:=sLow S5.oL bm (min (ZZ l c).2.2 (ZZ l a).1);have S6:=S5.put (l.set c ((ZZ l c).1,(ZZ l c).2.1,min (ZZ l c).2.2 (ZZ l a).1))
  have hB:yS ls ((a:Int),(c:Int))=if(ZZ ls a).2.1=(c:Int)\/(ZZ ls c).2.1=(a:Int)then ls else l.set c ((ZZ l c).1,(ZZ l c).2.1,min (ZZ l c).2.2 (ZZ l a).1):=by
   simp only[yS,TK,av]
  have H:(es.take (j+1)).foldl yS (metM i es i).1=yS ls ((a:Int),(c:Int)):=by rw[W,Tr,cx];rfl
  simp only[Ud,Nat.reduceLT,↓reduceIte,Nat.reduceEqDiff,ad,ld,e4,cg];refine rD (vu [0,1,2,3,4,5,6,7,8,9] .done) ?_;simp only[Ud,Nat.reduceLT,↓reduceIte,Nat.reduceEqDiff,rm,Il,Mt,Co,dX,Qs,Y,Z,z h4 S4.oV,bT a cm,bT c cr];have u1:=lUp S4.oL ga;have u2:=lUp S4.oL gc;by_cases c1:(ZZ ls a).2.1=(c:Int)
  .have d1 : decide ((ZZ ls a).2.1 = (c : Int)) = true := decide_eq_true c1
   refine rD (vu [0,1,2,3,4,5,6,7,8,9,10,11,12,13,14,15] .done) ?_;simp only[Ud,Nat.reduceLT,↓reduceIte,Nat.reduceEqDiff,rm,Mt,Co,Qs,Z,fl1,u1,d1,Gm j QT];refine cX (es.length-(j+1)) [(5,.pointer (some ⟨r,0,none⟩)),(6,m),(75,ev),(76,.int .i64 es.length),(77,.int .i64 (j+1:Nat))] QT vy ⟨j+1,rfl,f,rfl,?_⟩;rw[H,hB,if_pos (.inl c1)];exact S4
  have d1:decide ((ZZ ls a).2.1=(c:Int))=false:=decide_eq_false c1;by_cases c2:(ZZ ls c).2.1=(a:Int)
  .have d2 : decide ((ZZ ls c).2.1 = (a : Int)) = true := decide_eq_true c2
   refine rD (vu [0,1,2,3,4,5,6,7,8,9,10,11,12,13,14,15] .done) ?_;simp only[Ud,Nat.reduceLT,↓reduceIte,Nat.reduceEqDiff,rm,Il,Mt,Co,dX,Qs,Y,Z,fl1,u1,u2,d1,d2,Gm j QT];refine cX (es.length-(j+1)) [(5,.pointer (some ⟨r,0,none⟩)),(6,m),(75,ev),(76,.int .i64 es.length),(77,.int .i64 (j+1:Nat))] QT vy ⟨j+1,rfl,f,rfl,?_⟩;rw[H,hB,if_pos (.inr c2)];exact S4
  have d2:decide ((ZZ ls c).2.1=(a:Int))=false:=decide_eq_false c2;refine rD (vu [0,1,2,3,4,5,6,7,8,9,10,11,12,13,14,15] .done) ?_;simp only[Ud,Nat.reduceLT,↓reduceIte,Nat.reduceEqDiff,rm,Il,Mt,Co,dX,Qs,Y,Z,fl1,u1,u2,d1,d2];refine rD (vu [0,1,2,3,4,5,6,7,8,9,10,11] (PO 12 [0,1,2,3,4,5,6,7,8,9,11] .done)) ?_;simp only[Ud,Nat.reduceLT,↓reduceIte,Nat.reduceEqDiff,Nat.reduceBEq,rm,Co,dX,fl0,fl2,W6 S4.oL ga,rF S4.oL gc,OE,st1];refine rD (vu [0,1,2,3,4,5,6,7,8,9,10,11] (PO 12 [0,1,2,3,4,5,6,7,8,9,11] .done)) ?_;simp only[Ud,Nat.reduceLT,↓reduceIte,Nat.reduceEqDiff,Nat.reduceBEq,rm,Co,dX,fl0,fl2,W6 S5.oL bm,rF S5.oL cE,OE,st2,Gm j QT];refine cX (es.length-(j+1)) [(5,.pointer (some ⟨r,0,none⟩)),(6,m),(75,ev),(76,.int .i64 es.length),(77,.int .i64 (j+1:Nat))] QT vy ⟨j+1,rfl,f,rfl,?_⟩;rw[H,hB,if_neg (fun q=>q.elim c1 c2)];exact S6
 have K:es.length<=j:=Yv hf;rw[xV K]at S V;clear K hf hj;refine yq ?_;refine dK.intro pK ⟨Tryz.func130,rfl,xr⟩ (AO W0 m (aW (metM i es i).2) I S.go.rl) ?_;rintro x h7 w7 ⟨B2,rfl,dr,cM,l7⟩;have S7:=S.kept l7;have cQ:B2≠L:=fun e=>by have:=Q.lt S.oL;omega
 have b6:(metM i es i).2.length<=i:=C.toLowI.sI;have bo:(aW (metM i es i).2).length=(metM i es i).2.length:=tG _;have br:∀v∈(metM i es i).2,v<i:=C.lt;generalize hO:(metM i es i).2=O at*;have aj:xM i es=(O.reverse.foldl Si (es.foldl yS (metM i es i).1),O):=by rw[xM,hO]
 have bx:∀v,v<i->(ZZ (es.foldl yS (metM i es i).1) v).2.1<(i:Int):=fun v hv=>by rw[(Qu es _ v).2];exact C.up v hv
 generalize es.foldl yS (metM i es i).1=LS at*;refine yq ?_
 refine VK.rangeFunc (gf:=166) (first:=#[]) (cap:=#[.pointer (some ⟨B2,0,none⟩)]) (by simp only[Ud,↓reduceIte]) ⟨Tryz.func166,rfl,xr⟩ xr fun W1 lp hy=>?_
 refine(VA W1 lp B2 m (aW O) (fun k g=>N8 h2 g r L i m (((O.drop k).reverse).foldl Si LS) O/\g.own B2=some (.cells [m])) h7 QT (fun k g hi=>⟨hi.2,hi.1.go.rl⟩) ⟨by rw[bo,List.drop_length];exact S7,cM⟩ ?_).mono fun _ h8 cY dv=>?_
 .intro k g hk wg hle c0
  obtain⟨S,oB⟩:=c0;refine hy _ _ _ rfl hle ?_;rw[bo]at hk;have bF:=uD hk;have bI:=XR hk;have bQ:O.drop k=O[k]::O.drop (k+1):=BG hk;generalize O[k]=v at bF bI bQ;have ay:=br v (Jb bI);have y:(O.drop k).reverse.foldl Si LS=Si ((O.drop (k+1)).reverse.foldl Si LS) v:=by
   rw[bQ,List.reverse_cons,Tr];rfl
  have av:((O.drop (k+1)).reverse.foldl Si LS).length=i:=by rw[xj];exact V
  have bV:=(vT (O.drop (k+1)).reverse LS v).2;have c3:=bx v ay;rw[<-bV]at c3;clear bV;generalize (O.drop (k+1)).reverse.foldl Si LS=ls at*;have gv:=O2 (ls:=ls) (v:=v) QT;simp only[Ud,Nat.reduceLT,↓reduceIte,Nat.reduceEqDiff,putPs,bF,z g S.oV,bT v ay,fl1,Co,lUp S.oL gv];by_cases c:(ZZ ls v).2.1>=0
  .obtain ⟨u, hu⟩ := RT c
   have c4:u<i:=QT;have gu:=O2 (ls:=ls) (v:=u) QT;have st:=sLow S.oL gu (min (ZZ ls u).2.2 (ZZ ls v).2.2);have c5:Si ls v=ls.set u ((ZZ ls u).1,(ZZ ls u).2.1,min (ZZ ls u).2.2 (ZZ ls v).2.2):=by
    simp only[Si];rw[if_pos c,hu,TK]
   have d:decide ((u:Int)>=0)=true:=decide_eq_true QT;simp only[hu,d,Ud];refine rD (vu [0,1,2,3,4,5,6,7,8,9,10,11,12,13,14] (PO 15 [0,1,2,3,4,5,6,7,8,9,10,11,12,14] .done)) ?_;simp only[Ud,Nat.reduceLT,↓reduceIte,Nat.reduceEqDiff,Nat.reduceBEq,rm,z g S.oV,bT v ay,bT u c4,fl2,Co,W6 S.oL gu,W6 S.oL gv,OE,st,cf];refine⟨hle,?_,?_⟩
   .rw[y,c5];exact S.put _
   .rw[AHeap.Dz _ _ _ _ cQ];exact oB
  .have d : decide ((ZZ ls v).2.1 >= 0) = false := decide_eq_false c
   simp only[d,Ud,cf];refine⟨trivial,hle,?_,oB⟩;rw[y,Si,if_neg c];exact S
 .obtain ⟨S8, -⟩ := cY
  rw[sQ]at S8;simp only[Ud,Nat.reduceLT,↓reduceIte,Nat.reduceEqDiff,z h8 S8.oV];have lb:Le h h2:=N.trans s;refine⟨lb.trans S8.le,.inr ⟨hr,L,m,rfl,by rw[aj];exact S8.oL,lb.none nL,by rw[aj];exact S8.go,S8.nb.2,fun b hb=>lb.none (S8.ao b hb)⟩⟩
end
variable {a b i n s u:Nat} {es:List Pr} {ls:List Lw} {o:wi} {up:LF}
def Qm (x:Int):Option Nat:=if 0<=x then some x.toNat else none
def LQ (up:LF) (v:Nat):Option Nat:=Qm (up.getD v (-1))
def Us (u:Nat):Qm (u:Int)=some u:=by simp[Qm]
def aL {x:Int} (h:Qm x=some u):x=(u:Int):=by
 unfold Qm at h;split at h
 .injection h with h;omega
 .cases h
structure DI (es:List Pr) (s:Nat) (o:wi) (up:LF):Prop where
 root:LQ up s=none
 mem:∀v u,LQ up v=some u->v∈o
 VF:∀(k v:Nat),o[k]?=some v->v=s\/∃j u,j<k/\o[j]?=some u/\LQ up v=some u/\xA es u v
 open_:∀x∈o,¬Full es o x->∀l,o.getLast?=some l->Uy (LQ up) x l
 HX:∀(j k a b:Nat),j<k->o[j]?=some a->o[k]?=some b->xA es a b->Uy (LQ up) a b
def DI.idx (d:DI es s o up) (nd:o.Nodup) (h:Uy (LQ up) a b):∀(k:Nat),o[k]?=some b->∃j:Nat,j<=k/\o[j]?=some a:=by
 induction h with
 |refl=>exact fun k f=>⟨k,J4 _,f⟩
 |@step b c h e m=>
  intro k f;rcases d.VF k c f with l|⟨j,u,l,h2,h3,_⟩
  .subst l;rw[d.root]at e;cases e
  .rw [h3] at e; injection e with e; subst e
   obtain⟨i,hi,g⟩:=m j h2;exact⟨i,QT,g⟩
def Uy.mono {up d:Nat->Option Nat} (h:Uy up a b) (k:∀c u,up c=some u->d c=some u):Uy d a b:=by
 induction h with
 |refl=>exact .refl _
 |step h e f=>exact .step f (k _ _ e)
def Zu.di (U:I7 n es) (d:Zu n es s o up):DI es s o up:=by
 induction d with
 |start=>
  have S:∀v,LQ (List.replicate n (-1)) v=none:=fun v=>by
   simp only[LQ,OO,gG];split<;>rfl
  refine⟨S s,fun v u h=>(by rw[S]at h;cases h),fun k v h=>?_,fun x m _ l E=>?_,fun j k a b T h2 h3=>?_⟩
  .have:=(bH.1 h).1;simp at this;subst this;simp at h;exact .inl h.symm
  .simp at m E;subst m;subst E;exact .refl _
  .have:=(bH.1 h3).1;simp at this;omega
 |@step o up k v w d z ha hw Z hf A=>
  have K:=(ha.lt U).2;have L:up.length=n:=d.len.2;have F:=d.nodup
  have D:∀x,LQ (up.set w (v:Int)) x=if x=w then some v else LQ up x:=fun x=>by
   simp only[LQ,OO,v8];by_cases e:w=x
   .subst e;simp[L,K,Us]
   .simp[e,Hn e]
  have g:∀c u,LQ up c=some u->LQ (up.set w (v:Int)) c=some u:=fun c u h=>by
   rw[D,if_neg (fun e=>hw (by subst e;exact A.mem _ _ h))];exact h
  have M:w≠s:=fun e=>by subst e;exact hw (Jb d.head)
  have G:=(bH.1 z).1;have N:o≠[]:=fun e=>by subst e;simp at G
  obtain⟨l,E⟩:∃l,o.getLast?=some l:=⟨_,List.getLast?_eq_some_getLast N⟩;have O:=A.open_ v (Jb z) (fun f=>hw (f w ha)) l E;have p:∀x∈o,¬Full es o x->Uy (LQ up) x v:=fun x m r=>by
   have P:=A.open_ x m r l E;rcases P.chain O with h|h
   .exact h
   .obtain ⟨i, hi⟩ := OH.1 m
    obtain⟨j,V,H⟩:=A.idx F h i hi;have q:=(bH.1 hi).1;have W:j=k:=(D9 (bH.1 H).1 F).1 (H.trans z.symm);by_cases e:i=k
    .subst e;rw[hi]at z;injection z with z;subst z;exact .refl _
    .exact absurd (hf i x QT hi) r
  refine⟨by rw[D,if_neg (Hn M)];exact A.root,fun x u h=>?_,fun i x m=>?_,fun x m r l' t=>?_,fun i j a b Q hi B I=>?_⟩
  .rw [D] at h; rw [uK, Rb]
   split at h
   .rename_i e;exact .inr e
   .exact .inl (A.mem x u h)
  .rcases uj i o.length with q | q
   .rw [US q] at m
    rcases A.VF i x m with h|⟨j,u,T,h2,h3,X⟩
    .exact .inl h
    .exact .inr ⟨j,u,T,by rw[US QT];exact h2,g _ _ h3,X⟩
   .rw [kc q] at m
    have:=(bH.1 m).1;simp at this;have R:i-o.length=0:=QT;rw[R]at m;simp at m;subst m;exact .inr ⟨k,v,QT,by rw[US G];exact z,by rw[D,if_pos rfl],ha⟩
  .rw [List.getLast?_concat] at t
   injection t with t;subst t;rw[uK,Rb]at m;rcases m with m|rfl
   .have J : ¬ Full es o x := fun f => r fun y Y => KF _ (f y Y)
    exact((p x m J).mono g).step (by rw[D,if_pos rfl])
   .exact .refl _
  .have q:i<o.length:=by
    have:=(bH.1 B).1;simp at this;omega
   rw[US q]at hi;rcases uj j o.length with C|C
   .rw [US C] at B
    exact(A.HX i j a b Q hi B I).mono g
   .rw [kc C] at B
    have:=(bH.1 B).1;simp at this;have R:j-o.length=0:=QT;rw[R]at B;simp at B;subst B;exact((p a (Jb hi) fun f=>hw (f w I)).mono g).step (by rw[D,if_pos rfl])
def pC (ls:List Lw) (v:Nat):Option Nat:=Qm (ZZ ls v).2.1
structure FoI (es:List Pr) (ls:List Lw) (o:wi):Prop where
 num:∀(k v:Nat),o[k]?=some v->(ZZ ls v).1=((k+1:Nat):Int)/\(ZZ ls v).2.2=((k+1:Nat):Int)
 up:∀(k v:Nat),o[k]?=some v->(ZZ ls v).2.1=-1\/∃j u:Nat,j<k/\o[j]?=some u/\(ZZ ls v).2.1=(u:Int)/\xA es u v
 HX:∀(j k a b:Nat),j<k->o[j]?=some a->o[k]?=some b->xA es a b->Uy (pC ls) a b
def LC {n:Nat} {up:LF}:∀(l:wi) {ls:List Lw} {o:wi},ls.length=n->l.Nodup->(∀v∈l,v<n)->
  (∀(k v:Nat),l[k]?=some v->ZZ (putA up l (ls,o)).1 v=(((o.length+k+1:Nat):Int),up.getD v 0,((o.length+k+1:Nat):Int)))/\∀v,v∉l->ZZ (putA up l (ls,o)).1 v=ZZ ls v
 |[],ls,o,_,_,_=>⟨fun k v h=>by simp at h,fun v _=>rfl⟩
 |x::r,ls,o,e,c,a=>by
  rw[tS]at c;obtain⟨g,f⟩:=LC r (ls:=ls.set x (((o.length+1:Nat):Int),up.getD x 0,((o.length+1:Nat):Int))) (o:=o++[x]) (by simp[e]) c.2 fun v b=>a v (by simp[b]);refine⟨fun k v d=>?_,fun v b=>?_⟩
  .cases k with
   |zero=>
    simp at d;subst d;rw[putA,f x c.1,HJ,if_pos ⟨rfl,by rw[e];exact a x YX⟩]
   |succ k=>
    rw[putA,g k v (by simpa using d)];simp only[Vw,SB];rw[show o.length+1+k+1=o.length+(k+1)+1 by omega]
  .simp at b
   rw[putA,f v b.2,HJ,if_neg (fun h=>b.1 h.1.symm)]
def FoI.uR {ls d:List Lw} (F:FoI es ls o) (hs:∀v∈o,ZZ d v=ZZ ls v) (h:Uy (pC ls) a b):b∈o->Uy (pC d) a b:=by
 induction h with
 |refl=>exact fun _=>.refl _
 |@step b c h e i=>
  intro f;obtain⟨k,l⟩:=OH.1 f;have e':pC d c=some b:=by unfold pC;rw[hs c f];exact e
  rcases F.up k c l with g|⟨j,u,g,h2,h3,_⟩
  .unfold pC at e;rw[g]at e;cases e
  .unfold pC at e; rw [h3, Us] at e; injection e with e; subst e
   exact(i (Jb h2)).step e'
def Zu.upm (d:Zu n es s o up):∀v,-1<=up.getD v (-1):=by
 induction d with
 |start=>intro v;simp only[OO,gG];split<;>simp
 |step d _ _ _ _ _ a=>
  intro v;have:=a v;simp only[OO,v8]at this ⊢;split
  .split
   .simp
   .simp
  .exact this
def fromA_F (r:I7 n es) (I:GO n es ls o) (F:FoI es ls o) (hi:i<n):FoI es (C3 n es i (ls,o)).1 (C3 n es i (ls,o)).2:=by
 unfold C3;split
 .rename_i E
  obtain⟨A,p⟩:=UO r I hi E;have D:=SX r hi;obtain⟨_,G⟩:=Ou (D.E5.upR r hi) (sk n es i).1 I.toLowI A p;have H:=D.E5.len.2;have di:=D.E5.di r;obtain⟨x,J⟩:=LC (up:=(sk n es i).2) (sk n es i).1 (ls:=ls) (o:=o) I.len A fun v l=>(p v l).1;have y:∀v∈o,ZZ (putA (sk n es i).2 (sk n es i).1 (ls,o)).1 v=ZZ ls v:=fun v l=>J v fun K=>(p v K).2 l;rw[G];generalize (putA (sk n es i).2 (sk n es i).1 (ls,o)).1=s at*;generalize (sk n es i).1=P at*;generalize (sk n es i).2=up at*;have t:∀v∈P,up.getD v 0=up.getD v (-1):=fun v l=>by
   have:=(p v l).1;rw[YR QT,YR QT]
  have w:∀{a b:Nat},Uy (LQ up) a b->b∈P->Uy (pC s) a b:=by
   intro a b h
   induction h with
   |refl=>exact fun _=>.refl _
   |@step b c h e L=>
    intro B;obtain⟨k,d⟩:=OH.1 B;have e':pC s c=some b:=by unfold pC;rw[x k c d];simp only;rw[t c B];exact e
    rcases di.VF k c d with g|⟨j,u,g,h2,h3,_⟩
    .subst g;rw[di.root]at e;cases e
    .rw [h3] at e; injection e with e; subst e
     exact(L (Jb h2)).step e'
  refine⟨fun k v d=>?_,fun k v d=>?_,fun j k a b z q d m=>?_⟩
  .rcases uj k o.length with h | h
   .rw[US h]at d;rw[y v (Jb d)];exact F.num k v d
   .rw [kc h] at d; rw [x _ v d]
    rw[show o.length+(k-o.length)+1=k+1 by omega];exact⟨rfl,rfl⟩
  .rcases uj k o.length with h | h
   .rw [US h] at d; rw [y v (Jb d)]
    rcases F.up k v d with g|⟨j,u,g,h2,h3⟩
    .exact .inl g
    .exact .inr ⟨j,u,g,by rw[US QT];exact h2,h3⟩
   .rw [kc h] at d; rw [x _ v d]
    simp only;have l:=Jb d;rw[t v l];rcases di.VF _ v d with g|⟨j,u,g,h2,h3,M⟩
    .subst g
     left;have f:=di.root;have N:=(p v l).1;have:=D.E5.upR r hi v;unfold LQ Qm at f;split at f
     .cases f
     .rename_i C
      have:=D.E5.upm v;omega
    .exact .inr ⟨o.length+j,u,QT,by rw[kc QT];simpa using h2,aL h3,M⟩
  .rcases uj k o.length with h | h
   .rw [US h] at d
    rw[US QT]at q;exact F.uR y (F.HX j k a b z q d m) (Jb d)
   .rw [kc h] at d
    rcases uj j o.length with h'|h'
    .rw [US h'] at q
     exact absurd (I.cl a b m (Jb q)) (p b (Jb d)).2
    .rw [kc h'] at q
     exact w (di.HX _ _ a b QT q d m) (Jb d)
 .exact F
def mE {n:Nat} {es:List Pr} (c:I7 n es):∀i,i<=n->FoI es (metM n es i).1 (metM n es i).2
 |0,_=>⟨fun k v h=>by simp[metM]at h,fun k v h=>by simp[metM]at h,fun j k a b _ h=>by simp[metM]at h⟩
 |i+1,hi=>fromA_F c (Tt c i QT).1 (mE c i QT) QT
def z7 (ls:List Lw) (v:Nat):Nat:=(ZZ ls v).1.toNat
def metM_fo (d:I7 n es):Fo n es (z7 (metM n es n).1) (pC (metM n es n).1):=by
 have F:=mE d n (J4 _);obtain⟨C,f⟩:=Tt d n (J4 _);have ex:∀v,v<n->∃k,(metM n es n).2[k]?=some v/\z7 (metM n es n).1 v=k+1:=fun v g=>by
  obtain⟨k,m⟩:=OH.1 (f v g);refine⟨k,m,?_⟩;unfold z7;rw[(F.num k v m).1];simp
 refine⟨d,fun u v o g e=>?_,fun v u g e=>?_,fun a b c h=>?_⟩
 .obtain ⟨k, i, h2⟩ := ex u o
  obtain⟨j,h3,l⟩:=ex v g;have:k=j:=QT;subst this;rw[i]at h3;injection h3
 .obtain ⟨k, i, h2⟩ := ex v g
  unfold pC at e;rcases F.up k v i with h|⟨j,w,h3,l,p,q⟩
  .rw[h]at e;cases e
  .rw [p, Us] at e; injection e with e; subst e
   refine⟨q,?_⟩;rw[h2];unfold z7;rw[(F.num j w l).1];simp;omega
 .obtain ⟨k, i, h2⟩ := ex a (c.lt d).1
  obtain⟨j,h3,l⟩:=ex b (c.lt d).2;exact F.HX k j a b QT i h3 c
variable {D:Nat->Nat->Prop} {c v x y:Nat} {es':List Pr} {num:Nat->Nat} {up:Nat->Option Nat}
def aZ {x:Int}:Qm x=some u↔x=(u:Int):=⟨aL,fun h=>by rw[h,Us]⟩
def dF.congr (L:dF es num up D v x) (h:∀u w,D v u->(Nt es' up u w↔Nt es up u w)):dF es' num up D v x:=
 ⟨L.self,fun u w d k=>L.back u w d ((h u w d).1 k),L.some_.imp id fun⟨u,w,d,k,e⟩=>⟨u,w,d,(h u w d).2 k,e⟩⟩
def dF.add (L:dF es num up (fun a b=>a=b) v x) (h:∀w,Nt es' up v w↔Nt es up v w\/w=c):dF es' num up (fun a b=>a=b) v (min x (num c)):=by
 refine⟨by have:=L.self;omega,?_,?_⟩
 .rintro u w rfl k
  rcases(h w).1 k with k|rfl
  .have:=L.back v w rfl k;omega
  .omega
 .by_cases q : x <= num c
  .rw [bE q]
   exact L.some_.imp id fun⟨u,w,d,k,e⟩=>⟨u,w,d,by subst d;exact(h w).2 (.inl k),e⟩
  .rw [aaj QT]
   exact .inr ⟨v,c,rfl,(h c).2 (.inr rfl),rfl⟩
def dF.join (a:I7 n es) {D b f:Nat->Nat->Prop} (L:dF es num up b v x) (M:dF es num up f c y) (g:num v<=num c) (h:∀u,u<n->(D v u↔b v u\/f c u)):dF es num up D v (min x y):=by
 refine⟨by have:=L.self;omega,?_,?_⟩
 .intro u w d k
  rcases(h u (k.1.lt a).1).1 d with d|d
  .have:=L.back u w d k;omega
  .have:=M.back u w d k;omega
 .by_cases q : x <= y
  .rw [bE q]
   exact L.some_.imp id fun⟨u,w,d,k,e⟩=>⟨u,w,(h u (k.1.lt a).1).2 (.inl d),k,e⟩
  .rw [aaj QT]
   rcases M.some_ with e|⟨u,w,d,k,e⟩
   .have:=L.self;omega
   .exact .inr ⟨u,w,(h u (k.1.lt a).1).2 (.inr d),k,e⟩
structure Same (n:Nat) (num:Nat->Nat) (up:Nat->Option Nat) (ls:List Lw):Prop where
 len:ls.length=n
 QW:∀v,v<n->(ZZ ls v).1=(num v:Int)
 ups:∀v,v<n->Qm (ZZ ls v).2.1=up v
structure Y8 (n:Nat) (es:List Pr) (num:Nat->Nat) (up:Nat->Option Nat) (D:Nat->Nat->Prop) (ls:List Lw):Prop extends Same n num up ls where
 low:∀v,v<n->∃x:Nat,(ZZ ls v).2.2=(x:Int)/\dF es num up D v x
def Nn:xA (es++[((a:Int),(c:Int))]) x y↔xA es x y\/isE a c x y:=by
 have e:∀(x y:Nat),((x:Int),(y:Int))=((a:Int),(c:Int))↔x=a/\y=c:=fun x y=>by
  rw[Ig];omega
 simp only[xA,isE,uK,Rb,e];constructor
 .rintro ((h | h) | (h | h))
  .exact .inl (.inl h)
  .exact .inr (.inl h)
  .exact .inl (.inr h)
  .exact .inr (.inr ⟨h.2,h.1⟩)
 .rintro ((h | h) | (h | h))
  .exact .inl (.inl h)
  .exact .inr (.inl h)
  .exact .inl (.inr h)
  .exact .inr (.inr ⟨h.2,h.1⟩)
def edgeB_S (e:a<n) (f:c<n) (m:a≠c) (S:Y8 n es num up (fun a b=>a=b) ls):
  Y8 n (es++[((a:Int),(c:Int))]) num up (fun a b=>a=b) (yS ls ((a:Int),(c:Int))):=by
 have g:∀x y:Nat,x<n->((ZZ ls x).2.1=(y:Int)↔up x=some y):=fun x y D=>by rw[<-S.ups x D,aZ]
 have E:Same n num up (yS ls ((a:Int),(c:Int))):=
  ⟨by rw[gW];exact S.len,fun v l=>by rw[(tR ls _ v).1];exact S.QW v l,fun v l=>by rw[(tR ls _ v).2];exact S.ups v l⟩
 refine⟨E,fun v l=>?_⟩;by_cases t:up a=some c\/up c=some a
 .have o:yS ls ((a:Int),(c:Int))=ls:=by
   simp only[yS,TK];rw[if_pos];rcases t with t|t
   .exact .inl ((g a c e).2 t)
   .exact .inr ((g c a f).2 t)
  rw[o];obtain⟨x,p,h2⟩:=S.low v l;refine⟨x,p,h2.congr fun u w _=>?_⟩;simp only[Nt,Nn];constructor
  .rintro ⟨h | h, k1, k2⟩
   .exact⟨h,k1,k2⟩
   .rcases h with⟨rfl,rfl⟩|⟨rfl,rfl⟩<;>rcases t with t|t<;>first|exact absurd t k1|exact absurd t k2
  .rintro⟨h,k⟩;exact⟨.inl h,k⟩
 .have t1 : up a ≠ some c := fun h => t (.inl h)
  have B:up c≠some a:=fun h=>t (.inr h);have q:∀u w,Nt (es++[((a:Int),(c:Int))]) up u w↔Nt es up u w\/isE a c u w:=fun u w=>by
   simp only[Nt,Nn];constructor
   .rintro ⟨h | h, k⟩
    .exact .inl ⟨h,k⟩
    .exact .inr h
   .rintro (⟨h, k⟩ | h)
    .exact⟨.inl h,k⟩
    .refine ⟨.inr h, ?_⟩
     rcases h with⟨rfl,rfl⟩|⟨rfl,rfl⟩
     .exact⟨t1,B⟩
     .exact⟨B,t1⟩
  obtain⟨x,p,h2⟩:=S.low v l;obtain⟨xa,r,s⟩:=S.low a e;obtain⟨C,z,A⟩:=S.low c f
  have o:(ZZ (yS ls ((a:Int),(c:Int))) v).2.2=if v=c then min (C:Int) (num a:Int)else if v=a then min (xa:Int) (num c:Int)else(x:Int):=by
   simp only[yS,TK];rw[if_neg (by rw[g a c e,g c a f];exact t)];simp only[HJ,qm,S.len,e,f,and_true];by_cases i:v=c
   .subst i;simp[m,z,S.QW a e]
   .rw [if_neg (Hn i), if_neg i]
    by_cases j:v=a
    .subst j;simp[r,S.QW c f]
    .rw[if_neg (Hn j),if_neg j,p]
  rw[o];by_cases i:v=c
  .subst i
   rw[if_pos rfl];refine⟨min C (num a),QT,A.add fun w=>?_⟩;rw[q];constructor
   .rintro (h | ⟨h, _⟩ | ⟨_, h⟩)
    .exact .inl h
    .exact absurd h.symm m
    .exact .inr h
   .rintro (h | rfl)
    .exact .inl h
    .exact .inr (.inr ⟨rfl,rfl⟩)
  .rw [if_neg i]
   by_cases j:v=a
   .subst j
    rw[if_pos rfl];refine⟨min xa (num c),QT,s.add fun w=>?_⟩;rw[q];constructor
    .rintro (h | ⟨_, h⟩ | ⟨h, _⟩)
     .exact .inl h
     .exact .inr h
     .exact absurd h i
    .rintro (h | rfl)
     .exact .inl h
     .exact .inr (.inl ⟨rfl,rfl⟩)
   .rw [if_neg j]
    refine⟨x,rfl,h2.congr fun u w d=>?_⟩;subst d;rw[q];constructor
    .rintro (h | ⟨h, _⟩ | ⟨h, _⟩)
     .exact h
     .exact absurd h j
     .exact absurd h i
    .exact .inl
def Q2 {n:Nat} {num:Nat->Nat} {up:Nat->Option Nat}:∀(rest es:List Pr) (ls:List Lw),I7 n rest->Y8 n es num up (fun a b=>a=b) ls->Y8 n (es++rest) num up (fun a b=>a=b) (rest.foldl yS ls)
 |[],es,ls,_,S=>by simpa using S
 |(a,c)::rest,es,ls,d,S=>by
  have e:=d (a,c) YX;simp only at e;obtain⟨a,rfl⟩:=RT e.1;obtain⟨c,rfl⟩:=RT (show 0<=c by omega);have:=Q2 rest (es++[((a:Int),(c:Int))]) _ (fun q f=>d q (by simp[f])) (edgeB_S QT QT QT S);rw[kT];simpa using this
def DT_ (up:Nat->Option Nat) (T:wi) (v u:Nat):Prop:=u=v\/∃c∈T,up c=some v/\Uy up c u
def ups_S {n:Nat} {es:List Pr} {num:Nat->Nat} {up:Nat->Option Nat} (F:Fo n es num up) {ls:List Lw}:∀(T pre:wi),(∀v,v<n->v∈pre++T)->(pre++T).Pairwise (fun a b=>num a<num b)->(∀v∈pre++T,v<n)->
  Y8 n es num up (fun a b=>a=b) ls->Y8 n es num up (DT_ up T) (T.foldr (fun x y=>Si y x) ls)
 |[],pre,_,_,_,S=>by
  refine⟨S.toSame,fun v o=>?_⟩;obtain⟨x,G,h2⟩:=S.low v o;refine⟨x,G,h2.self,fun u w d=>?_,?_⟩
  .rcases d with rfl | ⟨c, Q, _⟩
   .exact h2.back _ w rfl
   .simp at Q
  .exact h2.some_.imp id fun⟨u,w,d,k,e⟩=>⟨u,w,.inl d.symm,k,e⟩
 |c::T,pre,m,H,A,R=>by
  have S:=ups_S F T (pre++[c]) (by simpa using m) (by simpa using H) (by simpa using A) R;rw[List.foldr_cons];generalize T.foldr (fun x y=>Si y x) ls=l1 at*;have l:c<n:=A c YX;have U:Same n num up (Si l1 c):=
   ⟨by rw[Ku];exact S.len,fun v o=>by rw[(TJ l1 _ v).1];exact S.QW v o,fun v o=>by rw[(TJ l1 _ v).2];exact S.ups v o⟩
  refine⟨U,fun v o=>?_⟩;obtain⟨x,G,h2⟩:=S.low v o;have r:∀d,up d=some c->d<n->d∈T:=fun d g B=>by
   have t:=m d B;have P:=(F.VF d c B g).2;rw[zu]at H;rw[uK,aH]at t;rcases t with t|rfl|t
   .have:=H.2.2 d t c YX;omega
   .omega
   .exact t
  have i:up c≠some v->dF es num up (DT_ up (c::T)) v x:=fun I=>by
   refine⟨h2.self,fun u w d=>h2.back u w ?_,h2.some_.imp id fun⟨u,w,d,k⟩=>⟨u,w,?_,k⟩⟩
   .rcases d with rfl | ⟨d, g, f, j⟩
    .exact .inl rfl
    .rw [aH] at g
     rcases g with rfl|g
     .exact absurd f I
     .exact .inr ⟨d,g,f,j⟩
   .exact d.imp id fun⟨d,g,f⟩=>⟨d,Gs _ g,f⟩
  cases s:up c with
  |none=>
   have:Si l1 c=l1:=by
    have:=S.ups c l;rw[s]at this;unfold Qm at this;simp only[Si];rw[if_neg];intro h;rw[if_pos h]at this;cases this
   rw[this];exact⟨x,G,i (by rw[s];simp)⟩
  |some p=>
   have J:=F.VF c p l s;have C:=(J.1.lt F.uJ).1;obtain⟨y,K,L⟩:=S.low c l;obtain⟨z,M,N⟩:=S.low p C;have O:(ZZ l1 c).2.1=(p:Int):=aZ.1 ((S.ups c l).trans s)
   have V:(ZZ (Si l1 c) v).2.2=if v=p then min (z:Int) (y:Int)else(x:Int):=by
    simp only[Si,O];rw[if_pos QT,TK,HJ,S.len];by_cases e:v=p
    .subst e;simp[C,M,K]
    .rw[if_neg (fun k=>e k.1.symm),if_neg e,G]
   rw[V];by_cases e:v=p
   .subst e
    rw[if_pos rfl];refine⟨min z y,QT,N.join F.uJ L QT fun u W=>?_⟩;constructor
    .rintro (rfl | ⟨d, g, f, j⟩)
     .exact .inl (.inl rfl)
     .rw [aH] at g
      rcases g with rfl|g
      .by_cases q : d = u
       .subst q;exact .inr (.inl rfl)
       .obtain ⟨k, D, E⟩ := j.child q
        exact .inr (.inr ⟨k,r k D (F.MF E W).1,D,E⟩)
      .exact .inl (.inr ⟨d,g,f,j⟩)
    .rintro (h | h)
     .exact h.imp id fun⟨d,g,f⟩=>⟨d,Gs _ g,f⟩
     .rcases h with rfl | ⟨d, g, f, j⟩
      .exact .inr ⟨u,YX,s,.refl _⟩
      .exact .inr ⟨c,YX,s,(Uy.one f).trans j⟩
   .rw [if_neg e]
    exact⟨x,rfl,i (by rw[s];exact fun h=>e (by injection h with h;exact h.symm))⟩
structure yY (n:Nat) (es:List Pr) (ls:List Lw) (o:wi) (num:Nat->Nat) (up:Nat->Option Nat):Prop extends Y8 n es num up (Uy up) ls where
 fo:Fo n es num up
 ord:∀(k v:Nat),o[k]?=some v->num v=k+1
 mem:∀v,v∈o↔v<n
 nd:o.Nodup
 sI:o.length=n
 upr:∀v,v<n->-1<=(ZZ ls v).2.1/\(ZZ ls v).2.1<(n:Int)
def DT_all (F:Fo n es num up) {T:wi} (b:∀v,v<n->v∈T) (d:u<n):DT_ up T v u↔Uy up v u:=by
 constructor
 .rintro (rfl | ⟨c, _, a, h2⟩)
  .exact .refl _
  .exact(Uy.one a).trans h2
 .intro h
  by_cases e:v=u
  .exact .inl e.symm
  .obtain ⟨c, a, h2⟩ := h.child e
   exact .inr ⟨c,b c (F.MF h2 d).1,a,h2⟩
def dF.congrD (a:I7 n es) {D b:Nat->Nat->Prop} (L:dF es num up D v x) (h:∀u,u<n->(b v u↔D v u)):dF es num up b v x:=
 ⟨L.self,fun u w d k=>L.back u w ((h u (k.1.lt a).1).1 d) k,L.some_.imp id fun⟨u,w,d,k,e⟩=>⟨u,w,(h u (k.1.lt a).1).2 d,k,e⟩⟩
def Np (o:I7 n es):∃num up,yY n es (xM n es).1 (xM n es).2 num up:=by
 obtain⟨C,c⟩:=Tt o n (J4 _);have F:=mE o n (J4 _);have fo:=metM_fo o;have p:∀v,v∈(metM n es n).2↔v<n:=fun v=>⟨C.lt v,c v⟩;have d:∀(k v:Nat),(metM n es n).2[k]?=some v->z7 (metM n es n).1 v=k+1:=fun k v h=>by unfold z7;rw[(F.num k v h).1];simp
 have t:Y8 n [] (z7 (metM n es n).1) (pC (metM n es n).1) (fun a b=>a=b) (metM n es n).1:=by
  refine⟨⟨C.len,fun v g=>?_,fun v g=>rfl⟩,fun v g=>?_⟩
  .obtain ⟨k, l⟩ := OH.1 (c v g)
   rw[d k v l,(F.num k v l).1]
  .obtain ⟨k, l⟩ := OH.1 (c v g)
   refine⟨k+1,by rw[(F.num k v l).2],⟨by rw[d k v l];exact J4 _,fun u w _ h=>?_,.inl (d k v l).symm⟩⟩;rcases h.1 with h|h<;>simp at h
 have q:=Q2 es [] _ o t;rw[IT]at q;have m:((metM n es n).2).Pairwise fun a b=>z7 (metM n es n).1 a<z7 (metM n es n).1 b:=by
  rw[cR];intro i j hi z A;rw[d i _ (dR hi),d j _ (dR z)];omega
 have r:=ups_S fo (metM n es n).2 [] c m C.lt q;have f:(xM n es).1=(metM n es n).2.foldr (fun x y=>Si y x) (es.foldl yS (metM n es n).1):=by
  rw[xM];simp only[List.foldl_reverse]
 refine⟨z7 (metM n es n).1,pC (metM n es n).1,⟨⟨?_,fun v g=>?_⟩,fo,d,p,C.nd,?_,fun v g=>?_⟩⟩
 .rw[f];exact r.toSame
 .rw [f]
  obtain⟨x,s,h2⟩:=r.low v g;exact⟨x,s,h2.congrD o fun u B=>(DT_all fo c B).symm⟩
 .have s := C.toLowI.sI
  have h2:=(SJ (n:=n)).length_le_of_subset (l₂:=(metM n es n).2) fun v g=>c v (vq.1 g);simp at h2;show(metM n es n).2.length=n;omega
 .rw [f]
  obtain⟨k,l⟩:=OH.1 (c v g);have e:(ZZ ((metM n es n).2.foldr (fun x y=>Si y x) (es.foldl yS (metM n es n).1)) v).2.1=(ZZ (metM n es n).1 v).2.1:=by
   rw[<-f,xM,(vT _ _ v).2,(Qu _ _ v).2]
  rw[e];refine⟨?_,C.up v g⟩;rcases F.up k v l with h|⟨j,u,_,_,h,_⟩<;>rw[h]<;>omega
section
attribute [local irreducible] Ax YH XZ Uk KO KN KX KE VK DK Q7 dK W9
open Go.Proofs
variable {h:AHeap}
def GI.join {v x:Value} {xs ys:LF} (g:GI h v xs) (a:WF h) (i:RL IJ h x ys) (j:xs.length+ys.length<=1000000000):
  ∃v' c,aAppend Tryz.prog h 49 49 v x=some (v',c)/\GI c v' (xs++ys)/\WF c/\
   (∀f,Le f h->tQ f v->Le f c/\tQ f v')/\(∀b o,h.own b=some o->blk v≠some b->c.own b=some o/\blk v'≠some b):=by
 have l:CS 1 h x ys.length (oY ys):=by
  have:=RS.cs i.cellsI;simpa[oY]using this
 obtain⟨v',c,d,m,hf⟩:=GS.append (P:=Tryz.prog) (t:=49) (xt:=49) (k:=1) zd g (fun e n=>CS.src n l) (ko _) (ko _) (by simp[oY]) j;refine⟨v',c,d,?_,YK a d,fun f p af=>hf f a p af,fun b o q hb=>Na hf a q hb⟩;have:oY xs++oY ys=oY (xs++ys):=by simp[oY]
 rw[GI,<-this,Vw];exact m
variable {j:Nat}
def mk2I (h:AHeap) (x y:Int):aBuildSlice Tryz.prog h 49 2 [(0,.int .i64 x),(1,.int .i64 y)]=some (.slice (some ⟨h.next,0,none⟩) 2 2,h.alloc (.cells [.int .i64 x,.int .i64 y])):=rfl
def pthM (rows:CA) (L:LF):Nat->Nat->LF
  |0,v=>[(v:Int)]
  |k+1,v=>(v:Int)::match(rows.getD v []).find? (fun w=>decide (L.getD w.toNat 0=L.getD v 0-1))with
    |some w=>pthM rows L k w.toNat
    |none=>[]
def iO (n:Nat) (es:List Pr) (a b:Nat):LF:=pthM (Oc n es) (Oh (Oc n es) n b) ((Oh (Oc n es) n b).getD a 0).toNat a
def find_at {p:Int->Bool} {l:LF} {x:Int} (b:l[j]?=some x) (c:p x=true) (a:∀(i:Nat) y,i<j->l[i]?=some y->p y=false):l.find? p=some x:=by
 rw[List.find?_eq_some_iff_getElem];obtain⟨d,e⟩:=bH.1 b;refine⟨c,j,d,e,fun i hi=>?_⟩;rw[a i _ hi (dR QT)];rfl
def Ue (W0:Ac) (v:Value) (G:GM) (a b:Int) (h:AHeap) (hg:GR h v G):
  AC Tryz.prog W0 90 [v,.int .i64 a,.int .i64 b] h fun x h'=>Le h h'/\∃E e,x=.tuple #[E,.int .i64 e]/\E.oneCell'=true/\
   (xO G->0<=a->a<G.n->0<=b->b<G.n->(e=0↔Xb G.es b.toNat a.toNat)/\(e=0->GI h' E (iO G.n.toNat G.es a.toNat b.toNat)/\tQ h E/\Far G.n.toNat G.es b.toNat (Oh (Oc G.n.toNat G.es) G.n.toNat b.toNat))):=by
 have aE:=hg;obtain⟨gn,es⟩:=G
 obtain⟨ev,rfl,hp⟩:=hg.open
 refine AC.vE ⟨Tryz.func90,rfl,xr⟩ Tryz.ntmps90 Tryz.results90 fun aK=>?_;simp only[xq,Nat.reduceAdd];obtain⟨T,b1,U,aM,-,lA⟩:=WY (n:=gn) aK hp
 generalize h.next=B at*
 have aQ:=lA T (Le.refl _);obtain⟨h2,e2,l2,w2,o2⟩:=mV aM [.int .i64 a,.int .i64 b]
 have rs:RL IJ h2 (.slice (some ⟨T.next,0,none⟩) 2 2) [a,b]:=RL.Kr (RS.whole o2 rfl)
 simp only[Ud,Nat.reduceLT,↓reduceIte,Nat.reduceEqDiff,reduceCtorEq,b1,aQ.1,mk2I,e2]
 generalize Value.slice (some ⟨T.next,0,none⟩) 2 2=sv at*
 refine dK.intro pK ⟨qS32,rfl,xr⟩ (PZ W0 _ sv ⟨gn,es⟩ [a,b] h2 (aE.le (U.trans l2)) rs YX) ?_;rintro x h3 br ⟨aT,E,e,rfl,hc⟩;have d:=(U.trans l2).trans aT;rcases hc with⟨aX,rfl,rfl⟩|⟨M,V,rfl,rfl⟩|⟨M,hs,rfl,c⟩
 .simp only [Ud, Nat.reduceLT, ↓reduceIte, Nat.reduceEqDiff, bne, d20]
  exact⟨d,_,_,rfl,rfl,fun M=>absurd M aX⟩
 .simp only [Ud, Nat.reduceLT, ↓reduceIte, Nat.reduceEqDiff, bne, d2]
  exact⟨d,_,_,rfl,rfl,fun _ T h2 h3 q=>by simp only[aH,RF,or_false,forall_eq_or_imp,forall_eq]at V;exact absurd ⟨⟨T,h2⟩,h3,q⟩ V⟩
 have h0:0<=gn:=M.n0;obtain⟨n,rfl⟩:=RT h0;have bm:(n:Int)<=200:=M.n1;have bo:es.length<=594:=M.len;have hR:=M.si;have ha:=hs a YX;have hb:=hs b YX;simp only at ha hb;obtain⟨a,rfl⟩:=RT ha.1;obtain⟨b,rfl⟩:=RT hb.1;have s:a<n:=QT;have aY:b<n:=QT;clear hs ha hb;simp only[TK]at c ⊢;simp only[Ud,Nat.reduceLT,↓reduceIte,Nat.reduceEqDiff,bne];refine dK.intro pK ⟨Tryz.func132,rfl,xr⟩ (fK W0 E n b es h3 c hR QT QT aY) ?_;rintro J q W ⟨L,hL,o,F,eL⟩;have t:∀u,u<n->aIndexAddr Tryz.prog 49 J (.int .i64 u)=some (.pointer (some (elemAddr J u))):=fun u hu=>hL.qW u (by rw[o.len];exact hu);have N:∀g,Le q g->∀u l,u<n->L[u]?=some l->aload Tryz.prog g 3 (elemAddr J u)=some (.int .i64 l):=fun g lg u l hu hl=>by
  have:=(hL.le Rr.IJ lg).HN u (by rw[o.len];exact hu);rw[dR (by rw[o.len];exact hu)]at hl;injection hl with hl;rw[hl]at this;exact this
 have A:=XR (show a<L.length by rw[o.len];exact s);generalize L[a]'(by rw[o.len];exact s)=la at A
 have X:=N q (Le.refl _) a la s A;have K:=o.pos a la A;by_cases c0:la<0
 .simp only [Ud, Nat.reduceLT, ↓reduceIte, Nat.reduceEqDiff, t a s, X, c0]
  exact⟨d.trans F,_,_,rfl,rfl,fun _ _ _ _ _=>⟨⟨(fun h=>by cases h),fun h=>by have:=K.2 h;omega⟩,fun h=>by cases h⟩⟩
 obtain⟨k0,rfl⟩:=RT (show 0<=la by omega);obtain⟨h5,e5,l5,w5,o5⟩:=mV W [.int .i64 (a:Int)];simp only[Ud,Nat.reduceLT,↓reduceIte,Nat.reduceEqDiff,t a s,X,c0,Vb,e5]
 have nW:q.own q.next=none:=(Le.refl q).next W (J4 _)
 have g5:GI h5 (.slice (some ⟨q.next,0,none⟩) 1 1) [(a:Int)]:=GS.full o5 rfl (show 1<1000000000000 by decide)
 have Y:tQ q (.slice (some ⟨q.next,0,none⟩) 1 1):=fun b hb=>by simp[blk]at hb;subst hb;exact nW
 generalize Value.slice (some ⟨q.next,0,none⟩) 1 1=O at*
 have Z:=(o.bd a _ A).2;refine W9.intro (fun k fr hq=>∃(v:Nat) (P:Value) (xs:LF),fr=mkF [(2,.int .i64 b),(8,E),(10,J),(11,P),(12,.int .i64 v)]/\v<n/\L[v]?=some (k:Int)/\GI hq P xs/\xs.length+k<=300/\Le q hq/\tQ q P/\∃pre,xs=pre++[(v:Int)]/\pre++pthM (Oc n es) L k v=pthM (Oc n es) L k0 a)
  k0 [(2,.int .i64 b),(8,E),(10,J),(11,O),(12,.int .i64 a)] vy ⟨a,O,[(a:Int)],rfl,s,A,g5,by simp;omega,l5,Y,[],rfl,rfl⟩ ?_
 clear Y g5 nW o5 w5 l5 e5;clear h5 O;rintro k fr hq bx ⟨v,P,xs,rfl,hv,p,gw,bF,leq,ad,pre,ag,ah⟩;by_cases c1:(v:Int)=(b:Int)
 .obtain rfl : v = b := QT
  have cc:decide ((v:Int)=(v:Int))=true:=by simp
  simp only[Ud,Nat.reduceLT,↓reduceIte,Nat.reduceEqDiff,bne];refine⟨(d.trans F).trans leq,_,_,rfl,gw.rl.one,fun _ _ _ _ _=>⟨⟨fun _=>K.1 QT,fun _=>rfl⟩,fun _=>⟨?_,fun b hb=>(d.trans F).none (ad b hb),by rw[<-eL];exact o⟩⟩⟩;have Z:k=0:=by
   have:=o.zero v;rcases Al k with h|h
   .exact h
   .obtain ⟨w, aj, f⟩ := o.pre v k p QT
    exact absurd p (by rw[o.self];intro e;injection e with e;omega)
  subst Z;have e1:iO n es a v=pthM (Oc n es) L k0 a:=by
   unfold iO;rw[<-eL,OO,A];rfl
  rw[e1,<-ah,show pthM (Oc n es) L 0 v=[(v:Int)]from rfl,<-ag];exact gw
 have hk:0<k:=by
  rcases Al k with rfl|h
  .exact absurd (by rw[o.zero v p]) c1
  .exact h
 have cc:decide ((v:Int)=(b:Int))=false:=by simpa using c1
 have H:v<(Oc n es).length:=by rw[XM];exact hv
 have a1:=c.Jl v H;obtain⟨uv,a6,r⟩:=c.To v H;have C:(Oc n es).getD v []=(Oc n es)[v]:=YR H;generalize (Oc n es)[v]=row at r C;have lr:=fun g=>r.zw g;have bI:row.length<=3000:=by
  have:=OI n es row (by rw[<-C,YR H];exact om H);omega
 simp only[Ud,Nat.reduceLT,↓reduceIte,Nat.reduceEqDiff,bne,cc,a1,a6 hq (F.trans leq),lr];refine W9.intro (fun m fr hh=>∃j:Nat,m=row.length-j/\j<=row.length/\fr=mkF [(2,.int .i64 b),(8,E),(10,J),(11,P),(12,.int .i64 v),(43,uv),(44,.int .i64 row.length),(45,.int .i64 j)]/\hh=hq/\∀(i:Nat) (w:Nat),i<j->row[i]?=some (w:Int)->L[w]?≠some ((k:Int)-1))
  row.length [(2,.int .i64 b),(8,E),(10,J),(11,P),(12,.int .i64 v),(43,uv),(44,.int .i64 row.length),(45,.int .i64 (0:Nat))] vy ⟨0,rfl,KW _,rfl,rfl,QT⟩ ?_
 rintro m fr hh a8 ⟨j,rfl,hj,rfl,rfl,Q⟩;refine yq ?_;refine DK.intro (fun ht=>?_) (fun hf=>?_)
 rotate_left
 .have bQ : row.length <= j := Yv hf
  exfalso;obtain⟨w,aj,f⟩:=o.pre v k p QT;have hm:=(M8 hR v w).2 aj;rw[C]at hm;obtain⟨i,hi⟩:=OH.1 hm;exact Q i w (by have:=(bH.1 hi).1;omega) hi f
 have I:j<row.length:=Ub ht;clear ht;have R:=XR I;have ak:=r.qW j I;have al:=(r.le Rr.IJ (F.trans leq)).HN j I;have aq:row[j]∈(Oc n es).getD v []:=by rw[C];exact om I
 generalize row[j]=x at al R aq;obtain⟨w,rfl,D⟩:=iz hR aq;have f:=XR (show w<L.length by rw[o.len];exact D);generalize L[w]'(by rw[o.len];exact D)=lw at f
 have ar:=N hh leq w lw D f;have av:=N hh leq v k hv p;have ay:awrap .i64 ((k:Int)-1)=(k:Int)-1:=GQ _ QT QT;simp only[Ud,Nat.reduceLT,↓reduceIte,Nat.reduceEqDiff,ak,al];refine rD (vu [0,1,2,3,4,5,6,7,8,9] .done) ?_;by_cases c2:lw=(k:Int)-1
 .have dd : decide (lw = (k : Int) - 1) = true := by simpa using c2
  obtain⟨aB,h6,h7,e6,e7,g7,w7,l6,hf,bV⟩:=gw.push a8 (w:Int) QT;obtain⟨l7,a7⟩:=hf q leq ad;simp only[Ud,Nat.reduceLT,↓reduceIte,Nat.reduceEqDiff,rm,t w D,ar,t v hv,av,ay,dd];simp only[Ud,Nat.reduceLT,↓reduceIte,Nat.reduceEqDiff,e6,e7];refine cX (k-1) [(2,.int .i64 b),(8,E),(10,J),(11,aB),(12,.int .i64 w)] QT vy ⟨w,aB,_,rfl,D,by rw[f,c2];congr 1;omega,g7,by simp;omega,l7,a7,pre++[(v:Int)],by rw[ag],?_⟩;rw[<-ah,Nd];congr 1;obtain⟨k,rfl⟩:∃k',k=k'+1:=⟨k-1,QT⟩;rw[pthM,C,find_at R (by rw[decide_eq_true_eq,TK,OO,OO,f,p];exact c2) (fun i y hi S=>by
   have bb:y∈(Oc n es).getD v []:=by rw[C];exact Jb S
   obtain⟨z,rfl,hz⟩:=iz hR bb;have bj:=XR (show z<L.length by rw[o.len];exact hz);have:=Q i z hi S;rw[decide_eq_false_iff_not,TK,OO,OO,p];intro e;rw[bj]at this e;exact this (by congr 1))]
  simp
 .have dd : decide (lw = (k : Int) - 1) = false := by simpa using c2
  simp only[Ud,Nat.reduceLT,↓reduceIte,Nat.reduceEqDiff,rm,t w D,ar,t v hv,av,ay,dd];simp only[Gm j QT];refine cX (row.length-(j+1)) [(2,.int .i64 b),(8,E),(10,J),(11,P),(12,.int .i64 v),(43,uv),(44,.int .i64 row.length),(45,.int .i64 (j+1:Nat))] QT vy ⟨j+1,rfl,I,rfl,rfl,fun i y hi S=>?_⟩;by_cases e:i=j
  .subst e; rw [R] at S; injection S with S
   obtain rfl:w=y:=QT;rw[f];simpa using c2
  .exact Q i y QT S
end
end Go.Fw
