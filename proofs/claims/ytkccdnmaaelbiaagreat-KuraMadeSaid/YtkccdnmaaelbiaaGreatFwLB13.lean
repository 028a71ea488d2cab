/- A text. -/
import Derived.Test.YtkccdnmaaelbiaaGreatFwLB7
import Derived.Test.YtkccdnmaaelbiaaGreatFwCyc
set_option linter.all false
set_option maxRecDepth 99999
set_option maxHeartbeats 9999999
namespace Go.Fw
section
attribute [local irreducible] Kp MQ lU rS KO KN KX KE VK Kl ZJ TC aab
open Go.Proofs
variable {h:AHeap} {i:Nat} {l:II} {ps:List Pr} {v:Value} {xs:RZ}
def GI (h:AHeap) (v:Value) (xs:RZ):Prop:=GS 1 h v xs.length (Bp xs)
theorem GI.le {h h':AHeap} {v:Value} {xs:RZ} (g:GI h v xs) (e:Le h h'):GI h' v xs:=GS.le g e
theorem GI.rl (g:GI h v xs):RL RP h v xs:=RL.Wh (GS.cs g).rs
theorem GI.nil (h:AHeap):GI h (.slice none 0 0) []:=GS.nil 1 h
theorem GI.push {h:AHeap} {v:Value} {xs:RZ} (g:GI h v xs) (d:WF h) (x:Int) (m:xs.length<=100000):
  ∃v' c a,aBuildSlice Tryz.prog h 49 1 [(0,.int .i64 x)]=some (.slice (some ⟨h.next,0,none⟩) 1 1,c)/\aAppend Tryz.prog c 49 49 v (.slice (some ⟨h.next,0,none⟩) 1 1)=some (v',a)/\GI a v' (xs++[x])/\WF a/\Le h c/\
   (∀f,Le f h->Z2 f v->Le f a/\Z2 f v')/\(∀b o,h.own b=some o->blk v≠some b->a.own b=some o/\blk v'≠some b):=by
 obtain⟨c,e4,l4,e,j⟩:=Tt d [.int .i64 x];obtain⟨v',a,i,n,hf⟩:=(GS.le g l4).push (P:=Tryz.prog) (t:=49) Ji j (yG _) rfl NH;refine⟨v',c,a,by rw[DQ,e4],i,?_,xr e i,l4,fun f k af=>hf f e (k.trans l4) af,fun b o l hb=>aG hf e (l4.own _ _ l) hb⟩
 grind [Bp,GI.eq_1]
def GP (h:AHeap) (v:Value) (ps:List Pr):Prop:=GS 2 h v ps.length (Iu ps)
theorem GP.le {h h':AHeap} {v:Value} {ps:List Pr} (g:GP h v ps) (e:Le h h'):GP h' v ps:=GS.le g e
theorem GP.pr (g:GP h v ps):PR h v ps:=GS.cs g
theorem GP.nil (h:AHeap):GP h (.slice none 0 0) []:=GS.nil 2 h
theorem GP.join {v x:Value} {ps c:List Pr} (g:GP h v ps) (d:WF h) (i:PR h x c) (l:ps.length+c.length<=1000000000):
  ∃v' a,aAppend Tryz.prog h 22 22 v x=some (v',a)/\GP a v' (ps++c)/\WF a/\
   (∀f,Le f h->Z2 f v->Le f a/\Z2 f v')/\(∀b o,h.own b=some o->blk v≠some b->a.own b=some o/\blk v'≠some b):=by
 obtain⟨v',a,m,n,hf⟩:=GS.append (P:=Tryz.prog) (t:=22) (xt:=22) (k:=2) Ji g (fun e j=>CS.src j i) (WI _) (WI _) (Ta _) NH
 grind [xr,aG,GP.eq_1,mZ]
theorem mkP1 (h:AHeap) (p:Pr):aBuildSlice Tryz.prog h 22 1 [(0,UI p)]=some (.slice (some ⟨h.next,0,none⟩) 1 1,h.alloc (.cells (xM p))):=rfl
theorem GP.push (g:GP h v ps) (d:WF h) (p:Pr) (l:ps.length+1<=100000):
  ∃v' c a,aBuildSlice Tryz.prog h 22 1 [(0,UI p)]=some (.slice (some ⟨h.next,0,none⟩) 1 1,c)/\aAppend Tryz.prog c 22 22 v (.slice (some ⟨h.next,0,none⟩) 1 1)=some (v',a)/\GP a v' (ps++[p])/\WF a/\Le h c/\
   (∀f,Le f h->Z2 f v->Le f a/\Z2 f v')/\(∀b o,h.own b=some o->blk v≠some b->a.own b=some o/\blk v'≠some b):=by
 obtain⟨c,e4,l4,e,i⟩:=Tt d (xM p)
 have j:PR c (.slice (some ⟨h.next,0,none⟩) 1 1) [p]:=by
  have:=CS.own (k:=2) (off:=0) (n:=1) (cap:=1) i (by simp[xM]);exact this
 obtain⟨v',a,m,q,r,hf,s⟩:=(g.le l4).join e j (by simp;omega)
 grind [mkP1,Le.trans,Le.own]
def abi (d:LA) (v:Value) (ps:List Pr) (h:AHeap) (e:PR h v ps) (i:ps.length<=100000):AC Tryz.prog d 18 [v] h fun x h'=>GP h' x ps/\Le h h'/\Z2 h x:=by
 refine AC.vE ⟨Tryz.func18,rfl,WY⟩ Tryz.ntmps18 Tryz.results18 fun c=>?_;simp only[Br,Nat.reduceAdd];obtain⟨v',j,f,g,k,hf,-⟩:=(GP.nil h).join c e (by simp;omega);obtain⟨l,a⟩:=hf h (Le.refl h) (fun b hb=>by simp[blk]at hb);refine Sk f ?_;exact⟨g,l,a⟩
theorem yy (L:RZ) (i:Nat) (x:Int):(Bp L).set i (.int .i64 x)=Bp (L.set i x):=by simp[Bp,Dk]
def aaa (l:II):RZ:=l.map fun(x:Nat)=>(x:Int)
theorem y6 (l:II):(aaa l).length=l.length:=by simp[aaa]
theorem sY (hi:i<l.length):(aaa l)[i]'(by grind [y6])=((l[i]:Nat):Int):=by simp[aaa]
theorem tS (W0:LA) (v o:Value) (n:Nat) (es:List Pr) (bs:List Bool) (h:AHeap) (hg:GR h v ⟨(n:Int),es⟩) (hr:bX ⟨(n:Int),es⟩) (hb:RL sJ h o bs) (b5:bs.length=n):
  AC Tryz.prog W0 135 [v,o] h fun x h'=>∃L,RL RP h' x L/\wx n (fun u=>bs.getD u false) es L/\Le h h':=by
 have bh:=hg
 obtain⟨ev,rfl,hp⟩:=hg.open
 have b4:(n:Int)<=200:=hr.n1;have hR:=hr.GD;refine AC.vE ⟨Tryz.func135,rfl,WY⟩ Tryz.ntmps135 Tryz.results135 fun bk=>?_;simp only[Br,Nat.reduceAdd];obtain⟨h1,b1,ae,b6,-,lA⟩:=r8 (n:=(n:Int)) bk hp
 generalize h.next=B at*
 have bm:=lA h1 (Le.refl _);simp only[HO,Nat.reduceLT,↓reduceIte,Nat.reduceEqDiff,reduceCtorEq,b1,bm.1];refine TC.intro PJ ⟨iZ,rfl,WY⟩ (oe W0 _ n es h1 (bh.le ae) hr) ?_;rintro y hB bo ⟨G,H⟩;have b8:=lA hB H;obtain⟨h2,e2,Q,br,o2⟩:=Tt bo [.int .i64 (-1)];have bx:=lA h2 (H.trans Q);simp only[HO,Nat.reduceLT,↓reduceIte,Nat.reduceEqDiff,reduceCtorEq,DQ,e2,Ii,Ip,BS,bx.2.1];refine TC.intro PJ ⟨Xv,rfl,WY⟩ (rN W0 _ n NH h2 (RL.Wh (RS.whole o2 rfl))) ?_;rintro x h3 b9 ⟨T,rfl,hT,o3,ay⟩;have fT:=lA h3 ((H.trans Q).trans ay);have az:=Q.trans ay
 have nT:hB.own T=none:=Q.next br hT
 have bB:h3.own T=some (.cells (Bp (List.replicate n (-1)))):=by rw[o3];simp[Bp]
 simp only[HO,Nat.reduceLT,↓reduceIte,Nat.reduceEqDiff,reduceCtorEq,Ii,Ip,BS,fT.2.1];let on:Nat->Bool:=fun u=>bs.getD u false;have cc:=hb.le Nn.sJ (ae.trans H);have aC:∀g,Le hB g->∀u,u<n->aload Tryz.prog g 4 (elemAddr o u)=some (.bool (on u)):=fun g lg u hu=>by grind [RL.le,Nn.sJ,RL.W7]
 have z:∀(k:IntKind) (u:Nat),u<n->aIndexAddr Tryz.prog 59 o (.int k u)=some (.pointer (some (elemAddr o u))):=fun k u hu=>hb.LB u NH;have R:∀(k:IntKind) (j:Nat),j<n->aIndexAddr Tryz.prog 49 (.slice (some ⟨T,0,none⟩) n n) (.int k j)=some (.pointer (some ⟨T,j,none⟩)):=fun k j hj=>by rw[Wc Ac Mb Ji j hj];simp[Ip]
 have aD:∀(g:AHeap) (L:RZ) (j:Nat) (l:Int),g.own T=some (.cells (Bp L))->L[j]?=some l->aload Tryz.prog g 3 ⟨T,j,none⟩=some (.int .i64 l):=fun g L j l ho hl=>by rw[Fq Mb rfl ho];simp[Bp,hl]
 refine aab.intro (fun k fr hh=>∃(v:Nat) (L:RZ),k=n-v/\v<=n/\fr=mkF [(1,o),(5,y),(6,.slice (some ⟨T,0,none⟩) n n),(19,.int .i64 n),(20,.int .i64 v)]/\hh.own T=some (.cells (Bp L))/\Le hB hh/\TO n on es v L)
  n [(1,o),(5,y),(6,.slice (some ⟨T,0,none⟩) n n),(19,.int .i64 n),(20,.int .i64 (0:Nat))] fD ⟨0,_,rfl,aal _,rfl,bB,az,TO.start n on es⟩ ?_
 rintro k fr hh ag ⟨v,L,rfl,hv,rfl,oT,A,tO⟩;refine Uy ?_;refine Kl.intro (fun Y=>?_) (fun hf=>?_)
 rotate_left
 .have aH : n <= v := vp hf
  obtain rfl:v=n:=NH;refine Uy ?_;exact⟨L,RL.Wh (RS.whole oT (by grind [TO.len])),tO.done hR,(ae.trans H).trans A⟩
 have c:v<n:=CC Y;clear Y;have S:=CA (show v<L.length by grind [TO.len]);generalize L[v]'(by grind)=lv at S
 have C:=aC hh A v c;have aj:=aD hh L v lv oT S;by_cases c1:on v=true
 .rw [c1] at C
  simp only[HO,Nat.reduceLT,↓reduceIte,Nat.reduceEqDiff,reduceCtorEq,z _ v c,C,Tw v NH];exact tn (n-(v+1)) [(1,o),(5,y),(6,.slice (some ⟨T,0,none⟩) n n),(19,.int .i64 n),(20,.int .i64 (v+1:Nat))] NH fD ⟨v+1,L,rfl,c,rfl,oT,A,tO.skip (.inl c1)⟩
 rw[af3]at c1;rw[c1]at C;by_cases c2:lv>=0
 .simp only [HO, Nat.reduceLT, ↓reduceIte, Nat.reduceEqDiff, reduceCtorEq, z _ v c, C, R _ v c, aj, c2, Tw v NH]
  exact tn (n-(v+1)) [(1,o),(5,y),(6,.slice (some ⟨T,0,none⟩) n n),(19,.int .i64 n),(20,.int .i64 (v+1:Nat))] NH fD ⟨v+1,L,rfl,c,rfl,oT,A,tO.skip (.inr (by rw[S];intro e;injection e with e;omega))⟩
 have Z:L[v]?=some (-1):=by grind [TO.val]
 have st1:aStore Tryz.prog hh 3 (.pointer (some ⟨T,v,none⟩)) (.int .i64 (v:Int))=some (hh.put T (.cells (Bp (L.set v (v:Int))))):=by rw[QB (P:=Tryz.prog) (t:=3) (x:=.int .i64 (v:Int)) Mb Ji oT (off:=v) (by rw[uE,tO.len];exact c) rfl rfl,yy]
 have D:WF (hh.put T (.cells (Bp (L.set v (v:Int))))):=ag.put _ (ag.lt oT);have I:Le hB (hh.put T (.cells (Bp (L.set v (v:Int))))):=A.put _ nT;have J:(hh.put T (.cells (Bp (L.set v (v:Int))))).own T=some (.cells (Bp (L.set v (v:Int)))):=AHeap.Y3 _ _ _;simp only[HO,Nat.reduceLT,↓reduceIte,Nat.reduceEqDiff,reduceCtorEq,z _ v c,C,R _ v c,aj,c2,st1];generalize hh.put T (.cells (Bp (L.set v (v:Int))))=h4 at*;obtain⟨h5,e5,al,bF,o5⟩:=Tt D [.int .i64 (v:Int)]
 have nM:hB.own h4.next=none:=I.next D (qL0 _)
 have bH:T≠h4.next:=fun e=>by have:=D.lt J;omega
 simp only[HO,Nat.reduceLT,↓reduceIte,Nat.reduceEqDiff,reduceCtorEq,DQ,e5];have aJ:=tO.begin c c1 Z (fun a w=>(∃j,j<0/\[v][j]?=some a)/\Jp es a w/\on w=false) (fun a w h=>by grind)
 have gM:GI h5 (.slice (some ⟨h4.next,0,none⟩) 1 1) (aaa [v]):=GS.full o5 rfl (show 1<1000000000000 by decide)
 refine aab.intro (fun k fr m=>∃(i:Nat) (L:RZ) (d:Value) (met:II),k=n-i/\i<=met.length/\fr=mkF [(1,o),(5,y),(6,.slice (some ⟨T,0,none⟩) n n),(7,.int .i64 v),(8,d),(9,.int .i64 i),(19,.int .i64 n),(20,.int .i64 v)]/\
   m.own T=some (.cells (Bp L))/\Le hB m/\GI m d (aaa met)/\blk d≠some T/\Z2 hB d/\TI n on es v L met (fun a w=>(∃j,j<i/\met[j]?=some a)/\Jp es a w/\on w=false))
  n [(1,o),(5,y),(6,.slice (some ⟨T,0,none⟩) n n),(7,.int .i64 v),(8,.slice (some ⟨h4.next,0,none⟩) 1 1),(9,.int .i64 (0:Nat)),(19,.int .i64 n),(20,.int .i64 v)] fD
  ⟨0,_,_,[v],rfl,aal _,rfl,al.own _ _ J,I.trans al,gM,by grind [blk],fun b hb=>by grind [blk],aJ⟩ ?_
 clear aJ gM bH nM o5 bF al e5 h5 J I D st1 C aj S Z c2 oT A tO ag;clear h4 hh L;rintro k fr m U ⟨i,L,d,met,rfl,hi,rfl,oT,leq,gm,nm,am,E⟩;have lm:=fun g=>gm.rl.Uc g;have aK:=E.abK;rw[y6]at lm;simp only[HO,Nat.reduceLT,↓reduceIte,Nat.reduceEqDiff,reduceCtorEq,lm];refine Kl.intro (fun Y=>?_) (fun hf=>?_)
 rotate_left
 .have aH : met.length <= i := vp hf
  simp only[HO,Nat.reduceLT,↓reduceIte,Nat.reduceEqDiff,reduceCtorEq,Tw v NH];refine tn (n-(v+1)) [(1,o),(5,y),(6,.slice (some ⟨T,0,none⟩) n n),(19,.int .i64 n),(20,.int .i64 (v+1:Nat))] NH fD ⟨v+1,L,rfl,c,rfl,oT,leq,E.finish fun a w ha V bI=>⟨?_,V,bI⟩⟩
  grind [List.mem_iff_getElem?]
 have p:i<met.length:=CC Y;clear Y;have f:=CA p;have aP:=sY p;have aT:=gm.rl.TA i (by rw[y6];exact p);have W:=gm.rl.DH i (by rw[y6];exact p);rw[aP]at W;generalize met[i]=u at f W;clear aP;have K:u∈met:=Gc f;have cd:u<n:=by have:=(Ny.1 ((E.mm u).1 K)).1;grind [TI.len]
 have aq:u<(Zh n es).length:=by grind [Xq]
 have bN:=G.NS u aq;obtain⟨uv,bQ,s⟩:=G.Wm u aq;have bW:(Zh n es).getD u []=(Zh n es)[u]:=D4 aq;generalize (Zh n es)[u]=row at s bW;have lr:=fun g=>s.Uc g;have cf:row.length<=2000:=by
  have:=bV n es row (by grind);have:es.length<=594:=hr.len;omega
 simp only[HO,Nat.reduceLT,↓reduceIte,Nat.reduceEqDiff,reduceCtorEq,aT,W,bN,bQ m leq,lr];have aW:TI n on es v L met (fun a w=>((∃j,j<i/\met[j]?=some a)/\Jp es a w/\on w=false)\/(a=u/\(w:Int)∈row.take 0/\on w=false)):=E.mono fun a w h=>by grind
 refine aab.intro (fun k fr m=>∃(q:Nat) (L:RZ) (d:Value) (met:II),k=row.length-q/\q<=row.length/\fr=mkF [(1,o),(5,y),(6,.slice (some ⟨T,0,none⟩) n n),(7,.int .i64 v),(8,d),(9,.int .i64 i),(19,.int .i64 n),(20,.int .i64 v),(52,uv),(53,.int .i64 row.length),(54,.int .i64 q)]/\
   m.own T=some (.cells (Bp L))/\Le hB m/\GI m d (aaa met)/\blk d≠some T/\Z2 hB d/\met[i]?=some u/\TI n on es v L met (fun a w=>((∃j,j<i/\met[j]?=some a)/\Jp es a w/\on w=false)\/(a=u/\(w:Int)∈row.take q/\on w=false)))
  row.length [(1,o),(5,y),(6,.slice (some ⟨T,0,none⟩) n n),(7,.int .i64 v),(8,d),(9,.int .i64 i),(19,.int .i64 n),(20,.int .i64 v),(52,uv),(53,.int .i64 row.length),(54,.int .i64 (0:Nat))] fD
  ⟨0,L,d,met,rfl,aal _,rfl,oT,leq,gm,nm,am,f,aW⟩ ?_
 clear aW aT W lm;clear K f p aK E am nm gm leq oT U hi;clear m L d met;rintro k fr m U ⟨q,L,d,met,rfl,cg,rfl,oT,leq,gm,nm,am,f,E⟩;have K:u∈met:=Gc f;have aK:=E.abK;have p:=(Ny.1 f).1;refine Uy ?_;refine Kl.intro (fun Y=>?_) (fun hf=>?_)
 rotate_left
 .have aH : row.length <= q := vp hf
  simp only[HO,Nat.reduceLT,↓reduceIte,Nat.reduceEqDiff,reduceCtorEq,Tw i NH];refine tn (n-(i+1)) [(1,o),(5,y),(6,.slice (some ⟨T,0,none⟩) n n),(7,.int .i64 v),(8,d),(9,.int .i64 (i+1:Nat)),(19,.int .i64 n),(20,.int .i64 v)] NH fD ⟨i+1,L,d,met,rfl,p,rfl,oT,leq,gm,nm,am,E.mono fun a w h=>?_⟩
  grind [EW]
 have F:q<row.length:=CC Y;clear Y;have ar:=s.TA q F;have X:=(s.le Nn.RP leq).DH q F;have bZ:row.take (q+1)=row.take q++[row[q]]:=EL F;have av:row[q]∈(Zh n es).getD u []:=pw;generalize row[q]=x at X bZ av;obtain⟨w,rfl,r⟩:=Ru hR av;have V:=(EW hR u w).1 av;have M:=CA (show w<L.length by grind [TI.len]);generalize L[w]'(by grind)=lw at M
 have N:=aC m leq w r;have aX:=aD m L w lw oT M;by_cases c3:on w=true
 .rw [c3] at N
  simp only[HO,Nat.reduceLT,↓reduceIte,Nat.reduceEqDiff,reduceCtorEq,ar,X,z _ w r,N,Tw q NH];refine tn (row.length-(q+1)) [(1,o),(5,y),(6,.slice (some ⟨T,0,none⟩) n n),(7,.int .i64 v),(8,d),(9,.int .i64 i),(19,.int .i64 n),(20,.int .i64 v),(52,uv),(53,.int .i64 row.length),(54,.int .i64 (q+1:Nat))] NH fD
   ⟨q+1,L,d,met,rfl,F,rfl,oT,leq,gm,nm,am,f,E.mono fun a b h=>?_⟩
  rcases h with h|⟨h1,h2,h3⟩
  .exact .inl h
  grind
 rw[af3]at c3;rw[c3]at N;have a7:∀(O:II),(∀j,j<met.length->O[j]?=met[j]?)->∀a b,((∃j,j<i/\O[j]?=some a)/\Jp es a b/\on b=false)\/(a=u/\(b:Int)∈row.take (q+1)/\on b=false)->
   (((∃j,j<i/\met[j]?=some a)/\Jp es a b/\on b=false)\/(a=u/\(b:Int)∈row.take q/\on b=false))\/b=w:=fun O hm a b h=>by
  rcases h with⟨⟨j,hj,ck⟩,h2⟩|⟨h1,h2,h3⟩
  .grind
  grind
 by_cases c4:lw<0
 rotate_left
 .simp only [HO, Nat.reduceLT, ↓reduceIte, Nat.reduceEqDiff, reduceCtorEq, ar, X, z _ w r, N, R _ w r, aX, c4, Tw q NH]
  exact tn (row.length-(q+1)) [(1,o),(5,y),(6,.slice (some ⟨T,0,none⟩) n n),(7,.int .i64 v),(8,d),(9,.int .i64 i),(19,.int .i64 n),(20,.int .i64 v),(52,uv),(53,.int .i64 row.length),(54,.int .i64 (q+1:Nat))] NH fD
   ⟨q+1,L,d,met,rfl,F,rfl,oT,leq,gm,nm,am,f,E.stay K V ⟨lw,M,NH⟩ (a7 met fun _ _=>rfl)⟩
 have a8:L[w]?=some (-1):=by
  rcases E.val w lw M with rfl|⟨_,k,_,rfl,_⟩
  .exact M
  .omega
 have st1:aStore Tryz.prog m 3 (.pointer (some ⟨T,w,none⟩)) (.int .i64 (v:Int))=some (m.put T (.cells (Bp (L.set w (v:Int))))):=by rw[QB (P:=Tryz.prog) (t:=3) (x:=.int .i64 (v:Int)) Mb Ji oT (off:=w) (by rw[uE,E.len];exact r) rfl rfl,yy]
 have D:WF (m.put T (.cells (Bp (L.set w (v:Int))))):=U.put _ (U.lt oT);have I:Le hB (m.put T (.cells (Bp (L.set w (v:Int))))):=leq.put _ nT;have J:(m.put T (.cells (Bp (L.set w (v:Int))))).own T=some (.cells (Bp (L.set w (v:Int)))):=AHeap.Y3 _ _ _;have b0:GI (m.put T (.cells (Bp (L.set w (v:Int))))) d (aaa met):=GS.put gm _ nm;simp only[HO,Nat.reduceLT,↓reduceIte,Nat.reduceEqDiff,reduceCtorEq,ar,X,z _ w r,N,R _ w r,aX,c4,st1];generalize m.put T (.cells (Bp (L.set w (v:Int))))=h4 at*;obtain⟨bb,h5,h6,e5,e6,g6,w6,l5,hf,hk⟩:=b0.push D (w:Int) (by grind [y6]);obtain⟨l6,a6⟩:=hf hB I am;obtain⟨b2,b3⟩:=hk T _ J nm;have bg:aaa met++[(w:Int)]=aaa (met++[w]):=by simp[aaa]
 rw[bg]at g6;simp only[HO,Nat.reduceLT,↓reduceIte,Nat.reduceEqDiff,reduceCtorEq,e5,e6,Tw q NH];exact tn (row.length-(q+1)) [(1,o),(5,y),(6,.slice (some ⟨T,0,none⟩) n n),(7,.int .i64 v),(8,bb),(9,.int .i64 i),(19,.int .i64 n),(20,.int .i64 v),(52,uv),(53,.int .i64 row.length),(54,.int .i64 (q+1:Nat))] NH fD
  ⟨q+1,_,bb,met++[w],rfl,F,rfl,b2,l6,g6,b3,a6,by rw[fR p];exact f,E.push K V c3 a8 (a7 _ fun j hj=>fR hj)⟩
end
variable {es:List Pr} {i j n s t v w:Nat} {met:List Bool} {o opn tH:II} {up:RZ}
theorem D3.lt (a:D3 es) {p q:Pr} (b:i<j) (hi:es[i]?=some p) (c:es[j]?=some q):p.1<q.1\/p.1=q.1/\p.2<q.2:=(Hv p q).1 (a i j p q b hi c)
theorem OZ:∀(k:Nat) (es:List Pr),es.length=k->aV n es->D3 es->∀u,((Zh n es).getD u []).Pairwise (·<·):=by
 intro k
 induction k with
 |zero=>
  intro es d _ _ u;obtain rfl:=DF d;have f:(Zh n []).getD u []=[]:=by grind [Zh]
  rw[f];exact .nil
 |succ k s=>
  intro g d t ha u;obtain⟨es,p,rfl⟩:∃es p,g=es++[p]:=by
   rcases ae7 g with rfl|⟨es,p,h⟩
   all_goals grind
  have c:aV n es:=fun q m=>t q (by simp[m]);have mi:D3 es:=fun i j a b o hi B=>ha i j a b o pw pw;have s:=s es pw c mi;have C:=t p Ma;have low:∀u:Nat,∀x∈(Zh n es).getD u [],((u:Int)=p.1->x<p.2)/\((u:Int)=p.2->x<p.1):=by
   intro u x v;obtain⟨w,rfl,_⟩:=Ru c v;have l:=(EW c u w).1 v;have key:∀q∈es,q.1<p.1\/q.1=p.1/\q.2<p.2:=by
    intro q m;obtain⟨i,hi⟩:=yM.1 m;have r:=(Ny.1 hi).1;exact ha.lt (i:=i) (j:=es.length) r pw Ma
   rcases l with h|h<;>have y:=c _ h<;>have h2:=key _ h<;>simp only at y h2<;>constructor<;>intro e<;>omega
  have gd:∀(rows:AM) (x:Int) (i:Nat),(rows.set i (rows.getD i []++[x])).getD u []=if i=u/\i<rows.length then rows.getD u []++[x]else rows.getD u []:=pw
  rw[NJ];have z:=Xq n es;have y:p.1.toNat<n:=NH;simp only[Xs];rw[gd];simp only[M1,z];have A:=gd (Zh n es) p.2 p.1.toNat;rw[z]at A;rw[A];by_cases D:p.1.toNat=u
  .grind
  .by_cases E : p.2.toNat = u
   .grind
   grind
theorem KW (es:List Pr) (a:aV n es) (ha:D3 es) (u:Nat):((Zh n es).getD u []).Pairwise (·<·):=OZ es.length es rfl a ha u
def Full (es:List Pr) (o:II) (x:Nat):Prop:=∀y,Jp es x y->y∈o
inductive du (n:Nat) (es:List Pr) (from_:Nat):II->RZ->Prop
 |start:du n es from_ [from_] (List.replicate n (-1))
 |step {o:II} {up:RZ} {k v w:Nat}:du n es from_ o up->o[k]?=some v->Jp es v w->w∉o->(∀y,Jp es v y->y∉o->w<=y)->(∀(j x:Nat),k<j->o[j]?=some x->Full es o x)->du n es from_ (o++[w]) (up.set w (v:Int))
structure Oc (n:Nat) (es:List Pr) (from_:Nat) (o:II) (up:RZ):Prop where
 KP:du n es from_ o up
 full:∀x∈o,Full es o x
theorem du.len (d:du n es s o up):1<=o.length/\up.length=n:=by
 induction d<;>grind
theorem du.same (d:du n es s o up):∀{b:II} {a:RZ},du n es s b a->o.length=b.length->o=b/\up=a:=by
 induction d with
 |start=>
  intro b a c j;cases c<;>grind
 |@step o up k v w d l ha hw u hf m=>
  intro b a c j;cases c with
  |start=>grind
  |@step x p k1 q w1 d1 e f g r i=>
   obtain⟨rfl,rfl⟩:=m d1 pw;have t:k=k1:=by
    rcases Tj k k1 with h|h|h
    .exact absurd (hf k1 q h e w1 f) g
    .exact h
    .exact absurd (i k v h l w ha) hw
   grind
theorem du.peel (d:du n es s o up):∀m,1<=m->m<o.length->∃a b,du n es s a b/\a.length=m/\∃x∈a,¬Full es a x:=by
 induction d with
 |start=>grind
 |@step o up k v w d c ha hw e hf g=>
  intro m i h2;by_cases h:m<o.length
  .grind
  .simp at h2
   exact⟨o,up,d,NH,v,Gc c,fun f=>hw (f w ha)⟩
theorem Oc.uniq {o d:II} {up c:RZ} (a:Oc n es s o up) (b:Oc n es s d c):o=d/\up=c:=by
 have key:∀{o d:II} {up c:RZ},Oc n es s o up->Oc n es s d c->¬o.length<d.length:=by
  intro o d up c a b h;obtain⟨g,e,d2,f,x,i,hf⟩:=b.KP.peel o.length a.KP.len.1 h;obtain⟨rfl,rfl⟩:=a.KP.same d2 f.symm
  grind [Oc.full]
 have j:=key a b;have h2:=key b a;exact a.KP.same b.KP NH
structure DS (n:Nat) (es:List Pr) (s:Nat) (met:List Bool) (tH:II) (o opn:II) (up:RZ):Prop where
 KP:du n es s o up
 metl:met.length=n
 mm:∀v,v<n->(met[v]?=some true↔v∈o)
 trl:tH.length=n
 tr:∀v t,tH[v]?=some t->t<=((Zh n es).getD v []).length/\∀x∈((Zh n es).getD v []).take t,x.toNat∈o
 sub:opn.Sublist o
 closed:∀v∈o,v∉opn->Full es o v
 lt:∀v∈o,v<n
 nodup:o.Nodup
theorem DS.start {n:Nat} {es:List Pr} {s:Nat} (hs:s<n):DS n es s ((List.replicate n false).set s true) (List.replicate n 0) [s] [s] (List.replicate n (-1)) where
 KP:=.start
 metl:=by simp
 mm v a:=pw
 trl:=by simp
 tr v t c:=pw
 sub:=List.Sublist.refl _
 closed v a b:=absurd a b
 lt v a:=pw
 nodup:=by simp
theorem DS.aa (d:DS n es s met tH o opn up):o.length<=n:=by
 have:o.length<=(List.range n).length:=d.nodup.length_le_of_subset (by grind [DS.lt])
 grind
def DS.len_opn (d:DS n es s met tH o opn up):opn.length<=n:=jz d.sub.length_le d.aa
theorem DS.pop (b:aV n es) (d:DS n es s met tH o (opn++[v]) up) (a:tH[v]?=some ((Zh n es).getD v []).length):DS n es s met tH o opn up:=
 {d with
  sub:=by grind [List.Sublist.trans,DS.sub]
  closed:=fun x c f=>by
   by_cases e:x=v
   .intro y g
    have:=(d.tr _ _ a).2 y (by grind [EW])
    grind
   grind [DS.closed]}
theorem DS.skip {x:Int} (d:DS n es s met tH o opn up) (f:tH[v]?=some t) (c:((Zh n es).getD v [])[t]?=some x) (h:x.toNat∈o):DS n es s met (tH.set v (t+1)) o opn up:=
 {d with
  trl:=by simp[d.trl]
  tr:=fun u q a=>by
   rw[K4]at a;split at a
   .rename_i e; subst e
    split at a
    .injection a with a; subst a
     have g:=(Ny.1 c).1;refine⟨g,fun y b=>?_⟩;rw[iB,c]at b;simp at b;rcases b with b|b
     .exact(d.tr _ _ f).2 y b
     grind
    .cases a
   .exact d.tr u q a}
theorem DS.last (d:DS n es s met tH o (opn++[v]) up):
  ∃k,o[k]?=some v/\∀(j x:Nat),k<j->o[j]?=some x->Full es o x:=by
 obtain⟨a,b,rfl,h,h2⟩:=List.append_sublist_iff.1 d.sub;have g:v∈b:=pw;obtain⟨i,hi⟩:=yM.1 g;refine⟨a.length+i,by rw[AE NH];simpa using hi,fun j x l f=>?_⟩;have e:x∈a++b:=Gc f;refine d.closed x e fun c=>?_;rw[AE NH]at f;have nd:=d.nodup;rw[Sb,jf]at c;rcases c with c|rfl
 .grind
 .have : j - a.length = i := by grind [List.getElem?_inj]
  omega
theorem DS.push (g:aV n es) (ha:D3 es) (d:DS n es s met tH o (opn++[v]) up) (p:tH[v]?=some t) (j:((Zh n es).getD v [])[t]?=some (w:Int)) (x:w∉o):
  DS n es s (met.set w true) (tH.set v (t+1)) (o++[w]) (opn++[v]++[w]) (up.set w (v:Int)):=by
 obtain⟨k,z,hf⟩:=d.last;have l:(w:Int)∈(Zh n es).getD v []:=Gc j;have c:=(EW g v w).1 l;have m:=(c.lt g).2;have r:=KW es g ha v;refine⟨.step d.KP z c x (fun y a A=>?_) hf,by simp[d.metl],fun u b=>?_,by simp[d.trl],fun u q f=>?_,(by grind [DS.sub]),fun u b B=>?_,fun u b=>?_,?_⟩
 .obtain ⟨i, hi⟩ := yM.1 ((EW g v y).2 a)
  rcases Tj i t with h|h|h
  .have := (d.tr v t p).2 (y : Int) (Gc (i := i) pw)
   grind
  .grind
  grind [List.pairwise_iff_getElem]
 .grind [DS.metl,DS.mm]
 .rw [K4] at f
  split at f
  .rename_i e; subst e
   split at f
   .injection f with f; subst f
    refine⟨(Ny.1 j).1,fun y a=>?_⟩;rw[iB,j]at a;simp at a;rw[Sb];rcases a with a|a
    .exact .inl ((d.tr _ _ p).2 y a)
    grind
   .cases f
  .obtain ⟨C, h2⟩ := d.tr u q f
   grind
 .rw [Sb, jf] at b
  rcases b with b|rfl
  .exact fun y a=>im _ (d.closed u b (by grind [List.mem_append_left]) y a)
  grind
 .rw [Sb, jf] at b
  rcases b with b|rfl
  .exact d.lt u b
  .exact m
 grind [DS.nodup]
theorem DS.fin (d:DS n es s met tH o [] up):Oc n es s o up:=⟨d.KP,(by grind [DS.closed])⟩
section
open Go.Proofs
variable {X id k:Nat} {es ps:List Pr} {ev v:Value} {h:AHeap} {n:Int}
def Wj (a:xO v k):aBuild Tryz.prog 24 [(0,.int .i64 n),(1,v)]=some (.agg #[.int .i64 n,v]):=by
 obtain⟨_,_,rfl,_⟩:=a;kernel_rfl
theorem Lo (h:AHeap):aAlloc Tryz.prog h 24=some (.pointer (some ⟨h.next,0,none⟩),h.alloc (.cells [.int .i64 0,.slice none 0 0])):=rfl
def As (hw:WF h) (r:PR h ev es):∃b h2,aAlloc Tryz.prog h 24=some (.pointer (some ⟨h.next,0,none⟩),b)/\aStore Tryz.prog b 24 (.pointer (some ⟨h.next,0,none⟩)) (.agg #[.int .i64 n,ev])=some h2/\Le h h2/\WF h2/\
  ∀g,Le h2 g->aload Tryz.prog g 24 ⟨h.next,0,none⟩=some (.agg #[.int .i64 n,ev])/\aload Tryz.prog g 3 ⟨h.next,0,none⟩=some (.int .i64 n)/\aload Tryz.prog g 22 ⟨h.next,1,none⟩=some ev:=by
 obtain⟨b,f,l1,w1,d⟩:=Tt hw [.int .i64 0,.slice none 0 0]
 have i:h.own h.next=none:=(Le.refl h).next hw (qL0 _)
 have one:=r.sl.one;have a:UA Tryz.prog 24=2:=Ji;have j:(Value.agg #[.int .i64 n,ev]).cells=#[.int .i64 n,ev]:=rfl;have k:(Value.int IntKind.i64 n).oneCell'=true:=rfl
 have c:(b.put h.next (.cells [.int .i64 n,ev])).own h.next=some (.cells [.int .i64 n,ev]):=AHeap.Y3 _ _ _
 refine⟨b,b.put h.next (.cells [.int .i64 n,ev]),by rw[Lo,f],?_,l1.put _ i,w1.put _ (w1.lt d),fun g e=>⟨?_,Fq Mb rfl (e.own _ _ c),Fq eY rfl (e.own _ _ c)⟩⟩
 .simp[aStore,d,j,a,putCells,UP,one,k]
 .rw[Wx UP rfl a (e.own _ _ c) Ma];rfl
def mkP4 (h:AHeap) (a b c d:Pr):aBuildSlice Tryz.prog h 22 4 [(0,UI a),(1,UI b),(2,UI c),(3,UI d)]=some (.slice (some ⟨h.next,0,none⟩) 4 4,h.alloc (.cells (Iu [a,b,c,d]))):=Ji
def mkP3 (h:AHeap) (a b c:Pr):aBuildSlice Tryz.prog h 22 3 [(0,UI a),(1,UI b),(2,UI c)]=some (.slice (some ⟨h.next,0,none⟩) 3 3,h.alloc (.cells (Iu [a,b,c]))):=Ji
theorem PR.made (a:h.own id=some (.cells (Iu ps))) (b:ps.length=k):PR h (.slice (some ⟨id,0,none⟩) k k) ps:=by
 have:=CS.own (k:=2) (off:=0) (n:=k) (cap:=k) a (by grind [Ta])
 grind [Ta,PR.eq_1]
structure GX (h:AHeap) (X:Nat) (n:Int) (ev:Value) (ps:List Pr):Prop where
 ox:h.own X=some (.cells [.int .i64 n,ev])
 gp:GP h ev ps
 ne:blk ev≠some X
def Zp (n:Int):aBuild Tryz.prog 24 [(0,.int .i64 n)]=some (.agg #[.int .i64 n,.slice none 0 0]):=Ji
theorem GX.new (hw:WF h) (n:Int):∃a h2,aAlloc Tryz.prog h 24=some (.pointer (some ⟨h.next,0,none⟩),a)/\aStore Tryz.prog a 24 (.pointer (some ⟨h.next,0,none⟩)) (.agg #[.int .i64 n,.slice none 0 0])=some h2/\Le h h2/\WF h2/\h.own h.next=none/\GX h2 h.next n (.slice none 0 0) []:=by
 obtain⟨a,j,l1,w1,d⟩:=Tt hw [.int .i64 0,.slice none 0 0]
 have e:h.own h.next=none:=(Le.refl h).next hw (qL0 _)
 have b:UA Tryz.prog 24=2:=Ji;have f:(Value.agg #[.int .i64 n,.slice none 0 0]).cells=#[.int .i64 n,.slice none 0 0]:=rfl;have g:(Value.int IntKind.i64 n).oneCell'=true:=rfl;have c:(Value.slice none 0 0).oneCell'=true:=rfl
 have i:(a.put h.next (.cells [.int .i64 n,.slice none 0 0])).own h.next=some (.cells [.int .i64 n,.slice none 0 0]):=AHeap.Y3 _ _ _
 refine⟨a,a.put h.next (.cells [.int .i64 n,.slice none 0 0]),by grind [Lo],?_,l1.put _ e,w1.put _ (w1.lt d),e,⟨i,GP.nil _,by simp[blk]⟩⟩
 simp[aStore,d,f,b,putCells,UP,g,c]
theorem GX.le {h h':AHeap} {X:Nat} {n:Int} {ev:Value} {ps:List Pr} (g:GX h X n ev ps) (e:Le h h'):GX h' X n ev ps:=⟨e.own _ _ g.ox,g.gp.le e,g.ne⟩
def GX.ld (g:GX h X n ev ps):aload Tryz.prog h 24 ⟨X,0,none⟩=some (.agg #[.int .i64 n,ev])/\aload Tryz.prog h 3 ⟨X,0,none⟩=some (.int .i64 n)/\aload Tryz.prog h 22 ⟨X,1,none⟩=some ev:=by
 refine⟨?_,Fq Mb rfl g.ox,Fq eY rfl g.ox⟩;rw[Wx UP rfl (by kernel_rfl:UA Tryz.prog 24=2) g.ox Ma];rfl
theorem GX.push' (g:GX h X n ev ps) (hw:WF h) (p:Pr) (l:ps.length+1<=100000):
  ∃v' a i c,aBuildSlice Tryz.prog h 22 1 [(0,UI p)]=some (.slice (some ⟨h.next,0,none⟩) 1 1,a)/\aAppend Tryz.prog a 22 22 ev (.slice (some ⟨h.next,0,none⟩) 1 1)=some (v',i)/\aStore Tryz.prog i 22 (.pointer (some ⟨X,1,none⟩)) v'=some c/\
   GX c X n v' (ps++[p])/\WF c/\Le h a/\(∀f,Le f h->f.own X=none->Z2 f ev->Le f c/\Z2 f v')/\(∀b o,h.own b=some o->b≠X->blk ev≠some b->c.own b=some o/\blk v'≠some b):=by
 obtain⟨v',a,i,e4,m,j,k,l4,hf,q⟩:=g.gp.push hw p l;obtain⟨d,e⟩:=q X _ g.ox g.ne;have one:=j.pr.sl.one;have r:v'.cells=#[v']:=by obtain⟨_,_,rfl,_⟩:=j.pr.sl;rfl
 have st:=QB (P:=Tryz.prog) (t:=22) (x:=v') eY Ji d (off:=1) Ma r one;refine⟨v',a,i,_,e4,m,st,⟨AHeap.Y3 _ _ _,GS.put j _ e,e⟩,k.put _ (k.lt d),l4,fun f s u af=>?_,fun b o hb v w=>?_⟩
 all_goals grind [Le.put,AHeap.By]
end
section
attribute [local irreducible] Kp MQ lU rS KO KN KX KE VK Kl ZJ TC aab
open Go.Proofs
theorem ME (b:LA) (v:Value) (xs:RZ) (h:AHeap) (c:RL RP h v xs):AC Tryz.prog b 130 [v] h fun x h'=>∃B,x=.func (.func 166) #[] #[.pointer (some ⟨B,0,none⟩)]/\h.next<=B/\h'.own B=some (.cells [v])/\Le h h':=by
 refine AC.vE ⟨Tryz.func130,rfl,WY⟩ Tryz.ntmps130 Tryz.results130 fun a=>?_;simp only[Br,Nat.reduceAdd];obtain⟨d,e,l1,w1,g⟩:=Tt a [v]
 have f:zF h v=some (.pointer (some ⟨h.next,0,none⟩),d):=by rw[<-e];obtain⟨_,_,rfl,_⟩:=c.sl;rfl
 refine Sk f ?_
 grind
theorem Tp (o:LA) (e B:Nat) (v:Value) (xs:RZ) (I:Nat->AHeap->Prop) (h:AHeap) (u:xs.length<1000000)
  (d:∀i g,I i g->g.own B=some (.cells [v])/\RL RP g v xs) (f:I xs.length h)
  (p:∀i g (hi:i<xs.length),WF g->h.next<=g.next->I (i+1) g->AY Tryz.prog o e [.int .i64 i,.int .i64 xs[i]] g fun x l=>x=.bool true/\h.next<=l.next/\I i l):
  AC Tryz.prog o 166 [Yg e,.pointer (some ⟨B,0,none⟩)] h fun _ h'=>I 0 h':=by
 have ld:∀i g,I i g->aload Tryz.prog g 49 ⟨B,0,none⟩=some v:=fun i g hi=>by rw[Fq Ac rfl (d i g hi).1];rfl
 refine AC.vE ⟨Tryz.func166,rfl,WY⟩ Tryz.ntmps166 Tryz.results166 fun q=>?_;simp only[Br,Nat.reduceAdd];have w1:awrap .i64 ((xs.length:Int)-1)=(xs.length:Int)-1:=ie _ NH NH;simp only[HO,Nat.reduceLT,↓reduceIte,Nat.reduceEqDiff,reduceCtorEq,ld _ _ f,(d _ _ f).2.len Ac,w1]
 refine lIn (fun k fr g=>∃i:Nat,k=i/\i<=xs.length/\fr=mkF [(0,Yg e),(1,.pointer (some ⟨B,0,none⟩)),(3,.int .i64 ((i:Int)-1))]/\h.next<=g.next/\I i g) ⟨xs.length,rfl,qL0 _,rfl,qL0 _,f⟩ ?_
 rintro k fr g r ⟨i,rfl,hi,rfl,hle,a⟩;refine Uy ?_;refine Kl.intro (fun w=>?_) (fun hf=>?_)
 .have b : 1 <= k := pw
  obtain⟨j,rfl⟩:∃j,k=j+1:=⟨k-1,NH⟩;have m:j<xs.length:=NH;have s:((j+1:Nat):Int)-1=(j:Int):=NH;have ad:=(d _ _ a).2.addr (k:=.i64) Ac Mb rfl j m;have le:=(d _ _ a).2.DH j m;simp only[HO,Nat.reduceLT,↓reduceIte,Nat.reduceEqDiff,reduceCtorEq,s,ld _ _ a,ad,le];refine TC.yield (by simp only[HO,Nat.reduceLT,↓reduceIte,Nat.reduceEqDiff,reduceCtorEq,yieldOf]<;>rfl) (p j g m r hle a) ?_;rintro x l t ⟨rfl,c,n⟩;have w2:awrap .i64 ((j:Int)-1)=(j:Int)-1:=ie _ NH NH;refine Sk w2 ?_;exact lgA NH ⟨j,rfl,NH,rfl,c,n⟩
 .have b : k = 0 := pw
  subst b;refine Uy ?_;exact a
end
variable {es:List Pr} {n s v w:Nat} {o:II} {up:RZ}
instance adjDec (es:List Pr) (u w:Nat):Decidable (Jp es u w):=by unfold Jp;infer_instance
def sI (n:Nat) (es:List Pr) (o:II) (v:Nat):Option Nat:=(List.range n).find? fun w=>decide (Jp es v w)&&!o.contains w
def lastF (n:Nat) (es:List Pr) (o:II):II->Option (Nat×Nat)
  |[]=>none
  |v::r=>match sI n es o v with
    |some w=>some (v,w)
    |none=>lastF n es o r
def walkS (n:Nat) (es:List Pr) (st:II×RZ):II×RZ:=
 match lastF n es st.1 st.1.reverse with
 |some (v,w)=>(st.1++[w],st.2.set w (v:Int))
 |none=>st
def walkN (n:Nat) (es:List Pr):Nat->II×RZ->II×RZ
 |0,st=>st
 |k+1,st=>walkN n es k (walkS n es st)
def K9 (n:Nat) (es:List Pr) (s:Nat):II×RZ:=walkN n es n ([s],List.replicate n (-1))
theorem ae9 (a:aV n es) (h:sI n es o v=some w):Jp es v w/\w∉o/\∀y,Jp es v y->y∉o->w<=y:=by grind [sI,List.find?_range_eq_some]
theorem Yf (a:aV n es) (h:sI n es o v=none):Full es o v:=by
 intro y b;unfold sI at h;rw[List.find?_eq_none]at h;have:=h y (uV.2 (b.lt a).2)
 grind
theorem ky {n:Nat} {es:List Pr} {o:II} (b:aV n es):∀{l:II},lastF n es o l=none->∀x∈l,Full es o x
 |[],_,x,a=>by simp at a
 |v::r,h,x,a=>by
  simp only[lastF]at h;split at h
  .cases h
  .rcases WA.1 a with rfl | a
   .grind [Yf]
   .exact ky b h x a
theorem O6 {n:Nat} {es:List Pr} {o:II} (b:aV n es):∀{l:II} {v w:Nat},lastF n es o l=some (v,w)->∃i,l[i]?=some v/\sI n es o v=some w/\∀(j x:Nat),j<i->l[j]?=some x->Full es o x
 |[],v,w,h=>by cases h
 |u::r,v,w,h=>by
  simp only[lastF]at h;split at h
  .rename_i w' c
   injection h with h;injection h with a h2;subst a h2;exact⟨0,rfl,c,NH⟩
  .obtain ⟨i, a, h2, h3⟩ := O6 b h
   refine⟨i+1,pw,h2,fun j x d e=>?_⟩;cases j<;>grind [Yf]
theorem du.ndlt (b:aV n es) (hs:s<n) (d:du n es s o up):o.Nodup/\∀x∈o,x<n:=by
 induction d with
 |start=>simp[hs]
 |@step o up k v w d c ha hw e hf f=>
  refine⟨?_,fun x a=>?_⟩
  .grind
  .rw [Sb, jf] at a
   rcases a with a|rfl
   .grind
   .exact(ha.lt b).2
theorem du.boundF (a:aV n es) (hs:s<n) (d:du n es s o up):o.length<=n:=by
 have:=(d.ndlt a hs).1.length_le_of_subset (l₂:=List.range n) fun v b=>uV.2 ((d.ndlt a hs).2 v b)
 grind
theorem jM {n:Nat} {es:List Pr} {s:Nat} (a:aV n es) (hs:s<n):∀(k:Nat) {o:II} {up:RZ},du n es s o up->n<o.length+k->Oc n es s (walkN n es k (o,up)).1 (walkN n es k (o,up)).2
 |0,o,up,d,h=>by have:=d.boundF a hs;omega
 |k+1,o,up,d,h=>by
  simp only[walkN,walkS];split
  .rename_i v w b
   obtain⟨i,m,h2,h3⟩:=O6 a b;obtain⟨c,e,f⟩:=ae9 a h2;refine jM a hs k (.step (k:=o.length-1-i) d ?_ c e f fun j x p g=>?_) (by simp;omega)
   .grind
   .have l := (Ny.1 g).1
    refine h3 (o.length-1-j) x NH ?_
    grind
  .rename_i b
   have hf:∀x∈o,Full es o x:=by grind [ky]
   have:∀k,walkN n es k (o,up)=(o,up):=by
    intro k
    induction k<;>grind [walkN,walkS]
   rw[this];exact⟨d,hf⟩
def Te (a:aV n es) (hs:s<n):Oc n es s (K9 n es s).1 (K9 n es s).2:=jM a hs n .start Ma
theorem Oc.eq (a:aV n es) (hs:s<n) (d:Oc n es s o up):o=(K9 n es s).1/\up=(K9 n es s).2:=d.uniq (Te a hs)
section
open Go.Proofs
variable {a b n:Nat} {es:List Pr}
def GW (a b:Nat):Pr:=(min (a:Int) (b:Int),max (a:Int) (b:Int))
theorem aag (a b:Nat):GW a b=GW b a:=by grind [GW]
theorem bj:GW a b=(((min a b:Nat):Int),((max a b:Nat):Int)):=by grind [GW]
theorem H4 (c:aV n es) (h:Jp es a b):GW a b∈es:=by
 unfold GW;rcases h with h|h
 .have:=c _ h;grind
 .have:=c _ h;grind
theorem abS {v a b:Nat} (h:GW v a=GW v b):a=b:=by rw[bj,bj,qy]at h;omega
theorem aa4 (c:aV n es) (h:Jp es a b):GW a b∈es:=H4 c h
theorem Xa (b:aV n es) (h:Jp es a a):False:=by
 rcases h with h|h<;>have:=(b _ h).2.1<;>simp at this
end
end Go.Fw
namespace Go.Fw
open Go.Proofs
def goS (rows:AM) (d:Nat×Nat):Nat×Nat:=
 (d.2,(if(rows.getD d.2 []).getD 0 0=(d.1:Int)then(rows.getD d.2 []).getD 1 0 else(rows.getD d.2 []).getD 0 0).toNat)
def goF (rows:AM):Nat->Nat×Nat->Nat->Nat×Nat
 |0,d,k=>(d.2,k)
 |f+1,d,k=>if(rows.getD d.2 []).length=2 then goF rows f (goS rows d) (k+1)else(d.2,k)
theorem aek (rows:AM):∀(K f:Nat) (d:Nat×Nat) (k:Nat),K<f->(∀i,i<K->(rows.getD (it (goS rows) i d).2 []).length=2)->(rows.getD (it (goS rows) K d).2 []).length≠2->goF rows f d k=((it (goS rows) K d).2,k+K)
 |0,f+1,d,k,_,_,h=>by
  have h':(rows.getD d.2 []).length≠2:=h;rw[goF,if_neg h'];rfl
 |K+1,f+1,d,k,hf,a,h2=>by
  have b:(rows.getD d.2 []).length=2:=a 0 (Nat.succ_pos _);rw[goF,if_pos b,aek rows K f (goS rows d) (k+1) NH (by grind [aaM]) (by rw[<-aaM];exact h2),<-aaM];congr 1;omega
section
variable {n : Nat} {es : List Pr} (hR : aV n es) (hA : D3 es)
include hR hA
theorem aa9 {v:Nat} (h:((Zh n es).getD v []).length=2):∃a b:Nat,(Zh n es).getD v []=[(a:Int),(b:Int)]/\a≠b/\Jp es v a/\Jp es v b/\∀w,Jp es v w->w=a\/w=b:=by
 have f:=KW es hR hA v;have d:=fun w=>EW hR v w;have c:=fun x=>Ru hR (u:=v) (x:=x);generalize (Zh n es).getD v []=r at*
 match r,h with
 |[x,y],_=>
  obtain⟨a,rfl,-⟩:=c x Ma;obtain⟨b,rfl,-⟩:=c y Ma;have e:(a:Int)<(b:Int):=by grind [List.mem_singleton]
  refine⟨a,b,rfl,NH,pw,pw,fun w hw=>?_⟩;have:=(d w).2 hw;simp at this;omega
def goS_adj {d:Nat×Nat} (h2:((Zh n es).getD d.2 []).length=2):Jp es (goS (Zh n es) d).1 (goS (Zh n es) d).2:=by
 obtain⟨a,b,e,ne,h3,c,f⟩:=aa9 hR hA h2;unfold goS;rw[e];split<;>simpa using by assumption
theorem aeP {d c:Nat×Nat} (v:Jp es d.2 d.1) (v':Jp es c.2 c.1) (h2:((Zh n es).getD d.2 []).length=2) (e:goS (Zh n es) d=goS (Zh n es) c):d=c:=by
 obtain⟨l,x⟩:=d;obtain⟨l',x'⟩:=c;have ex:x=x':=congrArg Prod.fst e;subst ex;have f:=congrArg Prod.snd e;obtain⟨a,b,h,ne,h3,i,g⟩:=aa9 hR hA h2;unfold goS at f;rw[h]at f;simp only[af1,af2]at f;have:=g l v;have:=g l' v'
 grind
theorem aa5 {d:Nat×Nat} (v:Jp es d.1 d.2):∀k,(∀i,i<k->((Zh n es).getD (it (goS (Zh n es)) i d).2 []).length=2)->Jp es (it (goS (Zh n es)) k d).1 (it (goS (Zh n es)) k d).2
 |0,_=>v
 |k+1,h=>goS_adj hR hA pw
def aeQ {d:Nat×Nat} (v:Jp es d.1 d.2) {K:Nat} (h:∀i,i<K->((Zh n es).getD (it (goS (Zh n es)) i d).2 []).length=2):∀i j,i<j->j<=K->it (goS (Zh n es)) i d=it (goS (Zh n es)) j d->d=it (goS (Zh n es)) (j-i) d
 |0,j,_,_,e=>e
 |i+1,j+1,a,c,e=>by
  have a1:=aa5 hR hA v i fun q b=>h q NH;have a2:=aa5 hR hA v j fun q b=>h q NH;have:=aeQ v h i j NH NH (aeP hR hA a1.symm a2.symm (h i NH) e);rwa[show j+1-(i+1)=j-i by omega]
theorem go_ends {c v:Nat} (b:Jp es c v) (p:((Zh n es).getD c []).length≠2):∃K,K<=n*n/\(∀i,i<K->((Zh n es).getD (it (goS (Zh n es)) i (c,v)).2 []).length=2)/\((Zh n es).getD (it (goS (Zh n es)) K (c,v)).2 []).length≠2:=by
 by_cases H:∀K,K<=n*n->(∀i,i<K->((Zh n es).getD (it (goS (Zh n es)) i (c,v)).2 []).length=2)->((Zh n es).getD (it (goS (Zh n es)) K (c,v)).2 []).length=2
 rotate_left
 .simp only [Classical.not_forall] at H
  obtain⟨K,d,h2,h3⟩:=H;exact pw
 have all:∀K,K<=n*n+1->∀i,i<K->((Zh n es).getD (it (goS (Zh n es)) i (c,v)).2 []).length=2:=by
  intro K
  induction K with
  |zero=>omega
  |succ K g=>
   intro q i hi;rcases Nat.lt_succ_iff_lt_or_eq.1 hi with h|rfl
   .exact g NH i h
   .exact pw
 have all:=all _ (qL0 _);let code:Nat->Nat:=fun i=>(it (goS (Zh n es)) i (c,v)).1*n+(it (goS (Zh n es)) i (c,v)).2;have lt:∀i,i<=n*n->(it (goS (Zh n es)) i (c,v)).1<n/\(it (goS (Zh n es)) i (c,v)).2<n:=fun i hi=>
  (aa5 hR hA b i pw).lt hR
 have nd:((List.range (n*n+1)).map code).Nodup:=by
  have key:∀i j,i<j->j<=n*n->code i≠code j:=fun i j a k e=>by
   obtain⟨a1,a2⟩:=lt i NH;obtain⟨r,l⟩:=lt j k;have e':(it (goS (Zh n es)) i (c,v)).1*n+(it (goS (Zh n es)) i (c,v)).2=(it (goS (Zh n es)) j (c,v)).1*n+(it (goS (Zh n es)) j (c,v)).2:=e;have s:0<n:=NH;have m2:(it (goS (Zh n es)) i (c,v)).2=(it (goS (Zh n es)) j (c,v)).2:=by
    have:=congrArg (·%n) e';simp only[Nat.mul_add_mod_self_right]at this;rwa[U9 a2,U9 l]at this
   have m1:(it (goS (Zh n es)) i (c,v)).1=(it (goS (Zh n es)) j (c,v)).1:=by exact(by grind [Nat.eq_of_mul_eq_mul_right])
   have f:=aeQ hR hA b (K:=n*n+1) all i j a NH (IC m1 m2);obtain⟨t,m⟩:∃t,j-i=t+1:=⟨j-i-1,NH⟩;rw[m]at f;have:c=(it (goS (Zh n es)) t (c,v)).2:=congrArg Prod.fst f;exact pw
  rw[kc,Hs];exact ff pw pz
 have:=tf nd (B:=List.range (n*n)) fun x o=>by
  obtain⟨i,hi,rfl⟩:=HV.1 o;have hi:=uV.1 hi;obtain⟨a1,a2⟩:=lt i NH;rw[uV];have d:((it (goS (Zh n es)) i (c,v)).1+1)*n<=n*n:=Gg n a1;rw[aaL,Nat.one_mul]at d;show(it (goS (Zh n es)) i (c,v)).1*n+(it (goS (Zh n es)) i (c,v)).2<n*n;omega
 simp only[eR,mg]at this;omega
end
def aax (rows:AM) (v:Nat):Bool:=(rows.getD v []).length==3||(rows.getD v []).length==4
def aac (rows:AM):II:=(List.range rows.length).filter fun v=>aax rows v
def aai (rows:AM) (cs:II):List (Nat×Nat):=cs.flatMap fun c=>(rows.getD c []).map fun x=>(c,x.toNat)
def aaj (rows:AM) (d:Nat×Nat):Nat×Nat:=goF rows 40001 d 0
def aaD (rows:AM) (d:Nat×Nat):Pr:=(min (d.1:Int) ((aaj rows d).1:Int),max (d.1:Int) ((aaj rows d).1:Int))
def aaE (rows:AM) (cs:II) (p:Pr):Nat:=((aai rows cs).map (aaD rows)).count p
def aaO (rows:AM) (cs:II):Nat:=((aai rows cs).map fun d=>(aaj rows d).2+1).sum
def aba (W:Pr->Nat) (A B:II):Bool:=A.all fun c=>B.all fun d=>c==d||W (min (c:Int) (d:Int),max (c:Int) (d:Int))==2
def aaV (W:Pr->Nat) (cs:II):Bool:=
 let f:=cs.headD 0;let A:=cs.filter fun(c:Nat)=>W ((f:Int),((c:Nat):Int))==0;let B:=cs.filter fun(c:Nat)=>W ((f:Int),((c:Nat):Int))!=0
 A.length==3&&!B.contains f&&aba W A B
def aaT (es:List Pr):Int:=
 let rows:=Zh 200 es
 if rows.any (fun r=>!(r.length==0||r.length==2||r.length==3||r.length==4))then 0 else
 let cs:=aac rows
 if cs.length=5 then
  if cs.any (fun c=>(rows.getD c []).length !=4)then 0
  else if aaO rows cs≠2*es.length then 0
  else if aba (aaE rows cs) cs cs then 5 else 0
 else if cs.length=6 then
  if cs.any (fun c=>(rows.getD c []).length !=3)then 0
  else if aaO rows cs≠2*es.length then 0
  else if aaV (aaE rows cs) cs then 33 else 0
 else 0
attribute [local instance] Classical.propDecidable in
noncomputable def aat (es:List Pr):Int:=if bX ⟨200,es⟩then aaT es else 0
def ab6 {n:Nat} {es:List Pr} (hR:aV n es) (hA:D3 es) (a:n<=200) {c v:Nat} (b:Jp es c v) (d:((Zh n es).getD c []).length≠2):
  ∃K,K<=40000/\(∀i,i<K->((Zh n es).getD (it (goS (Zh n es)) i (c,v)).2 []).length=2)/\((Zh n es).getD (it (goS (Zh n es)) K (c,v)).2 []).length≠2/\aaj (Zh n es) (c,v)=((it (goS (Zh n es)) K (c,v)).2,K):=by
 obtain⟨K,e,h2,h3⟩:=go_ends hR hA b d;have f:K<=40000:=jz e (kS a a);refine⟨K,f,h2,h3,?_⟩;rw[aaj,aek _ K 40001 _ _ NH h2 h3,BS]
end Go.Fw
