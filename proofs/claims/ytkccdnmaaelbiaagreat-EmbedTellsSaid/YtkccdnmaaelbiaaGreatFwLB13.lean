/- A text. -/
import Derived.Test.YtkccdnmaaelbiaaGreatFwLB6
set_option linter.all false
set_option maxRecDepth 99999
set_option maxHeartbeats 9999999
open Go.Proofs
namespace Go.Fw
section
attribute [local irreducible] Kp MQ lU rS KO KN KX KE VK Kl ZJ TC aab
variable {h:aae} {i:Nat} {l:II} {ps:List Pr} {v:Value} {xs:RZ}
def GI(h:aae)(v:Value)(xs:RZ):Prop:=GS 1 h v xs.length (Bp xs)
theorem GI.le{h h':aae}{v:Value}{xs:RZ}(g:GI h v xs)(e:Le h h'):GI h' v xs:=GS.le g e
theorem GI.rl(g:GI h v xs):RL RP h v xs:=RL.Wh (GS.cs g).rs
theorem GI.nil(h:aae):GI h (.slice none 0 0) []:=GS.nil 1 h
theorem GI.push{h:aae}{v:Value}{xs:RZ}(g:GI h v xs)(d:WF h)(x:Int)(n:xs.length<=100000):
  ∃v' c a,abB Tryz.prog h 49 1 [(0,.int .i64 x)]=some (.slice (some ⟨h.next,0,none⟩) 1 1,c)/\adg Tryz.prog c 49 49 v (.slice (some ⟨h.next,0,none⟩) 1 1)=some (v',a)/\GI a v' (xs++[x])/\WF a/\Le h c/\
   (∀f,Le f h->Z2 f v->Le f a/\Z2 f v')/\(∀b o,h.own b=some o->blk v≠some b->a.own b=some o/\blk v'≠some b):=by
 obtain⟨c,j,l4,e,k⟩:=Tt d [.int .i64 x];obtain⟨v',a,i,p,hf⟩:=(GS.le g l4).push (P:=Tryz.prog) (t:=49) Ji k (yG _) rfl NH;refine⟨v',c,a,by rw[DQ,j],i,?_,xr e i,l4,fun f l af=>hf f e (l.trans l4) af,fun b o m hb=>aG hf e (l4.own _ _ m) hb⟩;grind[Bp,GI.eq_1]
def GP(h:aae)(v:Value)(ps:List Pr):Prop:=GS 2 h v ps.length (Iu ps)
theorem GP.le{h h':aae}{v:Value}{ps:List Pr}(g:GP h v ps)(e:Le h h'):GP h' v ps:=GS.le g e
theorem GP.pr(g:GP h v ps):PR h v ps:=GS.cs g
theorem GP.nil(h:aae):GP h (.slice none 0 0) []:=GS.nil 2 h
theorem GP.join{v x:Value}{ps c:List Pr}(g:GP h v ps)(d:WF h)(i:PR h x c)(l:ps.length+c.length<=1000000000):
  ∃v' a,adg Tryz.prog h 22 22 v x=some (v',a)/\GP a v' (ps++c)/\WF a/\
   (∀f,Le f h->Z2 f v->Le f a/\Z2 f v')/\(∀b o,h.own b=some o->blk v≠some b->a.own b=some o/\blk v'≠some b):=by
 obtain⟨v',a,m,n,hf⟩:=GS.append (P:=Tryz.prog) (t:=22) (xt:=22) (k:=2) Ji g (fun e j=>CS.src j i) (WI _) (WI _) (Ta _) NH;grind[xr,aG,GP.eq_1,mZ]
theorem mkP1(h:aae)(p:Pr):abB Tryz.prog h 22 1 [(0,UI p)]=some (.slice (some ⟨h.next,0,none⟩) 1 1,h.alloc (.cells (xM p))):=rfl
theorem GP.push(g:GP h v ps)(d:WF h)(p:Pr)(l:ps.length+1<=100000):
  ∃v' c a,abB Tryz.prog h 22 1 [(0,UI p)]=some (.slice (some ⟨h.next,0,none⟩) 1 1,c)/\adg Tryz.prog c 22 22 v (.slice (some ⟨h.next,0,none⟩) 1 1)=some (v',a)/\GP a v' (ps++[p])/\WF a/\Le h c/\
   (∀f,Le f h->Z2 f v->Le f a/\Z2 f v')/\(∀b o,h.own b=some o->blk v≠some b->a.own b=some o/\blk v'≠some b):=by
 obtain⟨c,m,l4,e,i⟩:=Tt d (xM p)
 have j:PR c (.slice (some ⟨h.next,0,none⟩) 1 1) [p]:=by have:=CS.own (k:=2) (off:=0) (n:=1) (cap:=1) i (by simp[xM]);exact this
 obtain⟨v',a,q,r,s,hf,t⟩:=(g.le l4).join e j (by simp;omega);grind[mkP1,Le.trans,Le.own]
def abi(d:LA)(v:Value)(ps:List Pr)(h:aae)(e:PR h v ps)(i:ps.length<=100000):AC Tryz.prog d 18 [v] h fun x h'=>GP h' x ps/\Le h h'/\Z2 h x:=by refine AC.vE ⟨Tryz.func18,rfl,WY⟩ Tryz.ntmps18 Tryz.results18 fun c=>?_;simp only[Br,seval];obtain⟨v',j,f,g,k,hf,-⟩:=(GP.nil h).join c e (by simp;omega);obtain⟨l,a⟩:=hf h (Le.refl h) (fun b hb=>by simp[blk]at hb);refine Sk f ?_;exact⟨g,l,a⟩
theorem yy(L:RZ)(i:Nat)(x:Int):(Bp L).set i (.int .i64 x)=Bp (L.set i x):=by simp[Bp,adH]
def aaa(l:II):RZ:=l.map fun(x:Nat)=>(x:Int)
theorem y6(l:II):(aaa l).length=l.length:=by simp[aaa]
theorem sY(hi:i<l.length):(aaa l)[i]'(by grind[y6])=((l[i]:Nat):Int):=by simp[aaa]
theorem tS(W0:LA)(v o:Value)(n:Nat)(es:List Pr)(bs:List Bool)(h:aae)(hg:GR h v ⟨(n:Int),es⟩)(hr:bX ⟨(n:Int),es⟩)(hb:RL sJ h o bs)(bQ:bs.length=n):
  AC Tryz.prog W0 135 [v,o] h fun x h'=>∃L,RL RP h' x L/\wx n (fun u=>bs.getD u false) es L/\Le h h':=by
 have a1:=hg
 obtain⟨ev,rfl,hp⟩:=hg.open
 have bN:(n:Int)<=200:=hr.n1;have hR:=hr.GD;refine AC.vE ⟨Tryz.func135,rfl,WY⟩ Tryz.ntmps135 Tryz.results135 fun a7=>?_;simp only[Br,seval];obtain⟨h1,b1,ae,bT,-,lA⟩:=r8 (n:=(n:Int)) a7 hp
 generalize h.next=B at*
 have a8:=lA h1 (Le.refl _);simp only[HO,seval,b1,a8.1];refine TC.intro PJ ⟨zj,rfl,WY⟩ (oe W0 _ n es h1 (a1.le ae) hr) ?_;rintro y hB ba ⟨G,H⟩;have bW:=lA hB H;obtain⟨h2,e2,Q,bb,o2⟩:=Tt ba [.int .i64 (-1)];have bg:=lA h2 (H.trans Q);simp only[HO,seval,DQ,e2,Ii,Ip,Gc,bg.2.1];refine TC.intro PJ ⟨NQ,rfl,WY⟩ (rN W0 _ n NH h2 (RL.Wh (RS.whole o2 rfl))) ?_;rintro x h3 bY ⟨T,rfl,hT,o3,ay⟩;have fT:=lA h3 ((H.trans Q).trans ay);have az:=Q.trans ay
 have nT:hB.own T=none:=Q.next bb hT
 have bh:h3.own T=some (.cells (Bp (List.replicate n (-1)))):=by rw[o3];simp[Bp]
 simp only[HO,seval,Ii,Ip,Gc,fT.2.1];let on:Nat->Bool:=fun u=>bs.getD u false;have bZ:=hb.le Nn.sJ (ae.trans H);have aB:∀g,Le hB g->∀u,u<n->acd Tryz.prog g 4 (abv o u)=some (.bool (on u)):=fun g lg u hu=>by grind[RL.le,Nn.sJ,RL.W7]
 have z:∀(k:IntKind)(u:Nat),u<n->abX Tryz.prog 59 o (.int k u)=some (.pointer (some (abv o u))):=fun k u hu=>hb.LB u NH;have R:∀(k:IntKind)(j:Nat),j<n->abX Tryz.prog 49 (.slice (some ⟨T,0,none⟩) n n) (.int k j)=some (.pointer (some ⟨T,j,none⟩)):=fun k j hj=>by rw[Wc Mb Ac Ji j hj];simp[Ip]
 have aC:∀(g:aae)(L:RZ)(j:Nat)(l:Int),g.own T=some (.cells (Bp L))->L[j]?=some l->acd Tryz.prog g 3 ⟨T,j,none⟩=some (.int .i64 l):=fun g L j l ho hl=>by rw[Fq Ac rfl ho];simp[Bp,hl]
 refine aab.intro (fun k fr hh=>∃(v:Nat)(L:RZ),k=n-v/\v<=n/\fr=mkF [(1,o),(5,y),(6,.slice (some ⟨T,0,none⟩) n n),(19,.int .i64 n),(20,.int .i64 v)]/\hh.own T=some (.cells (Bp L))/\Le hB hh/\TO n on es v L)
  n [(1,o),(5,y),(6,.slice (some ⟨T,0,none⟩) n n),(19,.int .i64 n),(20,.int .i64 (0:Nat))] hAs ⟨0,_,rfl,WA _,rfl,bh,az,TO.start n on es⟩ ?_
 rintro k fr hh ag ⟨v,L,rfl,hv,rfl,oT,A,tO⟩;refine Uy ?_;refine Kl.intro (fun ht=>?_) (fun hf=>?_)
 rotate_left
 .have aD:n<=v:=vp hf;obtain rfl:v=n:=NH;refine Uy ?_;exact⟨L,RL.Wh (RS.whole oT (by grind[TO.len])),tO.done hR,(ae.trans H).trans A⟩
 have c:v<n:=CC ht;clear ht;have S:=CA (show v<L.length by grind[TO.len]);generalize L[v]'(by grind)=lv at S
 have C:=aB hh A v c;have aj:=aC hh L v lv oT S;by_cases c1:on v=true
 .rw[c1]at C;simp only[HO,seval,z _ v c,C,Tw v NH];exact tn (n-(v+1)) [(1,o),(5,y),(6,.slice (some ⟨T,0,none⟩) n n),(19,.int .i64 n),(20,.int .i64 (v+1:Nat))] NH hAs ⟨v+1,L,rfl,c,rfl,oT,A,tO.skip (.inl c1)⟩
 rw[SR]at c1;rw[c1]at C;by_cases c2:lv>=0
 .simp only[HO,seval,z _ v c,C,R _ v c,aj,c2,Tw v NH];exact tn (n-(v+1)) [(1,o),(5,y),(6,.slice (some ⟨T,0,none⟩) n n),(19,.int .i64 n),(20,.int .i64 (v+1:Nat))] NH hAs ⟨v+1,L,rfl,c,rfl,oT,A,tO.skip (.inr (by rw[S];intro e;injection e with e;omega))⟩
 have aa:L[v]?=some (-1):=by grind[TO.val]
 have st1:acs Tryz.prog hh 3 (.pointer (some ⟨T,v,none⟩)) (.int .i64 (v:Int))=some (hh.put T (.cells (Bp (L.set v (v:Int))))):=by rw[QB (P:=Tryz.prog) (t:=3) (x:=.int .i64 (v:Int)) Ac Ji oT (off:=v) (by rw[uE,tO.len];exact c) rfl rfl,yy]
 have D:WF (hh.put T (.cells (Bp (L.set v (v:Int))))):=ag.put _ (ag.lt oT);have I:Le hB (hh.put T (.cells (Bp (L.set v (v:Int))))):=A.put _ nT;have J:(hh.put T (.cells (Bp (L.set v (v:Int))))).own T=some (.cells (Bp (L.set v (v:Int)))):=aae.Y3 _ _ _;simp only[HO,seval,z _ v c,C,R _ v c,aj,c2,st1];generalize hh.put T (.cells (Bp (L.set v (v:Int))))=h4 at*;obtain⟨h5,e5,al,bj,o5⟩:=Tt D [.int .i64 (v:Int)]
 have nM:hB.own h4.next=none:=I.next D (qL0 _)
 have bk:T≠h4.next:=fun e=>by have:=D.lt J;omega
 simp only[HO,seval,DQ,e5];have aE:=tO.begin c c1 aa (fun a w=>(∃j,j<0/\[v][j]?=some a)/\Jp es a w/\on w=false) (fun a w h=>by grind)
 have gM:GI h5 (.slice (some ⟨h4.next,0,none⟩) 1 1) (aaa [v]):=GS.full o5 rfl (show 1<1000000000000 by decide)
 refine aab.intro (fun k fr m=>∃(i:Nat)(L:RZ)(d:Value)(met:II),k=n-i/\i<=met.length/\fr=mkF [(1,o),(5,y),(6,.slice (some ⟨T,0,none⟩) n n),(7,.int .i64 v),(8,d),(9,.int .i64 i),(19,.int .i64 n),(20,.int .i64 v)]/\
   m.own T=some (.cells (Bp L))/\Le hB m/\GI m d (aaa met)/\blk d≠some T/\Z2 hB d/\TI n on es v L met (fun a w=>(∃j,j<i/\met[j]?=some a)/\Jp es a w/\on w=false))
  n [(1,o),(5,y),(6,.slice (some ⟨T,0,none⟩) n n),(7,.int .i64 v),(8,.slice (some ⟨h4.next,0,none⟩) 1 1),(9,.int .i64 (0:Nat)),(19,.int .i64 n),(20,.int .i64 v)] hAs
  ⟨0,_,_,[v],rfl,WA _,rfl,al.own _ _ J,I.trans al,gM,by grind[blk],fun b hb=>by grind[blk],aE⟩ ?_
 clear aE gM bk nM o5 bj al e5 h5 J I D st1 C aj S aa c2 oT A tO ag;clear h4 hh L;rintro k fr m U ⟨i,L,d,met,rfl,hi,rfl,oT,leq,gm,nm,am,E⟩;have lm:=fun g=>gm.rl.DH g;have aF:=E.abK;rw[y6]at lm;simp only[HO,seval,lm];refine Kl.intro (fun ht=>?_) (fun hf=>?_)
 rotate_left
 .have aD:met.length<=i:=vp hf;simp only[HO,seval,Tw v NH];refine tn (n-(v+1)) [(1,o),(5,y),(6,.slice (some ⟨T,0,none⟩) n n),(19,.int .i64 n),(20,.int .i64 (v+1:Nat))] NH hAs ⟨v+1,L,rfl,c,rfl,oT,leq,E.finish fun a w ha V bm=>⟨?_,V,bm⟩⟩;grind[List.mem_iff_getElem?]
 have p:i<met.length:=CC ht;clear ht;have f:=CA p;have aH:=sY p;have aJ:=gm.rl.TA i (by rw[y6];exact p);have W:=gm.rl.Uc i (by rw[y6];exact p);rw[aH]at W;generalize met[i]=u at f W;clear aH;have K:u∈met:=BS f;have b0:u<n:=by have:=(Ny.1 ((E.mm u).1 K)).1;grind[TI.len]
 have aq:u<(Zh n es).length:=by grind[Xq]
 have bo:=G.NS u aq;obtain⟨uv,br,s⟩:=G.Wm u aq;have bx:(Zh n es).getD u []=(Zh n es)[u]:=D4 aq;generalize (Zh n es)[u]=row at s bx;have lr:=fun g=>s.DH g;have b2:row.length<=2000:=by have:=bV n es row (by grind);have:es.length<=594:=hr.len;omega
 simp only[HO,seval,aJ,W,bo,br m leq,lr];have aK:TI n on es v L met (fun a w=>((∃j,j<i/\met[j]?=some a)/\Jp es a w/\on w=false)\/(a=u/\(w:Int)∈row.take 0/\on w=false)):=E.mono fun a w h=>by grind
 refine aab.intro (fun k fr m=>∃(q:Nat)(L:RZ)(d:Value)(met:II),k=row.length-q/\q<=row.length/\fr=mkF [(1,o),(5,y),(6,.slice (some ⟨T,0,none⟩) n n),(7,.int .i64 v),(8,d),(9,.int .i64 i),(19,.int .i64 n),(20,.int .i64 v),(52,uv),(53,.int .i64 row.length),(54,.int .i64 q)]/\
   m.own T=some (.cells (Bp L))/\Le hB m/\GI m d (aaa met)/\blk d≠some T/\Z2 hB d/\met[i]?=some u/\TI n on es v L met (fun a w=>((∃j,j<i/\met[j]?=some a)/\Jp es a w/\on w=false)\/(a=u/\(w:Int)∈row.take q/\on w=false)))
  row.length [(1,o),(5,y),(6,.slice (some ⟨T,0,none⟩) n n),(7,.int .i64 v),(8,d),(9,.int .i64 i),(19,.int .i64 n),(20,.int .i64 v),(52,uv),(53,.int .i64 row.length),(54,.int .i64 (0:Nat))] hAs
  ⟨0,L,d,met,rfl,WA _,rfl,oT,leq,gm,nm,am,f,aK⟩ ?_
 clear aK aJ W lm;clear K f p aF E am nm gm leq oT U hi;clear m L d met;rintro k fr m U ⟨q,L,d,met,rfl,b3,rfl,oT,leq,gm,nm,am,f,E⟩;have K:u∈met:=BS f;have aF:=E.abK;have p:=(Ny.1 f).1;refine Uy ?_;refine Kl.intro (fun ht=>?_) (fun hf=>?_)
 rotate_left
 .have aD:row.length<=q:=vp hf;simp only[HO,seval,Tw i NH];refine tn (n-(i+1)) [(1,o),(5,y),(6,.slice (some ⟨T,0,none⟩) n n),(7,.int .i64 v),(8,d),(9,.int .i64 (i+1:Nat)),(19,.int .i64 n),(20,.int .i64 v)] NH hAs ⟨i+1,L,d,met,rfl,p,rfl,oT,leq,gm,nm,am,E.mono fun a w h=>?_⟩;grind[EW]
 have F:q<row.length:=CC ht;clear ht;have ar:=s.TA q F;have X:=(s.le Nn.RP leq).Uc q F;have bB:row.take (q+1)=row.take q++[row[q]]:=EL F;have av:row[q]∈(Zh n es).getD u []:=pw;generalize row[q]=x at X bB av;obtain⟨w,rfl,r⟩:=Ru hR av;have V:=(EW hR u w).1 av;have M:=CA (show w<L.length by grind[TI.len]);generalize L[w]'(by grind)=lw at M
 have N:=aB m leq w r;have aP:=aC m L w lw oT M;by_cases c3:on w=true
 .rw[c3]at N;simp only[HO,seval,ar,X,z _ w r,N,Tw q NH];refine tn (row.length-(q+1)) [(1,o),(5,y),(6,.slice (some ⟨T,0,none⟩) n n),(7,.int .i64 v),(8,d),(9,.int .i64 i),(19,.int .i64 n),(20,.int .i64 v),(52,uv),(53,.int .i64 row.length),(54,.int .i64 (q+1:Nat))] NH hAs
   ⟨q+1,L,d,met,rfl,F,rfl,oT,leq,gm,nm,am,f,E.mono fun a b h=>?_⟩
  rcases h with h|⟨h1,h2,h3⟩
  .exact .inl h
  grind
 rw[SR]at c3;rw[c3]at N;have aT:∀(O:II),(∀j,j<met.length->O[j]?=met[j]?)->∀a b,((∃j,j<i/\O[j]?=some a)/\Jp es a b/\on b=false)\/(a=u/\(b:Int)∈row.take (q+1)/\on b=false)->
   (((∃j,j<i/\met[j]?=some a)/\Jp es a b/\on b=false)\/(a=u/\(b:Int)∈row.take q/\on b=false))\/b=w:=fun O hm a b h=>by
  rcases h with⟨⟨j,hj,b4⟩,h2⟩|⟨h1,h2,h3⟩
  .grind
  grind
 by_cases c4:lw<0
 rotate_left
 .simp only[HO,seval,ar,X,z _ w r,N,R _ w r,aP,c4,Tw q NH];exact tn (row.length-(q+1)) [(1,o),(5,y),(6,.slice (some ⟨T,0,none⟩) n n),(7,.int .i64 v),(8,d),(9,.int .i64 i),(19,.int .i64 n),(20,.int .i64 v),(52,uv),(53,.int .i64 row.length),(54,.int .i64 (q+1:Nat))] NH hAs
   ⟨q+1,L,d,met,rfl,F,rfl,oT,leq,gm,nm,am,f,E.stay K V ⟨lw,M,NH⟩ (aT met fun _ _=>rfl)⟩
 have aV:L[w]?=some (-1):=by
  rcases E.val w lw M with rfl|⟨_,k,_,rfl,_⟩
  .exact M
  .omega
 have st1:acs Tryz.prog m 3 (.pointer (some ⟨T,w,none⟩)) (.int .i64 (v:Int))=some (m.put T (.cells (Bp (L.set w (v:Int))))):=by rw[QB (P:=Tryz.prog) (t:=3) (x:=.int .i64 (v:Int)) Ac Ji oT (off:=w) (by rw[uE,E.len];exact r) rfl rfl,yy]
 have D:WF (m.put T (.cells (Bp (L.set w (v:Int))))):=U.put _ (U.lt oT);have I:Le hB (m.put T (.cells (Bp (L.set w (v:Int))))):=leq.put _ nT;have J:(m.put T (.cells (Bp (L.set w (v:Int))))).own T=some (.cells (Bp (L.set w (v:Int)))):=aae.Y3 _ _ _;have bF:GI (m.put T (.cells (Bp (L.set w (v:Int))))) d (aaa met):=GS.put gm _ nm;simp only[HO,seval,ar,X,z _ w r,N,R _ w r,aP,c4,st1];generalize m.put T (.cells (Bp (L.set w (v:Int))))=h4 at*;obtain⟨aW,h5,h6,e5,e6,g6,w6,l5,hf,hk⟩:=bF.push D (w:Int) (by grind[y6]);obtain⟨l6,a6⟩:=hf hB I am;obtain⟨bH,bI⟩:=hk T _ J nm;have aX:aaa met++[(w:Int)]=aaa (met++[w]):=by simp[aaa]
 rw[aX]at g6;simp only[HO,seval,e5,e6,Tw q NH];exact tn (row.length-(q+1)) [(1,o),(5,y),(6,.slice (some ⟨T,0,none⟩) n n),(7,.int .i64 v),(8,aW),(9,.int .i64 i),(19,.int .i64 n),(20,.int .i64 v),(52,uv),(53,.int .i64 row.length),(54,.int .i64 (q+1:Nat))] NH hAs
  ⟨q+1,_,aW,met++[w],rfl,F,rfl,bH,l6,g6,bI,a6,by rw[kc p];exact f,E.push K V c3 aV (aT _ fun j hj=>kc hj)⟩
variable {es:List Pr} {j n s t v w:Nat} {met:List Bool} {o opn tH:II} {up:RZ}
theorem D3.lt(a:D3 es){p q:Pr}(b:i<j)(hi:es[i]?=some p)(c:es[j]?=some q):p.1<q.1\/p.1=q.1/\p.2<q.2:=(Hv p q).1 (a i j p q b hi c)
theorem OZ:∀(k:Nat)(es:List Pr),es.length=k->InR n es->D3 es->∀u,((Zh n es).getD u []).Pairwise (·<·):=by
 intro k
 induction k with
 |zero=>
  intro es d _ _ u;obtain rfl:=Lm d;have f:(Zh n []).getD u []=[]:=by grind[Zh]
  rw[f];exact .nil
 |succ k s=>
  intro g d t ha u;obtain⟨es,p,rfl⟩:∃es p,g=es++[p]:=by
   rcases wV g with rfl|⟨es,p,h⟩
   all_goals grind
  have c:InR n es:=fun q m=>t q (by simp[m]);have mi:D3 es:=fun i j a b o hi B=>ha i j a b o pw pw;have s:=s es pw c mi;have C:=t p Ma;have low:∀u:Nat,∀x∈(Zh n es).getD u [],((u:Int)=p.1->x<p.2)/\((u:Int)=p.2->x<p.1):=by
   intro u x v;obtain⟨w,rfl,_⟩:=Ru c v;have l:=(EW c u w).1 v;have key:∀q∈es,q.1<p.1\/q.1=p.1/\q.2<p.2:=by intro q m;obtain⟨i,hi⟩:=qy.1 m;have r:=(Ny.1 hi).1;exact ha.lt (i:=i) (j:=es.length) r pw Ma
   rcases l with h|h<;>have y:=c _ h<;>have h2:=key _ h<;>simp only at y h2<;>constructor<;>intro e<;>omega
  have gd:∀(rows:AM)(x:Int)(i:Nat),(rows.set i (rows.getD i []++[x])).getD u []=if i=u/\i<rows.length then rows.getD u []++[x]else rows.getD u []:=pw
  rw[NJ];have z:=Xq n es;have y:p.1.toNat<n:=NH;simp only[Xs];rw[gd];simp only[Zw,z];have A:=gd (Zh n es) p.2 p.1.toNat;rw[z]at A;rw[A];by_cases D:p.1.toNat=u
  .grind
  .by_cases E:p.2.toNat=u
   .grind
   grind
theorem KW(es:List Pr)(a:InR n es)(ha:D3 es)(u:Nat):((Zh n es).getD u []).Pairwise (·<·):=OZ es.length es rfl a ha u
def Full(es:List Pr)(o:II)(x:Nat):Prop:=∀y,Jp es x y->y∈o
inductive du (n:Nat) (es:List Pr) (from_:Nat):II->RZ->Prop
 |start:du n es from_ [from_] (List.replicate n (-1))
 |step {o:II} {up:RZ} {k v w:Nat}:du n es from_ o up->o[k]?=some v->Jp es v w->w∉o->(∀y,Jp es v y->y∉o->w<=y)->(∀(j x:Nat),k<j->o[j]?=some x->Full es o x)->du n es from_ (o++[w]) (up.set w (v:Int))
structure Oc (n:Nat) (es:List Pr) (from_:Nat) (o:II) (up:RZ):Prop where
 KP:du n es from_ o up
 full:∀x∈o,Full es o x
theorem du.len(d:du n es s o up):1<=o.length/\up.length=n:=by
 induction d<;>grind
theorem du.same(d:du n es s o up):∀{b:II}{a:RZ},du n es s b a->o.length=b.length->o=b/\up=a:=by
 induction d with
 |start=>intro b a c j;cases c<;>grind
 |@step o up k v w d l ha hw u hf m=>
  intro b a c j;cases c with
  |start=>grind
  |@step x p k1 q w1 d1 e f g r i=>
   obtain⟨rfl,rfl⟩:=m d1 pw;have t:k=k1:=by
    rcases zO k k1 with h|h|h
    .exact absurd (hf k1 q h e w1 f) g
    .exact h
    .exact absurd (i k v h l w ha) hw
   grind
theorem du.peel(d:du n es s o up):∀m,1<=m->m<o.length->∃a b,du n es s a b/\a.length=m/\∃x∈a,¬Full es a x:=by
 induction d with
 |start=>grind
 |@step o up k v w d c ha hw e hf g=>
  intro m i h2;by_cases h:m<o.length
  .grind
  .simp at h2;exact⟨o,up,d,NH,v,BS c,fun f=>hw (f w ha)⟩
theorem Oc.uniq{o d:II}{up c:RZ}(a:Oc n es s o up)(b:Oc n es s d c):o=d/\up=c:=by
 have key:∀{o d:II}{up c:RZ},Oc n es s o up->Oc n es s d c->¬o.length<d.length:=by intro o d up c a b h;obtain⟨g,e,d2,f,x,i,hf⟩:=b.KP.peel o.length a.KP.len.1 h;obtain⟨rfl,rfl⟩:=a.KP.same d2 f.symm;grind[Oc.full]
 have j:=key a b;have h2:=key b a;exact a.KP.same b.KP NH
structure DS (n:Nat) (es:List Pr) (s:Nat) (met:List Bool) (tH:II) (o opn:II) (up:RZ):Prop where
 KP:du n es s o up
 metl:met.length=n
 mm:∀v,v<n->(met[v]?=some true↔v∈o)
 trl:tH.length=n
 tr:∀v t,tH[v]?=some t->t<=((Zh n es).getD v []).length/\∀x∈((Zh n es).getD v []).take t,x.toNat∈o
 sub:opn.Sublist o
 closed:∀v∈o,v∉opn->Full es o v
 lt:∀v∈o,v<n
 nodup:o.Nodup
theorem DS.start{n:Nat}{es:List Pr}{s:Nat}(hs:s<n):DS n es s ((List.replicate n false).set s true) (List.replicate n 0) [s] [s] (List.replicate n (-1)) where
 KP:=.start
 metl:=by simp
 mm v a:=pw
 trl:=by simp
 tr v t c:=pw
 sub:=List.Sublist.refl _
 closed v a b:=absurd a b
 lt v a:=pw
 nodup:=by simp
theorem DS.len_o(d:DS n es s met tH o opn up):o.length<=n:=by have:o.length<=(List.range n).length:=d.nodup.length_le_of_subset (by grind[DS.lt]);grind
def DS.len_opn(d:DS n es s met tH o opn up):opn.length<=n:=Tn d.sub.length_le d.len_o
theorem DS.pop(b:InR n es)(d:DS n es s met tH o (opn++[v]) up)(a:tH[v]?=some ((Zh n es).getD v []).length):DS n es s met tH o opn up:=
 {d with
  sub:=by grind[List.Sublist.trans,DS.sub]
  closed:=fun x c f=>by
   by_cases e:x=v
   .intro y g;have:=(d.tr _ _ a).2 y (by grind[EW]);grind
   grind[DS.closed]}
theorem DS.skip{x:Int}(d:DS n es s met tH o opn up)(f:tH[v]?=some t)(c:((Zh n es).getD v [])[t]?=some x)(h:x.toNat∈o):DS n es s met (tH.set v (t+1)) o opn up:=
 {d with
  trl:=by simp[d.trl]
  tr:=fun u q a=>by
   rw[VU]at a;split at a
   .rename_i e;subst e;split at a
    .injection a with a;subst a;have g:=(Ny.1 c).1;refine⟨g,fun y b=>?_⟩;rw[alk,c]at b;simp at b;rcases b with b|b
     .exact(d.tr _ _ f).2 y b
     grind
    .cases a
   .exact d.tr u q a}
theorem DS.last(d:DS n es s met tH o (opn++[v]) up):
  ∃k,o[k]?=some v/\∀(j x:Nat),k<j->o[j]?=some x->Full es o x:=by
 obtain⟨a,b,rfl,h,h2⟩:=List.append_sublist_iff.1 d.sub;have g:v∈b:=pw;obtain⟨i,hi⟩:=qy.1 g;refine⟨a.length+i,by rw[Og NH];simpa using hi,fun j x l f=>?_⟩;have e:x∈a++b:=BS f;refine d.closed x e fun c=>?_;rw[Og NH]at f;have nd:=d.nodup;rw[yM,jf]at c;rcases c with c|rfl
 .grind
 .have:j-a.length=i:=by grind[List.getElem?_inj]
  omega
theorem DS.push(g:InR n es)(ha:D3 es)(d:DS n es s met tH o (opn++[v]) up)(p:tH[v]?=some t)(j:((Zh n es).getD v [])[t]?=some (w:Int))(x:w∉o):
  DS n es s (met.set w true) (tH.set v (t+1)) (o++[w]) (opn++[v]++[w]) (up.set w (v:Int)):=by
 obtain⟨k,z,hf⟩:=d.last;have l:(w:Int)∈(Zh n es).getD v []:=BS j;have c:=(EW g v w).1 l;have m:=(c.lt g).2;have r:=KW es g ha v;refine⟨.step d.KP z c x (fun y a A=>?_) hf,by simp[d.metl],fun u b=>?_,by simp[d.trl],fun u q f=>?_,(by grind[DS.sub]),fun u b B=>?_,fun u b=>?_,?_⟩
 .obtain⟨i,hi⟩:=qy.1 ((EW g v y).2 a);rcases zO i t with h|h|h
  .have:=(d.tr v t p).2 (y:Int) (BS (i:=i) pw);grind
  .grind
  grind[List.pairwise_iff_getElem]
 .grind[DS.metl,DS.mm]
 .rw[VU]at f;split at f
  .rename_i e;subst e;split at f
   .injection f with f;subst f;refine⟨(Ny.1 j).1,fun y a=>?_⟩;rw[alk,j]at a;simp at a;rw[yM];rcases a with a|a
    .exact .inl ((d.tr _ _ p).2 y a)
    grind
   .cases f
  .obtain⟨C,h2⟩:=d.tr u q f;grind
 .rw[yM,jf]at b;rcases b with b|rfl
  .exact fun y a=>KG _ (d.closed u b (by grind[List.mem_append_left]) y a)
  grind
 .rw[yM,jf]at b;rcases b with b|rfl
  .exact d.lt u b
  .exact m
 grind[DS.nodup]
theorem DS.fin(d:DS n es s met tH o [] up):Oc n es s o up:=⟨d.KP,(by grind[DS.closed])⟩
variable {X id k:Nat} {ev v:Value} {n:Int}
def Wj(a:xO v k):ag1 Tryz.prog 24 [(0,.int .i64 n),(1,v)]=some (.agg #[.int .i64 n,v]):=by obtain⟨_,_,rfl,_⟩:=a;kernel_rfl
theorem Lo(h:aae):agH Tryz.prog h 24=some (.pointer (some ⟨h.next,0,none⟩),h.alloc (.cells [.int .i64 0,.slice none 0 0])):=rfl
def newG(hw:WF h)(r:PR h ev es):∃b h2,agH Tryz.prog h 24=some (.pointer (some ⟨h.next,0,none⟩),b)/\acs Tryz.prog b 24 (.pointer (some ⟨h.next,0,none⟩)) (.agg #[.int .i64 n,ev])=some h2/\Le h h2/\WF h2/\
  ∀g,Le h2 g->acd Tryz.prog g 24 ⟨h.next,0,none⟩=some (.agg #[.int .i64 n,ev])/\acd Tryz.prog g 3 ⟨h.next,0,none⟩=some (.int .i64 n)/\acd Tryz.prog g 22 ⟨h.next,1,none⟩=some ev:=by
 obtain⟨b,f,l1,w1,d⟩:=Tt hw [.int .i64 0,.slice none 0 0]
 have i:h.own h.next=none:=(Le.refl h).next hw (qL0 _)
 have one:=r.sl.one;have a:UA Tryz.prog 24=2:=Ji;have j:(Value.agg #[.int .i64 n,ev]).cells=#[.int .i64 n,ev]:=rfl;have k:(Value.int IntKind.i64 n).oneCell'=true:=rfl
 have c:(b.put h.next (.cells [.int .i64 n,ev])).own h.next=some (.cells [.int .i64 n,ev]):=aae.Y3 _ _ _
 refine⟨b,b.put h.next (.cells [.int .i64 n,ev]),by rw[Lo,f],?_,l1.put _ i,w1.put _ (w1.lt d),fun g e=>⟨?_,Fq Ac rfl (e.own _ _ c),Fq eY rfl (e.own _ _ c)⟩⟩
 .simp[acs,d,j,a,putCells,yU,one,k]
 .rw[Wx yU rfl a (e.own _ _ c) Ma];rfl
def mkP4(h:aae)(a b c d:Pr):abB Tryz.prog h 22 4 [(0,UI a),(1,UI b),(2,UI c),(3,UI d)]=some (.slice (some ⟨h.next,0,none⟩) 4 4,h.alloc (.cells (Iu [a,b,c,d]))):=Ji
def mkP2(h:aae)(a b:Pr):abB Tryz.prog h 22 2 [(0,UI a),(1,UI b)]=some (.slice (some ⟨h.next,0,none⟩) 2 2,h.alloc (.cells (Iu [a,b]))):=Ji
theorem PR.made(a:h.own id=some (.cells (Iu ps)))(b:ps.length=k):PR h (.slice (some ⟨id,0,none⟩) k k) ps:=by have:=CS.own (k:=2) (off:=0) (n:=k) (cap:=k) a (by grind[Ta]);grind[Ta,PR.eq_1]
structure GX (h:aae) (X:Nat) (n:Int) (ev:Value) (ps:List Pr):Prop where
 ox:h.own X=some (.cells [.int .i64 n,ev])
 gp:GP h ev ps
 ne:blk ev≠some X
def Zp(n:Int):ag1 Tryz.prog 24 [(0,.int .i64 n)]=some (.agg #[.int .i64 n,.slice none 0 0]):=Ji
theorem GX.new(hw:WF h)(n:Int):∃a h2,agH Tryz.prog h 24=some (.pointer (some ⟨h.next,0,none⟩),a)/\acs Tryz.prog a 24 (.pointer (some ⟨h.next,0,none⟩)) (.agg #[.int .i64 n,.slice none 0 0])=some h2/\Le h h2/\WF h2/\h.own h.next=none/\GX h2 h.next n (.slice none 0 0) []:=by
 obtain⟨a,j,l1,w1,d⟩:=Tt hw [.int .i64 0,.slice none 0 0]
 have e:h.own h.next=none:=(Le.refl h).next hw (qL0 _)
 have b:UA Tryz.prog 24=2:=Ji;have f:(Value.agg #[.int .i64 n,.slice none 0 0]).cells=#[.int .i64 n,.slice none 0 0]:=rfl;have g:(Value.int IntKind.i64 n).oneCell'=true:=rfl;have c:(Value.slice none 0 0).oneCell'=true:=rfl
 have i:(a.put h.next (.cells [.int .i64 n,.slice none 0 0])).own h.next=some (.cells [.int .i64 n,.slice none 0 0]):=aae.Y3 _ _ _
 refine⟨a,a.put h.next (.cells [.int .i64 n,.slice none 0 0]),by grind[Lo],?_,l1.put _ e,w1.put _ (w1.lt d),e,⟨i,GP.nil _,by simp[blk]⟩⟩
 simp[acs,d,f,b,putCells,yU,g,c]
theorem GX.le{h h':aae}{X:Nat}{n:Int}{ev:Value}{ps:List Pr}(g:GX h X n ev ps)(e:Le h h'):GX h' X n ev ps:=⟨e.own _ _ g.ox,g.gp.le e,g.ne⟩
def GX.ld(g:GX h X n ev ps):acd Tryz.prog h 24 ⟨X,0,none⟩=some (.agg #[.int .i64 n,ev])/\acd Tryz.prog h 3 ⟨X,0,none⟩=some (.int .i64 n)/\acd Tryz.prog h 22 ⟨X,1,none⟩=some ev:=by refine⟨?_,Fq Ac rfl g.ox,Fq eY rfl g.ox⟩;rw[Wx yU rfl (by kernel_rfl:UA Tryz.prog 24=2) g.ox Ma];rfl
theorem GX.push'(g:GX h X n ev ps)(hw:WF h)(p:Pr)(l:ps.length+1<=100000):
  ∃v' a i c,abB Tryz.prog h 22 1 [(0,UI p)]=some (.slice (some ⟨h.next,0,none⟩) 1 1,a)/\adg Tryz.prog a 22 22 ev (.slice (some ⟨h.next,0,none⟩) 1 1)=some (v',i)/\acs Tryz.prog i 22 (.pointer (some ⟨X,1,none⟩)) v'=some c/\
   GX c X n v' (ps++[p])/\WF c/\Le h a/\(∀f,Le f h->f.own X=none->Z2 f ev->Le f c/\Z2 f v')/\(∀b o,h.own b=some o->b≠X->blk ev≠some b->c.own b=some o/\blk v'≠some b):=by
 obtain⟨v',a,i,m,q,j,k,l4,hf,r⟩:=g.gp.push hw p l;obtain⟨d,e⟩:=r X _ g.ox g.ne;have one:=j.pr.sl.one;have s:v'.cells=#[v']:=by obtain⟨_,_,rfl,_⟩:=j.pr.sl;rfl
 have st:=QB (P:=Tryz.prog) (t:=22) (x:=v') eY Ji d (off:=1) Ma s one;refine⟨v',a,i,_,m,q,st,⟨aae.Y3 _ _ _,GS.put j _ e,e⟩,k.put _ (k.lt d),l4,fun f u v af=>?_,fun b o hb w y=>?_⟩
 all_goals grind[Le.put,aae.By]
theorem Back_any(b:LA)(v:Value)(xs:RZ)(h:aae)(c:RL RP h v xs):AC Tryz.prog b 130 [v] h fun x h'=>∃B,x=.func (.func 166) #[] #[.pointer (some ⟨B,0,none⟩)]/\h.next<=B/\h'.own B=some (.cells [v])/\Le h h':=by
 refine AC.vE ⟨Tryz.func130,rfl,WY⟩ Tryz.ntmps130 Tryz.results130 fun a=>?_;simp only[Br,seval];obtain⟨d,e,l1,w1,g⟩:=Tt a [v]
 have f:zF h v=some (.pointer (some ⟨h.next,0,none⟩),d):=by rw[<-e];obtain⟨_,_,rfl,_⟩:=c.sl;rfl
 refine Sk f ?_;grind
theorem Tp(o:LA)(e B:Nat)(v:Value)(xs:RZ)(I:Nat->aae->Prop)(h:aae)(w:xs.length<1000000)(d:∀i g,I i g->g.own B=some (.cells [v])/\RL RP g v xs)(f:I xs.length h)(p:∀i g (hi:i<xs.length),WF g->h.next<=g.next->I (i+1) g->AY Tryz.prog o e [.int .i64 i,.int .i64 xs[i]] g fun x l=>x=.bool true/\h.next<=l.next/\I i l):
  AC Tryz.prog o 166 [Yg e,.pointer (some ⟨B,0,none⟩)] h fun _ h'=>I 0 h':=by
 have ld:∀i g,I i g->acd Tryz.prog g 49 ⟨B,0,none⟩=some v:=fun i g hi=>by rw[Fq Mb rfl (d i g hi).1];rfl
 refine AC.vE ⟨Tryz.func166,rfl,WY⟩ Tryz.ntmps166 Tryz.results166 fun q=>?_;simp only[Br,seval];have w1:adA .i64 ((xs.length:Int)-1)=(xs.length:Int)-1:=ie _ NH NH;simp only[HO,seval,ld _ _ f,(d _ _ f).2.len Mb,w1]
 refine lIn (fun k fr g=>∃i:Nat,k=i/\i<=xs.length/\fr=mkF [(0,Yg e),(1,.pointer (some ⟨B,0,none⟩)),(3,.int .i64 ((i:Int)-1))]/\h.next<=g.next/\I i g) ⟨xs.length,rfl,qL0 _,rfl,qL0 _,f⟩ ?_
 rintro k fr g r ⟨i,rfl,hi,rfl,hle,a⟩;refine Uy ?_;refine Kl.intro (fun y=>?_) (fun hf=>?_)
 .have b:1<=k:=pw;obtain⟨j,rfl⟩:∃j,k=j+1:=⟨k-1,NH⟩;have m:j<xs.length:=NH;have s:((j+1:Nat):Int)-1=(j:Int):=NH;have ad:=(d _ _ a).2.addr (k:=.i64) Mb Ac rfl j m;have le:=(d _ _ a).2.Uc j m;simp only[HO,seval,s,ld _ _ a,ad,le];refine TC.yield (by simp only[HO,seval,yieldOf]<;>rfl) (p j g m r hle a) ?_;rintro x l t ⟨rfl,c,n⟩;have u:adA .i64 ((j:Int)-1)=(j:Int)-1:=ie _ NH NH;refine Sk u ?_;exact lgA NH ⟨j,rfl,NH,rfl,c,n⟩
 .have b:k=0:=pw;subst b;refine Uy ?_;exact a
variable {n v:Nat}
instance adjDec (es:List Pr) (u w:Nat):Decidable (Jp es u w):=by unfold Jp;infer_instance
def sI(n:Nat)(es:List Pr)(o:II)(v:Nat):Option Nat:=(List.range n).find? fun w=>decide (Jp es v w)&&!o.contains w
def ajI(n:Nat)(es:List Pr)(o:II):II->Option (Nat×Nat)
  |[]=>none
  |v::r=>match sI n es o v with
    |some w=>some (v,w)
    |none=>ajI n es o r
def walkS(n:Nat)(es:List Pr)(st:II×RZ):II×RZ:=
 match ajI n es st.1 st.1.reverse with
 |some (v,w)=>(st.1++[w],st.2.set w (v:Int))
 |none=>st
def ajc(n:Nat)(es:List Pr):Nat->II×RZ->II×RZ
 |0,st=>st
 |k+1,st=>ajc n es k (walkS n es st)
def K9(n:Nat)(es:List Pr)(s:Nat):II×RZ:=ajc n es n ([s],List.replicate n (-1))
theorem ae9(a:InR n es)(h:sI n es o v=some w):Jp es v w/\w∉o/\∀y,Jp es v y->y∉o->w<=y:=by grind[sI,List.find?_range_eq_some]
theorem Yf(a:InR n es)(h:sI n es o v=none):Full es o v:=by intro y b;unfold sI at h;rw[List.find?_eq_none]at h;have:=h y (j3.2 (b.lt a).2);grind
theorem ky{n:Nat}{es:List Pr}{o:II}(b:InR n es):∀{l:II},ajI n es o l=none->∀x∈l,Full es o x
 |[],_,x,a=>by simp at a
 |v::r,h,x,a=>by
  simp only[ajI]at h;split at h
  .cases h
  .rcases vZ.1 a with rfl|a
   .grind[Yf]
   .exact ky b h x a
theorem ajd{n:Nat}{es:List Pr}{o:II}(b:InR n es):∀{l:II}{v w:Nat},ajI n es o l=some (v,w)->∃i,l[i]?=some v/\sI n es o v=some w/\∀(j x:Nat),j<i->l[j]?=some x->Full es o x
 |[],v,w,h=>by cases h
 |u::r,v,w,h=>by
  simp only[ajI]at h;split at h
  .rename_i w' c;injection h with h;injection h with a h2;subst a h2;exact⟨0,rfl,c,NH⟩
  .obtain⟨i,a,h2,h3⟩:=ajd b h;refine⟨i+1,pw,h2,fun j x d e=>?_⟩;cases j<;>grind[Yf]
theorem du.ndlt(b:InR n es)(hs:s<n)(d:du n es s o up):o.Nodup/\∀x∈o,x<n:=by
 induction d with
 |start=>simp[hs]
 |@step o up k v w d c ha hw e hf f=>
  refine⟨?_,fun x a=>?_⟩
  .grind
  .rw[yM,jf]at a;rcases a with a|rfl
   .grind
   .exact(ha.lt b).2
theorem du.boundF(a:InR n es)(hs:s<n)(d:du n es s o up):o.length<=n:=by have:=(d.ndlt a hs).1.length_le_of_subset (l₂:=List.range n) fun v b=>j3.2 ((d.ndlt a hs).2 v b);grind
theorem jM{n:Nat}{es:List Pr}{s:Nat}(a:InR n es)(hs:s<n):∀(k:Nat){o:II}{up:RZ},du n es s o up->n<o.length+k->Oc n es s (ajc n es k (o,up)).1 (ajc n es k (o,up)).2
 |0,o,up,d,h=>by have:=d.boundF a hs;omega
 |k+1,o,up,d,h=>by
  simp only[ajc,walkS];split
  .rename_i v w b;obtain⟨i,m,h2,h3⟩:=ajd a b;obtain⟨c,e,f⟩:=ae9 a h2;refine jM a hs k (.step (k:=o.length-1-i) d ?_ c e f fun j x p g=>?_) (by simp;omega)
   .grind
   .have l:=(Ny.1 g).1;refine h3 (o.length-1-j) x NH ?_;grind
  .rename_i b;have hf:∀x∈o,Full es o x:=by grind[ky]
   have:∀k,ajc n es k (o,up)=(o,up):=by
    intro k
    induction k<;>grind[ajc,walkS]
   rw[this];exact⟨d,hf⟩
def Te(a:InR n es)(hs:s<n):Oc n es s (K9 n es s).1 (K9 n es s).2:=jM a hs n .start Ma
theorem Oc.eq(a:InR n es)(hs:s<n)(d:Oc n es s o up):o=(K9 n es s).1/\up=(K9 n es s).2:=d.uniq (Te a hs)
variable {a b:Nat}
def GW(a b:Nat):Pr:=(min (a:Int) (b:Int),max (a:Int) (b:Int))
theorem aag(a b:Nat):GW a b=GW b a:=by grind[GW]
theorem agR:GW a b=(((min a b:Nat):Int),((max a b:Nat):Int)):=by grind[GW]
theorem H4(c:InR n es)(h:Jp es a b):GW a b∈es:=by
 unfold GW;rcases h with h|h
 .have:=c _ h;grind
 .have:=c _ h;grind
theorem aa4(c:InR n es)(h:Jp es a b):GW a b∈es:=H4 c h
theorem Xa(b:InR n es)(h:Jp es a a):False:=by
 rcases h with h|h<;>have:=(b _ h).2.1<;>simp at this
def stq(h:j<a):a-(j+1)<a-j:=NH
def aiP(xs:RZ)(y:Int)(i:Nat):Prop:=xs[i]?=some y/\∀j:Nat,xs[j]?=some y->j=i
theorem ahT(w:LA)(v:Value)(xs:RZ)(y:Int)(h:aae)(t:RL RP h v xs)(E:xs.length<=100000):AC Tryz.prog w 62 [v,.int .i64 y] h fun x h'=>((∃i:Nat,i<xs.length/\aiP xs y i/\x=.int .i64 i)\/(x=.int .i64 (-1)/\∀i,¬aiP xs y i))/\h'=h:=by
 refine AC.vE ⟨SV,rfl,WY⟩ Tryz.ntmps62 Tryz.results62 fun A=>?_;simp only[Br,seval];have r:=fun g=>t.DH g;refine Uy ?_;refine lIn (fun k fr e=>∃(i:Nat)(a:Int),k=xs.length-i/\i<=xs.length/\fr=mkF [(0,v),(1,.int .i64 y),(5,.int .i64 a),(6,.int .i64 i)]/\e=h/\((a=-1/\∀j:Nat,j<i->xs[j]?≠some y)\/∃k:Nat,a=(k:Int)/\k<i/\xs[k]?=some y/\∀j:Nat,j<i->xs[j]?=some y->j=k)) ⟨0,-1,rfl,WA _,rfl,rfl,.inl ⟨rfl,fun j l=>absurd l (Ki j)⟩⟩ ?_;rintro k fr e B ⟨i,a,rfl,hi,rfl,rfl,ha⟩;refine Sk r ?_;refine Kl.intro (fun u=>?_) (fun hf=>?_)
 .have b:i<xs.length:=CC u;clear u;have ad:=t.TA i b;have ld:=t.Uc i b;have s:=yY b;have m:=Tw i NH;generalize xs[i]=z at s ld;by_cases c:z=y
  .have d:decide (z=y)=true:=XJ c;rw[c]at s;rcases ha with⟨rfl,n⟩|⟨k,rfl,C,f,o⟩
   .have d2:decide ((-1:Int)>=0)=false:=by decide
    simp only[HO,seval,r,ad,ld,d,d2,m];refine lgA (stq b) ⟨i+1,i,rfl,b,rfl,rfl,.inr ⟨i,rfl,FD i,s,fun j l F=>?_⟩⟩;grind
   .have d2:decide ((k:Int)>=0)=true:=XJ NH;simp only[HO,seval,r,ad,ld,d,d2];refine⟨.inr ⟨trivial,fun q e=>?_⟩,trivial⟩;have G:=e.2 i s;have H:=e.2 k f;omega
  .have d:decide (z=y)=false:=Sb c;simp only[HO,seval,r,ad,ld,d,m];refine lgA (stq b) ⟨i+1,a,rfl,b,rfl,rfl,?_⟩;grind
 .have D:xs.length<=i:=vp hf;refine Uy ?_;refine⟨?_,trivial⟩;have p:∀j:Nat,xs[j]?=some y->j<i:=fun j l=>by grind
  rcases ha with⟨rfl,n⟩|⟨k,rfl,C,f,o⟩
  .exact .inr ⟨rfl,fun q e=>n q (p q e.1) e.1⟩
  .exact .inl ⟨k,NH,⟨f,fun j l=>o j (p j l) l⟩,rfl⟩
end
end Go.Fw
