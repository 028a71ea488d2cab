/- A text. -/
import Derived.Test.YtnakkbhjoiheoaaGreatFwLB7
import Derived.Test.YtnakkbhjoiheoaaGreatFwCyc
set_option linter.all false
set_option maxRecDepth 99999
set_option maxHeartbeats 9999999
open Go.Proofs
open Option renaming some→Z,none→Y
open Bool renaming true→tT,false→fF
open List renaming replicate→rP,range→rG
open Go.Value renaming slice→sL,pointer→pT
open Go renaming Value→vV
open Go.Proofs.Tryz renaming prog→pG
open Go.Proofs.Tryz
namespace Go.Fw
section
attribute [local irreducible] Kp MQ lU KO1 KO KN KX KE VK Kl ZJ TC aab
variable {h:aai} {i:Nat} {l:II} {ps:List Pr} {v:Value} {xs:RZ}
def GI(h:aai)(v:vV)(xs:RZ):Prop:=GS 1 h v xs.length (Bp xs)
theorem GI.le{h h':aai}{v:vV}{xs:RZ}(g:GI h v xs)(e:Le h h'):GI h' v xs:=GS.le g e
theorem GI.rl(g:GI h v xs):RL RP h v xs:=RL.Wh (GS.cs g).rs
theorem GI.nil(h:aai):GI h (.slice Y 0 0) []:=GS.nil 1 h
theorem GI.push{h:aai}{v:vV}{xs:RZ}(g:GI h v xs)(d:WF h)(x:Int)(m:xs.length<=100000):
  ∃v' c a,aas pG h 28 1 [(0,x)]=Z (sL (Z h.next) 1 1,c)/\aaR pG c 28 28 v (sL (Z h.next) 1 1)=Z (v',a)/\GI a v' (xs++[x])/\WF a/\Le h c/\
   (∀f,Le f h->Z2 f v->Le f a/\Z2 f v')/\(∀b o,h.own b=Z o->blk v≠Z b->a.own b=Z o/\blk v'≠Z b):=by
 obtain⟨c,e4,l4,e,j⟩:=Tt d [x];obtain⟨v',a,i,n,hf⟩:=(GS.le g l4).push (P:=pG) (t:=28) Ji j (yG _) rfl NH;refine⟨v',c,a,by rw[DQ,e4],i,?_,xr e i,l4,fun f k af=>hf f e (k.trans l4) af,fun b o l hb=>aG hf e (l4.own _ _ l) hb⟩;grind[Bp,GI.eq_1]
def GP(h:aai)(v:vV)(ps:xLP):Prop:=GS 2 h v ps.length (Iu ps)
theorem GP.le{h h':aai}{v:vV}{ps:xLP}(g:GP h v ps)(e:Le h h'):GP h' v ps:=GS.le g e
theorem GP.pr(g:GP h v ps):PR h v ps:=GS.cs g
theorem GP.nil(h:aai):GP h (.slice Y 0 0) []:=GS.nil 2 h
theorem GP.join{v x:vV}{ps c:xLP}(g:GP h v ps)(d:WF h)(i:PR h x c)(l:ps.length+c.length<=1000000000):
  ∃v' a,aaR pG h 22 22 v x=Z (v',a)/\GP a v' (ps++c)/\WF a/\
   (∀f,Le f h->Z2 f v->Le f a/\Z2 f v')/\(∀b o,h.own b=Z o->blk v≠Z b->a.own b=Z o/\blk v'≠Z b):=by
 obtain⟨v',a,m,n,hf⟩:=GS.append (P:=pG) (t:=22) (xt:=22) (k:=2) Ji g (fun e j=>CS.src j i) (WI _) (WI _) (Ta _) NH;grind[xr,aG,GP.eq_1,mZ]
theorem mkP1(h:aai)(p:Pr):aas pG h 22 1 [(0,UI p)]=Z (sL (Z h.next) 1 1,h.alloc (.cells (xM p))):=rfl
theorem GP.push(g:GP h v ps)(d:WF h)(p:Pr)(l:ps.length+1<=100000):
  ∃v' c a,aas pG h 22 1 [(0,UI p)]=Z (sL (Z h.next) 1 1,c)/\aaR pG c 22 22 v (sL (Z h.next) 1 1)=Z (v',a)/\GP a v' (ps++[p])/\WF a/\Le h c/\
   (∀f,Le f h->Z2 f v->Le f a/\Z2 f v')/\(∀b o,h.own b=Z o->blk v≠Z b->a.own b=Z o/\blk v'≠Z b):=by
 obtain⟨c,e4,l4,e,i⟩:=Tt d (xM p)
 have j:PR c (sL (Z h.next) 1 1) [p]:=by have:=CS.own (k:=2) (off:=0) (n:=1) (cap:=1) i (by simp[xM]);exact this
 obtain⟨v',a,m,q,r,hf,s⟩:=(g.le l4).join e j (by simp;omega);grind[mkP1,Le.trans,Le.own]
def ad8(d:LA)(v:vV)(ps:xLP)(h:aai)(e:PR h v ps)(i:ps.length<=100000):AC pG d 12 [v] h fun x h'=>GP h' x ps/\Le h h'/\Z2 h x:=by refine AC.vE ⟨aky,rfl,WY⟩ ntmps12 results12 fun c=>?_;simp only[Br,seval];obtain⟨v',j,f,g,k,hf,-⟩:=(GP.nil h).join c e (by simp;omega);obtain⟨l,a⟩:=hf h (Le.refl h) (fun b hb=>by simp[blk]at hb);refine sFa f ?_;exact⟨g,l,a⟩
theorem yy(L:RZ)(i:Nat)(x:Int):(Bp L).set i x=Bp (L.set i x):=by simp[Bp,C4]
def kz(l:II):RZ:=l.map fun(x:Nat)=>(x:Int)
theorem y6(l:II):(kz l).length=l.length:=by simp[kz]
theorem sY(hi:i<l.length):(kz l)[i]'(by grind[y6])=((l[i]:Nat):Int):=by simp[kz]
theorem tS(W0:LA)(v o:vV)(n:Nat)(es:xLP)(bs:List Bool)(h:aai)(hg:GR h v ⟨(n:Int),es⟩)(hr:bX ⟨(n:Int),es⟩)(hb:RL sJ h o bs)(bY:bs.length=n):
  AC pG W0 160 [v,o] h fun x h'=>∃L,RL RP h' x L/\wx n (fun u=>bs.getD u fF) es L/\Le h h':=by
 have a7:=hg
 obtain⟨ev,rfl,hp⟩:=hg.open
 have bW:(n:Int)<=200:=hr.n1;have hR:=hr.GD;refine AC.vE ⟨func160,rfl,WY⟩ ntmps160 results160 fun a8=>?_;simp only[Br,seval];obtain⟨h1,b1,ae,bZ,-,lA⟩:=r8 (n:=(n:Int)) a8 hp
 generalize h.next=B at*
 have bb:=lA h1 (Le.refl _);simp only[HO,seval,b1,bb.1];refine TC.intro PJ ⟨afm,rfl,WY⟩ (oe W0 _ n es h1 (a7.le ae) hr) ?_;rintro y hB bg ⟨G,H⟩;have b0:=lA hB H;obtain⟨h2,e2,Q,bh,o2⟩:=Tt bg [.int .i64 (-1)];have bk:=lA h2 (H.trans Q);simp only[HO,seval,DQ,e2,Ii,Ip,Gc,bk.2.1];refine TC.intro PJ ⟨akx,rfl,WY⟩ (rN W0 _ n NH h2 (RL.Wh (RS.whole o2 rfl))) ?_;rintro x h3 b2 ⟨T,rfl,hT,o3,av⟩;have fT:=lA h3 ((H.trans Q).trans av);have ay:=Q.trans av
 have nT:hB.own T=Y:=Q.next bh hT
 have bm:h3.own T=Z (.cells (Bp (rP n (-1)))):=by rw[o3];simp[Bp]
 simp only[HO,seval,Ii,Ip,Gc,fT.2.1];let on:Nat->Bool:=fun u=>bs.getD u fF;have b3:=hb.le Nn.sJ (ae.trans H);have az:∀g,Le hB g->∀u,u<n->aaC pG g 4 (aaq o u)=Z (.bool (on u)):=fun g lg u hu=>by grind[RL.le,Nn.sJ,RL.W7]
 have z:∀(k:IntKind)(u:Nat),u<n->aao pG 41 o (.int k u)=Z (pT (Z (aaq o u))):=fun k u hu=>hb.LB u NH;have R:∀(k:IntKind)(j:Nat),j<n->aao pG 28 (sL (Z T) n n) (.int k j)=Z (pT (Z ⟨T,j,Y⟩)):=fun k j hj=>by rw[Wc Mb Ac Ji j hj];simp[Ip]
 have aC:∀(g:aai)(L:RZ)(j:Nat)(l:Int),g.own T=Z (.cells (Bp L))->L[j]?=Z l->aaC pG g 3 ⟨T,j,Y⟩=Z (.int .i64 l):=fun g L j l ho hl=>by rw[Fq Ac rfl ho];simp[Bp,hl]
 refine aab.intro (fun k fr hh=>∃(v:Nat)(L:RZ),k=n-v/\v<=n/\fr=mkF [(1,o),(5,y),(6,sL (Z T) n n),(19,n),(20,v)]/\hh.own T=Z (.cells (Bp L))/\Le hB hh/\TO n on es v L)
  n [(1,o),(5,y),(6,sL (Z T) n n),(19,n),(20,(0:Nat))] fD ⟨0,_,rfl,abe _,rfl,bm,ay,TO.start n on es⟩ ?_
 rintro k fr hh ag ⟨v,L,rfl,hv,rfl,oT,A,tO⟩;refine sSs ?_;refine Kl.intro (fun ht=>?_) (fun hf=>?_)
 rotate_left
 .have aD:n<=v:=vp hf;obtain rfl:v=n:=NH;refine sSs ?_;exact⟨L,RL.Wh (RS.whole oT (by grind[TO.len])),tO.done hR,(ae.trans H).trans A⟩
 have c:v<n:=CC ht;clear ht;have S:=CA (show v<L.length by grind[TO.len]);generalize L[v]'(by grind)=lv at S
 have C:=az hh A v c;have ai:=aC hh L v lv oT S;by_cases c1:on v=tT
 .rw[c1]at C;simp only[HO,seval,z _ v c,C,aaa v NH];exact tn (n-(v+1)) [(1,o),(5,y),(6,sL (Z T) n n),(19,n),(20,(v+1:Nat))] NH fD ⟨v+1,L,rfl,c,rfl,oT,A,tO.skip (.inl c1)⟩
 rw[agR]at c1;rw[c1]at C;by_cases c2:lv>=0
 .simp only[HO,seval,z _ v c,C,R _ v c,ai,c2,aaa v NH];exact tn (n-(v+1)) [(1,o),(5,y),(6,sL (Z T) n n),(19,n),(20,(v+1:Nat))] NH fD ⟨v+1,L,rfl,c,rfl,oT,A,tO.skip (.inr (by rw[S];intro e;injection e with e;omega))⟩
 have aa:L[v]?=Z (-1):=by grind[TO.val]
 have st1:aaK pG hh 3 (pT (Z ⟨T,v,Y⟩)) v=Z (hh.put T (.cells (Bp (L.set v (v:Int))))):=by rw[QB (P:=pG) (t:=3) (x:=v) Ac Ji oT (off:=v) (by rw[uE,tO.len];exact c) rfl rfl,yy]
 have D:WF (hh.put T (.cells (Bp (L.set v (v:Int))))):=ag.put _ (ag.lt oT);have I:Le hB (hh.put T (.cells (Bp (L.set v (v:Int))))):=A.put _ nT;have J:(hh.put T (.cells (Bp (L.set v (v:Int))))).own T=Z (.cells (Bp (L.set v (v:Int)))):=aai.Y3 _ _ _;simp only[HO,seval,z _ v c,C,R _ v c,ai,c2,st1];generalize hh.put T (.cells (Bp (L.set v (v:Int))))=h4 at*;obtain⟨h5,e5,aj,bo,o5⟩:=Tt D [v]
 have nM:hB.own h4.next=Y:=I.next D (qL0 _)
 have br:T≠h4.next:=fun e=>by have:=D.lt J;omega
 simp only[HO,seval,DQ,e5];have aF:=tO.begin c c1 aa (fun a w=>(∃j,j<0/\[v][j]?=Z a)/\Jp es a w/\on w=fF) (fun a w h=>by grind)
 have gM:GI h5 (sL (Z h4.next) 1 1) (kz [v]):=GS.full o5 rfl (show 1<1000000000000 by decide)
 refine aab.intro (fun k fr m=>∃(i:Nat)(L:RZ)(d:vV)(met:II),k=n-i/\i<=met.length/\fr=mkF [(1,o),(5,y),(6,sL (Z T) n n),(7,v),(8,d),(9,i),(19,n),(20,v)]/\
   m.own T=Z (.cells (Bp L))/\Le hB m/\GI m d (kz met)/\blk d≠Z T/\Z2 hB d/\TI n on es v L met (fun a w=>(∃j,j<i/\met[j]?=Z a)/\Jp es a w/\on w=fF))
  n [(1,o),(5,y),(6,sL (Z T) n n),(7,v),(8,sL (Z h4.next) 1 1),(9,(0:Nat)),(19,n),(20,v)] fD
  ⟨0,_,_,[v],rfl,abe _,rfl,aj.own _ _ J,I.trans aj,gM,by grind[blk],fun b hb=>by grind[blk],aF⟩ ?_
 clear aF gM br nM o5 bo aj e5 h5 J I D st1 C ai S aa c2 oT A tO ag;clear h4 hh L;rintro k fr m U ⟨i,L,d,met,rfl,hi,rfl,oT,leq,gm,nm,am,E⟩;have lm:=fun g=>gm.rl.DH g;have aH:=E.abP;rw[y6]at lm;simp only[HO,seval,lm];refine Kl.intro (fun ht=>?_) (fun hf=>?_)
 rotate_left
 .have aD:met.length<=i:=vp hf;simp only[HO,seval,aaa v NH];refine tn (n-(v+1)) [(1,o),(5,y),(6,sL (Z T) n n),(19,n),(20,(v+1:Nat))] NH fD ⟨v+1,L,rfl,c,rfl,oT,leq,E.finish fun a w ha V bx=>⟨?_,V,bx⟩⟩;grind[List.mem_iff_getElem?]
 have p:i<met.length:=CC ht;clear ht;have f:=CA p;have aJ:=sY p;have aK:=gm.rl.TA i (by rw[y6];exact p);have W:=gm.rl.Uc i (by rw[y6];exact p);rw[aJ]at W;generalize met[i]=u at f W;clear aJ;have K:u∈met:=BS f;have b4:u<n:=by have:=(Ny.1 ((E.mm u).1 K)).1;grind[TI.len]
 have al:u<(Zh n es).length:=by grind[Xq]
 have bB:=G.Wm u al;obtain⟨uv,bF,s⟩:=G.NS u al;have bG:(Zh n es).getD u []=(Zh n es)[u]:=D4 al;generalize (Zh n es)[u]=row at s bG;have lr:=fun g=>s.DH g;have b5:row.length<=2000:=by have:=bV n es row (by grind);have:es.length<=594:=hr.len;omega
 simp only[HO,seval,aK,W,bB,bF m leq,lr];have aL:TI n on es v L met (fun a w=>((∃j,j<i/\met[j]?=Z a)/\Jp es a w/\on w=fF)\/(a=u/\(w:Int)∈row.take 0/\on w=fF)):=E.mono fun a w h=>by grind
 refine aab.intro (fun k fr m=>∃(q:Nat)(L:RZ)(d:vV)(met:II),k=row.length-q/\q<=row.length/\fr=mkF [(1,o),(5,y),(6,sL (Z T) n n),(7,v),(8,d),(9,i),(19,n),(20,v),(52,uv),(53,row.length),(54,q)]/\
   m.own T=Z (.cells (Bp L))/\Le hB m/\GI m d (kz met)/\blk d≠Z T/\Z2 hB d/\met[i]?=Z u/\TI n on es v L met (fun a w=>((∃j,j<i/\met[j]?=Z a)/\Jp es a w/\on w=fF)\/(a=u/\(w:Int)∈row.take q/\on w=fF)))
  row.length [(1,o),(5,y),(6,sL (Z T) n n),(7,v),(8,d),(9,i),(19,n),(20,v),(52,uv),(53,row.length),(54,(0:Nat))] fD
  ⟨0,L,d,met,rfl,abe _,rfl,oT,leq,gm,nm,am,f,aL⟩ ?_
 clear aL aK W lm;clear K f p aH E am nm gm leq oT U hi;clear m L d met;rintro k fr m U ⟨q,L,d,met,rfl,b6,rfl,oT,leq,gm,nm,am,f,E⟩;have K:u∈met:=BS f;have aH:=E.abP;have p:=(Ny.1 f).1;refine sSs ?_;refine Kl.intro (fun ht=>?_) (fun hf=>?_)
 rotate_left
 .have aD:row.length<=q:=vp hf;simp only[HO,seval,aaa i NH];refine tn (n-(i+1)) [(1,o),(5,y),(6,sL (Z T) n n),(7,v),(8,d),(9,(i+1:Nat)),(19,n),(20,v)] NH fD ⟨i+1,L,d,met,rfl,p,rfl,oT,leq,gm,nm,am,E.mono fun a w h=>?_⟩;grind[EW]
 have F:q<row.length:=CC ht;clear ht;have aq:=s.TA q F;have X:=(s.le Nn.RP leq).Uc q F;have bH:row.take (q+1)=row.take q++[row[q]]:=EL F;have ar:row[q]∈(Zh n es).getD u []:=hGr;generalize row[q]=x at X bH ar;obtain⟨w,rfl,r⟩:=Ru hR ar;have V:=(EW hR u w).1 ar;have M:=CA (show w<L.length by grind[TI.len]);generalize L[w]'(by grind)=lw at M
 have N:=az m leq w r;have aN:=aC m L w lw oT M;by_cases c3:on w=tT
 .rw[c3]at N;simp only[HO,seval,aq,X,z _ w r,N,aaa q NH];refine tn (row.length-(q+1)) [(1,o),(5,y),(6,sL (Z T) n n),(7,v),(8,d),(9,i),(19,n),(20,v),(52,uv),(53,row.length),(54,(q+1:Nat))] NH fD
   ⟨q+1,L,d,met,rfl,F,rfl,oT,leq,gm,nm,am,f,E.mono fun a b h=>?_⟩
  rcases h with h|⟨h1,h2,h3⟩
  .exact .inl h
  grind
 rw[agR]at c3;rw[c3]at N;have aP:∀(O:II),(∀j,j<met.length->O[j]?=met[j]?)->∀a b,((∃j,j<i/\O[j]?=Z a)/\Jp es a b/\on b=fF)\/(a=u/\(b:Int)∈row.take (q+1)/\on b=fF)->
   (((∃j,j<i/\met[j]?=Z a)/\Jp es a b/\on b=fF)\/(a=u/\(b:Int)∈row.take q/\on b=fF))\/b=w:=fun O hm a b h=>by
  rcases h with⟨⟨j,hj,b8⟩,h2⟩|⟨h1,h2,h3⟩
  .grind
  grind
 by_cases c4:lw<0
 rotate_left
 .simp only[HO,seval,aq,X,z _ w r,N,R _ w r,aN,c4,aaa q NH];exact tn (row.length-(q+1)) [(1,o),(5,y),(6,sL (Z T) n n),(7,v),(8,d),(9,i),(19,n),(20,v),(52,uv),(53,row.length),(54,(q+1:Nat))] NH fD
   ⟨q+1,L,d,met,rfl,F,rfl,oT,leq,gm,nm,am,f,E.stay K V ⟨lw,M,NH⟩ (aP met fun _ _=>rfl)⟩
 have aT:L[w]?=Z (-1):=by
  rcases E.val w lw M with rfl|⟨_,k,_,rfl,_⟩
  .exact M
  .omega
 have st1:aaK pG m 3 (pT (Z ⟨T,w,Y⟩)) v=Z (m.put T (.cells (Bp (L.set w (v:Int))))):=by rw[QB (P:=pG) (t:=3) (x:=v) Ac Ji oT (off:=w) (by rw[uE,E.len];exact r) rfl rfl,yy]
 have D:WF (m.put T (.cells (Bp (L.set w (v:Int))))):=U.put _ (U.lt oT);have I:Le hB (m.put T (.cells (Bp (L.set w (v:Int))))):=leq.put _ nT;have J:(m.put T (.cells (Bp (L.set w (v:Int))))).own T=Z (.cells (Bp (L.set w (v:Int)))):=aai.Y3 _ _ _;have bI:GI (m.put T (.cells (Bp (L.set w (v:Int))))) d (kz met):=GS.put gm _ nm;simp only[HO,seval,aq,X,z _ w r,N,R _ w r,aN,c4,st1];generalize m.put T (.cells (Bp (L.set w (v:Int))))=h4 at*;obtain⟨aW,h5,h6,e5,e6,g6,w6,l5,hf,hk⟩:=bI.push D (w:Int) (by grind[y6]);obtain⟨l6,a6⟩:=hf hB I am;obtain⟨bN,bQ⟩:=hk T _ J nm;have aX:kz met++[(w:Int)]=kz (met++[w]):=by simp[kz]
 rw[aX]at g6;simp only[HO,seval,e5,e6,aaa q NH];exact tn (row.length-(q+1)) [(1,o),(5,y),(6,sL (Z T) n n),(7,v),(8,aW),(9,i),(19,n),(20,v),(52,uv),(53,row.length),(54,(q+1:Nat))] NH fD
  ⟨q+1,_,aW,met++[w],rfl,F,rfl,bN,l6,g6,bQ,a6,by rw[iy p];exact f,E.push K V c3 aT (aP _ fun j hj=>iy hj)⟩
variable {es:List Pr} {j n s t v w:Nat} {met:List Bool} {o opn tH:II} {up:RZ} {x:Int}
theorem D3.lt(a:D3 es){p q:Pr}(b:i<j)(hi:es[i]?=Z p)(c:es[j]?=Z q):p.1<q.1\/p.1=q.1/\p.2<q.2:=(Hv p q).1 (a i j p q b hi c)
theorem besM_asc':∀(k:Nat)(es:xLP),es.length=k->aV n es->D3 es->∀u,((Zh n es).getD u []).Pairwise (·<·):=by
 intro k
 induction k with
 |zero=>
  intro es d _ _ u;obtain rfl:=Yi d;have f:(Zh n []).getD u []=[]:=by grind[Zh]
  rw[f];exact .nil
 |succ k s=>
  intro g d t ha u;obtain⟨es,p,rfl⟩:∃es p,g=es++[p]:=by
   rcases gK g with rfl|⟨es,p,h⟩
   all_goals grind
  have c:aV n es:=fun q m=>t q (by simp[m]);have mi:D3 es:=fun i j a b o hi B=>ha i j a b o hGr hGr;have s:=s es hGr c mi;have C:=t p Ma;have low:∀u:Nat,∀x∈(Zh n es).getD u [],((u:Int)=p.1->x<p.2)/\((u:Int)=p.2->x<p.1):=by
   intro u x v;obtain⟨w,rfl,_⟩:=Ru c v;have l:=(EW c u w).1 v;have key:∀q∈es,q.1<p.1\/q.1=p.1/\q.2<p.2:=by intro q m;obtain⟨i,hi⟩:=vZ.1 m;have r:=(Ny.1 hi).1;exact ha.lt (i:=i) (j:=es.length) r hGr Ma
   rcases l with h|h<;>have y:=c _ h<;>have h2:=key _ h<;>simp only at y h2<;>constructor<;>intro e<;>omega
  have gd:∀(rows:AM)(x:Int)(i:Nat),(rows.set i (rows.getD i []++[x])).getD u []=if i=u/\i<rows.length then rows.getD u []++[x]else rows.getD u []:=hGr
  rw[NJ];have z:=Xq n es;have y:p.1.toNat<n:=NH;simp only[Xs];rw[gd];simp only[Yq,z];have A:=gd (Zh n es) p.2 p.1.toNat;rw[z]at A;rw[A];by_cases D:p.1.toNat=u
  .grind
  .by_cases E:p.2.toNat=u
   .grind
   grind
theorem KW(es:xLP)(a:aV n es)(ha:D3 es)(u:Nat):((Zh n es).getD u []).Pairwise (·<·):=besM_asc' es.length es rfl a ha u
def Full(es:xLP)(o:II)(x:Nat):Prop:=∀y,Jp es x y->y∈o
inductive du (n:Nat) (es:xLP) (from_:Nat):II->RZ->Prop
 |start:du n es from_ [from_] (rP n (-1))
 |step {o:II} {up:RZ} {k v w:Nat}:du n es from_ o up->o[k]?=Z v->Jp es v w->w∉o->(∀y,Jp es v y->y∉o->w<=y)->(∀(j x:Nat),k<j->o[j]?=Z x->Full es o x)->du n es from_ (o++[w]) (up.set w (v:Int))
structure Oc (n:Nat) (es:xLP) (from_:Nat) (o:II) (up:RZ):Prop where
 KP:du n es from_ o up
 full:∀x∈o,Full es o x
theorem du.len(d:du n es s o up):1<=o.length/\up.length=n:=by
 induction d<;>grind
theorem du.same(d:du n es s o up):∀{b:II}{a:RZ},du n es s b a->o.length=b.length->o=b/\up=a:=by
 induction d with
 |start=>intro b a c j;cases c<;>grind
 |@step o up k v w d l ha hw u hf m=>
  intro b a c j;cases c with
  |start=>grind
  |@step x p k1 q w1 d1 e f g r i=>
   obtain⟨rfl,rfl⟩:=m d1 hGr;have t:k=k1:=by
    rcases IK k k1 with h|h|h
    .exact absurd (hf k1 q h e w1 f) g
    .exact h
    .exact absurd (i k v h l w ha) hw
   grind
theorem du.peel(d:du n es s o up):∀m,1<=m->m<o.length->∃a b,du n es s a b/\a.length=m/\∃x∈a,¬Full es a x:=by
 induction d with
 |start=>grind
 |@step o up k v w d c ha hw e hf g=>
  intro m i h2;by_cases h:m<o.length
  .grind
  .simp at h2;exact⟨o,up,d,NH,v,BS c,fun f=>hw (f w ha)⟩
theorem Oc.uniq{o d:II}{up c:RZ}(a:Oc n es s o up)(b:Oc n es s d c):o=d/\up=c:=by
 have key:∀{o d:II}{up c:RZ},Oc n es s o up->Oc n es s d c->¬o.length<d.length:=by intro o d up c a b h;obtain⟨g,e,d2,f,x,i,hf⟩:=b.KP.peel o.length a.KP.len.1 h;obtain⟨rfl,rfl⟩:=a.KP.same d2 f.symm;grind[Oc.full]
 have j:=key a b;have h2:=key b a;exact a.KP.same b.KP NH
structure DS (n:Nat) (es:xLP) (s:Nat) (met:List Bool) (tH:II) (o opn:II) (up:RZ):Prop where
 KP:du n es s o up
 metl:met.length=n
 mm:∀v,v<n->(met[v]?=Z tT↔v∈o)
 trl:tH.length=n
 tr:∀v t,tH[v]?=Z t->t<=((Zh n es).getD v []).length/\∀x∈((Zh n es).getD v []).take t,x.toNat∈o
 sub:opn.Sublist o
 closed:∀v∈o,v∉opn->Full es o v
 lt:∀v∈o,v<n
 nodup:o.Nodup
theorem DS.start{n:Nat}{es:xLP}{s:Nat}(hs:s<n):DS n es s ((rP n fF).set s tT) (rP n 0) [s] [s] (rP n (-1)) where
 KP:=.start
 metl:=by simp
 mm v a:=hGr
 trl:=by simp
 tr v t c:=hGr
 sub:=List.Sublist.refl _
 closed v a b:=absurd a b
 lt v a:=hGr
 nodup:=by simp
theorem DS.len_o(d:DS n es s met tH o opn up):o.length<=n:=by have:o.length<=(rG n).length:=d.nodup.length_le_of_subset (by grind[DS.lt]);grind
def DS.len_opn(d:DS n es s met tH o opn up):opn.length<=n:=EP d.sub.length_le d.len_o
theorem DS.pop(b:aV n es)(d:DS n es s met tH o (opn++[v]) up)(a:tH[v]?=Z ((Zh n es).getD v []).length):DS n es s met tH o opn up:=
 {d with
  sub:=by grind[List.Sublist.trans,DS.sub]
  closed:=fun x c f=>by
   by_cases e:x=v
   .intro y g;have:=(d.tr _ _ a).2 y (by grind[EW]);grind
   grind[DS.closed]}
theorem DS.skip(d:DS n es s met tH o opn up)(f:tH[v]?=Z t)(c:((Zh n es).getD v [])[t]?=Z x)(h:x.toNat∈o):DS n es s met (tH.set v (t+1)) o opn up:=
 {d with
  trl:=by simp[d.trl]
  tr:=fun u q a=>by
   rw[Tn]at a;split at a
   .rename_i e;subst e;split at a
    .injection a with a;subst a;have g:=(Ny.1 c).1;refine⟨g,fun y b=>?_⟩;rw[kS,c]at b;simp at b;rcases b with b|b
     .exact(d.tr _ _ f).2 y b
     grind
    .cases a
   .exact d.tr u q a}
theorem DS.last(d:DS n es s met tH o (opn++[v]) up):
  ∃k,o[k]?=Z v/\∀(j x:Nat),k<j->o[j]?=Z x->Full es o x:=by
 obtain⟨a,b,rfl,h,h2⟩:=List.append_sublist_iff.1 d.sub;have g:v∈b:=hGr;obtain⟨i,hi⟩:=vZ.1 g;refine⟨a.length+i,by rw[AE NH];simpa using hi,fun j x l f=>?_⟩;have e:x∈a++b:=BS f;refine d.closed x e fun c=>?_;rw[AE NH]at f;have nd:=d.nodup;rw[aax,xD]at c;rcases c with c|rfl
 .grind
 .have:j-a.length=i:=by grind[List.getElem?_inj]
  omega
theorem DS.push(g:aV n es)(ha:D3 es)(d:DS n es s met tH o (opn++[v]) up)(p:tH[v]?=Z t)(j:((Zh n es).getD v [])[t]?=Z (w:Int))(x:w∉o):
  DS n es s (met.set w tT) (tH.set v (t+1)) (o++[w]) (opn++[v]++[w]) (up.set w (v:Int)):=by
 obtain⟨k,z,hf⟩:=d.last;have l:(w:Int)∈(Zh n es).getD v []:=BS j;have c:=(EW g v w).1 l;have m:=(c.lt g).2;have r:=KW es g ha v;refine⟨.step d.KP z c x (fun y a A=>?_) hf,by simp[d.metl],fun u b=>?_,by simp[d.trl],fun u q f=>?_,(by grind[DS.sub]),fun u b B=>?_,fun u b=>?_,?_⟩
 .obtain⟨i,hi⟩:=vZ.1 ((EW g v y).2 a);rcases IK i t with h|h|h
  .have:=(d.tr v t p).2 (y:Int) (BS (i:=i) hGr);grind
  .grind
  grind[List.pairwise_iff_getElem]
 .grind[DS.metl,DS.mm]
 .rw[Tn]at f;split at f
  .rename_i e;subst e;split at f
   .injection f with f;subst f;refine⟨(Ny.1 j).1,fun y a=>?_⟩;rw[kS,j]at a;simp at a;rw[aax];rcases a with a|a
    .exact .inl ((d.tr _ _ p).2 y a)
    grind
   .cases f
  .obtain⟨C,h2⟩:=d.tr u q f;grind
 .rw[aax,xD]at b;rcases b with b|rfl
  .exact fun y a=>abZ _ (d.closed u b (by grind[List.mem_append_left]) y a)
  grind
 .rw[aax,xD]at b;rcases b with b|rfl
  .exact d.lt u b
  .exact m
 grind[DS.nodup]
theorem DS.fin(d:DS n es s met tH o [] up):Oc n es s o up:=⟨d.KP,(by grind[DS.closed])⟩
variable {X id k:Nat} {ev v:Value} {n:Int}
def Wj(a:xO v k):acB pG 24 [(0,n),(1,v)]=Z (.agg #[n,v]):=by obtain⟨_,_,rfl,_⟩:=a;kernel_rfl
theorem Lo(h:aai):abO pG h 24=Z (pT (Z h.next),h.alloc (.cells [.int .i64 0,.slice Y 0 0])):=rfl
def newG(hw:WF h)(r:PR h ev es):∃b h2,abO pG h 24=Z (pT (Z ⟨h.next,0,Y⟩),b)/\aaK pG b 24 (pT (Z ⟨h.next,0,Y⟩)) (.agg #[.int .i64 n,ev])=Z h2/\Le h h2/\WF h2/\
  ∀g,Le h2 g->aaC pG g 24 ⟨h.next,0,Y⟩=Z (.agg #[.int .i64 n,ev])/\aaC pG g 3 ⟨h.next,0,Y⟩=Z (.int .i64 n)/\aaC pG g 22 ⟨h.next,1,Y⟩=Z ev:=by
 obtain⟨b,f,l1,w1,d⟩:=Tt hw [.int .i64 0,.slice Y 0 0]
 have i:h.own h.next=Y:=(Le.refl h).next hw (qL0 _)
 have one:=r.sl.one;have a:UA pG 24=2:=Ji;have j:(vV.agg #[.int .i64 n,ev]).cells=#[.int .i64 n,ev]:=rfl;have k:(vV.int IntKind.i64 n).oneCell'=tT:=rfl
 have c:(b.put h.next (.cells [.int .i64 n,ev])).own h.next=Z (.cells [.int .i64 n,ev]):=aai.Y3 _ _ _
 refine⟨b,b.put h.next (.cells [.int .i64 n,ev]),by rw[Lo,f],?_,l1.put _ i,w1.put _ (w1.lt d),fun g e=>⟨?_,Fq Ac rfl (e.own _ _ c),Fq eY rfl (e.own _ _ c)⟩⟩
 .simp[aaK,d,j,a,putCells,qS9,one,k]
 .rw[Wx qS9 rfl a (e.own _ _ c) Ma];rfl
theorem PR.made(a:h.own id=Z (.cells (Iu ps)))(b:ps.length=k):PR h (sL (Z id) k k) ps:=by have:=CS.own (k:=2) (off:=0) (n:=k) (cap:=k) a (by grind[Ta]);grind[Ta,PR.eq_1]
structure GX (h:aai) (X:Nat) (n:Int) (ev:vV) (ps:xLP):Prop where
 ox:h.own X=Z (.cells [n,ev])
 gp:GP h ev ps
 ne:blk ev≠Z X
def ait(n:Int):acB pG 24 [(0,n)]=Z (.agg #[n,.slice Y 0 0]):=Ji
theorem GX.new(hw:WF h)(n:Int):∃a h2,abO pG h 24=Z (pT (Z ⟨h.next,0,Y⟩),a)/\aaK pG a 24 (pT (Z ⟨h.next,0,Y⟩)) (.agg #[.int .i64 n,.slice Y 0 0])=Z h2/\Le h h2/\WF h2/\h.own h.next=Y/\GX h2 h.next n (.slice Y 0 0) []:=by
 obtain⟨a,j,l1,w1,d⟩:=Tt hw [.int .i64 0,.slice Y 0 0]
 have e:h.own h.next=Y:=(Le.refl h).next hw (qL0 _)
 have b:UA pG 24=2:=Ji;have f:(vV.agg #[.int .i64 n,.slice Y 0 0]).cells=#[.int .i64 n,.slice Y 0 0]:=rfl;have g:(vV.int IntKind.i64 n).oneCell'=tT:=rfl;have c:(vV.slice Y 0 0).oneCell'=tT:=rfl
 have i:(a.put h.next (.cells [.int .i64 n,.slice Y 0 0])).own h.next=Z (.cells [.int .i64 n,.slice Y 0 0]):=aai.Y3 _ _ _
 refine⟨a,a.put h.next (.cells [.int .i64 n,.slice Y 0 0]),by grind[Lo],?_,l1.put _ e,w1.put _ (w1.lt d),e,⟨i,GP.nil _,by simp[blk]⟩⟩
 simp[aaK,d,f,b,putCells,qS9,g,c]
theorem GX.le{h h':aai}{X:Nat}{n:Int}{ev:vV}{ps:xLP}(g:GX h X n ev ps)(e:Le h h'):GX h' X n ev ps:=⟨e.own _ _ g.ox,g.gp.le e,g.ne⟩
def GX.ld(g:GX h X n ev ps):aaC pG h 24 ⟨X,0,Y⟩=Z (.agg #[n,ev])/\aaC pG h 3 ⟨X,0,Y⟩=Z (.int .i64 n)/\aaC pG h 22 ⟨X,1,Y⟩=Z ev:=by refine⟨?_,Fq Ac rfl g.ox,Fq eY rfl g.ox⟩;rw[Wx qS9 rfl (by kernel_rfl:UA pG 24=2) g.ox Ma];rfl
theorem GX.push'(g:GX h X n ev ps)(hw:WF h)(p:Pr)(l:ps.length+1<=100000):
  ∃v' a i c,aas pG h 22 1 [(0,UI p)]=Z (sL (Z h.next) 1 1,a)/\aaR pG a 22 22 ev (sL (Z h.next) 1 1)=Z (v',i)/\aaK pG i 22 (pT (Z ⟨X,1,Y⟩)) v'=Z c/\
   GX c X n v' (ps++[p])/\WF c/\Le h a/\(∀f,Le f h->f.own X=Y->Z2 f ev->Le f c/\Z2 f v')/\(∀b o,h.own b=Z o->b≠X->blk ev≠Z b->c.own b=Z o/\blk v'≠Z b):=by
 obtain⟨v',a,i,e4,m,j,k,l4,hf,q⟩:=g.gp.push hw p l;obtain⟨d,e⟩:=q X _ g.ox g.ne;have one:=j.pr.sl.one;have r:v'.cells=#[v']:=by obtain⟨_,_,rfl,_⟩:=j.pr.sl;rfl
 have st:=QB (P:=pG) (t:=22) (x:=v') eY Ji d (off:=1) Ma r one;refine⟨v',a,i,_,e4,m,st,⟨aai.Y3 _ _ _,GS.put j _ e,e⟩,k.put _ (k.lt d),l4,fun f s u af=>?_,fun b o hb v w=>?_⟩
 all_goals grind[Le.put,aai.By]
theorem Back_any(b:LA)(v:vV)(xs:RZ)(h:aai)(c:RL RP h v xs):AC pG b 85 [v] h fun x h'=>∃B,x=.func (.func 123) #[] #[pT (Z ⟨B,0,Y⟩)]/\h.next<=B/\h'.own B=Z (.cells [v])/\Le h h':=by
 refine AC.vE ⟨func85,rfl,WY⟩ ntmps85 results85 fun a=>?_;simp only[Br,seval];obtain⟨d,e,l1,w1,g⟩:=Tt a [v]
 have f:zF h v=Z (pT (Z h.next),d):=by rw[<-e];obtain⟨_,_,rfl,_⟩:=c.sl;rfl
 refine sFa f ?_;grind
theorem Back1_any(o:LA)(e B:Nat)(v:vV)(xs:RZ)(I:Nat->aai->Prop)(h:aai)(u:xs.length<1000000)(d:∀i g,I i g->g.own B=Z (.cells [v])/\RL RP g v xs)(f:I xs.length h)(p:∀i g (hi:i<xs.length),WF g->h.next<=g.next->I (i+1) g->AY pG o e [.int .i64 i,.int .i64 xs[i]] g fun x l=>x=.bool tT/\h.next<=l.next/\I i l):
  AC pG o 123 [Yg e,pT (Z B)] h fun _ h'=>I 0 h':=by
 have ld:∀i g,I i g->aaC pG g 28 ⟨B,0,Y⟩=Z v:=fun i g hi=>by rw[Fq Mb rfl (d i g hi).1];rfl
 refine AC.vE ⟨func123,rfl,WY⟩ ntmps123 results123 fun q=>?_;simp only[Br,seval];have w1:aaY .i64 ((xs.length:Int)-1)=(xs.length:Int)-1:=ie _ NH NH;simp only[HO,seval,ld _ _ f,(d _ _ f).2.len Mb,w1]
 refine lIn (fun k fr g=>∃i:Nat,k=i/\i<=xs.length/\fr=mkF [(0,Yg e),(1,pT (Z B)),(3,.int .i64 ((i:Int)-1))]/\h.next<=g.next/\I i g) ⟨xs.length,rfl,qL0 _,rfl,qL0 _,f⟩ ?_
 rintro k fr g r ⟨i,rfl,hi,rfl,hle,a⟩;refine sSs ?_;refine Kl.intro (fun w=>?_) (fun hf=>?_)
 .have b:1<=k:=hGr;obtain⟨j,rfl⟩:∃j,k=j+1:=⟨k-1,NH⟩;have m:j<xs.length:=NH;have s:((j+1:Nat):Int)-1=(j:Int):=NH;have ad:=(d _ _ a).2.addr (k:=.i64) Mb Ac rfl j m;have le:=(d _ _ a).2.Uc j m;simp only[HO,seval,s,ld _ _ a,ad,le];refine TC.yield (by simp only[HO,seval,yieldOf]<;>rfl) (p j g m r hle a) ?_;rintro x l t ⟨rfl,c,n⟩;have w2:aaY .i64 ((j:Int)-1)=(j:Int)-1:=ie _ NH NH;refine sFa w2 ?_;exact lgA NH ⟨j,rfl,NH,rfl,c,n⟩
 .have b:k=0:=hGr;subst b;refine sSs ?_;exact a
variable {n v:Nat}
instance adjDec (es:xLP) (u w:Nat):Decidable (Jp es u w):=by unfold Jp;infer_instance
def nxtF(n:Nat)(es:xLP)(o:II)(v:Nat):Option Nat:=(rG n).find? fun w=>decide (Jp es v w)&&!o.contains w
def af5(n:Nat)(es:xLP)(o:II):II->Option (Nat×Nat)
  |[]=>Y
  |v::r=>match nxtF n es o v with
    |some w=>Z (v,w)
    |none=>af5 n es o r
def walkS(n:Nat)(es:xLP)(st:II×RZ):II×RZ:=
 match af5 n es st.1 st.1.reverse with
 |some (v,w)=>(st.1++[w],st.2.set w (v:Int))
 |none=>st
def afG(n:Nat)(es:xLP):Nat->II×RZ->II×RZ
 |0,st=>st
 |k+1,st=>afG n es k (walkS n es st)
def K9(n:Nat)(es:xLP)(s:Nat):II×RZ:=afG n es n ([s],rP n (-1))
theorem nxtF_some(a:aV n es)(h:nxtF n es o v=Z w):Jp es v w/\w∉o/\∀y,Jp es v y->y∉o->w<=y:=by grind[nxtF,List.find?_range_eq_some]
theorem Yf(a:aV n es)(h:nxtF n es o v=Y):Full es o v:=by intro y b;unfold nxtF at h;rw[List.find?_eq_none]at h;have:=h y (K4.2 (b.lt a).2);grind
theorem ac8{n:Nat}{es:xLP}{o:II}(b:aV n es):∀{l:II},af5 n es o l=Y->∀x∈l,Full es o x
 |[],_,x,a=>by simp at a
 |v::r,h,x,a=>by
  simp only[af5]at h;split at h
  .cases h
  .rcases Og.1 a with rfl|a
   .grind[Yf]
   .exact ac8 b h x a
theorem O6{n:Nat}{es:xLP}{o:II}(b:aV n es):∀{l:II}{v w:Nat},af5 n es o l=Z (v,w)->∃i,l[i]?=Z v/\nxtF n es o v=Z w/\∀(j x:Nat),j<i->l[j]?=Z x->Full es o x
 |[],v,w,h=>by cases h
 |u::r,v,w,h=>by
  simp only[af5]at h;split at h
  .rename_i w' c;injection h with h;injection h with a h2;subst a h2;exact⟨0,rfl,c,NH⟩
  .obtain⟨i,a,h2,h3⟩:=O6 b h;refine⟨i+1,hGr,h2,fun j x d e=>?_⟩;cases j<;>grind[Yf]
theorem du.ndlt(b:aV n es)(hs:s<n)(d:du n es s o up):o.Nodup/\∀x∈o,x<n:=by
 induction d with
 |start=>simp[hs]
 |@step o up k v w d c ha hw e hf f=>
  refine⟨?_,fun x a=>?_⟩
  .grind
  .rw[aax,xD]at a;rcases a with a|rfl
   .grind
   .exact(ha.lt b).2
theorem du.boundF(a:aV n es)(hs:s<n)(d:du n es s o up):o.length<=n:=by have:=(d.ndlt a hs).1.length_le_of_subset (l₂:=rG n) fun v b=>K4.2 ((d.ndlt a hs).2 v b);grind
theorem jM{n:Nat}{es:xLP}{s:Nat}(a:aV n es)(hs:s<n):∀(k:Nat){o:II}{up:RZ},du n es s o up->n<o.length+k->Oc n es s (afG n es k (o,up)).1 (afG n es k (o,up)).2
 |0,o,up,d,h=>by have:=d.boundF a hs;omega
 |k+1,o,up,d,h=>by
  simp only[afG,walkS];split
  .rename_i v w b;obtain⟨i,m,h2,h3⟩:=O6 a b;obtain⟨c,e,f⟩:=nxtF_some a h2;refine jM a hs k (.step (k:=o.length-1-i) d ?_ c e f fun j x p g=>?_) (by simp;omega)
   .grind
   .have l:=(Ny.1 g).1;refine h3 (o.length-1-j) x NH ?_;grind
  .rename_i b;have hf:∀x∈o,Full es o x:=by grind[ac8]
   have:∀k,afG n es k (o,up)=(o,up):=by
    intro k
    induction k<;>grind[afG,walkS]
   rw[this];exact⟨d,hf⟩
def Te(a:aV n es)(hs:s<n):Oc n es s (K9 n es s).1 (K9 n es s).2:=jM a hs n .start Ma
theorem Oc.eq(a:aV n es)(hs:s<n)(d:Oc n es s o up):o=(K9 n es s).1/\up=(K9 n es s).2:=d.uniq (Te a hs)
variable {a b:Nat}
def GW(a b:Nat):Pr:=(min (a:Int) (b:Int),max (a:Int) (b:Int))
theorem so(a b:Nat):GW a b=GW b a:=by grind[GW]
theorem bj:GW a b=(((min a b:Nat):Int),((max a b:Nat):Int)):=by grind[GW]
theorem H4(c:aV n es)(h:Jp es a b):GW a b∈es:=by
 unfold GW;rcases h with h|h
 .have:=c _ h;grind
 .have:=c _ h;grind
theorem T0(c:aV n es)(h:Jp es a b):GW a b∈es:=H4 c h
theorem Xa(b:aV n es)(h:Jp es a a):False:=by
 rcases h with h|h<;>have:=(b _ h).2.1<;>simp at this
def goS(rows:AM)(d:Nat×Nat):Nat×Nat:=(d.2,(if(rows.getD d.2 []).getD 0 0=(d.1:Int)then(rows.getD d.2 []).getD 1 0 else(rows.getD d.2 []).getD 0 0).toNat)
def goF(rows:AM):Nat->Nat×Nat->Nat->Nat×Nat
 |0,d,k=>(d.2,k)
 |f+1,d,k=>if(rows.getD d.2 []).length=2 then goF rows f (goS rows d) (k+1)else(d.2,k)
theorem goF_eq(rows:AM):∀(K f:Nat)(d:Nat×Nat)(k:Nat),K<f->(∀i,i<K->(rows.getD (it (goS rows) i d).2 []).length=2)->(rows.getD (it (goS rows) K d).2 []).length≠2->goF rows f d k=((it (goS rows) K d).2,k+K)
 |0,f+1,d,k,_,_,h=>by have h':(rows.getD d.2 []).length≠2:=h;rw[goF,yM h'];rfl
 |K+1,f+1,d,k,hf,a,h2=>by have b:(rows.getD d.2 []).length=2:=a 0 (Nat.succ_pos _);rw[goF,IE b,goF_eq rows K f (goS rows d) (k+1) NH (by grind[aaS]) (by rw[<-aaS];exact h2),<-aaS];congr 1;omega
section
variable{n:Nat}{es:List Pr}(hR:aV n es)(hA:D3 es)
include hR hA
theorem abg{v:Nat}(h:((Zh n es).getD v []).length=2):∃a b:Nat,(Zh n es).getD v []=[(a:Int),(b:Int)]/\a≠b/\Jp es v a/\Jp es v b/\∀w,Jp es v w->w=a\/w=b:=by
 have f:=KW es hR hA v;have d:=fun w=>EW hR v w;have c:=fun x=>Ru hR (u:=v) (x:=x);generalize (Zh n es).getD v []=r at*
 match r,h with
 |[x,y],_=>
  obtain⟨a,rfl,-⟩:=c x Ma;obtain⟨b,rfl,-⟩:=c y Ma;have e:(a:Int)<(b:Int):=by grind[List.mem_singleton]
  refine⟨a,b,rfl,NH,hGr,hGr,fun w hw=>?_⟩;have:=(d w).2 hw;simp at this;omega
def goS_adj{d:Nat×Nat}(h2:((Zh n es).getD d.2 []).length=2):Jp es (goS (Zh n es) d).1 (goS (Zh n es) d).2:=by obtain⟨a,b,e,ne,h3,c,f⟩:=abg hR hA h2;unfold goS;rw[e];split<;>simpa using by assumption
theorem goS_inj{d c:Nat×Nat}(v:Jp es d.2 d.1)(v':Jp es c.2 c.1)(h2:((Zh n es).getD d.2 []).length=2)(e:goS (Zh n es) d=goS (Zh n es) c):d=c:=by obtain⟨l,x⟩:=d;obtain⟨l',x'⟩:=c;have ex:x=x':=congrArg Prod.fst e;subst ex;have f:=congrArg Prod.snd e;obtain⟨a,b,h,ne,h3,i,g⟩:=abg hR hA h2;unfold goS at f;rw[h]at f;simp only[List.getD_cons_zero,qL195]at f;have:=g l v;have:=g l' v';grind
theorem aa7{d:Nat×Nat}(v:Jp es d.1 d.2):∀k,(∀i,i<k->((Zh n es).getD (it (goS (Zh n es)) i d).2 []).length=2)->Jp es (it (goS (Zh n es)) k d).1 (it (goS (Zh n es)) k d).2
 |0,_=>v
 |k+1,h=>goS_adj hR hA hGr
def af6{d:Nat×Nat}(v:Jp es d.1 d.2){K:Nat}(h:∀i,i<K->((Zh n es).getD (it (goS (Zh n es)) i d).2 []).length=2):∀i j,i<j->j<=K->it (goS (Zh n es)) i d=it (goS (Zh n es)) j d->d=it (goS (Zh n es)) (j-i) d
 |0,j,_,_,e=>e
 |i+1,j+1,a,c,e=>by have a1:=aa7 hR hA v i fun q b=>h q NH;have a2:=aa7 hR hA v j fun q b=>h q NH;have:=af6 v h i j NH NH (goS_inj hR hA a1.symm a2.symm (h i NH) e);rwa[show j+1-(i+1)=j-i by omega]
theorem go_ends{c v:Nat}(b:Jp es c v)(p:((Zh n es).getD c []).length≠2):∃K,K<=n*n/\(∀i,i<K->((Zh n es).getD (it (goS (Zh n es)) i (c,v)).2 []).length=2)/\((Zh n es).getD (it (goS (Zh n es)) K (c,v)).2 []).length≠2:=by
 by_cases H:∀K,K<=n*n->(∀i,i<K->((Zh n es).getD (it (goS (Zh n es)) i (c,v)).2 []).length=2)->((Zh n es).getD (it (goS (Zh n es)) K (c,v)).2 []).length=2
 rotate_left
 .simp only[qL190]at H;obtain⟨K,d,h2,h3⟩:=H;exact hGr
 have all:∀K,K<=n*n+1->∀i,i<K->((Zh n es).getD (it (goS (Zh n es)) i (c,v)).2 []).length=2:=by
  intro K
  induction K with
  |zero=>omega
  |succ K g=>
   intro q i hi;rcases Nat.lt_succ_iff_lt_or_eq.1 hi with h|rfl
   .exact g NH i h
   .exact hGr
 have all:=all _ (qL0 _);let code:Nat->Nat:=fun i=>(it (goS (Zh n es)) i (c,v)).1*n+(it (goS (Zh n es)) i (c,v)).2;have lt:∀i,i<=n*n->(it (goS (Zh n es)) i (c,v)).1<n/\(it (goS (Zh n es)) i (c,v)).2<n:=fun i hi=>(aa7 hR hA b i hGr).lt hR;have nd:((rG (n*n+1)).map code).Nodup:=by
  have key:∀i j,i<j->j<=n*n->code i≠code j:=fun i j a k e=>by
   obtain⟨a1,a2⟩:=lt i NH;obtain⟨r,l⟩:=lt j k;have e':(it (goS (Zh n es)) i (c,v)).1*n+(it (goS (Zh n es)) i (c,v)).2=(it (goS (Zh n es)) j (c,v)).1*n+(it (goS (Zh n es)) j (c,v)).2:=e;have s:0<n:=NH;have m2:(it (goS (Zh n es)) i (c,v)).2=(it (goS (Zh n es)) j (c,v)).2:=by have:=congrArg (·%n) e';simp only[Nat.mul_add_mod_self_right]at this;rwa[Cg a2,Cg l]at this
   have m1:(it (goS (Zh n es)) i (c,v)).1=(it (goS (Zh n es)) j (c,v)).1:=by exact(by grind[Nat.eq_of_mul_eq_mul_right])
   have f:=af6 hR hA b (K:=n*n+1) all i j a NH (ahJ m1 m2);obtain⟨t,m⟩:∃t,j-i=t+1:=⟨j-i-1,NH⟩;rw[m]at f;have:c=(it (goS (Zh n es)) t (c,v)).2:=congrArg Prod.fst f;exact hGr
  rw[Gw,vY];exact V3 hGr U9
 have:=tf nd (B:=rG (n*n)) fun x o=>by obtain⟨i,hi,rfl⟩:=Eh.1 o;have hi:=K4.1 hi;obtain⟨a1,a2⟩:=lt i NH;rw[K4];have d:((it (goS (Zh n es)) i (c,v)).1+1)*n<=n*n:=Gg n a1;rw[aiL,Nat.one_mul]at d;show(it (goS (Zh n es)) i (c,v)).1*n+(it (goS (Zh n es)) i (c,v)).2<n*n;omega
 simp only[fj,WZ]at this;omega
end
def aaA(rows:AM)(v:Nat):Bool:=(rows.getD v []).length==3||(rows.getD v []).length==4
def aad(rows:AM):II:=(rG rows.length).filter fun v=>aaA rows v
def aaj(rows:AM)(cs:II):List (Nat×Nat):=cs.flatMap fun c=>(rows.getD c []).map fun x=>(c,x.toNat)
def aal(rows:AM)(d:Nat×Nat):Nat×Nat:=goF rows 40001 d 0
def aaH(rows:AM)(d:Nat×Nat):Pr:=(min (d.1:Int) ((aal rows d).1:Int),max (d.1:Int) ((aal rows d).1:Int))
def aaI(rows:AM)(cs:II)(p:Pr):Nat:=((aaj rows cs).map (aaH rows)).count p
def aaU(rows:AM)(cs:II):Nat:=((aaj rows cs).map fun d=>(aal rows d).2+1).sum
def abh(W:Pr->Nat)(A B:II):Bool:=A.all fun c=>B.all fun d=>c==d||W (min (c:Int) (d:Int),max (c:Int) (d:Int))==2
def aa1(W:Pr->Nat)(cs:II):Bool:=
 let f:=cs.headD 0;let A:=cs.filter fun(c:Nat)=>W ((f:Int),((c:Nat):Int))==0;let B:=cs.filter fun(c:Nat)=>W ((f:Int),((c:Nat):Int))!=0
 A.length==3&&!B.contains f&&abh W A B
def aaN(es:xLP):Int:=
 let rows:=Zh 200 es
 if rows.any (fun r=>!(r.length==0||r.length==2||r.length==3||r.length==4))then 0 else
 let cs:=aad rows
 if cs.length=5 then
  if cs.any (fun c=>(rows.getD c []).length !=4)then 0
  else if aaU rows cs≠2*es.length then 0
  else if abh (aaI rows cs) cs cs then 5 else 0
 else if cs.length=6 then
  if cs.any (fun c=>(rows.getD c []).length !=3)then 0
  else if aaU rows cs≠2*es.length then 0
  else if aa1 (aaI rows cs) cs then 33 else 0
 else 0
attribute [local instance] Classical.propDecidable in
noncomputable def aaz(es:xLP):Int:=if bX ⟨200,es⟩then aaN es else 0
def oth_go{n:Nat}{es:xLP}(hR:aV n es)(hA:D3 es)(a:n<=200){c v:Nat}(b:Jp es c v)(d:((Zh n es).getD c []).length≠2):
  ∃K,K<=40000/\(∀i,i<K->((Zh n es).getD (it (goS (Zh n es)) i (c,v)).2 []).length=2)/\((Zh n es).getD (it (goS (Zh n es)) K (c,v)).2 []).length≠2/\aal (Zh n es) (c,v)=((it (goS (Zh n es)) K (c,v)).2,K):=by
 obtain⟨K,e,h2,h3⟩:=go_ends hR hA b d;have f:K<=40000:=EP e (adN a a);refine⟨K,f,h2,h3,?_⟩;rw[aal,goF_eq _ K 40001 _ _ NH h2 h3,Gc]
variable {v:Value} {α:Type}
theorem RL.loadS{R:aai->vV->α->Prop}{xs:List α}(a:RL R h v xs){e:TypeId}{d:TypeDesc}(c:pG.underlying e=Z d)(hd:ab8 d=fF)(i:Nat)(hi:i<xs.length):∃u,R h u xs[i]/\∀g,Le h g->aaC pG g e (aaq v i)=Z u:=by obtain⟨vs,r,f,b⟩:=a;exact⟨_,b i _ _ (XJ hi) (XJ NH),(by grind[RS.le,RS.load])⟩
end
end Go.Fw
