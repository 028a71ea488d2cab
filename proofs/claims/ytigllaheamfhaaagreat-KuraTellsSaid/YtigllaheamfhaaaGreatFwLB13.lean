/- A text. -/
import Derived.Shelf.Sort.Plain
import Derived.Shelf.Slices.In.SortNone
import Derived.Shelf.Slices.CompactI
import Derived.Test.YtigllaheamfhaaaGreatFwLB6
set_option linter.all false
set_option maxRecDepth 99999
set_option maxHeartbeats 9999999
open Go.Proofs
open Option renaming some→Z,none→Y
open Bool renaming true→tT,false→fF
open List renaming replicate→rP,range→rG
open Go.Value renaming slice→sL,pointer→pT
open Go renaming Value→vV
open Go.Proofs.Tryz renaming prog→pG
open Go.Proofs.Tryz
open List
namespace Go.Fw
section
attribute [local irreducible] Kp MQ lU KO1 KO KN KX KE VK Kl ZJ TC aab
variable {h:aai} {i:Nat} {ps:List Pr} {v:Value} {xs:RZ}
def GI(h:aai)(v:vV)(xs:RZ):Prop:=GS 1 h v xs.length (Bp xs)
theorem GI.le{h h':aai}{v:vV}{xs:RZ}(g:GI h v xs)(e:Le h h'):GI h' v xs:=GS.le g e
theorem GI.rl(g:GI h v xs):RL RP h v xs:=RL.Wh (GS.cs g).rs
theorem GI.nil(h:aai):GI h (.slice Y 0 0) []:=GS.nil 1 h
theorem GI.push{h:aai}{v:vV}{xs:RZ}(g:GI h v xs)(d:WF h)(x:Int)(m:xs.length<=100000):
  ∃v' c a,aas pG h 47 1 [(0,x)]=Z (sL (Z h.next) 1 1,c)/\aaR pG c 47 47 v (sL (Z h.next) 1 1)=Z (v',a)/\GI a v' (xs++[x])/\WF a/\Le h c/\
   (∀f,Le f h->Z2 f v->Le f a/\Z2 f v')/\(∀b o,h.own b=Z o->blk v≠Z b->a.own b=Z o/\blk v'≠Z b):=by
 have⟨c,e4,l4,e,j⟩:=Tt d [x];have⟨v',a,i,n,hf⟩:=(GS.le g l4).push (P:=pG) (t:=47) Ji j (yG _) rfl NH;refine⟨v',c,a,by rw[DQ,e4],i,?_,xr e i,l4,fun f k af=>hf f e (k.trans l4) af,fun b o l hb=>aG hf e (l4.own _ _ l) hb⟩;grind[Bp,GI.eq_1]
def GP(h:aai)(v:vV)(ps:xLP):Prop:=GS 2 h v ps.length (Iu ps)
theorem GP.le{h h':aai}{v:vV}{ps:xLP}(g:GP h v ps)(e:Le h h'):GP h' v ps:=GS.le g e
theorem GP.pr(g:GP h v ps):PR h v ps:=GS.cs g
theorem GP.nil(h:aai):GP h (.slice Y 0 0) []:=GS.nil 2 h
theorem GP.join{v x:vV}{ps c:xLP}(g:GP h v ps)(d:WF h)(i:PR h x c)(l:ps.length+c.length<=1000000000):
  ∃v' a,aaR pG h 22 22 v x=Z (v',a)/\GP a v' (ps++c)/\WF a/\
   (∀f,Le f h->Z2 f v->Le f a/\Z2 f v')/\(∀b o,h.own b=Z o->blk v≠Z b->a.own b=Z o/\blk v'≠Z b):=by
 have⟨v',a,m,n,hf⟩:=GS.append (P:=pG) (t:=22) (xt:=22) (k:=2) Ji g (fun e j=>CS.src j i) (WI _) (WI _) (Ta _) NH;grind[xr,aG,GP.eq_1,mZ]
theorem mkP1(h:aai)(p:Pr):aas pG h 22 1 [(0,UI p)]=Z (sL (Z h.next) 1 1,h.alloc (.cells (xM p))):=rfl
theorem GP.push(g:GP h v ps)(d:WF h)(p:Pr)(l:ps.length+1<=100000):
  ∃v' c a,aas pG h 22 1 [(0,UI p)]=Z (sL (Z h.next) 1 1,c)/\aaR pG c 22 22 v (sL (Z h.next) 1 1)=Z (v',a)/\GP a v' (ps++[p])/\WF a/\Le h c/\
   (∀f,Le f h->Z2 f v->Le f a/\Z2 f v')/\(∀b o,h.own b=Z o->blk v≠Z b->a.own b=Z o/\blk v'≠Z b):=by
 have⟨c,e4,l4,e,i⟩:=Tt d (xM p)
 have j:PR c (sL (Z h.next) 1 1) [p]:=by have:=CS.own (k:=2) (off:=0) (n:=1) (cap:=1) i (by simp[xM]);exact this
 have⟨v',a,m,q,r,hf,s⟩:=(g.le l4).join e j (by simp;omega);grind[mkP1,Le.trans,Le.own]
def aiK(d:abw)(v:vV)(ps:xLP)(h:aai)(e:PR h v ps)(i:ps.length<=100000):AC pG d 5 [v] h fun x h'=>GP h' x ps/\Le h h'/\Z2 h x:=by refine AC.vF func5 ntmps5 results5 fun c=>?_;obtain⟨v',j,f,g,k,hf,-⟩:=(GP.nil h).join c e (by simp;omega);have⟨l,a⟩:=hf h (Le.refl h) (fun b hb=>by simp[blk]at hb);refine Sk f ?_;exact⟨g,l,a⟩
theorem yy(L:RZ)(i:Nat)(x:Int):(Bp L).set i x=Bp (L.set i x):=by simp[Bp,agK]
def kz(l:II):RZ:=l.map fun(x:Nat)=>(x:Int)
theorem y6(l:II):(kz l).length=l.length:=by simp[kz]
theorem sY{l:II}(hi:i<l.length):(kz l)[i]'(by grind[y6])=((l[i]:Nat):Int):=by simp[kz]
theorem tS(W0:abw)(v o:vV)(n:Nat)(es:xLP)(bs:List Bool)(h:aai)(hg:GR h v ⟨(n:Int),es⟩)(hr:bX ⟨(n:Int),es⟩)(hb:RL sJ h o bs)(bB:bs.length=n):
  AC pG W0 111 [v,o] h fun x h'=>∃L,RL RP h' x L/\wx n (fun u=>bs.getD u fF) es L/\Le h h':=by
 have aT:=hg
 obtain⟨ev,rfl,hp⟩:=hg.open
 have bA:(n:Int)<=200:=hr.n1;have hR:=hr.GD;refine AC.vF func111 ntmps111 results111 fun aV=>?_;obtain⟨h1,b1,ae,bF,-,lA⟩:=r8 (n:=(n:Int)) aV hp
 generalize h.next=B at*
 have aW:=lA h1 (Le.refl _);simp only[HO,seval,b1,aW.1];refine TC.intro PJ ⟨ap3,rfl,WY⟩ (oe W0 _ n es h1 (aT.le ae) hr) ?_;rintro y hB aX ⟨G,H⟩;have bH:=lA hB H;have⟨h2,e2,Q,a7,o2⟩:=Tt aX [.int .i64 (-1)];have a8:=lA h2 (H.trans Q);simp only[HO,seval,DQ,e2,Ii,Ip,Gc,a8.2.1];refine TC.intro PJ ⟨alD,rfl,WY⟩ (rN W0 _ n NH h2 (RL.Wh (RS.whole o2 rfl))) ?_;rintro x h3 bI ⟨T,rfl,hT,o3,av⟩;have fT:=lA h3 ((H.trans Q).trans av);have ay:=Q.trans av
 have nT:hB.own T=Y:=Q.next a7 hT
 have ba:h3.own T=Z (.cells (Bp (rP n (-1)))):=by rw[o3];simp[Bp]
 simp only[HO,seval,Ii,Ip,Gc,fT.2.1];let on:Nat->Bool:=fun u=>bs.getD u fF;have bN:=hb.le Nn.sJ (ae.trans H);have az:∀g,Le hB g->∀u,u<n->aaC pG g 4 (aaq o u)=Z (.bool (on u)):=fun g lg u hu=>by grind[RL.le,Nn.sJ,RL.W7]
 have z:∀(k:IntKind)(u:Nat),u<n->aao pG 94 o (.int k u)=Z (pT (Z (aaq o u))):=fun k u hu=>hb.LB u NH;have R:∀(k:IntKind)(j:Nat),j<n->aao pG 47 (sL (Z T) n n) (.int k j)=Z (pT (Z ⟨T,j,Y⟩)):=fun k j hj=>by rw[Wc Mb Ac Ji j hj];simp[Ip]
 have aA:∀(g:aai)(L:RZ)(j:Nat)(l:Int),g.own T=Z (.cells (Bp L))->L[j]?=Z l->aaC pG g 3 ⟨T,j,Y⟩=Z (.int .i64 l):=fun g L j l ho hl=>by rw[Fq Ac rfl ho];simp[Bp,hl]
 refine aab.intro (fun k fr hh=>∃(v:Nat)(L:RZ),k=n-v/\v<=n/\fr=mkF [(1,o),(5,y),(6,sL (Z T) n n),(19,n),(20,v)]/\hh.own T=Z (.cells (Bp L))/\Le hB hh/\TO n on es v L)
  n [(1,o),(5,y),(6,sL (Z T) n n),(19,n),(20,(0:Nat))] hAs ⟨0,_,rfl,Z6 _,rfl,ba,ay,TO.start n on es⟩ ?_
 rintro k fr hh ag ⟨v,L,rfl,hv,rfl,oT,A,tO⟩;refine Uy ?_;refine Kl.intro (fun ht=>?_) (fun hf=>?_)
 rotate_left
 .have aB:n<=v:=vp hf;obtain rfl:v=n:=NH;refine Uy ?_;exact⟨L,RL.Wh (RS.whole oT (by grind[TO.len])),tO.done hR,(ae.trans H).trans A⟩
 have c:v<n:=acb ht;clear ht;have S:=CA (show v<L.length by grind[TO.len]);generalize L[v]'(by grind)=lv at S
 have C:=az hh A v c;have ai:=aA hh L v lv oT S;by_cases c1:on v=tT
 .rw[c1]at C;simp only[HO,seval,z _ v c,C,aaa v NH];exact tn (n-(v+1)) [(1,o),(5,y),(6,sL (Z T) n n),(19,n),(20,(v+1:Nat))] NH hAs ⟨v+1,L,rfl,c,rfl,oT,A,tO.skip (.inl c1)⟩
 rw[aoG]at c1;rw[c1]at C;by_cases c2:lv>=0
 .simp only[HO,seval,z _ v c,C,R _ v c,ai,c2,aaa v NH];exact tn (n-(v+1)) [(1,o),(5,y),(6,sL (Z T) n n),(19,n),(20,(v+1:Nat))] NH hAs ⟨v+1,L,rfl,c,rfl,oT,A,tO.skip (.inr (by rw[S];intro e;injection e with e;omega))⟩
 have aa:L[v]?=Z (-1):=by grind[TO.val]
 have st1:aaK pG hh 3 (pT (Z ⟨T,v,Y⟩)) v=Z (hh.put T (.cells (Bp (L.set v (v:Int))))):=by rw[QB (P:=pG) (t:=3) (x:=v) Ac Ji oT (off:=v) (by rw[uE,tO.len];exact c) rfl rfl,yy]
 have D:WF (hh.put T (.cells (Bp (L.set v (v:Int))))):=ag.put _ (ag.lt oT);have I:Le hB (hh.put T (.cells (Bp (L.set v (v:Int))))):=A.put _ nT;have J:(hh.put T (.cells (Bp (L.set v (v:Int))))).own T=Z (.cells (Bp (L.set v (v:Int)))):=aai.Y3 _ _ _;simp only[HO,seval,z _ v c,C,R _ v c,ai,c2,st1];generalize hh.put T (.cells (Bp (L.set v (v:Int))))=h4 at*;have⟨h5,e5,aj,bb,o5⟩:=Tt D [v]
 have nM:hB.own h4.next=Y:=I.next D (qL0 _)
 have bg:T≠h4.next:=fun e=>by have:=D.lt J;omega
 simp only[HO,seval,DQ,e5];have aC:=tO.begin c c1 aa (fun a w=>(∃j,j<0/\[v][j]?=Z a)/\Jp es a w/\on w=fF) (fun a w h=>by grind)
 have gM:GI h5 (sL (Z h4.next) 1 1) (kz [v]):=GS.full o5 rfl (show 1<1000000000000 by decide)
 refine aab.intro (fun k fr m=>∃(i:Nat)(L:RZ)(d:vV)(met:II),k=n-i/\i<=met.length/\fr=mkF [(1,o),(5,y),(6,sL (Z T) n n),(7,v),(8,d),(9,i),(19,n),(20,v)]/\
   m.own T=Z (.cells (Bp L))/\Le hB m/\GI m d (kz met)/\blk d≠Z T/\Z2 hB d/\TI n on es v L met (fun a w=>(∃j,j<i/\met[j]?=Z a)/\Jp es a w/\on w=fF))
  n [(1,o),(5,y),(6,sL (Z T) n n),(7,v),(8,sL (Z h4.next) 1 1),(9,(0:Nat)),(19,n),(20,v)] hAs
  ⟨0,_,_,[v],rfl,Z6 _,rfl,aj.own _ _ J,I.trans aj,gM,by grind[blk],fun b hb=>by grind[blk],aC⟩ ?_
 clear aC gM bg nM o5 bb aj e5 h5 J I D st1 C ai S aa c2 oT A tO ag;clear h4 hh L;rintro k fr m U ⟨i,L,d,met,rfl,hi,rfl,oT,leq,gm,nm,am,E⟩;have lm:=fun g=>gm.rl.TA g;have aD:=E.abP;rw[y6]at lm;simp only[HO,seval,lm];refine Kl.intro (fun ht=>?_) (fun hf=>?_)
 rotate_left
 .have aB:met.length<=i:=vp hf;simp only[HO,seval,aaa v NH];refine tn (n-(v+1)) [(1,o),(5,y),(6,sL (Z T) n n),(19,n),(20,(v+1:Nat))] NH hAs ⟨v+1,L,rfl,c,rfl,oT,leq,E.finish fun a w ha V bh=>⟨?_,V,bh⟩⟩;grind[mem_iff_getElem?]
 have p:i<met.length:=acb ht;clear ht;have f:=CA p;have aE:=sY p;have aF:=gm.rl.DH i (by rw[y6];exact p);have W:=gm.rl.Uc i (by rw[y6];exact p);rw[aE]at W;generalize met[i]=u at f W;clear aE;have K:u∈met:=BS f;have bQ:u<n:=by have:=(Ny.1 ((E.mm u).1 K)).1;grind[TI.len]
 have al:u<(Zh n es).length:=by grind[Xq]
 have bj:=G.NS u al;have⟨uv,bk,s⟩:=G.Wm u al;have bm:(Zh n es).getD u []=(Zh n es)[u]:=D4 al;generalize (Zh n es)[u]=row at s bm;have lr:=fun g=>s.TA g;have bT:row.length<=2000:=by have:=bV n es row (by grind);have:es.length<=594:=hr.len;omega
 simp only[HO,seval,aF,W,bj,bk m leq,lr];have aH:TI n on es v L met (fun a w=>((∃j,j<i/\met[j]?=Z a)/\Jp es a w/\on w=fF)\/(a=u/\(w:Int)∈row.take 0/\on w=fF)):=E.mono fun a w h=>by grind
 refine aab.intro (fun k fr m=>∃(q:Nat)(L:RZ)(d:vV)(met:II),k=row.length-q/\q<=row.length/\fr=mkF [(1,o),(5,y),(6,sL (Z T) n n),(7,v),(8,d),(9,i),(19,n),(20,v),(52,uv),(53,row.length),(54,q)]/\
   m.own T=Z (.cells (Bp L))/\Le hB m/\GI m d (kz met)/\blk d≠Z T/\Z2 hB d/\met[i]?=Z u/\TI n on es v L met (fun a w=>((∃j,j<i/\met[j]?=Z a)/\Jp es a w/\on w=fF)\/(a=u/\(w:Int)∈row.take q/\on w=fF)))
  row.length [(1,o),(5,y),(6,sL (Z T) n n),(7,v),(8,d),(9,i),(19,n),(20,v),(52,uv),(53,row.length),(54,(0:Nat))] hAs
  ⟨0,L,d,met,rfl,Z6 _,rfl,oT,leq,gm,nm,am,f,aH⟩ ?_
 clear aH aF W lm;clear K f p aD E am nm gm leq oT U hi;clear m L d met;rintro k fr m U ⟨q,L,d,met,rfl,bW,rfl,oT,leq,gm,nm,am,f,E⟩;have K:u∈met:=BS f;have aD:=E.abP;have p:=(Ny.1 f).1;refine Uy ?_;refine Kl.intro (fun ht=>?_) (fun hf=>?_)
 rotate_left
 .have aB:row.length<=q:=vp hf;simp only[HO,seval,aaa i NH];refine tn (n-(i+1)) [(1,o),(5,y),(6,sL (Z T) n n),(7,v),(8,d),(9,(i+1:Nat)),(19,n),(20,v)] NH hAs ⟨i+1,L,d,met,rfl,p,rfl,oT,leq,gm,nm,am,E.mono fun a w h=>?_⟩;grind[EW]
 have F:q<row.length:=acb ht;clear ht;have aq:=s.DH q F;have X:=(s.le Nn.RP leq).Uc q F;have bo:row.take (q+1)=row.take q++[row[q]]:=XJ F;have ar:row[q]∈(Zh n es).getD u []:=hGr;generalize row[q]=x at X bo ar;obtain⟨w,rfl,r⟩:=Ru hR ar;have V:=(EW hR u w).1 ar;have M:=CA (show w<L.length by grind[TI.len]);generalize L[w]'(by grind)=lw at M
 have N:=az m leq w r;have aJ:=aA m L w lw oT M;by_cases c3:on w=tT
 .rw[c3]at N;simp only[HO,seval,aq,X,z _ w r,N,aaa q NH];refine tn (row.length-(q+1)) [(1,o),(5,y),(6,sL (Z T) n n),(7,v),(8,d),(9,i),(19,n),(20,v),(52,uv),(53,row.length),(54,(q+1:Nat))] NH hAs
   ⟨q+1,L,d,met,rfl,F,rfl,oT,leq,gm,nm,am,f,E.mono fun a b h=>?_⟩
  rcases h with h|⟨h1,h2,h3⟩
  .exact .inl h
  grind
 rw[aoG]at c3;rw[c3]at N;have aK:∀(O:II),(∀j,j<met.length->O[j]?=met[j]?)->∀a b,((∃j,j<i/\O[j]?=Z a)/\Jp es a b/\on b=fF)\/(a=u/\(b:Int)∈row.take (q+1)/\on b=fF)->
   (((∃j,j<i/\met[j]?=Z a)/\Jp es a b/\on b=fF)\/(a=u/\(b:Int)∈row.take q/\on b=fF))\/b=w:=fun O hm a b h=>by
  rcases h with⟨⟨j,hj,bY⟩,h2⟩|⟨h1,h2,h3⟩
  .grind
  grind
 by_cases c4:lw<0
 rotate_left
 .simp only[HO,seval,aq,X,z _ w r,N,R _ w r,aJ,c4,aaa q NH];exact tn (row.length-(q+1)) [(1,o),(5,y),(6,sL (Z T) n n),(7,v),(8,d),(9,i),(19,n),(20,v),(52,uv),(53,row.length),(54,(q+1:Nat))] NH hAs
   ⟨q+1,L,d,met,rfl,F,rfl,oT,leq,gm,nm,am,f,E.stay K V ⟨lw,M,NH⟩ (aK met fun _ _=>rfl)⟩
 have aL:L[w]?=Z (-1):=by
  rcases E.val w lw M with rfl|⟨_,k,_,rfl,_⟩
  .exact M
  .omega
 have st1:aaK pG m 3 (pT (Z ⟨T,w,Y⟩)) v=Z (m.put T (.cells (Bp (L.set w (v:Int))))):=by rw[QB (P:=pG) (t:=3) (x:=v) Ac Ji oT (off:=w) (by rw[uE,E.len];exact r) rfl rfl,yy]
 have D:WF (m.put T (.cells (Bp (L.set w (v:Int))))):=U.put _ (U.lt oT);have I:Le hB (m.put T (.cells (Bp (L.set w (v:Int))))):=leq.put _ nT;have J:(m.put T (.cells (Bp (L.set w (v:Int))))).own T=Z (.cells (Bp (L.set w (v:Int)))):=aai.Y3 _ _ _;have br:GI (m.put T (.cells (Bp (L.set w (v:Int))))) d (kz met):=GS.put gm _ nm;simp only[HO,seval,aq,X,z _ w r,N,R _ w r,aJ,c4,st1];generalize m.put T (.cells (Bp (L.set w (v:Int))))=h4 at*;have⟨aN,h5,h6,e5,e6,g6,w6,l5,hf,hk⟩:=br.push D (w:Int) (by grind[y6]);have⟨l6,a6⟩:=hf hB I am;have⟨bx,bz⟩:=hk T _ J nm;have aP:kz met++[(w:Int)]=kz (met++[w]):=by simp[kz]
 rw[aP]at g6;simp only[HO,seval,e5,e6,aaa q NH];exact tn (row.length-(q+1)) [(1,o),(5,y),(6,sL (Z T) n n),(7,v),(8,aN),(9,i),(19,n),(20,v),(52,uv),(53,row.length),(54,(q+1:Nat))] NH hAs
  ⟨q+1,_,aN,met++[w],rfl,F,rfl,bx,l6,g6,bz,a6,by rw[si p];exact f,E.push K V c3 aL (aK _ fun j hj=>si hj)⟩
variable {es:List Pr} {j n s t v w:Nat} {met:List Bool} {o opn tH:II} {p q:Pr} {up:RZ} {x:Int}
theorem D3.lt(a:D3 es)(b:i<j)(hi:es[i]?=Z p)(c:es[j]?=Z q):p.1<q.1\/p.1=q.1/\p.2<q.2:=(Hv p q).1 (a i j p q b hi c)
theorem besM_asc':∀(k:Nat)(es:xLP),es.length=k->InR n es->D3 es->∀u,((Zh n es).getD u []).Pairwise (·<·):=by
 intro k
 induction k with
 |zero=>
  intro es d _ _ u;obtain rfl:=Bn d;have f:(Zh n []).getD u []=[]:=by grind[Zh]
  rw[f];exact .nil
 |succ k s=>
  intro g d t ha u;obtain⟨es,p,rfl⟩:∃es p,g=es++[p]:=by
   rcases ah1 g with rfl|⟨es,p,h⟩
   all_goals grind
  have c:InR n es:=fun q m=>t q (by simp[m]);have mi:D3 es:=fun i j a b o hi B=>ha i j a b o hGr hGr;have s:=s es hGr c mi;have C:=t p Ma;have low:∀u:Nat,∀x∈(Zh n es).getD u [],((u:Int)=p.1->x<p.2)/\((u:Int)=p.2->x<p.1):=by
   intro u x v;obtain⟨w,rfl,_⟩:=Ru c v;have l:=(EW c u w).1 v;have key:∀q∈es,q.1<p.1\/q.1=p.1/\q.2<p.2:=by intro q m;have⟨i,hi⟩:=vZ.1 m;have r:=(Ny.1 hi).1;exact ha.lt (i:=i) (j:=es.length) r hGr Ma
   rcases l with h|h<;>have y:=c _ h<;>have h2:=key _ h<;>simp only at y h2<;>constructor<;>intro e<;>omega
  have gd:∀(rows:AM)(x:Int)(i:Nat),(rows.set i (rows.getD i []++[x])).getD u []=if i=u/\i<rows.length then rows.getD u []++[x]else rows.getD u []:=hGr
  rw[NJ];have z:=Xq n es;have y:p.1.toNat<n:=NH;simp only[Xs];rw[gd];simp only[Q9,z];have A:=gd (Zh n es) p.2 p.1.toNat;rw[z]at A;rw[A];by_cases D:p.1.toNat=u
  .grind
  .by_cases E:p.2.toNat=u
   .grind
   grind
theorem KW(es:xLP)(a:InR n es)(ha:D3 es)(u:Nat):((Zh n es).getD u []).Pairwise (·<·):=besM_asc' es.length es rfl a ha u
def Full(es:xLP)(o:II)(x:Nat):Prop:=∀y,Jp es x y->y∈o
inductive du (n:Nat) (es:xLP) (from_:Nat):II->RZ->Prop
 |start:du n es from_ [from_] (rP n (-1))
 |step {o:II} {up:RZ} {k v w:Nat}:du n es from_ o up->o[k]?=Z v->Jp es v w->w∉o->(∀y,Jp es v y->y∉o->w<=y)->(∀(j x:Nat),k<j->o[j]?=Z x->Full es o x)->du n es from_ (o++[w]) (up.set w (v:Int))
structure Oc (n:Nat) (es:xLP) (from_:Nat) (o:II) (up:RZ):Prop where
 KP:du n es from_ o up
 full:∀x∈o,Full es o x
theorem du.len(d:du n es s o up):1<=o.length/\up.length=n:=by
 induction d<;>grind
theorem du.same(d:du n es s o up):∀{b:II}{a:RZ},du n es s b a->o.length=b.length->o=b/\up=a:=by
 induction d with
 |start=>intro b a c j;cases c<;>grind
 |@step o up k v w d l ha hw u hf m=>
  intro b a c j;cases c with
  |start=>grind
  |@step x p k1 q w1 d1 e f g r i=>
   obtain⟨rfl,rfl⟩:=m d1 hGr;have t:k=k1:=by
    rcases anM k k1 with h|h|h
    .exact absurd (hf k1 q h e w1 f) g
    .exact h
    .exact absurd (i k v h l w ha) hw
   grind
theorem du.peel(d:du n es s o up):∀m,1<=m->m<o.length->∃a b,du n es s a b/\a.length=m/\∃x∈a,¬Full es a x:=by
 induction d with
 |start=>grind
 |@step o up k v w d c ha hw e hf g=>
  intro m i h2;by_cases h:m<o.length
  .grind
  .simp at h2;exact⟨o,up,d,NH,v,BS c,fun f=>hw (f w ha)⟩
theorem Oc.uniq{o d:II}{up c:RZ}(a:Oc n es s o up)(b:Oc n es s d c):o=d/\up=c:=by
 have key:∀{o d:II}{up c:RZ},Oc n es s o up->Oc n es s d c->¬o.length<d.length:=by intro o d up c a b h;have⟨g,e,d2,f,x,i,hf⟩:=b.KP.peel o.length a.KP.len.1 h;obtain⟨rfl,rfl⟩:=a.KP.same d2 f.symm;grind[Oc.full]
 have j:=key a b;have h2:=key b a;exact a.KP.same b.KP NH
structure DS (n:Nat) (es:xLP) (s:Nat) (met:List Bool) (tH:II) (o opn:II) (up:RZ):Prop where
 KP:du n es s o up
 metl:met.length=n
 mm:∀v,v<n->(met[v]?=Z tT↔v∈o)
 trl:tH.length=n
 tr:∀v t,tH[v]?=Z t->t<=((Zh n es).getD v []).length/\∀x∈((Zh n es).getD v []).take t,x.toNat∈o
 sub:opn.Sublist o
 closed:∀v∈o,v∉opn->Full es o v
 lt:∀v∈o,v<n
 nodup:o.Nodup
theorem DS.start{n:Nat}{es:xLP}{s:Nat}(hs:s<n):DS n es s ((rP n fF).set s tT) (rP n 0) [s] [s] (rP n (-1)) where
 KP:=.start
 metl:=by simp
 mm v a:=hGr
 trl:=by simp
 tr v t c:=hGr
 sub:=ann _
 closed v a b:=absurd a b
 lt v a:=hGr
 nodup:=by simp
theorem DS.len_o(d:DS n es s met tH o opn up):o.length<=n:=by have:o.length<=(rG n).length:=d.nodup.length_le_of_subset (by grind[DS.lt]);grind
def DS.len_opn(d:DS n es s met tH o opn up):opn.length<=n:=jz d.sub.length_le d.len_o
theorem DS.pop(b:InR n es)(d:DS n es s met tH o (opn++[v]) up)(a:tH[v]?=Z ((Zh n es).getD v []).length):DS n es s met tH o opn up:=
 {d with
  sub:=by grind[List.Sublist.trans,DS.sub]
  closed:=fun x c f=>by
   by_cases e:x=v
   .intro y g;have:=(d.tr _ _ a).2 y (by grind[EW]);grind
   grind[DS.closed]}
theorem DS.skip(d:DS n es s met tH o opn up)(f:tH[v]?=Z t)(c:((Zh n es).getD v [])[t]?=Z x)(h:x.toNat∈o):DS n es s met (tH.set v (t+1)) o opn up:=
 {d with
  trl:=by simp[d.trl]
  tr:=fun u q a=>by
   rw[Tn]at a;split at a
   .rename_i e;subst e;split at a
    .injection a with a;subst a;have g:=(Ny.1 c).1;refine⟨g,fun y b=>?_⟩;rw[ahI,c]at b;simp at b;rcases b with b|b
     .exact(d.tr _ _ f).2 y b
     grind
    .cases a
   .exact d.tr u q a}
theorem DS.last(d:DS n es s met tH o (opn++[v]) up):
  ∃k,o[k]?=Z v/\∀(j x:Nat),k<j->o[j]?=Z x->Full es o x:=by
 obtain⟨a,b,rfl,h,h2⟩:=List.append_sublist_iff.1 d.sub;have g:v∈b:=hGr;have⟨i,hi⟩:=vZ.1 g;refine⟨a.length+i,by rw[AE NH];simpa using hi,fun j x l f=>?_⟩;have e:x∈a++b:=BS f;refine d.closed x e fun c=>?_;rw[AE NH]at f;have nd:=d.nodup;rw[aax,xD]at c;rcases c with c|rfl
 .grind
 .have:j-a.length=i:=by grind[List.getElem?_inj]
  omega
theorem DS.push(g:InR n es)(ha:D3 es)(d:DS n es s met tH o (opn++[v]) up)(p:tH[v]?=Z t)(j:((Zh n es).getD v [])[t]?=Z (w:Int))(x:w∉o):
  DS n es s (met.set w tT) (tH.set v (t+1)) (o++[w]) (opn++[v]++[w]) (up.set w (v:Int)):=by
 have⟨k,z,hf⟩:=d.last;have l:(w:Int)∈(Zh n es).getD v []:=BS j;have c:=(EW g v w).1 l;have m:=(c.lt g).2;have r:=KW es g ha v;refine⟨.step d.KP z c x (fun y a A=>?_) hf,by simp[d.metl],fun u b=>?_,by simp[d.trl],fun u q f=>?_,(by grind[DS.sub]),fun u b B=>?_,fun u b=>?_,?_⟩
 .obtain⟨i,hi⟩:=vZ.1 ((EW g v y).2 a);rcases anM i t with h|h|h
  .have:=(d.tr v t p).2 (y:Int) (BS (i:=i) hGr);grind
  .grind
  grind[pairwise_iff_getElem]
 .grind[DS.metl,DS.mm]
 .rw[Tn]at f;split at f
  .rename_i e;subst e;split at f
   .injection f with f;subst f;refine⟨(Ny.1 j).1,fun y a=>?_⟩;rw[ahI,j]at a;simp at a;rw[aax];rcases a with a|a
    .exact .inl ((d.tr _ _ p).2 y a)
    grind
   .cases f
  .obtain⟨C,h2⟩:=d.tr u q f;grind
 .rw[aax,xD]at b;rcases b with b|rfl
  .exact fun y a=>bC _ (d.closed u b (by grind[mem_append_left]) y a)
  grind
 .rw[aax,xD]at b;rcases b with b|rfl
  .exact d.lt u b
  .exact m
 grind[DS.nodup]
theorem DS.fin(d:DS n es s met tH o [] up):Oc n es s o up:=⟨d.KP,(by grind[DS.closed])⟩
variable {X k:Nat} {ev:Value} {n:Int}
def Wj{v:vV}(a:xO v k):acB pG 24 [(0,n),(1,v)]=Z (.agg #[n,v]):=by obtain⟨_,_,rfl,_⟩:=a;kernel_rfl
theorem Lo(h:aai):abO pG h 24=Z (pT (Z h.next),h.alloc (.cells [.int .i64 0,.slice Y 0 0])):=rfl
def newG(hw:WF h)(r:PR h ev es):∃b h2,abO Tryz.prog h 24=some (.pointer (some ⟨h.next,0,none⟩),b)/\aaK Tryz.prog b 24 (.pointer (some ⟨h.next,0,none⟩)) (.agg #[.int .i64 n,ev])=some h2/\Le h h2/\WF h2/\
  ∀g,Le h2 g->aaC Tryz.prog g 24 ⟨h.next,0,none⟩=some (.agg #[.int .i64 n,ev])/\aaC Tryz.prog g 3 ⟨h.next,0,none⟩=some (.int .i64 n)/\aaC Tryz.prog g 22 ⟨h.next,1,none⟩=some ev:=by
 obtain⟨b,f,l1,w1,d⟩:=Tt hw [.int .i64 0,.slice none 0 0]
 have i:h.own h.next=none:=(Le.refl h).next hw (qL0 _)
 have one:=r.sl.one;have a:UA Tryz.prog 24=2:=Ji;have j:(Value.agg #[.int .i64 n,ev]).cells=#[.int .i64 n,ev]:=rfl;have k:(Value.int IntKind.i64 n).oneCell'=true:=rfl
 have c:(b.put h.next (.cells [.int .i64 n,ev])).own h.next=some (.cells [.int .i64 n,ev]):=aai.Y3 _ _ _
 refine⟨b,b.put h.next (.cells [.int .i64 n,ev]),by rw[Lo,f],?_,l1.put _ i,w1.put _ (w1.lt d),fun g e=>⟨?_,Fq Ac rfl (e.own _ _ c),Fq AV rfl (e.own _ _ c)⟩⟩
 .simp[aaK,d,j,a,putCells,qS5,one,k]
 .rw[Wx qS5 rfl a (e.own _ _ c) Ma];rfl
def mkP4(h:aai)(a b c d:Pr):aas pG h 22 4 [(0,UI a),(1,UI b),(2,UI c),(3,UI d)]=Z (sL (Z h.next) 4 4,h.alloc (.cells (Iu [a,b,c,d]))):=Ji
theorem PR.made{id:Nat}(a:h.own id=Z (.cells (Iu ps)))(b:ps.length=k):PR h (sL (Z id) k k) ps:=by have:=CS.own (k:=2) (off:=0) (n:=k) (cap:=k) a (by grind[Ta]);grind[Ta,PR.eq_1]
structure GX (h:aai) (X:Nat) (n:Int) (ev:vV) (ps:xLP):Prop where
 ox:h.own X=Z (.cells [n,ev])
 gp:GP h ev ps
 ne:blk ev≠Z X
def ait(n:Int):acB pG 24 [(0,n)]=Z (.agg #[n,.slice Y 0 0]):=Ji
theorem GX.new(hw:WF h)(n:Int):∃a h2,abO Tryz.prog h 24=some (.pointer (some ⟨h.next,0,none⟩),a)/\aaK Tryz.prog a 24 (.pointer (some ⟨h.next,0,none⟩)) (.agg #[.int .i64 n,.slice none 0 0])=some h2/\Le h h2/\WF h2/\h.own h.next=none/\GX h2 h.next n (.slice none 0 0) []:=by
 obtain⟨a,j,l1,w1,d⟩:=Tt hw [.int .i64 0,.slice none 0 0]
 have e:h.own h.next=none:=(Le.refl h).next hw (qL0 _)
 have b:UA Tryz.prog 24=2:=Ji;have f:(Value.agg #[.int .i64 n,.slice none 0 0]).cells=#[.int .i64 n,.slice none 0 0]:=rfl;have g:(Value.int IntKind.i64 n).oneCell'=true:=rfl;have c:(Value.slice none 0 0).oneCell'=true:=rfl
 have i:(a.put h.next (.cells [.int .i64 n,.slice none 0 0])).own h.next=some (.cells [.int .i64 n,.slice none 0 0]):=aai.Y3 _ _ _
 refine⟨a,a.put h.next (.cells [.int .i64 n,.slice none 0 0]),by grind[Lo],?_,l1.put _ e,w1.put _ (w1.lt d),e,⟨i,GP.nil _,by simp[blk]⟩⟩
 simp[aaK,d,f,b,putCells,qS5,g,c]
theorem GX.le{h h':aai}{X:Nat}{n:Int}{ev:vV}{ps:xLP}(g:GX h X n ev ps)(e:Le h h'):GX h' X n ev ps:=⟨e.own _ _ g.ox,g.gp.le e,g.ne⟩
def GX.ld(g:GX h X n ev ps):aaC pG h 24 ⟨X,0,Y⟩=Z (.agg #[n,ev])/\aaC pG h 3 ⟨X,0,Y⟩=Z (.int .i64 n)/\aaC pG h 22 ⟨X,1,Y⟩=Z ev:=by refine⟨?_,Fq Ac rfl g.ox,Fq AV rfl g.ox⟩;rw[Wx qS5 rfl (by kernel_rfl:UA pG 24=2) g.ox Ma];rfl
theorem GX.push'(g:GX h X n ev ps)(hw:WF h)(p:Pr)(l:ps.length+1<=100000):
  ∃v' a i c,aas pG h 22 1 [(0,UI p)]=Z (sL (Z h.next) 1 1,a)/\aaR pG a 22 22 ev (sL (Z h.next) 1 1)=Z (v',i)/\aaK pG i 22 (pT (Z ⟨X,1,Y⟩)) v'=Z c/\
   GX c X n v' (ps++[p])/\WF c/\Le h a/\(∀f,Le f h->f.own X=Y->Z2 f ev->Le f c/\Z2 f v')/\(∀b o,h.own b=Z o->b≠X->blk ev≠Z b->c.own b=Z o/\blk v'≠Z b):=by
 have⟨v',a,i,e4,m,j,k,l4,hf,q⟩:=g.gp.push hw p l;have⟨d,e⟩:=q X _ g.ox g.ne;have one:=j.pr.sl.one;have r:v'.cells=#[v']:=by obtain⟨_,_,rfl,_⟩:=j.pr.sl;rfl
 have st:=QB (P:=pG) (t:=22) (x:=v') AV Ji d (off:=1) Ma r one;refine⟨v',a,i,_,e4,m,st,⟨aai.Y3 _ _ _,GS.put j _ e,e⟩,k.put _ (k.lt d),l4,fun f s u af=>?_,fun b o hb v w=>?_⟩
 all_goals grind[Le.put,aai.By]
theorem Back_any(b:abw)(v:vV)(xs:RZ)(h:aai)(c:RL RP h v xs):AC pG b 53 [v] h fun x h'=>∃B,x=.func (.func 72) #[] #[pT (Z ⟨B,0,Y⟩)]/\h.next<=B/\h'.own B=Z (.cells [v])/\Le h h':=by
 refine AC.vF func53 ntmps53 results53 fun a=>?_;have⟨d,e,l1,w1,g⟩:=Tt a [v]
 have f:zF h v=Z (pT (Z h.next),d):=by rw[<-e];obtain⟨_,_,rfl,_⟩:=c.sl;rfl
 refine Sk f ?_;grind
theorem Back1_any(o:abw)(e B:Nat)(v:vV)(xs:RZ)(I:Nat->aai->Prop)(h:aai)(u:xs.length<1000000)(d:∀i g,I i g->g.own B=Z (.cells [v])/\RL RP g v xs)(f:I xs.length h)(p:∀i g (hi:i<xs.length),WF g->h.next<=g.next->I (i+1) g->AY pG o e [.int .i64 i,.int .i64 xs[i]] g fun x l=>x=.bool tT/\h.next<=l.next/\I i l):
  AC pG o 72 [Yg e,pT (Z B)] h fun _ h'=>I 0 h':=by
 have ld:∀i g,I i g->aaC pG g 47 ⟨B,0,Y⟩=Z v:=fun i g hi=>by rw[Fq Mb rfl (d i g hi).1];rfl
 refine AC.vF func72 ntmps72 results72 fun q=>?_;have w1:aaY .i64 ((xs.length:Int)-1)=(xs.length:Int)-1:=ie _ NH NH;simp only[HO,seval,ld _ _ f,(d _ _ f).2.len Mb,w1]
 refine lIn (fun k fr g=>∃i:Nat,k=i/\i<=xs.length/\fr=mkF [(0,Yg e),(1,pT (Z B)),(3,.int .i64 ((i:Int)-1))]/\h.next<=g.next/\I i g) ⟨xs.length,rfl,qL0 _,rfl,qL0 _,f⟩ ?_
 rintro k fr g r ⟨i,rfl,hi,rfl,hle,a⟩;refine Uy ?_;refine Kl.intro (fun w=>?_) (fun hf=>?_)
 .have b:1<=k:=hGr;obtain⟨j,rfl⟩:∃j,k=j+1:=⟨k-1,NH⟩;have m:j<xs.length:=NH;have s:((j+1:Nat):Int)-1=(j:Int):=NH;have ad:=(d _ _ a).2.addr (k:=.i64) Mb Ac rfl j m;have le:=(d _ _ a).2.Uc j m;simp only[HO,seval,s,ld _ _ a,ad,le];refine TC.yield (by simp only[HO,seval,yieldOf]<;>rfl) (p j g m r hle a) ?_;rintro x l t ⟨rfl,c,n⟩;have w2:aaY .i64 ((j:Int)-1)=(j:Int)-1:=ie _ NH NH;refine Sk w2 ?_;exact lgA NH ⟨j,rfl,NH,rfl,c,n⟩
 .have b:k=0:=hGr;subst b;refine Uy ?_;exact a
variable {n:Nat}
instance adjDec (es:xLP) (u w:Nat):Decidable (Jp es u w):=by unfold Jp;infer_instance
def nxtF(n:Nat)(es:xLP)(o:II)(v:Nat):Option Nat:=(rG n).find? fun w=>decide (Jp es v w)&&!o.contains w
def af5(n:Nat)(es:xLP)(o:II):II->Option (Nat×Nat)
  |[]=>Y
  |v::r=>match nxtF n es o v with
    |some w=>Z (v,w)
    |none=>af5 n es o r
def walkS(n:Nat)(es:xLP)(st:II×RZ):II×RZ:=
 match af5 n es st.1 st.1.reverse with
 |some (v,w)=>(st.1++[w],st.2.set w (v:Int))
 |none=>st
def afG(n:Nat)(es:xLP):Nat->II×RZ->II×RZ
 |0,st=>st
 |k+1,st=>afG n es k (walkS n es st)
def K9(n:Nat)(es:xLP)(s:Nat):II×RZ:=afG n es n ([s],rP n (-1))
theorem nxtF_some(a:InR n es)(h:nxtF n es o v=Z w):Jp es v w/\w∉o/\∀y,Jp es v y->y∉o->w<=y:=by grind[nxtF,List.find?_range_eq_some]
theorem Yf(a:InR n es)(h:nxtF n es o v=Y):Full es o v:=by intro y b;unfold nxtF at h;rw[List.find?_eq_none]at h;have:=h y (j3.2 (b.lt a).2);grind
theorem ac8{n:Nat}{es:xLP}{o:II}(b:InR n es):∀{l:II},af5 n es o l=Y->∀x∈l,Full es o x
 |[],_,x,a=>by simp at a
 |v::r,h,x,a=>by
  simp only[af5]at h;split at h
  .cases h
  .rcases Og.1 a with rfl|a
   .grind[Yf]
   .exact ac8 b h x a
theorem amU{n:Nat}{es:xLP}{o:II}(b:InR n es):∀{l:II}{v w:Nat},af5 n es o l=Z (v,w)->∃i,l[i]?=Z v/\nxtF n es o v=Z w/\∀(j x:Nat),j<i->l[j]?=Z x->Full es o x
 |[],v,w,h=>by cases h
 |u::r,v,w,h=>by
  simp only[af5]at h;split at h
  .rename_i w' c;injection h with h;injection h with a h2;subst a h2;exact⟨0,rfl,c,NH⟩
  .obtain⟨i,a,h2,h3⟩:=amU b h;refine⟨i+1,hGr,h2,fun j x d e=>?_⟩;cases j<;>grind[Yf]
theorem du.ndlt(b:InR n es)(hs:s<n)(d:du n es s o up):o.Nodup/\∀x∈o,x<n:=by
 induction d with
 |start=>simp[hs]
 |@step o up k v w d c ha hw e hf f=>
  refine⟨?_,fun x a=>?_⟩
  .grind
  .rw[aax,xD]at a;rcases a with a|rfl
   .grind
   .exact(ha.lt b).2
theorem du.boundF(a:InR n es)(hs:s<n)(d:du n es s o up):o.length<=n:=by have:=(d.ndlt a hs).1.length_le_of_subset (l₂:=rG n) fun v b=>j3.2 ((d.ndlt a hs).2 v b);grind
theorem jM{n:Nat}{es:xLP}{s:Nat}(a:InR n es)(hs:s<n):∀(k:Nat){o:II}{up:RZ},du n es s o up->n<o.length+k->Oc n es s (afG n es k (o,up)).1 (afG n es k (o,up)).2
 |0,o,up,d,h=>by have:=d.boundF a hs;omega
 |k+1,o,up,d,h=>by
  simp only[afG,walkS];split
  .rename_i v w b;have⟨i,m,h2,h3⟩:=amU a b;have⟨c,e,f⟩:=nxtF_some a h2;refine jM a hs k (.step (k:=o.length-1-i) d ?_ c e f fun j x p g=>?_) (by simp;omega)
   .grind
   .have l:=(Ny.1 g).1;refine h3 (o.length-1-j) x NH ?_;grind
  .rename_i b;have hf:∀x∈o,Full es o x:=by grind[ac8]
   have:∀k,afG n es k (o,up)=(o,up):=by
    intro k
    induction k<;>grind[afG,walkS]
   rw[this];exact⟨d,hf⟩
def Te(a:InR n es)(hs:s<n):Oc n es s (K9 n es s).1 (K9 n es s).2:=jM a hs n .start Ma
theorem Oc.eq(a:InR n es)(hs:s<n)(d:Oc n es s o up):o=(K9 n es s).1/\up=(K9 n es s).2:=d.uniq (Te a hs)
variable {a b:Nat}
def GW(a b:Nat):Pr:=(min (a:Int) (b:Int),max (a:Int) (b:Int))
theorem so(a b:Nat):GW a b=GW b a:=by grind[GW]
theorem ac0:GW a b=(((min a b:Nat):Int),((max a b:Nat):Int)):=by grind[GW]
theorem H4(c:InR n es)(h:Jp es a b):GW a b∈es:=by
 unfold GW;rcases h with h|h
 .have:=c _ h;grind
 .have:=c _ h;grind
theorem ahq(h:GW v a=GW v b):a=b:=by rw[ac0,ac0,jf]at h;omega
theorem T0(c:InR n es)(h:Jp es a b):GW a b∈es:=H4 c h
theorem Xa(b:InR n es)(h:Jp es a a):False:=by
 rcases h with h|h<;>have:=(b _ h).2.1<;>simp at this
def goS(rows:AM)(d:Nat×Nat):Nat×Nat:=(d.2,(if(rows.getD d.2 []).getD 0 0=(d.1:Int)then(rows.getD d.2 []).getD 1 0 else(rows.getD d.2 []).getD 0 0).toNat)
def goF(rows:AM):Nat->Nat×Nat->Nat->Nat×Nat
 |0,d,k=>(d.2,k)
 |f+1,d,k=>if(rows.getD d.2 []).length=2 then goF rows f (goS rows d) (k+1)else(d.2,k)
theorem alE(rows:AM):∀(K f:Nat)(d:Nat×Nat)(k:Nat),K<f->(∀i,i<K->(rows.getD (it (goS rows) i d).2 []).length=2)->(rows.getD (it (goS rows) K d).2 []).length≠2->goF rows f d k=((it (goS rows) K d).2,k+K)
 |0,f+1,d,k,_,_,h=>by have h':(rows.getD d.2 []).length≠2:=h;rw[goF,abE h'];rfl
 |K+1,f+1,d,k,hf,a,h2=>by have b:(rows.getD d.2 []).length=2:=a 0 (Nat.succ_pos _);rw[goF,abe b,alE rows K f (goS rows d) (k+1) NH (by grind[aaS]) (by grind[aaS]),<-aaS];grind
section
variable{n:Nat}{es:List Pr}(hR:InR n es)(hA:D3 es)
include hR hA
theorem abg{v:Nat}(h:((Zh n es).getD v []).length=2):∃a b:Nat,(Zh n es).getD v []=[(a:Int),(b:Int)]/\a≠b/\Jp es v a/\Jp es v b/\∀w,Jp es v w->w=a\/w=b:=by
 have e:=KW es hR hA v;have f:=fun w=>EW hR v w;have c:=fun x=>Ru hR (u:=v) (x:=x);generalize (Zh n es).getD v []=r at*
 match r,h with
 |[x,y],_=>obtain⟨a,rfl,-⟩:=c x Ma;obtain⟨b,rfl,-⟩:=c y Ma;have d:(a:Int)<(b:Int):=hGr;refine⟨a,b,rfl,NH,hGr,hGr,fun w hw=>?_⟩;grind
theorem goS_adj{d:Nat×Nat}(h2:((Zh n es).getD d.2 []).length=2):Jp es (goS (Zh n es) d).1 (goS (Zh n es) d).2:=by grind[abg,goS]
theorem amd{d a:Nat×Nat}(v:Jp es d.2 d.1)(v':Jp es a.2 a.1)(h2:((Zh n es).getD d.2 []).length=2)(e:goS (Zh n es) d=goS (Zh n es) a):d=a:=by have⟨l,x⟩:=d;have⟨l',x'⟩:=a;have ex:x=x':=congrArg Prod.fst e;grind[abg,goS,getD_cons_zero]
theorem aa7{d:Nat×Nat}(v:Jp es d.1 d.2):∀k,(∀i,i<k->((Zh n es).getD (it (goS (Zh n es)) i d).2 []).length=2)->Jp es (it (goS (Zh n es)) k d).1 (it (goS (Zh n es)) k d).2
 |0,_=>v
 |k+1,h=>goS_adj hR hA hGr
theorem af6{d:Nat×Nat}(v:Jp es d.1 d.2){K:Nat}(h:∀i,i<K->((Zh n es).getD (it (goS (Zh n es)) i d).2 []).length=2):∀i j,i<j->j<=K->it (goS (Zh n es)) i d=it (goS (Zh n es)) j d->d=it (goS (Zh n es)) (j-i) d
 |0,j,_,_,e=>e
 |i+1,j+1,a,c,e=>by have a1:=aa7 hR hA v i fun q b=>h q NH;have a2:=aa7 hR hA v j fun q b=>h q NH;have:=af6 v h i j NH NH (amd hR hA a1.symm a2.symm (h i NH) e);grind
theorem go_ends{c v:Nat}(b:Jp es c v)(g:((Zh n es).getD c []).length≠2):∃K,K<=n*n/\(∀i,i<K->((Zh n es).getD (it (goS (Zh n es)) i (c,v)).2 []).length=2)/\((Zh n es).getD (it (goS (Zh n es)) K (c,v)).2 []).length≠2:=by
 by_cases H:∀K,K<=n*n->(∀i,i<K->((Zh n es).getD (it (goS (Zh n es)) i (c,v)).2 []).length=2)->((Zh n es).getD (it (goS (Zh n es)) K (c,v)).2 []).length=2
 rotate_left
 .grind
 have all:∀K,K<=n*n+1->∀i,i<K->((Zh n es).getD (it (goS (Zh n es)) i (c,v)).2 []).length=2:=by
  intro K
  induction K<;>grind
 have all:=all _ (qL0 _);let code:Nat->Nat:=fun i=>(it (goS (Zh n es)) i (c,v)).1*n+(it (goS (Zh n es)) i (c,v)).2;have lt:∀i,i<=n*n->(it (goS (Zh n es)) i (c,v)).1<n/\(it (goS (Zh n es)) i (c,v)).2<n:=fun i hi=>(aa7 hR hA b i hGr).lt hR;have nd:((rG (n*n+1)).map code).Nodup:=by
  have key:∀i j,i<j->j<=n*n->code i≠code j:=fun i j a d e=>by
   have⟨a1,a2⟩:=lt i NH;have⟨h,k⟩:=lt j d;have e':(it (goS (Zh n es)) i (c,v)).1*n+(it (goS (Zh n es)) i (c,v)).2=(it (goS (Zh n es)) j (c,v)).1*n+(it (goS (Zh n es)) j (c,v)).2:=e;have l:0<n:=NH;have m2:(it (goS (Zh n es)) i (c,v)).2=(it (goS (Zh n es)) j (c,v)).2:=by grind[Nat.mul_add_mod_self_right,Nat.mod_eq_of_lt]
   have m1:(it (goS (Zh n es)) i (c,v)).1=(it (goS (Zh n es)) j (c,v)).1:=by grind[Nat.eq_of_mul_eq_mul_right]
   have m:=af6 hR hA b (K:=n*n+1) all i j a NH (amQ m1 m2);obtain⟨t,o⟩:∃t,j-i=t+1:=⟨j-i-1,NH⟩;grind[it,goS]
  rw[iy,Vn];exact ff hGr Ki
 have:=acK nd (B:=rG (n*n)) fun x f=>by obtain⟨i,hi,rfl⟩:=aev.1 f;have hi:=j3.1 hi;have⟨a1,a2⟩:=lt i NH;rw[j3];have p:((it (goS (Zh n es)) i (c,v)).1+1)*n<=n*n:=af7 n a1;grind
 grind
end
def aaA(rows:AM)(v:Nat):Bool:=(rows.getD v []).length==3||(rows.getD v []).length==4
def aad(rows:AM):II:=(rG rows.length).filter fun v=>aaA rows v
def aaj(rows:AM)(cs:II):List (Nat×Nat):=cs.flatMap fun c=>(rows.getD c []).map fun x=>(c,x.toNat)
def aal(rows:AM)(d:Nat×Nat):Nat×Nat:=goF rows 40001 d 0
def aaH(rows:AM)(d:Nat×Nat):Pr:=(min (d.1:Int) ((aal rows d).1:Int),max (d.1:Int) ((aal rows d).1:Int))
def aaI(rows:AM)(cs:II)(p:Pr):Nat:=((aaj rows cs).map (aaH rows)).count p
def aaU(rows:AM)(cs:II):Nat:=((aaj rows cs).map fun d=>(aal rows d).2+1).sum
def abh(W:Pr->Nat)(A B:II):Bool:=A.all fun c=>B.all fun d=>c==d||W (min (c:Int) (d:Int),max (c:Int) (d:Int))==2
def aa1(W:Pr->Nat)(cs:II):Bool:=
 let f:=cs.headD 0;let A:=cs.filter fun(c:Nat)=>W ((f:Int),((c:Nat):Int))==0;let B:=cs.filter fun(c:Nat)=>W ((f:Int),((c:Nat):Int))!=0
 A.length==3&&!B.contains f&&abh W A B
def aaN(es:xLP):Int:=
 let rows:=Zh 200 es
 if rows.any (fun r=>!(r.length==0||r.length==2||r.length==3||r.length==4))then 0 else
 let cs:=aad rows
 if cs.length=5 then
  if cs.any (fun c=>(rows.getD c []).length !=4)then 0
  else if aaU rows cs≠2*es.length then 0
  else if abh (aaI rows cs) cs cs then 5 else 0
 else if cs.length=6 then
  if cs.any (fun c=>(rows.getD c []).length !=3)then 0
  else if aaU rows cs≠2*es.length then 0
  else if aa1 (aaI rows cs) cs then 33 else 0
 else 0
attribute [local instance] Classical.propDecidable in
noncomputable def aaz(es:xLP):Int:=if bX ⟨200,es⟩then aaN es else 0
theorem ahL{n:Nat}{es:xLP}(hR:InR n es)(hA:D3 es)(a:n<=200){c v:Nat}(b:Jp es c v)(d:((Zh n es).getD c []).length≠2):
  ∃K,K<=40000/\(∀i,i<K->((Zh n es).getD (it (goS (Zh n es)) i (c,v)).2 []).length=2)/\((Zh n es).getD (it (goS (Zh n es)) K (c,v)).2 []).length≠2/\aal (Zh n es) (c,v)=((it (goS (Zh n es)) K (c,v)).2,K):=by
 have⟨K,e,h2,h3⟩:=go_ends hR hA b d;have f:K<=40000:=jz e (adE a a);grind[aal.eq_1,alE]
variable {α:Type}
def amr{n:Int}(b:h.own X=Z (.cells [n,ev])):∀g,Le h g->aaC pG g 24 ⟨X,0,Y⟩=Z (.agg #[n,ev])/\aaC pG g 3 ⟨X,0,Y⟩=Z (.int .i64 n)/\aaC pG g 22 ⟨X,1,Y⟩=Z ev:=fun g e=>by have a:UA pG 24=2:=Ji;refine⟨?_,Fq Ac rfl (e.own _ _ b),Fq AV rfl (e.own _ _ b)⟩;rw[Wx qS5 rfl a (e.own _ _ b) Ma];rfl
theorem RL.loadS{R:aai->vV->α->Prop}{v:vV}{xs:List α}(a:RL R h v xs){e:TypeId}{d:TypeDesc}(c:pG.underlying e=Z d)(hd:ab8 d=fF)(i:Nat)(hi:i<xs.length):∃u,R h u xs[i]/\∀g,Le h g->aaC pG g e (aaq v i)=Z u:=by have⟨vs,r,f,b⟩:=a;exact⟨_,b i _ _ (qL7 hi) (qL7 NH),(by grind[RS.le,RS.load])⟩
variable{P:Program}{W0:abw}{m:abd}{h:aai}{w:World}
def acO(l:RZ):xLV:=l.map (vV.int .i64)
theorem mN(l:RZ):(acO l).length=l.length:=by simp[acO]
theorem vr_int{n:Nat}{m:abd}{k:IntKind}{x:Int}{v:vV}(h:VR n m (.int k x) v):v=.int k x:=by cases h;rfl
theorem Rel.row(R:Rel W0 m h w){id:Nat}{c:xLV}{ys:RZ}(G:h.own id=Z (.cells c))(X:ys.length<=c.length)(q:Nat)(os:Array Obj):
  Rel W0 m (h.put id (.cells (acO ys++c.drop ys.length))) (Sort.grow (Sort.putRow (vV.int .i64) (Sort.ahead w q) (m id).blk (m id).base ys.toArray) os):=by
 have s:h.own id≠Y:=by rw[G];simp
 have⟨C,e,lo,hi,hb,hs,L,M,H,hf⟩:=R.own id _ G;have N:(m id).blk<w.heap.size:=(ah7.1 hb).1;generalize t:acO ys++c.drop ys.length=I;have J:I.length=c.length:=by grind[mN]
 have a:∀i,(h.put id (.cells I)).own i≠Y->h.own i≠Y:=by grind[aai.By]
 have p:∀i,h.own i≠Y->i≠id->(m i).blk≠(m id).blk:=fun i f n A=>n (R.inj i id f s A);have heq:∀b,b<w.heap.size->b≠(m id).blk->(Sort.grow (Sort.putRow (vV.int .i64) (Sort.ahead w q) (m id).blk (m id).base ys.toArray) os).heap[b]?=w.heap[b]?:=fun b O Q=>by simp only[Sort.grow,Sort.putRow,Sort.mapBlock,Sort.ahead];grind
 have y:(Sort.grow (Sort.putRow (vV.int .i64) (Sort.ahead w q) (m id).blk (m id).base ys.toArray) os).heap[(m id).blk]?=Z (.cells (Sort.putCells (vV.int .i64) (m id).base ys.toArray C) e (lo,hi)):=by simp only[Sort.grow,Sort.putRow,Sort.mapBlock,Sort.ahead];rw[qL162 hGr,dU,abe rfl,hb];rfl
 have B:(Sort.grow (Sort.putRow (vV.int .i64) (Sort.ahead w q) (m id).blk (m id).base ys.toArray) os).heap.size=w.heap.size+os.size:=by simp[Sort.grow,Sort.putRow,Sort.mapBlock,Sort.ahead]
 refine⟨by rw[B];have:=R.size;omega,fun b sZ=>?_,R.ext,fun i f=>R.lt i (a i f),fun i f=>R.new i (a i f),fun i o g=>?_,fun i j f D=>R.inj i j (a i f) (a j D),R.os,R.output,⟨R.tape.1,jz R.tape.2 (ail _ _)⟩,R.aah.put a (fun b hb S=>heq b hb (fun e=>S id s e.symm))⟩
 .grind[Rel.new,Rel.qi]
 .by_cases n:i=id
  .subst n;rw[aai.Y3]at g;injection g with g;subst g;have T:(Sort.putCells (vV.int .i64) (m i).base ys.toArray C).size=C.size:=by simp[Sort.putCells]
   have r:∀k,(Sort.putCells (vV.int .i64) (m i).base ys.toArray C)[k]?=(C[k]?).map fun x=>if(m i).base<=k/\k<(m i).base+ys.length then vV.int .i64 ys.toArray[k-(m i).base]!else x:=fun k=>by simp[Sort.putCells]
   refine⟨_,e,lo,hi,y,hGr,hGr,⟨hGr,fun k v v' l d=>?_⟩,fun u U=>?_,fun j hj=>hf j hGr⟩
   .rw[anh]at d;split at d
    .rename_i V;rw[b7,ah6,r]at d;by_cases E:k<ys.length
     .have F:(m i).base+k<C.size:=NH;rw[ahD F,ahe,abe ⟨NH,NH⟩]at d;rw[<-t,si hGr]at l;simp only[acO,aiq,qL7 E,ahe,ag4]at l d;subst l d;have:(m i).base+k-(m i).base=k:=NH;rw[this,getElem!_pos _ k hGr];exact .flat rfl
     .rw[<-t,AE hGr,mN,b7]at l;have W:ys.length+(k-ys.length)=k:=NH;rw[W]at l;refine M.2 k v v' l ?_;rw[anh,abe NH,b7,ah6,<-d];cases K:C[(m i).base+k]? with
      |none=>rfl
      |some x=>grind
    .cases d
   .obtain⟨k,l⟩:=vZ.1 U;rw[ah6,r]at l;cases K:C[k]? with
    |none=>grind
    |some x=>
     rw[K,ahe]at l;injection l with l;split at l
     .subst l;rfl
     grind
  .rw[aai.By _ _ _ _ n]at g;have z:h.own i≠Y:=hGr;exact Rel.JP (R.own i o g) (qL0 _) (ZK.refl _ _) (heq _ (R.Hc z) (p i z n))
theorem Rel.holds(R:Rel W0 m h w){id:Nat}{c:xLV}{xs:RZ}(d:h.own id=Z (.cells c))(a:c.take xs.length=acO xs):Sort.Holds (vV.int .i64) w (m id).blk (m id).base xs.toArray:=by
 intro j e;have b:j<xs.length:=hGr;have hg:c[j]?=Z (.int .i64 xs[j]):=by have:=congrArg (·[j]?) a;grind[acO]
 grind[Rel.UL,vr_int,Rel.frozen]
theorem IA{n:Nat}{m:abd}{id len cap:Nat}{v':vV}(b:len<=cap)(d:0<len)(h:VR n m (sL (Z id) len cap) v'):
  ∃cap',v'=sL (Z ⟨(m id).blk,(m id).base,Y⟩) len cap'/\len<=cap'/\∀k,k<=len->VR n m (sL (Z id) k cap) (sL (Z ⟨(m id).blk,(m id).base,Y⟩) k cap'):=by
 cases h with
 |flat h=>grind[flat]
 |slice h c=>exact⟨cap,Ma,b,fun k _=>by simpa using VR.slice (m:=m) (off:=0) (len:=k) h c⟩
 |@buf _ _ _ k cap' a' h a ha=>
  rcases ha with⟨rfl,ha⟩|ha
  .exact⟨cap',Ma,a,fun j e=>by simpa using VR.buf (m:=m) (off:=0) (len:=j) (k:=k) (cap':=cap') h NH (.inl ⟨rfl,hGr⟩)⟩
  .omega
 |empty=>omega
theorem WT{n:Nat}{m:abd}{a:Option Addr}{cap:Nat}{v':vV}(h:VR n m (.slice a 0 cap) v'):∃a' cap',v'=.slice a' 0 cap':=by
 cases h<;>grind
theorem AC.ofRow{f:FuncId}{id len cap k:Nat}{c:xLV}{xs ys:RZ}{out:vV}(g:h.own id=Z (.cells c))(G:c.take len=acO xs)(u:xs.length=len)(j:ys.length=len)(y:len<=c.length)(z:len<=cap)(A:0<len)(B:k<=len)(d:out=.tuple #[]\/out=sL (Z id) k cap)(C:∀(blk off cap':Nat)(w:World),Sort.Holds (vV.int .i64) w blk off xs.toArray->blk<w.heap.size->len<=cap'->
   Calls P f #[sL (Z ⟨blk,off,Y⟩) len cap'] w fun e w'=>(∃v,e=.returned v/\(out=.tuple #[]/\v=.tuple #[]\/out≠.tuple #[]/\v=sL (Z ⟨blk,off,Y⟩) k cap'))/\∃q os,w'=Sort.grow (Sort.putRow (vV.int .i64) (Sort.ahead w q) blk off ys.toArray) os):
  AC P W0 f [sL (Z id) len cap] h fun x h'=>x=out/\h'=h.put id (.cells (acO ys++c.drop len)):=by
 intro ex m w a R s;have⟨D,E,l⟩:=s.get (i:=0) rfl;have b:a=[D]:=by
  have n:=s.1
  match a,n with
  |[x],_=>grind
 obtain⟨cap',rfl,o,p⟩:=IA z A l;rw[b];have r:h.own id≠Y:=by rw[g];simp
 refine(C (m id).blk (m id).base cap' w (R.holds g hGr) (R.Hc r) o).mono ?_;rintro e w' ⟨⟨v,rfl,F⟩,q,os,rfl⟩;have R':=R.row (ys:=ys) g NH q os;rw[j]at R';refine⟨out,v,m,_,rfl,R',ZK.refl _ _,qL0 _,?_,rfl,rfl⟩;rcases F with⟨t,rfl⟩|⟨t,rfl⟩
 .rw[t];exact .tuple rfl (fun i v v' e=>by simp at e)
 .rcases d with h2|h2
  .grind
  .rw[h2];exact p k B
end
section
variable{P:Program}{W0:abw}{h:aai}
theorem AC.frame{f:FuncId}{args:xLV}{R:Nat}{o:fK}{Q:vV->aai->Prop}(H:h.own R=Z o)(L:AC P W0 f args (h.kill R) Q):
  AC P W0 f args h fun x h'=>∃g,Q x g/\g.own R=Y/\h'=g.put R o:=by
 intro ex m w t r M;have u:h.own R≠Y:=by rw[H];simp
 have A:R<h.next:=r.lt R u
 have D:=r.own R o H;obtain⟨O,hb⟩:∃O,w.heap[(m R).blk]?=Z O:=by
  cases o with
  |cells c=>have⟨C,e,lo,hi,I,_⟩:=D;grind
  |map es=>have⟨E,clock,I,_⟩:=D;grind
  |iter r k s l=>have⟨I,_⟩:=D;grind
 have N:∀b a,(b,a)∈(W0.add ex).rw->(m R).blk≠b:=fun b a sZ=>r.aah.apart b a R sZ u;have z:∀i,(h.kill R).own i≠Y->h.own i≠Y/\i≠R:=fun i hi=>by grind[aai.Dg,aai.xJ]
 have S:Rel (W0.add (((m R).blk,O)::ex)) m (h.kill R) w:={
  size:=r.size
  qi:=r.qi
  ext:=r.ext
  lt:=fun i hi=>r.lt i (z i hi).1
  new:=fun i hi=>r.new i (z i hi).1
  own:=fun i a hi=>by have:=z i (by rw[hi];simp);rw[aai.xJ _ _ _ this.2]at hi;exact r.own i a hi
  inj:=fun i j hi J e=>r.inj i j (z i hi).1 (z j J).1 e
  os:=r.os
  output:=r.output
  tape:=r.tape
  aah:={
   agree:=r.aah.agree
   next:=r.aah.next
   VM:=by show(((m R).blk,O)::(W0.add ex).rw|>.map (·.1)).Nodup;rw[QD,VU];refine⟨fun d=>?_,r.aah.VM⟩;grind
   hi:=fun b a d=>by
    rcases Og.1 d with e|d
    .injection e with T X;subst T;exact r.new R u
    .exact r.aah.hi b a d
   held:=fun b a d=>by
    rcases Og.1 d with e|d
    .grind
    .exact r.aah.held b a d
   apart:=fun b a i d hi=>by
    rcases Og.1 d with e|d
    .grind[Rel.inj]
    .exact r.aah.apart b a i d (z i hi).1}}
 refine(L (((m R).blk,O)::ex) m w t S M).mono ?_;rintro e w' ⟨v,v',F,g,U,rg,n,p,V,W⟩
 have n:ZK h.next m F:=n
 have p:h.next<=g.next:=p
 have B:F R=m R:=n R A;have q:((m R).blk,O)∈(W0.add (((m R).blk,O)::ex)).rw:=Hs ..;have G:=rg.aah.held _ _ q;have y:g.own R=Y:=by
  cases hg:g.own R with
  |none=>rfl
  |some a=>exact absurd (by rw[B]) (rg.aah.apart _ _ R q (by rw[hg];simp))
 have hs:∀i,(g.put R o).own i≠Y->i=R\/(i≠R/\g.own i≠Y):=fun i hi=>by grind[aai.By]
 have K:∀i,g.own i≠Y->(F i).blk≠(m R).blk:=fun i hi=>rg.aah.apart _ _ i q hi;refine⟨v,v',F,g.put R o,U,?_,n,p,V,g,W,y,rfl⟩;exact{
  size:=rg.size
  qi:=rg.qi
  ext:=rg.ext
  lt:=fun i hi=>by
   rcases hs i hi with rfl|⟨_,hi⟩
   .exact V9 A p
   .exact rg.lt i hi
  new:=fun i hi=>by
   rcases hs i hi with rfl|⟨_,hi⟩
   .grind[Rel.new]
   .exact rg.new i hi
  own:=fun i a hi=>by
   by_cases e:i=R
   .subst e;rw[aai.Y3]at hi;injection hi with hi;subst hi;rw[B];exact Rel.JP D p n (by rw[G,hb])
   .rw[aai.By _ _ _ _ e]at hi;exact rg.own i a hi
  inj:=fun i j hi J e=>by grind[Rel.inj]
  os:=rg.os
  output:=rg.output
  tape:=rg.tape
  aah:={
   agree:=rg.aah.agree
   next:=rg.aah.next
   VM:=r.aah.VM
   hi:=r.aah.hi
   held:=fun b a d=>rg.aah.held b a (Gw _ d)
   apart:=fun b a i d hi=>by
    rcases hs i hi with rfl|⟨_,hi⟩
    .grind
    .exact rg.aah.apart b a i (Gw _ d) hi}}
theorem Le.Y5{g:aai}{R:Nat}(a:g.own R=Option.none)(o:fK):Le g (g.put R o):=(Le.refl g).put o a
theorem Le.aiY{f:aai}{R:Nat}(l:Le f h)(a:f.own R=Option.none):Le f (h.kill R):=⟨l.ext,fun i o hi=>by grind[aai.xJ,Le.own]⟩
theorem AC.exact{f:FuncId}{id n k:Nat}{rest:xLV}{Q:Nat->aai->Prop}(G:0<n)(H:∀cap,n<=cap->cap<UNK->AC P W0 f (sL (Z id) n cap::rest) h fun x h'=>∃g,g<=cap/\x=sL (Z id) g cap/\Q g h'):
  AC P W0 f (sL (Z id) n (UNK+k)::rest) h fun x h'=>∃g,x=sL (Z id) g (UNK+k)/\Q g h':=by
 intro ex m w d r l;obtain⟨o,c,rfl⟩:∃o c,d=o::c:=by
  cases d with
  |nil=>have:=l.1;simp at this
  |cons a b=>grind
 have s:VR h.next m (sL (Z id) n (UNK+k)) o:=l.2 0 _ _ rfl rfl
 have y:AK h.next m rest c:=by simpa using l.drop 1
 generalize I:UNK+k=C at s;cases s with
 |flat hf=>grind[flat]
 |slice _ J=>omega
 |@buf _ _ _ k1 cap' a' i z ha=>
  rcases ha with⟨rfl,t,u⟩|K
  .refine(H cap' z u ex m w _ r (.cons (.slice i u) y)).mono ?_;rintro e w' ⟨v,v',A,h',B,rg,j,p,D,g,q,rfl,E⟩;refine⟨_,v',A,h',B,rg,j,p,?_,g,rfl,E⟩;have L:=j id i;cases D with
   |flat hf=>grind[flat]
   |slice F h2=>exact .buf F q hGr
   |buf _ _ _=>omega
   |empty=>omega
  .omega
 |empty=>grind
end
end Go.Fw
namespace Go.Proofs
open Go.Shelf
def Tryz.lays189_ren:Go.Shelf.Ren:=⟨fun | 189=>37 | 125=>55 | 257=>54 | 128=>81 | 129=>82 | 294=>73 | 295=>74 | 296=>75 | 297=>76 | 298=>77 | 299=>78 | 216=>56 | 300=>79 | 301=>80 | 328=>102 | 329=>103 | 330=>104 | 331=>105 | 332=>106 | 215=>69 | 343=>120 | n=>n,fun | 28=>47 | 3=>3 | 46=>89 | 0=>0 | 51=>118 | 53=>120 | 4=>4 | 183=>112 | 182=>111 | 131=>68 | 5=>5 | 9=>9 | 218=>139 | 222=>143 | 228=>157 | 229=>158 | n=>n,fun | n=>n⟩
theorem Tryz.lays189:Go.Proofs.Lays.n189 Tryz.prog Tryz.lays189_ren:={
 mixed:=by kernel_rfl
 f125:=Tryz.func55.trans (congrArg some (by kernel_rfl))
 f128:=Tryz.func81.trans (congrArg some (by kernel_rfl))
 f129:=Tryz.func82.trans (congrArg some (by kernel_rfl))
 f189:=Tryz.func37.trans (congrArg some (by kernel_rfl))
 f215:=Tryz.func69.trans (congrArg some (by kernel_rfl))
 f216:=Tryz.func56.trans (congrArg some (by kernel_rfl))
 f257:=Tryz.func54.trans (congrArg some (by kernel_rfl))
 f294:=Tryz.func73.trans (congrArg some (by kernel_rfl))
 f295:=Tryz.func74.trans (congrArg some (by kernel_rfl))
 f296:=Tryz.func75.trans (congrArg some (by kernel_rfl))
 f297:=Tryz.func76.trans (congrArg some (by kernel_rfl))
 f298:=Tryz.func77.trans (congrArg some (by kernel_rfl))
 f299:=Tryz.func78.trans (congrArg some (by kernel_rfl))
 f300:=Tryz.func79.trans (congrArg some (by kernel_rfl))
 f301:=Tryz.func80.trans (congrArg some (by kernel_rfl))
 f328:=Tryz.func102.trans (congrArg some (by kernel_rfl))
 f329:=Tryz.func103.trans (congrArg some (by kernel_rfl))
 f330:=Tryz.func104.trans (congrArg some (by kernel_rfl))
 f331:=Tryz.func105.trans (congrArg some (by kernel_rfl))
 f332:=Tryz.func106.trans (congrArg some (by kernel_rfl))
 f343:=Tryz.func120.trans (congrArg some (by kernel_rfl))
 t0:=Tryz.underlying0
 a0:=Tryz.isAgg0
 z0:=Tryz.sizeOf0
 v0:=Tryz.zeroValue0
 t3:=Tryz.underlying3
 a3:=Tryz.isAgg3
 z3:=Tryz.sizeOf3
 v3:=Tryz.zeroValue3
 t4:=Tryz.underlying4
 a4:=Tryz.isAgg4
 z4:=Tryz.sizeOf4
 v4:=Tryz.zeroValue4
 t5:=Tryz.underlying5
 a5:=Tryz.isAgg5
 z5:=Tryz.sizeOf5
 v5:=Tryz.zeroValue5
 t9:=Tryz.underlying9
 a9:=Tryz.isAgg9
 z9:=Tryz.sizeOf9
 v9:=Tryz.zeroValue9
 t28:=Tryz.underlying47
 a28:=Tryz.isAgg47
 z28:=Tryz.sizeOf47
 v28:=Tryz.zeroValue47
 t46:=Tryz.underlying89
 a46:=Tryz.isAgg89
 z46:=Tryz.sizeOf89
 v46:=Tryz.zeroValue89
 t51:=Tryz.underlying118
 a51:=Tryz.isAgg118
 z51:=Tryz.sizeOf118
 v51:=Tryz.zeroValue118
 t53:=Tryz.underlying120
 a53:=Tryz.isAgg120
 z53:=Tryz.sizeOf120
 v53:=Tryz.zeroValue120
 t131:=Tryz.underlying68
 a131:=Tryz.isAgg68
 z131:=Tryz.sizeOf68
 v131:=Tryz.zeroValue68
 t182:=Tryz.underlying111
 a182:=Tryz.isAgg111
 z182:=Tryz.sizeOf111
 v182:=Tryz.zeroValue111
 t183:=Tryz.underlying112
 a183:=Tryz.isAgg112
 z183:=Tryz.sizeOf112
 v183:=Tryz.zeroValue112
 t218:=Tryz.underlying139
 a218:=Tryz.isAgg139
 z218:=Tryz.sizeOf139
 v218:=Tryz.zeroValue139
 t222:=Tryz.underlying143
 a222:=Tryz.isAgg143
 z222:=Tryz.sizeOf143
 v222:=Tryz.zeroValue143
 t228:=Tryz.underlying157
 a228:=Tryz.isAgg157
 z228:=Tryz.sizeOf157
 v228:=Tryz.zeroValue157
 t229:=Tryz.underlying158
 a229:=Tryz.isAgg158
 z229:=Tryz.sizeOf158
 v229:=Tryz.zeroValue158 }
def Tryz.laysNm220_ren:Go.Shelf.Ren:=⟨fun | 20=>38 | n=>n,fun | 22=>47 | 3=>3 | 4=>4 | 0=>0 | n=>n,fun | n=>n⟩
theorem Tryz.laysNm220:Go.Proofs.Lays2.n20 Tryz.prog Tryz.laysNm220_ren:={
 mixed:=by kernel_rfl
 f20:=Tryz.func38.trans (congrArg some (by kernel_rfl))
 t0:=Tryz.underlying0
 a0:=Tryz.isAgg0
 z0:=Tryz.sizeOf0
 v0:=Tryz.zeroValue0
 t3:=Tryz.underlying3
 a3:=Tryz.isAgg3
 z3:=Tryz.sizeOf3
 v3:=Tryz.zeroValue3
 t4:=Tryz.underlying4
 a4:=Tryz.isAgg4
 z4:=Tryz.sizeOf4
 v4:=Tryz.zeroValue4
 t22:=Tryz.underlying47
 a22:=Tryz.isAgg47
 z22:=Tryz.sizeOf47
 v22:=Tryz.zeroValue47
 i3:=by kernel_rfl }
end Go.Proofs
namespace Go.Fw
open Go.Proofs
set_option maxHeartbeats 1000000
set_option maxRecDepth 10000
def qC(l:RZ):RZ:=l.mergeSort fun x y=>decide (x<=y)
theorem GI.cases{h:aai}{v:vV}{xs:RZ}(g:GI h v xs)(k:xs.length<=100000):(∃a cap,v=.slice a 0 cap/\xs=[])\/∃id c cap,v=sL (Z ⟨id,0,Y⟩) xs.length cap/\h.own id=Z (.cells c)/\c.take xs.length=acO xs/\(cap=UNK+1\/cap=xs.length/\xs.length<1000000000000)/\0<xs.length/\xs.length<=cap/\xs.length<=c.length:=by
 obtain⟨e,⟨rfl,f⟩|⟨id,c,cap,rfl,i,d,j⟩⟩:=g
 .grind
 .by_cases f:xs.length=0
  .grind
  .rw[anN]at d e;have b:xs.length<=c.length:=hGr;refine .inr ⟨id,c,cap,rfl,i,d,j,NH,?_,b⟩;grind[UNK]
theorem AC.ofNone{P:Program}{n:abw}{h:aai}{f:FuncId}{a:Option Addr}{cap:Nat}{out:vV}(j:out=.tuple #[]\/out=.slice a 0 cap)(o:∀(a':Option Addr)(cap':Nat)(w:World),Calls P f #[.slice a' 0 cap'] w fun e w'=>(∃v,e=.returned v/\(out=.tuple #[]/\v=.tuple #[]\/out≠.tuple #[]/\v=.slice a' 0 cap'))/\w'=w):
  AC P n f [.slice a 0 cap] h fun x h'=>x=out/\h'=h:=by
 intro ex m w b R k;have⟨p,q,d⟩:=k.get (i:=0) rfl;have c:b=[p]:=by
  have g:=k.1
  match b,g with
  |[x],_=>grind
 obtain⟨a',cap',rfl⟩:=WT d;rw[c];refine(o a' cap' w).mono ?_;rintro e w' ⟨⟨v,rfl,r⟩,rfl⟩;refine⟨out,v,m,_,rfl,R,ZK.refl _ _,qL0 _,?_,rfl,rfl⟩;rcases r with⟨l,rfl⟩|⟨l,rfl⟩
 .rw[l];exact .tuple rfl (fun i v v' e=>by simp at e)
 grind
theorem OX(l:RZ):(qC l).length=l.length:=by simp[qC]
theorem VQ(l:abw){h:aai}{v:vV}{xs:RZ}(g:GI h v xs)(m:xs.length<=100000):AC pG l 37 [v] h fun x h'=>x=.tuple #[]/\GI h' v (qC xs)/\∀f,Le f h->Z2 f v->Le f h':=by
 rcases g.cases m with⟨a,cap,rfl,rfl⟩|⟨id,c,cap,rfl,n,o,s,p,b,d⟩
 .refine(AC.ofNone (out:=.tuple #[]) (.inl rfl) fun a' cap' w=>(Any.slices_Sort_int_none Tryz.lays189 a' cap' w).mono ?_).mono ?_
  .grind
  .rintro x h' ⟨rfl,rfl⟩;exact⟨rfl,by simpa[qC]using g,fun f i _=>i⟩
 .refine(AC.ofRow (xs:=xs) (ys:=qC xs) (out:=.tuple #[]) (k:=0) n o rfl (OX xs) d b p (Z6 _) (.inl rfl) fun blk off cap' w r hb j=>(Any.slices_Sort_int Tryz.lays189 blk off cap' xs w r hb NH).mono ?_).mono ?_
  .rintro e w' ⟨rfl,q,os,rfl⟩;exact⟨⟨_,rfl,.inl ⟨rfl,rfl⟩⟩,q,os,rfl⟩
  .rintro x h' ⟨rfl,rfl⟩;refine⟨rfl,⟨by grind[Bp],.inr ⟨id,_,cap,by rw[OX],aai.Y3 _ _ _,?_,by grind[OX]⟩⟩,fun f i af=>i.put _ (af id rfl)⟩;rw[anN,aeu (by simp[mN]),HV (by simp[mN])];rfl
def OV(xs:RZ):(Lib.compact xs).length<=xs.length:=by have:=abZ (Lib.keeps xs.toArray) (rG xs.length);simpa[Lib.compact,Lib.compactUpTo]using this
theorem VY(l:abw){h:aai}{v:vV}{xs:RZ}(g:GI h v xs)(m:xs.length<=100000):AC pG l 38 [v] h fun x h'=>RL RP h' x (Lib.compact xs)/\blk x=blk v/\∀f,Le f h->Z2 f v->Le f h':=by
 rcases g.cases m with⟨a,cap,rfl,rfl⟩|⟨id,c,cap,rfl,o,p,u,r,d,i⟩
 .refine(AC.ofNone (out:=.slice a 0 cap) (.inr rfl) fun a' cap' w=>(Any.slices_Compact_int_empty Tryz.laysNm220 a' cap' w).mono ?_).mono ?_
  .grind
  .rintro x h' ⟨rfl,rfl⟩;refine⟨?_,rfl,fun f j _=>j⟩;have:Lib.compact ([]:RZ)=[]:=rfl;grind[GI.rl]
 .have s:=OV xs;refine(AC.ofRow (xs:=xs) (ys:=Lib.compact xs++rP (xs.length-(Lib.compact xs).length) 0) (out:=sL (Z id) (Lib.compact xs).length cap) (k:=(Lib.compact xs).length) o p rfl (by simp;omega) i d r s (.inr rfl)
   fun blk off cap' w t hb b=>(Any.slices_Compact_int Tryz.laysNm220 blk off cap' xs w t NH b).mono ?_).mono ?_
  .rintro e w' ⟨rfl,q,rfl⟩;exact⟨⟨_,rfl,.inr ⟨Ma,rfl⟩⟩,q,#[],by rw[Sort.grow_empty]⟩
  .rintro x h' ⟨rfl,rfl⟩;refine⟨RL.Wh ?_,rfl,fun f j af=>j.put _ (af id rfl)⟩;have:=RS.own (c:=cap) (n:=(Lib.compact xs).length) (aai.Y3 h id (.cells (acO (Lib.compact xs++rP (xs.length-(Lib.compact xs).length) 0)++c.drop xs.length))) (off:=0) (by grind[mN]);grind[acO]
end Go.Fw
namespace Go.Fw
section
attribute [local irreducible] Kp MQ lU KO1 KO KN KX KE VK Kl ZJ TC aab
def zR(p:Pr)(q:Nat):Int:=if q=0 then p.1 else p.2
def ix42(p:Pr)(q:Nat)(a:q<2):afh pG 37 (UI p) q=Z (.int .i64 (zR p q)):=by have:q=0\/q=1:=NH;rcases this with rfl|rfl<;>simp[afh,qS7,Ac,UI,zR,ts3]<;>rfl
def ftP(on:Nat->Bool)(p:Pr):RZ:=[p.1,p.2].filter fun x=>on x.toNat
def BY(on:Nat->Bool)(es:xLP):RZ:=es.flatMap (ftP on)
def YJ(on:Nat->Bool)(es:xLP):RZ:=Lib.compact (qC (BY on es))
theorem Dr(on:Nat->Bool)(es:xLP):(BY on es).length<=2*es.length:=by
 induction es<;>grind[BY,ftP]
def YB(on:Nat->Bool)(p:Pr)(q:Nat):RZ:=([p.1,p.2].take q).filter fun x=>on x.toNat
theorem BM(on:Nat->Bool)(p:Pr)(q:Nat)(a:q<2):YB on p (q+1)=YB on p q++if on (zR p q).toNat=tT then[zR p q]else[]:=by
 have:q=0\/q=1:=NH;rcases this with rfl|rfl
 all_goals grind[YB,zR]
theorem feet_any(G:abw)(ev r:vV)(n:Nat)(es:xLP)(bs:List Bool)(h:aai)(H:PR h ev es)(hb:RL sJ h r bs)(hR:InR n es)(aa:bs.length=n)(hn:es.length<=1000):
  AC pG G 113 [ev,r] h fun x h'=>RL RP h' x (YJ (fun u=>bs.getD u fF) es)/\Le h h'/\Z2 h x:=by
 refine AC.vF func113 ntmps113 results113 fun w=>?_;have⟨I,U,y,J,V⟩:=Tt w []
 have A:aas pG h 47 0 []=Z (sL (Z h.next) 0 0,I):=by rw[<-U];rfl
 have ll:=fun g=>H.len g;refine Sk (XC A ll) ?_
 have nB:h.own h.next=Y:=(Le.refl h).next w (qL0 _)
 generalize h.next=B at*
 let on:Nat->Bool:=fun u=>bs.getD u fF;have W:GI I (sL (Z B) 0 0) (BY on (es.take 0)):=GS.full V rfl WY;refine lIn (fun k fr hh=>∃(i:Nat)(a:vV),k=es.length-i/\i<=es.length/\fr=mkF [(1,r),(5,a),(11,ev),(12,es.length),(13,i)]/\GI hh a (BY on (es.take i))/\Le h hh/\Z2 h a) ⟨0,_,rfl,Z6 _,rfl,W,y,fun b hb=>by grind[blk]⟩ ?_;clear W V nB A J y U I B;rintro k fr hh s ⟨i,a,rfl,hi,rfl,g,f,ap⟩;refine Uy ?_;refine Kl.intro (fun X=>?_) (fun hf=>?_)
 rotate_left
 .have K:es.length<=i:=vp hf;rw[HV K]at g;have hl:=Dr on es;refine Uy ?_;refine kCi func37 (VQ G g NH) ?_;rintro x h2 w2 ⟨rfl,g2,k2⟩;have L:=k2 h f ap;refine Uy ?_;refine kCi func38 (VY G g2 (by rw[OX];omega)) ?_;rintro x h3 w3 ⟨r3,bx,k3⟩;have d:=k3 h L ap;refine Uy ?_;exact⟨r3,d,fun b hb=>ap b hGr⟩
 have j:i<es.length:=acb X;clear X;have t:=CA j;have M:es.take (i+1)=es.take i++[es[i]]:=XJ j;generalize es[i]=p at t M;have⟨p1,p2,p3⟩:=hR p (BS t);have ad:=H.addr (k:=.i64) i j;have ld:=(H.le f).load t;have⟨ae,h3,e2,e3,d,N,o3⟩:=Ut s p
 have nE:h.own hh.next=Y:=f.none ((Le.refl hh).next s (qL0 _))
 have O:∀b,blk a=Z b->b≠hh.next:=fun b hb e=>by subst e;have:=GS.Sy g hb;exact this ((Le.refl hh).next s (qL0 _))
 have P:=g.le d;have m:=f.trans d;have LP:=uM o3
 generalize hh.next=E at*
 simp only[HO,seval,ad,ld,e2,e3,LP];have C:BY on (es.take i)=BY on (es.take i)++YB on p 0:=by simp[YB]
 rw[C]at P;refine lIn (fun k fr F=>∃(q:Nat)(a:vV),k=2-q/\q<=2/\fr=mkF [(1,r),(5,a),(11,ev),(12,es.length),(13,i),(17,UI p),(18,q)]/\GI F a (BY on (es.take i)++YB on p q)/\Le h F/\Z2 h a) ⟨0,_,rfl,Z6 _,rfl,P,m,ap⟩ ?_;clear C P O ap g a LP m nE o3 N d e2 e3;rintro k fr F Q ⟨q,a,rfl,ag,rfl,g,leq,ap⟩;have hlen:(BY on (es.take i)++YB on p q).length<=100000:=by grind[Dr,YB,Nat.min_le_right]
 by_cases c:q<2
 rotate_left
 .have z:((q:Int)<2)=False:=eq_false NH;obtain rfl:q=2:=NH;have D:BY on (es.take i)++YB on p 2=BY on (es.take (i+1)):=by grind[BY,YB,ftP]
  rw[D]at g;refine Sk (XC z (aaa i NH)) ?_;exact lgA NH ⟨i+1,a,rfl,j,rfl,g,leq,ap⟩
 have z:((q:Int)<2)=True:=eq_true NH;have R:=ix42 p q c;have o:0<=zR p q/\zR p q<(n:Int):=by grind[zR]
 have l:=BM on p q c;generalize zR p q=x at R o l;obtain⟨v,rfl⟩:=WA o.1;have S:v<bs.length:=NH;have oa:aao pG 94 r v=Z (pT (Z (aaq r v))):=hb.LB v S;have ol:aaC pG F 4 (aaq r v)=Z (.bool (on v)):=by rw[(hb.le Nn.sJ leq).W7 v S];simp only[on];rw[D4 S]
 rw[yM]at l;cases c2:on v with
 |false=>rw[c2]at ol l;have D:BY on (es.take i)++YB on p q=BY on (es.take i)++YB on p (q+1):=hGr;rw[D]at g;simp only[HO,seval,z,R,oa,ol,aaa q NH];exact lgA NH ⟨q+1,a,rfl,c,rfl,g,leq,ap⟩
 |true=>rw[c2]at ol l;obtain⟨T,h4,h5,e4,e5,g5,w5,l4,hf,-⟩:=g.push Q (v:Int) hlen;have⟨l5,a5⟩:=hf h leq ap;have D:BY on (es.take i)++YB on p q++[(v:Int)]=BY on (es.take i)++YB on p (q+1):=hGr;rw[D]at g5;simp only[HO,seval,z,R,oa,ol,e4,e5,aaa q NH];exact lgA NH ⟨q+1,T,rfl,c,rfl,g5,l5,a5⟩
def Zo(n:Nat)(on:Nat->Bool)(L:RZ)(p:Pr)(i:Nat):Int:=if on p.1.toNat=fF then L.getD p.1.toNat 0 else if on p.2.toNat=fF then L.getD p.2.toNat 0 else(n:Int)+i
theorem frag_any(A:abw)(ev g s:vV)(n:Nat)(es:xLP)(bs:List Bool)(L:RZ)(B O T:Nat)(i:Nat)(p:Pr)(h:aai)(t:PR h ev es)(hb:RL sJ h g bs)(w:RL RP h s L)(hR:InR n es)(C:bs.length=n)(D:L.length=n)(l0:aaC pG h 3 ⟨B,0,Y⟩=Z (.int .i64 n))(l1:aaC pG h 22 ⟨B,1,Y⟩=Z ev)(l2:aaC pG h 94 ⟨O,0,Y⟩=Z g)(l3:aaC pG h 47 ⟨T,0,Y⟩=Z s)(f:es[i]?=Z p)(M:n<=100000)(E:es.length<=100000):
  AC pG A 112 [i,pT (Z B),pT (Z O),pT (Z T)] h fun x h'=>x=.int .i64 (Zo n (fun u=>bs.getD u fF) L p i)/\h'=h:=by
 refine AC.vF func112 ntmps112 results112 fun F=>?_;have l:=(Ny.1 f).1;have⟨N,P,Q⟩:=hR p (BS f);have ad:=t.addr (k:=.i64) i l;have ld:=t.load f;simp only[HO,seval,Di,Ip,Gc,l1,ad,ld];let on:Nat->Bool:=fun u=>bs.getD u fF;refine lIn (fun k fr m=>∃q:Nat,k=2-q/\q<=2/\m=h/\fr=mkF [(0,i),(1,pT (Z B)),(2,pT (Z O)),(3,pT (Z T)),(12,UI p),(13,q)]/\∀j,j<q->on (zR p j).toNat=tT) ⟨0,rfl,Z6 _,rfl,rfl,NH⟩ ?_;rintro k fr m-⟨q,rfl,G,rfl,rfl,d⟩;by_cases c:q<2
 rotate_left
 .have z:((q:Int)<2)=False:=eq_false NH;obtain rfl:q=2:=NH;have H:=d 0 NH;have c1:=d 1 NH;simp only[zR,if_true,qL218,if_false]at H c1;have hf:Zo n on L p i=(n:Int)+i:=by grind[Zo]
  have wr:aaY .i64 ((n:Int)+(i:Int))=(n:Int)+i:=cT _ NH NH;simp only[HO,seval,z,Ii,Ip,Gc,l0,wr];grind
 have z:((q:Int)<2)=True:=eq_true NH;have o:=ix42 p q c;have e:0<=zR p q/\zR p q<(n:Int):=by grind[zR]
 have b:on (zR p q).toNat=fF->Zo n on L p i=L.getD (zR p q).toNat 0:=fun I=>by have:q=0\/q=1:=NH;grind[zR,Zo]
 have a:on (zR p q).toNat=tT->∀j,j<q+1->on (zR p j).toNat=tT:=fun I j R=>by grind
 generalize zR p q=x at o e b a;obtain⟨v,rfl⟩:=WA e.1;rw[yM]at b a;have r:v<bs.length:=NH;have y:aao pG 94 g v=Z (pT (Z (aaq g v))):=hb.LB v r;have ol:aaC pG m 4 (aaq g v)=Z (.bool (on v)):=by rw[hb.W7 v r];simp only[on];rw[D4 r]
 have J:=w.DH v NH;have K:=w.Uc v NH;cases c2:on v with
 |true=>rw[c2]at ol;simp only[HO,seval,z,o,l2,y,ol,aaa q NH];exact lgA NH ⟨q+1,rfl,c,rfl,rfl,a c2⟩
 |false=>rw[c2]at ol;have hf:=b c2;rw[D4 NH]at hf;simp only[HO,seval,z,o,l2,y,ol,l3,J,K];grind
variable {M:Nat} {b0 h h':aai} {us:List Value}
abbrev Gr:=Int×xLP
def Ea(gs:List Gr):RZ:=gs.map (·.1)
def acU:List Gr->Int->xLP
 |[],_=>[]
 |(k,l)::r,f=>if k=f then l else acU r f
def ab4:List Gr->Int->Pr->List Gr
 |[],f,p=>[(f,[p])]
 |(k,l)::r,f,p=>if k=f then(k,l++[p])::r else(k,l)::ab4 r f p
def AO(gs:List Gr)(us:xLV):List (vV×vV):=(gs.zip us).map fun x=>(.int .i64 x.1.1,x.2)
theorem Ga(f:Int):∀(gs:List Gr)(us:List Value)(i:Nat),us.length=gs.length->
  (f∉Ea gs/\aeU .i64 f (AO gs us) i=some none/\acU gs f=[]/\∀p,ab4 gs f p=gs++[(f,[p])])\/
  ∃(j:Nat)(l:List Pr)(u:Value),gs[j]?=some (f,l)/\us[j]?=some u/\aeU .i64 f (AO gs us) i=some (some (i+j,u))/\acU gs f=l/\∀p,ab4 gs f p=gs.set j (f,l++[p])
 |[],us,i,h=>.inl (by simp[Ea,AO,aeU,acU,ab4])
 |(k,l)::gs,[],i,h=>by simp at h
 |(k,l)::gs,u::us,i,h=>by
  have e:AO ((k,l)::gs) (u::us)=(.int .i64 k,u)::AO gs us:=rfl;by_cases c:f=k
  .subst c;exact .inr ⟨0,l,u,rfl,rfl,by grind[aeU.eq_2],by simp[acU],fun p=>by simp[ab4]⟩
  .have c':¬k=f:=fun h=>c h.symm;rcases Ga f gs us (i+1) (by simpa using h)with⟨a,h2,h3,b⟩|⟨j,l',u',a,h2,h3,b,d⟩
   .grind[Ea,aeU.eq_2,acU.eq_2,ab4.eq_2]
   .exact .inr ⟨j+1,l',u',hGr,hGr,by grind[aeU.eq_2],by grind[acU.eq_2],fun p=>by grind[ab4.eq_2]⟩
def dK{f:Int}{l l':List Pr}{u':Value}:∀(gs:List Gr)(us:List Value)(j:Nat),us.length=gs.length->gs[j]?=some (f,l)->AO (gs.set j (f,l')) (us.set j u')=(AO gs us).set j (.int .i64 f,u')
 |[],us,j,h,e=>by simp at e
 |g::gs,[],j,h,e=>by simp at h
 |g::gs,u::us,0,h,e=>by simp at e;subst e;rfl
 |g::gs,u::us,j+1,h,e=>by have:=dK (l':=l') (u':=u') gs us j (by simpa using h) (by simpa using e);show(.int .i64 g.1,u)::AO (gs.set j (f,l')) (us.set j u')=(.int .i64 g.1,u)::(AO gs us).set j (.int .i64 f,u');rw[this]
def mapG_snoc{gs:List Gr}(a:us.length=gs.length)(g:Gr)(u:Value):AO (gs++[g]) (us++[u])=AO gs us++[(.int .i64 g.1,u)]:=by rw[AO,List.zip_append a.symm];simp[AO]
structure aaE (b0 h:aai) (M:Nat) (us:xLV) (gs:List Gr):Prop where
 oM:h.own M=Z (.map (AO gs us))
 len:us.length=gs.length
 gp:∀(j:Nat) u g,us[j]?=Z u->gs[j]?=Z g->GP h u g.2
 nM:∀(j:Nat) u,us[j]?=Z u->blk u≠Z M
 TE:∀(j k:Nat) u u' b,j≠k->us[j]?=Z u->us[k]?=Z u'->blk u=Z b->blk u'≠Z b
 ap:∀(j:Nat) u,us[j]?=Z u->Z2 b0 u
 le:Le b0 h
 bM:b0.own M=Y
theorem aaE.keep{gs:List Gr}(R:aaE b0 h M us gs)(le:Le b0 h')(a:∀b o,h.own b=Z o->(b=M\/∃(j:Nat)(u:vV),us[j]?=Z u/\blk u=Z b)->h'.own b=Z o):aaE b0 h' M us gs:=⟨a _ _ R.oM (.inl rfl),R.len,fun j u g c hg=>GS.kept (R.gp j u g c hg) fun b o hb d=>a b o d (.inr ⟨j,u,c,hb⟩),R.nM,R.TE,R.ap,le,R.bM⟩
theorem aaE.up{gs:List Gr}(R:aaE b0 h M us gs)(e:Le h h'):aaE b0 h' M us gs:=R.keep (R.le.trans e) fun b o a _=>e.own _ _ a
def B9:acd pG 22=Z (.slice Y 0 0):=Ji
theorem aaE.look{gs:List Gr}(R:aaE b0 h M us gs)(f:Int):∃u,acR pG h 65 (.map (Z M)) f fF=Z u/\GP h u (acU gs f):=by
 rcases Ga f gs us 0 R.len with⟨a,h2,h3,b⟩|⟨j,l,u,a,h2,h3,b,c⟩
 .refine⟨.slice Y 0 0,?_,by grind[GP.nil]⟩;simp[acR,qS8,Ac,R.oM,B9,h2,Fw.flat]
 .refine⟨u,?_,by grind[aaE.gp]⟩;simp[acR,qS8,Ac,R.oM,B9,h3,Fw.flat]
theorem aaE.push{b0 h:aai}{M:Nat}{us:List Value}{gs:List Gr}(R:aaE b0 h M us gs)(z:WF h)(f:Int)(p:Pr)(L:(acU gs f).length+1<=100000):
  ∃u u' w A E B,acR Tryz.prog h 65 (.map (some M)) (.int .i64 f) false=some u/\aas Tryz.prog h 22 1 [(0,UI p)]=some (.slice (some ⟨h.next,0,none⟩) 1 1,w)/\aaR Tryz.prog w 22 22 u (.slice (some ⟨h.next,0,none⟩) 1 1)=some (u',A)/\
   acM Tryz.prog A 65 (.map (some M)) (.int .i64 f) u'=some E/\aaE b0 E M B (ab4 gs f p)/\WF E/\Le h w/\
   (∀b o,h.own b=some o->b≠M->(∀(j:Nat) a,us[j]?=some a->blk a≠some b)->A.own b=some o/\E.own b=some o/\∀(j:Nat) a,B[j]?=some a->blk a≠some b):=by
 rcases Ga f gs us 0 R.len with⟨F,h2,h3,w⟩|⟨j,l,u,F,h2,h3,w,A⟩
 .obtain⟨u',G,x,e4,H,s,C,l4,hf,y⟩:=(GP.nil h).push z p Ma;have c:∀b o,h.own b=some o->x.own b=some o/\blk u'≠some b:=fun b o d=>y b o d (by simp[blk]);obtain⟨l5,N⟩:=hf b0 R.le (fun b hb=>by grind[blk]);have m:=(c _ _ R.oM).1;refine⟨.slice none 0 0,u',G,x,x.put M (.map (AO gs us++[(.int .i64 f,u')])),us++[u'],by simp[acR,qS8,Ac,R.oM,B9,h2,Fw.flat],e4,H,by simp only[acM,qS8,Ac,m,h2],?_,C.put _ (C.lt m),l4,fun b o d hb I=>⟨(c b o d).1,by rw[aai.By _ _ _ _ hb];exact(c b o d).1,fun k a ha=>?_⟩⟩
  .rw[w];have O:=mapG_snoc R.len (f,[p]) u';have t:∀(k:Nat) a,(us++[u'])[k]?=some a->(us[k]?=some a)\/(k=us.length/\a=u'):=fun k a ha=>by grind
   refine⟨by grind[aai.Y3],by simp[R.len],fun k a g ha hg=>?_,fun k a ha=>?_,fun k v a a' b J ha mi hb=>?_,fun k a ha=>?_,l5.put _ R.bM,R.bM⟩
   .rcases t k a ha with xa|⟨rfl,rfl⟩
    .have P:=(Ny.1 xa).1;rw[si (by grind[aaE.len])]at hg;exact GS.put (GS.kept (R.gp k a g xa hg) fun b o hb d=>(c b o d).1) _ (R.nM k a xa)
    .rw[AE (by grind[aaE.len]),R.len]at hg;simp at hg;subst hg;have:([]++[p]:List Pr)=[p]:=rfl;rw[this]at s;exact GS.put s _ (c _ _ R.oM).2
   .grind[aaE.nM,aaE.oM]
   .rcases t k a ha with xa|⟨rfl,rfl⟩
    .rcases t v a' mi with n|⟨rfl,rfl⟩
     .grind[aaE.TE]
     .have r:∃q,gs[k]?=some q:=⟨_,CA (by grind[aaE.len])⟩;obtain⟨q,D⟩:=r;obtain⟨o,d⟩:=N8.1 (GS.Sy (R.gp k a q xa D) hb);grind
    .rcases t v a' mi with n|⟨rfl,rfl⟩
     .intro sZ;have r:∃q,gs[v]?=some q:=⟨_,CA (by grind[aaE.len])⟩;obtain⟨q,D⟩:=r;obtain⟨o,d⟩:=N8.1 (GS.Sy (R.gp v a' q n D) sZ);grind
     grind
   grind[aaE.ap]
  grind
 .rw[w]at L;have Q:=R.gp j u _ h2 F;obtain⟨u',G,x,e4,H,s,C,l4,hf,y⟩:=GP.push Q z p L;obtain⟨l5,N⟩:=hf b0 R.le (R.ap j u h2);have m:=y _ _ R.oM (R.nM j u h2);have S:=(Ny.1 h2).1;have i:∀(k:Nat) a,(us.set j u')[k]?=some a->(k≠j/\us[k]?=some a)\/(k=j/\a=u'):=fun k a ha=>by grind
  have own:∀(k:Nat) a b,us[k]?=some a->blk a=some b->∃o,h.own b=some o:=fun k a b ha hb=>by have r:∃q,gs[k]?=some q:=⟨_,CA (by grind[aaE.len])⟩;obtain⟨q,D⟩:=r;exact N8.1 (GS.Sy (R.gp k a q ha D) hb)
  refine⟨u,u',G,x,x.put M (.map ((AO gs us).set (0+j) (.int .i64 f,u'))),us.set j u',by simp[acR,qS8,Ac,R.oM,B9,h3,Fw.flat],e4,H,by simp only[acM,qS8,Ac,m.1,h3],?_,C.put _ (C.lt m.1),l4,fun b o d hb I=>⟨(y b o d (I j u h2)).1,by rw[aai.By _ _ _ _ hb];exact(y b o d (I j u h2)).1,fun k a ha=>?_⟩⟩
  .rw[A];have O:=dK (l':=l++[p]) (u':=u') gs us j R.len F;have K:=(Ny.1 F).1;refine⟨by grind[aai.Y3],by simp[R.len],fun k a g ha hg=>?_,fun k a ha=>?_,fun k v a a' b J ha mi hb=>?_,fun k a ha=>?_,l5.put _ R.bM,R.bM⟩
   .rcases i k a ha with⟨e,xa⟩|⟨rfl,rfl⟩
    .rw[Tn,abE (EH e)]at hg;exact GS.put (GS.kept (R.gp k a g xa hg) fun b o hb d=>(y b o d (fun sZ=>R.TE k j a u b e xa h2 hb sZ)).1) _ (R.nM k a xa)
    .rw[Tn,abe rfl,abe K]at hg;injection hg with hg;subst hg;exact GS.put s _ m.2
   .grind[aaE.nM]
   .rcases i k a ha with⟨e,xa⟩|⟨rfl,rfl⟩
    .rcases i v a' mi with⟨e',n⟩|⟨rfl,rfl⟩
     .grind[aaE.TE]
     .obtain⟨o,d⟩:=own k a b xa hb;grind[aaE.TE]
    .rcases i v a' mi with⟨e',n⟩|⟨rfl,rfl⟩
     .intro sZ;obtain⟨o,d⟩:=own v a' b n sZ;grind[aaE.TE]
     grind
   grind[aaE.ap]
  grind
end
end Go.Fw
