/- A text. -/
import Derived.Test.YtigllaheamfhaaaGreatFwLB17
import Derived.Test.YtigllaheamfhaaaGreatFwEmb30
set_option linter.all false
set_option maxRecDepth 99999
set_option maxHeartbeats 9999999
open Go.Proofs
open Option renaming some→Z,none→Y
open Bool renaming true→tT,false→fF
open List renaming replicate→rP,range→rG
open Go.Value renaming slice→sL,pointer→pT
open Go renaming Value→vV
open Go.Proofs.Tryz renaming prog→pG
open Go.Proofs.Tryz
open List
namespace Go.Fw
section
attribute [local irreducible] Kp MQ lU KO1 KO KN KX KE VK Kl ZJ TC aab
variable {F m n:Nat} {g h h':aai} {v:Value} {xs:RZ}
def alloc35(h:aai):abO pG h 94=Z (pT (Z h.next),h.alloc (.cells [.slice Y 0 0])):=rfl
def alloc39(h:aai):abO pG h 47=Z (pT (Z h.next),h.alloc (.cells [.slice Y 0 0])):=rfl
def newVar(hw:WF h){t:TypeId}{d:TypeDesc}{z x:vV}(ha:∀g:aai,abO pG g t=Z (pT (Z g.next),g.alloc (.cells [z])))(e:pG.underlying t=Z d)(hs:UA pG t=1)(f:x.cells=#[x])(i:x.oneCell'=tT):
  ∃a b,abO pG h t=Z (pT (Z h.next),a)/\aaK pG a t (pT (Z h.next)) x=Z b/\Le h b/\WF b/\b.own h.next=Z (.cells [x]):=by
 have⟨a,j,l1,w1,c⟩:=Tt hw [z]
 have k:h.own h.next=Y:=(Le.refl h).next hw (qL0 _)
 refine⟨a,_,by rw[ha,j],QB e hs c Ma f i,l1.put _ k,w1.put _ (w1.lt c),aai.Y3 _ _ _⟩
theorem read_kill{a:Addr}(b:a.spot=Y->a.block≠F):(h.kill F).read a=h.read a:=by
 unfold aai.read;cases hs:a.spot with
 |none=>grind[aai.xJ]
 |some _=>rfl
theorem RS.kill{h:aai}{v:vV}{vs:xLV}{F:Nat}(r:RS h v vs)(hb:blk v≠Z F):RS (h.kill F) v vs:=by refine⟨r.sl,fun i x g=>?_⟩;have f:=r.get i x g;obtain⟨a,c,rfl,hs⟩:=r.sl;obtain⟨a,rfl⟩:=abV.1 (hs hGr);rw[fA]at f ⊢;rw[read_kill];exact f;intro d;have⟨b,o,s⟩:=a;simp only[Ip]at d ⊢;subst d;intro e;subst e;exact hb rfl
def RL.anW(r:RL RP h v xs)(hb:blk v≠Z F):RL RP (h.kill F) v xs:=by have⟨vs,r,a,b⟩:=r;exact⟨vs,r.kill hb,a,b⟩
theorem Le.ON(e:Le h h')(F:Nat)(o:fK):Le (h.kill F) ((h'.put F o).kill F):=⟨e.ext,fun i a hi=>by grind[aai.Dg,aai.xJ,aai.By,Le.own]⟩
theorem Le.put_kill(e:Le g h)(n:g.own F=Option.none)(o:fK):Le g ((h.put F o).kill F):=⟨e.ext,fun i a hi=>by grind[aai.xJ,aai.By,Le.own]⟩
def build41{a b:vV}(ha:xO a n)(hb:xO b m):acB pG 127 [(0,a),(1,b)]=Z (.agg #[a,b]):=by obtain⟨_,_,rfl,_⟩:=ha;obtain⟨_,_,rfl,_⟩:=hb;kernel_rfl
def LJ(n:Nat)(es web:xLP)(L:RZ):List FM:=(aaX (Zo n (fun u=>(Cb n web).getD u fF) L) es web es.length).map fun g=>⟨g.2,YJ (fun u=>(Cb n web).getD u fF) g.2⟩
theorem iN(W0:abw)(v wv:vV)(G:GM)(web:xLP)(h:aai)(hg:GR h v G)(hw:PR h wv web)(hn:web.length<=1000):
  AC pG W0 91 [v,wv] h fun x h'=>Le h h'/\∃lv e,x=.tuple #[lv,.int .i64 e]/\
   ((¬bX G/\lv=.slice Y 0 0/\e=20)\/(bX G/\¬CU G.es web/\lv=.slice Y 0 0/\e=2)\/
    (bX G/\CU G.es web/\e=0/\∃L,wx G.n.toNat (fun u=>(Cb G.n.toNat web).getD u fF) G.es L/\FL h' lv (LJ G.n.toNat G.es web L))):=by
 have aB:=hg;have⟨gn,es⟩:=G
 obtain⟨ev,rfl,hp⟩:=hg.open
 refine AC.vF func91 ntmps91 results91 fun b0=>?_;obtain⟨h1,b1,N,dk,-,lA⟩:=r8 (n:=gn) b0 hp
 generalize h.next=B at*
 have b2:=lA h1 (Le.refl _);refine Sk (XC b1 b2.1) ?_;refine kCi UP (ak W0 _ _ h1 (aB.le N)) ?_;rintro x h2 dm ⟨⟨bb,rfl,b3⟩,I⟩;cases bb with
 |false=>refine Uy ?_;grind[Le.trans]
 |true=>
 have hr:=b3.1 rfl;have h0:0<=gn:=hr.n0;obtain⟨n,rfl⟩:=WA h0;have de:(n:Int)<=200:=hr.n1;have df:es.length<=594:=hr.len;have hR:=hr.GD;have b4:=lA h2 I;refine Sk b4.1 ?_;refine kCi func110 (split_any W0 _ wv _ web h2 (aB.le (N.trans I)) (hw.le (N.trans I)) hr hn) ?_;rintro x h3 b5 ⟨⟨ov,nv,bo,rfl,aV,b6,aa⟩,aC⟩;have⟨dp,h4,e4,b8,P,dq,o4⟩:=newVar b5 alloc35 Uh Ji aV.1 aV.2;refine Sk (XC e4 b8) ?_;cases bo with
 |false=>refine Uy ?_;grind[Le.trans]
 |true=>
 have aW:=b6.1 rfl;have⟨aX,b9⟩:=aa rfl;have cc:=lA h4 ((I.trans aC).trans P);have al:=b9.le Nn.sJ P
 have lO:∀g,Le h4 g->aaC pG g 94 ⟨h3.next,0,Y⟩=Z nv:=fun g l=>by rw[Fq Uh rfl (l.own _ _ o4)];rfl
 have cd:=lO h4 (Le.refl _)
 generalize h3.next=O at*
 have a6:=((N.trans I).trans aC).trans P;refine Sk (XC cc.1 cd) ?_;have aD:(Cb n web).length=n:=Qe n web;refine kCi func111 (tS W0 _ nv n es (Cb n web) h4 (aB.le a6) hr al aD) ?_;rintro tv h5 cf ⟨L,hL,hT,cg⟩;have cj:=hL.sl.cells;have⟨dr,d,e6,ck,a7,aE,o6⟩:=newVar cf alloc39 Mb Ji cj hL.one
 have lT:∀g,Le d g->aaC pG g 47 ⟨h5.next,0,Y⟩=Z tv:=fun g l=>by rw[Fq Mb rfl (l.own _ _ o6)];rfl
 generalize h5.next=T at*
 have m:=cg.trans a7;have Q:Le h1 d:=((I.trans aC).trans P).trans m;have aq:=N.trans Q;have a8:=hp.le aq;have dg:=aX.le Nn.sJ (P.trans m);have ar:=al.le Nn.sJ m;have cm:=hL.le Nn.RP a7
 obtain⟨w,e7,r,z,o7⟩:∃w,d.alloc (.map [])=w/\Le d w/\WF w/\w.own d.next=Z (.map []):=⟨_,rfl,(Le.refl d).alloc aE _,aE.alloc _,aai.zT _ _⟩
 have⟨h8,e8,ae,cp,o8⟩:=Tt z []
 have ba:aas pG w 47 0 []=Z (sL (Z ⟨w.next,0,Y⟩) 0 0,h8):=by rw[<-e8];rfl
 have nM:d.own d.next=Y:=(Le.refl d).next aE (qL0 _)
 have nC:d.own w.next=Y:=r.next z (qL0 _)
 have bg:w.next≠d.next:=fun e=>by have:=z.lt o7;omega
 have bh:=lA h8 (Q.trans (r.trans ae));have ll:=fun g=>hp.len g;refine Sk (aoh e6 ck e7 ba @Di @Ip.eq_1 @Gc bh.2.2 ll) ?_;have bj:=ae.own _ _ o7
 generalize d.next=M at*
 generalize w.next=C at*
 let on:Nat->Bool:=fun u=>(Cb n web).getD u fF;let fr:Pr->Nat->Int:=Zo n on L;have R0:aaE d h8 M [] (aaX fr es web 0):=⟨bj,rfl,fun j u g s=>by simp at s,fun j u s=>by simp at s,fun j k u u' b _ s=>by simp at s,fun j u s=>by simp at s,r.trans ae,nM⟩;have gC:GI h8 (sL (Z C) 0 0) (Ea (aaX fr es web 0)):=GS.full o8 rfl WY;refine lIn (fun k S hh=>∃(i:Nat)(cv:vV)(us:xLV),k=es.length-i/\i<=es.length/\S=mkF [(6,ov),(7,pT (Z O)),(10,.func (.func 112) #[] #[pT (Z B),pT (Z O),pT (Z T)]),(11,.map (Z M)),(12,cv),(38,ev),(39,es.length),(40,i)]/\
   aaE d hh M us (aaX fr es web i)/\GI hh cv (Ea (aaX fr es web i))/\blk cv≠Z M/\(∀(j:Nat) u b,us[j]?=Z u->blk u=Z b->blk cv≠Z b)/\Z2 d cv) ⟨0,_,[],rfl,Z6 _,rfl,R0,gC,by grind[blk],fun j u b s=>by simp at s,fun b hb=>by grind[blk]⟩ ?_
 clear R0 gC bj bh nC bg ba o8 cp ae e8 o7 z r e7;rintro k S hh U ⟨i,cv,us,rfl,hi,rfl,R,gc,nc,dc,ac⟩;have J:=R.le;refine Uy ?_;refine Kl.intro (fun ht=>?_) (fun hf=>?_)
 rotate_left
 .have cq:es.length<=i:=vp hf;obtain rfl:i=es.length:=NH;have⟨nd,bk,av,cx,az⟩:=Pt fr es web es.length;generalize ag:aaX fr es web es.length=gs at*;have lc:=fun g=>gc.rl.TA g;have bm:(Ea gs).length=gs.length:=by simp[Ea]
  rw[bm]at lc;have⟨c0,mk,br⟩:=mkFr hh gs.length NH;have⟨h9,e9,bx,cz,o9⟩:=Tt U c0;rw[e9]at mk
  have nF:hh.own hh.next=Y:=(Le.refl hh).next U (qL0 _)
  generalize hh.next=F at*
  simp only[HO,seval,lc,mk];refine lIn (fun k S A=>∃(j:Nat)(cs:xLV),k=gs.length-j/\j<=gs.length/\S=mkF [(7,pT (Z O)),(11,.map (Z M)),(16,sL (Z F) gs.length gs.length),(73,cv),(74,gs.length),(75,.int .i64 j)]/\
    Le hh A/\A.own F=Z (.cells cs)/\cs.length=gs.length*2/\∀(a:Nat) g,a<j->gs[a]?=Z g->∃x y,cs[a*2]?=Z x/\cs[a*2+1]?=Z y/\PR (A.kill F) x g.2/\RL RP (A.kill F) y (YJ on g.2)) ⟨0,c0,rfl,Z6 _,rfl,bx,o9,br,NH⟩ ?_
  clear e9 o9 cz bx mk br c0 h9;rintro k S A dv ⟨j,cs,rfl,hj,rfl,leq,oF,dw,V⟩;refine Uy ?_;refine Kl.intro (fun ht=>?_) (fun hf=>?_)
  rotate_left
  .have cq:gs.length<=j:=vp hf;refine Uy ?_;refine⟨aq.trans (J.trans leq),_,_,rfl,.inr (.inr ⟨hr,aW,rfl,L,hT,?_⟩)⟩;have cC:LJ n es web L=gs.map fun g=>⟨g.2,YJ on g.2⟩:=by rw[<-ag];rfl
   show FL A _ (LJ n es web L);rw[cC];refine⟨cs,?_,fun a f ha=>?_⟩
   .have:=CS.own (k:=2) (off:=0) (n:=gs.length) (cap:=gs.length) oF NH;grind
   .rw[aiq]at ha;cases t:gs[a]? with
    |none=>grind
    |some g=>rw[t]at ha;simp at ha;subst ha;have⟨x,y,q1,q2,q3,q4⟩:=V a g hGr t;grind[PR.le,Le.Qz,RL.le,Nn.RP]
  have bz:j<gs.length:=acb ht;clear ht;have ai:=CA bz;generalize gs[j]=g at ai;have⟨f,l⟩:=g;have bA:(Ea gs)[j]?=Z f:=by grind[Ea]
  have bB:=(Ny.1 bA).1;have cE:=gc.rl.DH j bB;have bF:=(gc.rl.le Nn.RP leq).Uc j bB;rw[(Ny.1 bA).2]at bF;have Rq:=R.up leq;have⟨u,cJ,aF⟩:=R.look f;rw[NI nd ai]at aF;have s:acR pG A 65 (.map (Z M)) (.int .i64 f) fF=Z u:=by rw[<-cJ];simp only[acR,qS8,Ac,Rq.oM,R.oM]
  have gu:=aF.le leq;have cK:=lO A (m.trans (J.trans leq));have bH:InR n l:=fun p hp=>hR p (az _ (BS ai) p hp);have bI:l.length<=1000:=hGr;have cM:∀k:IntKind,aao pG 123 (sL (Z F) gs.length gs.length) (.int k j)=Z (pT (Z ⟨F,j*2,Y⟩)):=fun k=>by have h1:(j:Int)<(gs.length:Int):=NH;simp[aao,qS25,KT,h1,zB,Ip]
  have Fm:=feet_any W0 u nv n l (Cb n web) A gu.pr (ar.le Nn.sJ (J.trans leq)) bH aD bI;refine Sk (XC cE bF) ?_;refine gh (tA [0,1,2,3,5,6,8] (.ch 4 [2,3] (JQ 7 [5,6] (JQ 9 [7,8] (tA [10,11] (JQ 12 [0,1,2,3,4,5,6,7,8,9,10,11] .done)))) (JQ 7 [5,6] (.ch 4 [2,3] (JQ 9 [7,8] (tA [10,11] (JQ 12 [0,1,2,3,4,5,6,7,8,9,10,11] .done))) (JQ 9 [7,8] (JQ 4 [2,3] (tA [10,11] (JQ 12 [0,1,2,3,4,5,6,7,8,9,10,11] .done)))))))) ?_;refine CO (XC s cK) ?_;refine⟨?_,?_,?_⟩
  all_goals
   refine kGi func113 Fm ?_;rintro y hz wz ⟨hy,lz,ay⟩;have cN:acR pG hz 65 (.map (Z M)) (.int .i64 f) fF=Z u:=by rw[<-s];simp only[acR,qS8,Ac,lz.own _ _ Rq.oM,Rq.oM]
   have cP:=stFr (lz.own _ _ oF) (show j*2+2<=cs.length by omega) (gu.pr.le lz) hy;have cR:Le hh (hz.put F (.cells ((cs.set (j*2) u).set (j*2+1) y))):=(leq.trans lz).put _ nF;have cU:=build41 gu.pr.sl hy.sl;refine CO (IX cN cU cM cP (aaa j NH)) ?_;refine lgA NH ⟨j+1,(cs.set (j*2) u).set (j*2+1) y,rfl,bz,rfl,cR,aai.Y3 _ _ _,hGr,fun a g ha t=>?_⟩;have bN:blk y≠Z F:=fun hb=>by have:=ay F hb;grind
   by_cases e:a=j
   .subst e;rw[ai]at t;injection t with t;subst t;refine⟨u,y,hGr,hGr,aF.pr.le ((leq.trans lz).put_kill nF _),?_⟩;refine RL.anW (F:=F) ?_ bN;have h1:=(hy.anW bN).le Nn.RP (h':=(hz.put F (.cells ((cs.set (a*2) u).set (a*2+1) y))).kill F) ((Le.refl hz).ON F _);grind[RL.le,Nn.RP,Le.Qz]
   .obtain⟨x',y',q1,q2,q3,q4⟩:=V a g NH t;exact⟨x',y',by rw[Tn,abE NH,Tn,abE NH];exact q1,by rw[Tn,abE NH,Tn,abE NH];exact q2,q3.le (lz.ON F _),q4.le Nn.RP (lz.ON F _)⟩
 have W:i<es.length:=acb ht;clear ht;have K:=CA W;generalize es[i]=p at K;have cW:=BS K;have⟨p1,p2,p3⟩:=hR p cW;have dj:(ofM es web)[i]?=Z (decide (p∈web)):=by grind[ofM]
 have bQ:i<(ofM es web).length:=hGr;have cZ:=a8.le J;have ad:=hp.addr (k:=.i64) i W;have ld:=cZ.load K;have⟨dy,w,e7,bT,r,z,o7⟩:=Ut U p
 have dz:d.own hh.next=Y:=J.next U (qL0 _)
 have bW:hh.own hh.next=Y:=(Le.refl hh).next U (qL0 _)
 have c:=J.trans r;have oA:∀k:IntKind,aao pG 94 ov (.int k (i:Int))=Z (pT (Z (aaq ov i))):=fun k=>aX.LB i bQ;have oL:aaC pG w 4 (aaq ov i)=Z (.bool (decide (p∈web))):=by grind[RL.le,Nn.sJ,RL.W7]
 have R7:=R.up r;have X:=gc.le r
 have dA:hh.next≠M:=fun e=>by have:=R.oM;grind
 have c3:blk cv≠Z hh.next:=fun e=>GS.Sy gc e bW
 have dB:∀(j:Nat) u,us[j]?=Z u->blk u≠Z hh.next:=fun j u s e=>by have ag:∃q,(aaX fr es web i)[j]?=Z q:=⟨_,CA (by grind[aaE.len])⟩;have⟨q,A⟩:=ag;exact GS.Sy (R.gp j u q s A) e bW
 generalize hh.next=E at*
 by_cases c1:p∈web
 .rw[EL c1]at oL;rw[<-JJ K c1]at R7 X;simp only[HO,seval,ad,ld,e7,bT,oA,oL,aaa i NH];exact lgA NH ⟨i+1,cv,us,rfl,W,rfl,R7,X,nc,dc,ac⟩
 rw[Sb c1]at oL;simp only[HO,seval,ad,ld,e7,bT,oA,oL];have bY:=lA w (Q.trans c);refine kCi func112 (frag_any W0 ev nv tv n es (Cb n web) L B O T i p w (a8.le c) (ar.le Nn.sJ c) (cm.le Nn.RP c) hR aD hT.len bY.2.1 bY.2.2 (lO w (m.trans c)) (lT w c) K NH NH) ?_;rintro x h9-⟨rfl,rfl⟩;have⟨nd,bk,av,cx,az⟩:=Pt fr es web i;have aA:=dh (fr:=fr) K c1;have H:=RY (aaX fr es web i) (fr p i) p;have bZ:=rV (f:=fr p i) bk;have bI:=Ft (fr p i) _ _ av;have c4:Zo n (fun u=>(Cb n web).getD u fF) L p i=fr p i:=rfl;rw[c4];generalize ag:aaX fr es web i=gs at*;generalize fr p i=f at*;have bm:(Ea gs).length<=1000:=by grind[Ea]
 have⟨u,s,gu⟩:=R7.look f;have lu:=fun g=>gu.pr.len g;have aH:∀(j:Nat) a b,us[j]?=Z a->blk a=Z b->∃o,h9.own b=Z o:=fun j a b ha hb=>by have A:∃q,gs[j]?=Z q:=⟨_,CA (by rw[<-R7.len];grind)⟩;have⟨q,A⟩:=A;exact N8.1 (GS.Sy (R7.gp j a q ha A) hb)
 by_cases c2:acU gs f=[]
 .have c5:∀g,aeh pG g 22 u=Z (.int .i64 0):=fun g=>by rw[lu g,c2];rfl
  have c6:f∉Ea gs:=fun hm=>bZ.1 hm c2;rw[abE c6]at H;have⟨aJ,g4,g5,e4,e5,aK,w5,l4,c9,aj⟩:=X.push z f NH;have⟨l5,a5⟩:=c9 d c ac;have R5:aaE d g5 M us gs:=R7.keep l5 fun b o ho hb=>(aj b o ho (by
   rcases hb with rfl|⟨j,a,ha,hb⟩
   .exact nc
   grind)).1
  have⟨da,dE⟩:=aj E _ o7 c3;have aL:=(aj M _ R7.oM nc).2;have⟨u2,db,q4,q5,q6,aN,eu,eb,ea,em,Rn,wn,dd,kq⟩:=R5.push w5 f p (by rw[c2];simp);have aP:=uM da;rw[<-H]at aK;have ku:∀(j:Nat) a b,us[j]?=Z a->blk a=Z b->blk aJ≠Z b:=fun j a b ha hb=>by have⟨o,ho⟩:=aH j a b ha hb;exact(aj b o ho (dc j a b ha hb)).2
  have aT:GI q6 aJ (Ea (ab4 gs f p)):=GS.kept aK fun b o hb ho=>(kq b o ho (fun e=>aL hGr) (fun j a ha D=>ku j a b ha D hb)).2.1;simp only[HO,seval,s,c5,e4,e5,eu,aP,eb,ea,em,aaa i NH];refine lgA NH ⟨i+1,aJ,aN,rfl,W,rfl,?_⟩;rw[aA];refine⟨Rn,aT,aL,fun j a b ha hb hc=>?_,a5⟩;have⟨o,ho⟩:=N8.1 (GS.Sy aK hc);exact(kq b o ho (fun e=>aL hGr) (fun j a ha D=>ku j a b ha D hc)).2.2 j a ha hb
 .have hz:(((acU gs f).length:Nat):Int)≠0:=by grind[length_eq_zero_iff]
  rw[abe (bZ.2 c2)]at H;have⟨u2,db,q4,q5,q6,aN,eu,eb,ea,em,Rn,wn,dd,kq⟩:=R7.push z f p NH;obtain rfl:u=u2:=hGr;have aP:=uM o7;have aT:GI q6 cv (Ea (ab4 gs f p)):=by rw[H];exact GS.kept X fun b o hb ho=>(kq b o ho (fun e=>nc hGr) (fun j a ha D=>dc j a b ha D hb)).2.1
  simp only[HO,seval,s,lu,eq_false hz,aP,eb,ea,em,aaa i NH];refine lgA NH ⟨i+1,cv,aN,rfl,W,rfl,?_⟩;rw[aA];refine⟨Rn,aT,nc,fun j a b ha hb hc=>?_,ac⟩;have⟨o,ho⟩:=N8.1 (GS.Sy X hc);exact(kq b o ho (fun e=>nc hGr) (fun j a ha D=>dc j a b ha D hc)).2.2 j a ha hb
def cX(web l:xLP)(n:Nat):II:=(rG n).filter fun v=>onE web (v:Int)&&onE l (v:Int)
variable {a b:Value} {fs:List FM} {i:Nat}
theorem FL.len(r:FL h v fs)(g:aai):aeh pG g 123 v=Z (.int .i64 fs.length):=by have⟨cs,c,_⟩:=r;obtain⟨a,k,rfl,_⟩:=c.sl;simp[aeh,qS25]
def aja(v:vV)(i:Nat):Addr:=aaq v (i*2)
theorem FL.addr(r:FL h v fs){k:IntKind}(i:Nat)(hi:i<fs.length):aao pG 123 v (.int k i)=Z (pT (Z (aja v i))):=by have⟨cs,c,_⟩:=r;obtain⟨a,k,rfl,hs⟩:=c.sl;obtain⟨a,rfl⟩:=abV.1 (hs NH);have b:(i:Int)<(fs.length:Int):=NH;simp[aao,qS25,KT,b,aja,aaq,zB]
def ff0(a:Addr):aca pG 127 (pT (Z a)) 0=Z (pT (Z (Ip a 0))):=rfl
def ff1(a:Addr):aca pG 127 (pT (Z a)) 1=Z (pT (Z (Ip a 1))):=rfl
theorem FL.load(r:FL h v fs){f:FM}(hf:fs[i]?=Z f):
  ∃a b,(∀g,Le h g->aaC pG g 127 (aja v i)=Z (.agg #[a,b]))/\PR h a f.zp/\RL RP h b f.Fm:=by
 have⟨cs,c,e⟩:=r;have⟨a,b,m,n,o,p⟩:=e i f hf;refine⟨a,b,fun g l=>?_,o,p⟩;have q:=l.read (c.get _ _ m);have s:=l.read (c.get _ _ n);obtain⟨ad,k,rfl,hs⟩:=c.sl;obtain⟨ad,rfl⟩:=abV.1 (hs hGr);have d:abN g (aja (sL (Z ad) fs.length k) i) 2=Z [a,b]:=by refine ag8 [a,b] _ fun j x e=>?_;grind[aja,fA,Ip]
 simp only[aaC,KT,zB,d];rfl
theorem alloc41(h:aai):abO pG h 127=Z (pT (Z h.next),h.alloc (.cells [.slice Y 0 0,.slice Y 0 0])):=rfl
theorem new41'(hw:WF h)(ha:xO a n)(hb:xO b m):∃c h2,abO pG h 127=Z (pT (Z h.next),c)/\aaK pG c 127 (pT (Z h.next)) (.agg #[a,b])=Z h2/\Le h h2/\WF h2/\h.own h.next=Y/\h2.own h.next=Z (.cells [a,b]):=by
 have⟨c,e,l1,w1,d⟩:=Tt hw [.slice Y 0 0,.slice Y 0 0]
 have f:h.own h.next=Y:=(Le.refl h).next hw (qL0 _)
 have st:aaK pG c 127 (pT (Z h.next)) (.agg #[a,b])=Z (c.put h.next (.cells [a,b])):=by obtain⟨_,_,rfl,_⟩:=ha;obtain⟨_,_,rfl,_⟩:=hb;simp[aaK,d,vV.cells,zB,putCells,KT];exact⟨rfl,rfl⟩
 grind[alloc41,Le.put,WF.put,WF.lt,aai.Y3]
def ld41{C:Nat}(c:g.own C=Z (.cells [a,b])):aaC pG g 127 ⟨C,0,Y⟩=Z (.agg #[a,b])/\aaC pG g 22 ⟨C,0,Y⟩=Z a/\aaC pG g 47 ⟨C,1,Y⟩=Z b:=by
 refine⟨?_,?_,?_⟩
 .rw[Wx KT rfl zB c Ma];rfl
 .rw[Fq AV rfl c];rfl
 .rw[Fq Mb rfl c];rfl
theorem Ty(p:Pr)(v:Int):aO p v=tT↔p.1=v\/p.2=v:=by simp[aO]
theorem onE_iff(web:xLP)(v:Nat):onE web (v:Int)=tT↔onW web v:=by simp[onE,onW,Ty]
theorem Fh{n:Nat}{web:xLP}{u:Nat}(a:u<n):(Cb n web).getD u fF=onE web (u:Int):=by grind[onE_iff,Cb]
section
variable{n:Nat}{es web:List Pr}{L:RZ}
abbrev Qw(n:Nat)(web:xLP):Nat->Bool:=fun u=>(Cb n web).getD u fF
end
variable {es l web:List Pr} {α:Type}
theorem feet_eq(hR:InR n es)(a:∀p∈l,p∈es):YJ (Qw n web) l=kz (cX web l n):=by
 refine afY _ _ (amV (aQ _)) ?_ fun x=>?_
 .rw[kz,Vn,cX];grind[List.Pairwise.imp,pairwise_lt_range]
 .rw[YJ,jn,Wv];simp only[BY,ftP,uu,K4,kz,cX,aev,j3,rY];constructor
  .rintro⟨p,b,c,d⟩;have⟨a1,a2,e⟩:=hR p (a p b);grind[Fh,onE.eq_1,Ty]
  grind[onE.eq_1,Ty,Fh]
def aez(fr:Pr->Nat->Int)(es web:xLP)(k:Int):Nat->xLP
  |0=>[]
  |i+1=>match es[i]? with
    |some p=>if p∈web then aez fr es web k i else if fr p i=k then aez fr es web k i++[p]else aez fr es web k i
    |none=>aez fr es web k i
theorem lstG_add(gs:List Gr)(f k:Int)(p:Pr):acU (ab4 gs f p) k=if f=k then acU gs k++[p]else acU gs k:=by
 induction gs<;>grind[ab4,acU]
theorem ZM(fr:Pr->Nat->Int)(es web:xLP)(k:Int)(i:Nat):acU (aaX fr es web i) k=aez fr es web k i:=by
 induction i with
 |zero=>rfl
 |succ i a=>
  cases b:es[i]?<;>grind[aaX,aez,lstG_add]
theorem full_mem(fr:Pr->Nat->Int)(es web:xLP)(k:Int)(q:Pr)(i:Nat):q∈aez fr es web k i↔∃j,j<i/\es[j]?=Z q/\q∉web/\fr q j=k:=by
 induction i<;>grind[aez]
theorem grps_map(F:xLP->α)(gs:List Gr)(a:(Ea gs).Nodup):gs.map (fun g=>F g.2)=(Ea gs).map fun k=>F (acU gs k):=by grind[Ea.eq_1,map_congr_left,mem_iff_getElem?,NI]
theorem keys_add(gs:List Gr)(f k:Int)(p:Pr):k∈Ea (ab4 gs f p)↔k∈Ea gs\/k=f:=by
 induction gs<;>grind[ab4,Ea]
theorem keys_mem(fr:Pr->Nat->Int)(es web:xLP)(k:Int)(i:Nat):k∈Ea (aaX fr es web i)↔∃(j:Nat)(p:Pr),j<i/\es[j]?=Z p/\p∉web/\fr p j=k:=by
 induction i with
 |zero=>simp[aaX,Ea]
 |succ i a=>
  cases b:es[i]? with
  |none=>grind[aaX]
  |some q=>
   by_cases c:q∈web
   .grind[JJ]
   .rw[dh b c,keys_add,a];grind
variable {L:RZ} {on:Nat->Bool} {ps:List Pr} {u w:Nat} {x:Int}
theorem sW(fr:Pr->Nat->Int)(es web:xLP)(k:Int):∀i,(aez fr es web k i).Sublist (es.take i)
 |0=>by simp[aez]
 |i+1=>by
  have a:=sW fr es web k i;simp only[aez];cases b:es[i]? with
  |none=>grind
  |some p=>
   have:es.take (i+1)=es.take i++[p]:=by grind[take_add_one]
   grind
theorem E7:x∈kz (cX web l n)↔∃v:Nat,v<n/\x=(v:Int)/\onE web (v:Int)=tT/\onE l (v:Int)=tT:=by grind[kz,cX]
theorem DX{v:Int}:onE ps v=tT↔∃p∈ps,aO p v=tT:=by simp[onE]
theorem ajR(a:wx n on es L)(b:u<n)(hw:w<n)(c:on u=fF)(d:on w=fF):L.getD u 0=L.getD w 0↔Cn on es u w:=by grind[wx.same,wx.off]
attribute [local instance] Classical.propDecidable
def Xl(rs:AM):Nat->II:=fun v=>(rs.getD v []).map Int.toNat
structure Av (n:Nat) (es:xLP) (rs:AM):Prop where
 len:rs.length=n
 perm:∀v,v<n->(rs.getD v []).Perm ((Zh n es).getD v [])
section
variable{n:Nat}{es:List Pr}{rs:AM}
theorem Av.nat(c:InR n es)(G:Av n es rs){v:Nat}{x:Int}(a:x∈rs.getD v []):v<n/\∃w:Nat,x=(w:Int)/\w<n/\Jp es v w:=by
 by_cases b:v<n
 .have d:=(G.perm v b).mem_iff.1 a;grind[Ru,EW]
 grind[Av.len]
theorem Av.mem(a:InR n es)(G:Av n es rs){v w:Nat}:w∈Xl rs v↔Jp es v w:=by
 rw[Xl,aev];constructor
 .rintro⟨x,b,rfl⟩;obtain⟨_,w,rfl,_,h⟩:=G.nat a b;exact h
 .intro h;have c:=(h.lt a).1;exact⟨(w:Int),(G.perm v c).mem_iff.2 (by grind[EW]),rfl⟩
theorem Av.back(a:InR n es)(G:Av n es rs)(v:Nat):(Xl rs v).map (fun(x:Nat)=>(x:Int))=rs.getD v []:=by
 rw[Xl,KG]
 conv=>rhs;rw[<-alZ (rs.getD v [])]
 refine Qn fun x b=>?_;obtain⟨_,w,rfl,_⟩:=G.nat a b;rfl
theorem Av.jD(a:InR n es)(ha:D3 es)(G:Av n es rs):V7 n (Xl rs):=by
 refine⟨fun v=>?_,fun v w h=>(((G.mem a).1 h).lt a).1,fun v w h=>(G.mem a).2 ((G.mem a).1 h).symm,fun v h=>Xa a ((G.mem a).1 h)⟩;by_cases b:v<n
 .have nd:(rs.getD v []).Nodup:=(G.perm v b).nodup_iff.2 (by grind[KW,List.Pairwise.imp]);grind[Xl.eq_1,List.Pairwise.imp_of_mem,Av.nat]
 grind[Xl.eq_1,Av.len]
end
theorem nx_idx{l:II}(nd:l.Nodup){j:Nat}(a:j<l.length):nx l l[j]=l[(j+1)%l.length]'(Q4 _ NH):=by
 have e:l=l.take j++l[j]::l.drop (j+1):=by grind[getElem_cons_drop,take_append_drop]
 have b:nx l l[j]=(l.drop (j+1)++(l.take j++[l[j]])).headD 0:=by grind[ZL]
 rw[b];by_cases c:j+1<l.length
 .grind[drop_eq_getElem_cons,headD_cons,Nat.mod_eq_of_lt]
 .rw[ahH NH,Cj];have d:(j+1)%l.length=0:=by grind[Nat.mod_self]
  cases j with
  |zero=>grind
  |succ j=>
   cases l with
   |nil=>simp at a
   |cons x l=>simp only[d,aeA,WS,qL220,qL225]
structure wW where
 zp:xLP
 Fm:RZ
 fits:II
instance:Inhabited wW:=⟨⟨[],[],[]⟩⟩
structure ShM where
 on:List Bool
 Jv:Cs
 left:List wW
abbrev Wg(on:List Bool):Nat->Bool:=fun u=>on.getD u fF
def eJ(n:Nat)(f:II):List Bool:=(rG n).map fun v=>decide (v∈f)
def fitsB(Jv:Cs)(Fm:RZ)(f:Nat):Bool:=Fm.all fun v=>decide (v.toNat∈Jv.getD f [])
def zh(Jv:Cs)(Fm:RZ)(a:II):II:=a.filter (fitsB Jv Fm)
def LF(left:List wW)(i:Nat):Nat:=(left.getD i default).fits.length
def abx(left:List wW):Nat->Nat
 |0=>0
 |i+1=>if LF left i<LF left (abx left i)then i else abx left i
def ahi(start:Nat)(st:RZ×II)(v by_:Nat):RZ×II:=if v≠start/\st.1.getD v 0<0 then(st.1.set v (by_:Int),st.2++[v])else st
def abY(start:Nat)(st:RZ×II)(e:Pr):RZ×II:=if e.1=(start:Int)then ahi start st e.2.toNat start else if e.2=(start:Int)then ahi start st e.1.toNat start else st
def SL(n start:Nat)(zp:xLP):RZ×II:=zp.foldl (abY start) (rP n (-1),[])
def abU(start:Nat)(st:RZ×II)(v:Nat)(row:RZ):RZ×II:=row.foldl (fun st w=>ahi start st w.toNat v) st
def acz(rows:AM)(start:Nat)(s0:RZ×II):Nat->RZ×II
  |0=>s0
  |i+1=>match(acz rows start s0 i).2[i]? with
    |some v=>abU start (acz rows start s0 i) v (rows.getD v [])
    |none=>acz rows start s0 i
def XG(rows:AM)(on:List Bool)(start:Nat)(s0:RZ×II)(i:Nat):Bool:=
 match(acz rows start s0 i).2[i]? with
 |some v=>Wg on v
 |none=>tT
def traceM(fr:RZ)(start:Nat):Nat->Nat->II
 |0,_=>[start]
 |k+1,v=>if v=start then[start]else traceM fr start k (fr.getD v 0).toNat++[v]
def J6(n:Nat)(rows:AM)(on:List Bool)(p:wW):II:=
  if p.Fm.length<2 then[]else
  let start:=(p.Fm.headD 0).toNat;let s0:=SL n start p.zp
  match(rG (n+1)).find? (XG rows on start s0)with
  |some i=>match(acz rows start s0 i).2[i]? with
    |some v=>traceM (acz rows start s0 i).1 start n v
    |none=>[]
  |none=>[]
def Qk(f:II)(i j:Nat):II:=(rG ((j+f.length-i)%f.length+1)).map fun t=>f.getD ((i+t)%f.length) 0
def Dn(f:II)(v:Nat):Nat:=f.findIdx fun x=>decide (x=v)
def jc(way:II):II:=(way.drop 1).take (way.length-2)
def Ni(way:II):Nat:=way.getD (way.length-1) 0
def Ee(f way:II):II:=Qk f (Dn f (way.headD 0)) (Dn f (Ni way))++(jc way).reverse
def kP(f way:II):II:=Qk f (Dn f (Ni way)) (Dn f (way.headD 0))++jc way
def KI(n:Nat)(way:II):Nat->RZ
 |0=>rP n (-1)
 |i+1=>(KI n way i).set (way.getD i 0) (i:Int)
def aI(pl:RZ)(e:Pr):Bool:=let a:=pl.getD e.1.toNat 0;let b:=pl.getD e.2.toNat 0;decide (a<0)||decide (b<0)||(decide (a-b≠1)&&decide (b-a≠1))
def V8(n:Nat)(zp:xLP)(way:II):xLP:=zp.filter (aI (KI n way way.length))
def Uo(l:RZ)(x:Int):RZ:=if x∈l then l else l++[x]
def kZ(l:RZ):RZ:=l.foldl Uo []
noncomputable def MF(n:Nat)(on:Nat->Bool)(es:xLP):RZ:=(rG n).map fun v=>((((rG n).find? fun u=>decide (Cn on es u v)).getD 0:Nat):Int)
noncomputable def vX(n:Nat)(on:List Bool)(es:xLP):List wW:=(aaX (Zo n (Wg on) (MF n (Wg on) es)) es [] es.length).map fun g=>⟨g.2,kZ (BY (Wg on) g.2),[]⟩
def tV(on:List Bool)(way:II):List Bool:=way.foldl (fun o v=>o.set v tT) on
def GF(Jv:Cs)(f g:Nat)(q:wW):wW:=if f∈q.fits then{q with fits:=zh Jv q.Fm (q.fits++[g])}else q
noncomputable def AU(n:Nat)(rows:AM)(S:ShM):Option ShM:=
 let a:=abx S.left S.left.length;let p:=S.left.getD a default
 if p.fits.length=0 then Y else
 let way:=J6 n rows S.on p
 if way.length<2 then Y else
 let f:=p.fits.headD 0;let g:=S.Jv.length;let EI:=S.Jv.getD f [];let Jv:=S.Jv.set f (Ee EI way)++[kP EI way];let on:=tV S.on way
 Z ⟨on,Jv,(S.left.eraseIdx a).map (GF Jv f g)++(vX n on (V8 n p.zp way)).map fun q=>{q with fits:=zh Jv q.Fm (p.fits++[g])}⟩
structure BF (n start:Nat) (A:Nat->Prop) (B:Nat->Nat->Prop) (st:RZ×II):Prop where
 len:st.1.length=n
 nd:st.2.Nodup
 lt:∀v∈st.2,v<n/\v≠start
 mm:∀v,v<n->(v∈st.2↔0<=st.1.getD v 0)
 par:∀(k v:Nat),st.2[k]?=Z v->(st.1.getD v 0=(start:Int)/\A v)\/∃j u:Nat,j<k/\st.2[j]?=Z u/\st.1.getD v 0=(u:Int)/\B u v
section
variable{n start:Nat}{A:Nat->Prop}{B:Nat->Nat->Prop}{st:RZ×II}
theorem BF.zero:BF n start A B (rP n (-1),[]):=by refine⟨Ma,Ma,Ma,fun v a=>?_,hGr⟩;grind
theorem BF.meet(W:BF n start A B st){v by_:Nat}(i:v<n)(d:(by_=start/\A v)\/∃j:Nat,st.2[j]?=Z by_/\B by_ v):
  BF n start A B (ahi start st v by_)/\(∃t,(ahi start st v by_).2=st.2++t)/\(v=start\/v∈(ahi start st v by_).2):=by
 unfold ahi;split
 .have l:v∉st.2:=by grind[BF.mm]
  refine⟨⟨by simp[W.len],?_,fun x c=>?_,fun x c=>?_,fun k x a=>?_⟩,⟨_,rfl⟩,.inr Ma⟩
  .grind[BF.nd]
  .rcases aax.1 c with h|h
   .exact W.lt x h
   grind
  .grind[BF.mm]
  .have hg:∀y,y∈st.2->(st.1.set v (by_:Int)).getD y 0=st.1.getD y 0:=hGr;by_cases e:k<st.2.length
   .rw[si e]at a;have f:=BS a;rw[hg x f];rcases W.par k x a with h|⟨j,u,b,h2,h3⟩
    .exact .inl h
    .exact .inr ⟨j,u,b,hGr,h3⟩
   .rw[AE NH]at a;have:k-st.2.length=0:=hGr;rw[this]at a;simp at a;subst a;have g:(st.1.set v (by_:Int)).getD v 0=(by_:Int):=hGr;rw[g];rcases d with⟨rfl,h⟩|⟨j,b,h2⟩
    .grind
    .have m:=(Ny.1 b).1;exact .inr ⟨j,by_,NH,hGr,rfl,h2⟩
 .refine⟨W,⟨[],Ma⟩,?_⟩;grind[BF.mm]
theorem pre_mem{l t:II}{v:Nat}{s:II}(h:s=l++t)(a:v∈l):v∈s:=hGr
theorem Z5{l t:II}{v k:Nat}{s:II}(h:s=l++t)(a:l[k]?=Z v):s[k]?=Z v:=hGr
theorem BF.row{v j:Nat}:∀(row:RZ){st:RZ×II},BF n start A B st->st.2[j]?=Z v->(∀x∈row,∃w:Nat,x=(w:Int)/\w<n/\B v w)->
  BF n start A B (abU start st v row)/\(∃t,(abU start st v row).2=st.2++t)/\∀w:Nat,(w:Int)∈row->w=start\/w∈(abU start st v row).2
 |[],st,W,_,_=>⟨W,⟨[],by simp[abU]⟩,hGr⟩
 |x::row,st,W,a,b=>by
  obtain⟨w,rfl,hw,hB⟩:=b x Ma;have⟨c,⟨t1,d⟩,m1⟩:=W.meet (v:=w) (by_:=v) hw hGr;have⟨e,⟨g,i⟩,m2⟩:=c.row row (Z5 d a) hGr;have k:abU start st v ((w:Int)::row)=abU start (ahi start st w v) v row:=rfl;refine⟨e,hGr,fun y f=>?_⟩;rcases Og.1 f with h|h
  .have:y=w:=NH;grind
  grind
theorem BF.Vk:∀(zp:xLP){st:RZ×II},BF n start A B st->(∀e∈zp,(∃a b:Nat,e=((a:Int),(b:Int))/\a<n/\b<n)/\(∀w:Nat,(e=((start:Int),(w:Int))\/e=((w:Int),(start:Int)))->A w))->
  BF n start A B (zp.foldl (abY start) st)/\(∃t,(zp.foldl (abY start) st).2=st.2++t)/\∀e∈zp,∀w:Nat,(e=((start:Int),(w:Int))\/e=((w:Int),(start:Int)))->w≠start->w∈(zp.foldl (abY start) st).2
 |[],st,W,_=>⟨W,⟨[],Ma⟩,hGr⟩
 |e::zp,st,W,c=>by
  obtain⟨⟨a,b,rfl,ha,hb⟩,hA⟩:=c e Ma;have s1:BF n start A B (abY start st ((a:Int),(b:Int)))/\(∃t,(abY start st ((a:Int),(b:Int))).2=st.2++t)/\∀w:Nat,((((a:Int),(b:Int)):Pr)=((start:Int),(w:Int))\/(((a:Int),(b:Int)):Pr)=((w:Int),(start:Int)))->w≠start->w∈(abY start st ((a:Int),(b:Int))).2:=by
   unfold abY;split
   .grind[BF.meet]
   .split
    .grind[BF.meet]
    .refine⟨W,⟨[],Ma⟩,fun w hw d=>?_⟩;grind
  have⟨f,⟨t1,g⟩,m1⟩:=s1;have⟨h,⟨i,j⟩,m2⟩:=f.Vk zp hGr;grind
theorem BF.jI(W:BF n start A B st):st.2.length<=n:=by have:=acK W.nd (B:=rG n) (by grind[BF.lt]);grind
theorem BF.trace(W:BF n start A B st):∀(fuel k v:Nat),k<fuel->st.2[k]?=Z v->
  ∃L:II,traceM st.1 start fuel v=start::(L++[v])/\(∀x∈L,∃j:Nat,j<k/\st.2[j]?=Z x/\∃y,B x y)/\L.Nodup/\A ((L++[v]).headD 0)/\∀(i x y:Nat),(L++[v])[i]?=Z x->(L++[v])[i+1]?=Z y->B x y
 |0,k,v,h,_=>by grind
 |fuel+1,k,v,h,a=>by
  have f:=W.lt v (BS a);have g:traceM st.1 start (fuel+1) v=traceM st.1 start fuel (st.1.getD v 0).toNat++[v]:=by grind[traceM.eq_2]
  rcases W.par k v a with⟨d,h2⟩|⟨j,u,d,h2,h3,l⟩
  .refine⟨[],?_,hGr,Ma,h2,fun i x y b c=>?_⟩
   .have:traceM st.1 start fuel (start:Int).toNat=[start]:=by
     cases fuel<;>grind[traceM.eq_1,traceM.eq_2]
    grind
   grind
  .obtain⟨L,m,o,nL,hA,ch⟩:=W.trace fuel j u NH h2;refine⟨L++[u],?_,fun x b=>?_,?_,?_,fun i x y b c=>?_⟩
   .grind
   .grind
   .grind[afM,BF.nd]
   .grind
   .by_cases q:i+1<(L++[u]).length
    .grind
    .have e:=(Ny.1 c).1;simp at e q;have hi:i=L.length:=NH;subst hi;grind[List.getElem?_append_right]
end
theorem Ix{a b:Nat}(h:a<b):GW a b=((a:Int),(b:Int)):=by grind[GW]
theorem cY{a b:Nat}(h:b<a):GW a b=((b:Int),(a:Int)):=by rw[so,Ix h]
theorem Mf{es:xLP}{a b:Nat}(c:a≠b)(h:GW a b∈es):Jp es a b:=by
 rcases adQ c with k|k
 .rw[Ix k]at h;exact .inl h
 .rw[cY k]at h;exact .inr h
section
variable{n start:Nat}{es:List Pr}{on:List Bool}{A:Nat->Prop}{s0:RZ×II}
theorem PH(hR:InR n es)(W:BF n start A (fun u v=>Jp es u v/\Wg on u=fF) s0):∀i,(∀j,j<i->XG (Zh n es) on start s0 j=fF)->
  BF n start A (fun u v=>Jp es u v/\Wg on u=fF) (acz (Zh n es) start s0 i)/\(∃t,(acz (Zh n es) start s0 i).2=s0.2++t)/\
   ∀j,j<i->∃u:Nat,(acz (Zh n es) start s0 i).2[j]?=Z u/\Wg on u=fF/\∀w,Jp es u w->w=start\/w∈(acz (Zh n es) start s0 i).2
 |0,_=>⟨W,⟨[],by simp[acz]⟩,hGr⟩
 |i+1,hs=>by
  have⟨b,⟨t1,h⟩,c1⟩:=PH hR W i hGr;have hi:=hs i NH;unfold XG at hi;cases a:(acz (Zh n es) start s0 i).2[i]? with
  |none=>grind
  |some v=>
   have c:acz (Zh n es) start s0 (i+1)=abU start (acz (Zh n es) start s0 i) v ((Zh n es).getD v []):=by rw[acz,a]
   rw[c];have⟨d,⟨k,f⟩,c2⟩:=b.row ((Zh n es).getD v []) a (by grind[Ru,EW]);refine⟨d,hGr,fun j l=>?_⟩;by_cases e:j=i
   .grind[EW]
   .obtain⟨u,g,h2,h3⟩:=c1 j NH;exact⟨u,Z5 f g,h2,(by grind[pre_mem])⟩
theorem way_spec(hR:InR n es){p:wW}(hf:2<=p.Fm.length)(hs:(p.Fm.headD 0).toNat=start)(q:start<n)(r:∀e∈p.zp,e∈es):
    (∃inn b,J6 n (Zh n es) on p=aaF start inn b/\(aaF start inn b).Nodup/\b<n/\Wg on b=tT/\(∀x∈inn,Wg on x=fF)/\GW start ((inn++[b]).headD 0)∈p.zp/\
      ∀(i x y:Nat),(aaF start inn b)[i]?=Z x->(aaF start inn b)[i+1]?=Z y->Jp es x y)\/
    (J6 n (Zh n es) on p=[]/\∃M:II,(∀w,GW start w∈p.zp->w≠start->w∈M)/\∀u∈M,u≠start/\Wg on u=fF/\∀w,Jp es u w->w=start\/w∈M):=by
  have s:=(BF.zero (n:=n) (start:=start) (A:=fun w=>GW start w∈p.zp) (B:=fun u v=>Jp es u v/\Wg on u=fF)).Vk p.zp fun e z=>by have C:=hR e (r e z);have⟨a,ea⟩:=WA C.1;have⟨b,eb⟩:=WA (show 0<=e.2 by omega);grind[Ix,cY]
  have l:p.zp.foldl (abY start) (rP n (-1),[])=SL n start p.zp:=rfl;obtain⟨m,-,m0⟩:=s
  have wd:J6 n (Zh n es) on p=match(rG (n+1)).find? (XG (Zh n es) on start (SL n start p.zp))with
      |some i=>match(acz (Zh n es) start (SL n start p.zp) i).2[i]? with
        |some v=>traceM (acz (Zh n es) start (SL n start p.zp) i).1 start n v
        |none=>[]
      |none=>[]:=by grind[J6]
  rw[wd];cases f:(rG (n+1)).find? (XG (Zh n es) on start (SL n start p.zp))with
  |none=>have D:∀j,j<n+1->XG (Zh n es) on start (SL n start p.zp) j=fF:=hGr;obtain⟨g,-,c2⟩:=PH hR m (n+1) D;obtain⟨u,N,-⟩:=c2 n NH;grind[BF.jI]
  |some i=>
    rw[qL169]at f;have⟨g,⟨t,O⟩,c2⟩:=PH hR m i hGr;cases d:(acz (Zh n es) start (SL n start p.zp) i).2[i]? with
    |none=>
      refine .inr ⟨hGr,(acz (Zh n es) start (SL n start p.zp) i).2,fun w hw E=>?_,fun u F=>?_⟩
      .grind[cY,Ix]
      · have⟨j,G⟩:=vZ.1 F
        have P:=List.getElem?_eq_none_iff.1 d;have H:=(Ny.1 G).1;have⟨u',Q,R,S⟩:=c2 j NH;grind[BF.lt]
    |some v=>
      have I:Wg on v=tT:=by grind[XG]
      have hi:i<n:=by grind[BF.jI]
      have⟨L,J,T,nL,hA,ch⟩:=g.trace n i v hi d;have h:=g.lt v (BS d);have c:∀x∈L,Wg on x=fF:=fun x o=>by grind
      have K:∀x∈L,x≠start:=fun x o=>by grind[BF.lt]
      refine .inl ⟨L,v,by simp only[d];exact J,?_,h.1,I,c,hA,fun k x y o U=>?_⟩
      .grind[aaF.eq_1,nodup_cons,mem_singleton]
      · cases k with
        |zero=>grind[yT,Mf,BX]
        |succ k=>have e:aaF start L v=start::(L++[v]):=rfl;grind
end
variable {A B f:II} {F:Cs} {a b k s t v:Nat}
theorem ajS(nd:f.Nodup)(h:f[k]?=Z v):Dn f v=k:=by have⟨b,e⟩:=Ny.1 h;unfold Dn;rw[qL221 b];refine⟨by simp[e],fun j c=>?_⟩;have a:j<f.length:=NH;simp only[ah9];intro q;have:=afM nd (qL7 a) (by rw[h,q]);omega
theorem cyc_front{f g:II}{t:II}(h:Cyc f g)(e:g=a::t):∃u v,f=u++a::v/\g=(a::v)++u:=by obtain⟨u,v,rfl,rfl⟩:=h;cases v<;>grind
theorem rot_get{u v:II}(d:t<(u++v).length)(f:v≠[]):(v++u)[t]?=Z ((u++v).getD ((u.length+t)%(u++v).length) 0):=by
 have a:(u++v).length=u.length+v.length:=Eh;by_cases c:t<v.length
 .have b:(u.length+t)%(u++v).length=u.length+t:=by exact im NH
  grind
 .have e:u.length+t=(t-v.length)+(u.length+v.length):=NH;have b:(u.length+t)%(u++v).length=t-v.length:=by rw[a,e,aoD,im NH]
  grind
theorem aeQ(hi:i<m)(hs:s<m):((i+s)%m+m-i)%m=s:=by
 by_cases c:i+s<m
 .rw[im c,show i+s+m-i=s+m from by omega,aoD,im hs]
 .have:(i+s)%m=i+s-m:=by rw[Nat.mod_eq_sub_mod NH,im NH]
  grind[Nat.mod_eq_of_lt]
theorem U1(nd:f.Nodup)(cy:Cyc f ((a::A)++(b::B))):Qk f (Dn f a) (Dn f b)=a::(A++[b]):=by
 have⟨u,v,d,j⟩:=cyc_front cy rfl;have k:((a::A)++(b::B)).length=f.length:=(cy.perm.length_eq).symm;have hi:Dn f a=u.length:=ajS nd hGr;have g:f.length=(u++a::v).length:=by rw[d]
 have h:u.length<f.length:=hGr;have get:∀t,t<f.length->((a::A)++(b::B))[t]?=Z (f.getD ((u.length+t)%f.length) 0):=by grind[rot_get]
 have sl:A.length+1<f.length:=hGr;have gb:=get (A.length+1) sl;rw[AE Ma,Fu,aj3,MY]at gb;injection gb with gb;have l:=Q4 (u.length+(A.length+1)) (show 0<f.length by omega);have i:Dn f b=(u.length+(A.length+1))%f.length:=by grind[ajS]
 unfold Qk;rw[hi,i,aeQ h sl];have e:a::(A++[b])=((a::A)++(b::B)).take (A.length+1+1):=by rw[take_append,HV Ma];simp[show A.length+1+1-(A.length+1)=1 from by omega]
 rw[e];apply mJ;intro t;rw[aiq];by_cases c:t<A.length+1+1
 .rw[List.getElem?_range c,List.getElem?_take_of_lt c,get t NH];rfl
 grind
theorem aoR(ha:a∈f)(hb:b∈f)(d:a≠b):∃A B,Cyc f ((a::A)++(b::B)):=by have⟨c,e⟩:=Cyc.front ha;have:b∈a::c:=e.perm.mem_iff.1 hb;grind[sC]
theorem Oy(a b:Nat)(inn:II):jc (aaF a inn b)=inn/\Ni (aaF a inn b)=b/\(aaF a inn b).headD 0=a:=by
 refine⟨?_,?_,rfl⟩
 .unfold jc;rw[Eo];show((inn++[b]).take (inn.length+2-2))=inn;simp
 grind[Ni,Eo,Fg]
def Gf{f A B inn:II}(nd:f.Nodup)(cy:Cyc f ((a::A)++(b::B))):
  Ee f (aaF a inn b)=half a A b inn/\kP f (aaF a inn b)=half b B a inn.reverse:=by
 have⟨c,d,e3⟩:=Oy a b inn;unfold Ee kP half;rw[c,d,e3,U1 nd cy,U1 nd cy.shift];simp
theorem set_perm{f:Nat}{EI one:II}(h:F[f]?=Z EI)(nd:F.Nodup):(F.set f one).Perm (one::F.erase EI):=hGr
variable {e:Pr} {fr:Pr->Nat->Int} {j:Nat}
theorem ajT{l:List α}(nd:l.Nodup){x:α}(hi:l[i]?=Z x)(a:l[j]?=Z x):i=j:=by grind[getElem_inj]
structure GrpE (es:xLP) (P:Pr->Prop) (same:Pr->Pr->Prop) (gs:List xLP):Prop where
 ne:∀g∈gs,g≠[]
 sub:∀g∈gs,g.Sublist es
 inP:∀g∈gs,∀e∈g,P e
 cov:∀e∈es,P e->∃g∈gs,e∈g
 TE:gs.Pairwise fun g g'=>∀e∈g,e∉g'
 one:∀g∈gs,∀e∈g,∀e'∈es,P e'->(e'∈g↔same e e')
theorem Yn{n:Nat}{same:Pr->Pr->Prop}(nd:es.Nodup)(h:∀(j b:Nat) e e',es[j]?=Z e->es[b]?=Z e'->e∉web->e'∉web->(fr e j=fr e' b↔same e e')):
  GrpE es (fun e=>e∉web) same ((aaX fr es web es.length).map (·.2)):=by
 obtain⟨d,f,-,-,-⟩:=Pt fr es web es.length;have m:(aaX fr es web es.length).map (·.2)=(Ea (aaX fr es web es.length)).map fun k=>aez fr es web k es.length:=by rw[grps_map (fun l=>l) _ d];grind[ZM]
 have c:∀k q,q∈aez fr es web k es.length↔∃j:Nat,es[j]?=Z q/\q∉web/\fr q j=k:=by grind[full_mem]
 refine⟨fun g hg=>?_,fun g hg=>?_,fun g hg e a=>?_,fun e a hw=>?_,?_,fun g hg e a e' i hw=>?_⟩
 .grind
 .grind[sW]
 .grind
 .obtain⟨j,o⟩:=vZ.1 a;have p:e∈aez fr es web (fr e j) es.length:=hGr;grind[rV,ZM]
 .grind
 grind[mem_iff_getElem?]
def FW(on:Nat->Bool)(es:xLP)(e e':Pr):Prop:=e=e'\/∃a b:Nat,((a:Int)=e.1\/(a:Int)=e.2)/\((b:Int)=e'.1\/(b:Int)=e'.2)/\on a=fF/\on b=fF/\Cn on es a b
theorem jB(hR:InR n es)(c:e∈es):∃a b:Nat,e=((a:Int),(b:Int))/\a<b/\b<n:=by have⟨d,h2,h3⟩:=hR e c;have⟨a,ea⟩:=WA d;have⟨b,eb⟩:=WA (show 0<=e.2 by omega);grind
theorem K2(hR:InR n es)(nd:es.Nodup)(I:wx n on es L){j l:Nat}{e e':Pr}(s:es[j]?=Z e)(f:es[l]?=Z e'):
  Zo n on L e j=Zo n on L e' l↔FW on es e e':=by
 obtain⟨a,b,rfl,t,hb⟩:=jB hR (BS s);obtain⟨c,d,rfl,m,hd⟩:=jB hR (BS f);have ad:=(show Jp es a b from .inl (BS s));have C:=(show Jp es c d from .inl (BS f));have val:∀v,v<n->on v=fF->∃k:Nat,k<n/\L.getD v 0=(k:Int):=by grind[wx.off]
 have same:∀u w,u<n->w<n->on u=fF->on w=fF->(L.getD u 0=L.getD w 0↔Cn on es u w):=by grind[ajR]
 have key:∀(a b j:Nat),a<b->b<n->Jp es a b->(Zo n on L ((a:Int),(b:Int)) j=(n:Int)+j/\on a=tT/\on b=tT)\/
   ∃x,(x=a\/x=b)/\x<n/\on x=fF/\Zo n on L ((a:Int),(b:Int)) j=L.getD x 0/\∀y,(y=a\/y=b)->on y=fF->Cn on es x y:=fun a b j p h2 o=>by
  unfold Zo;simp only[yM];cases D:on a with
  |false=>
   refine .inr ⟨a,.inl rfl,NH,D,rfl,fun y z i=>?_⟩;rcases z with rfl|rfl
   .grind
   .exact .step (.refl D) o i
  |true=>grind
 rcases key a b j t hb ad with⟨k1,k2,J⟩|⟨x,K,E,ox,k1,k2⟩
 .rcases key c d l m hd C with⟨q,r,G⟩|⟨y,z,A,i,q,r⟩
  .constructor
   .intro h;have:j=l:=NH;subst this;rw[s]at f;injection f with f;exact .inl f
   .rintro(h|⟨u,w,g,_,B,_⟩)
    .grind[ajT]
    .rcases g with g|g
     .have:u=a:=NH;grind
     .have:u=b:=NH;grind
  .obtain⟨k,p,h2⟩:=val y A i;constructor
   .grind
   .rintro(h|⟨u,w,g,_,B,_⟩)
    .all_goals grind
    .rcases g with g|g
     .have:u=a:=NH;grind
     .have:u=b:=NH;grind
 .rcases key c d l m hd C with⟨q,r,G⟩|⟨y,z,A,i,q,r⟩
  .obtain⟨k,p,h2⟩:=val x E ox;constructor
   .grind
   .rintro(h|⟨u,w,_,hw,_,F,_⟩)
    .all_goals grind
    .rcases hw with hw|hw
     .have:w=c:=NH;grind
     .have:w=d:=NH;grind
  .rw[k1,q,same x y E A ox i];constructor
   .intro h;refine .inr ⟨x,y,?_,?_,ox,i,h⟩
    .omega
    .omega
   .rintro(h|⟨u,w,g,hw,B,F,H⟩)
    .grind
    .have p:=k2 u NH B;have h2:=r w NH F;exact(p.trans H).trans h2.symm
theorem uY:wx n on es (MF n on es):=by
 have look:∀u,u<n->on u=fF->∃k:Nat,k<n/\(MF n on es)[u]?=Z (k:Int)/\Cn on es k u/\(rG n).find? (fun x=>decide (Cn on es x u))=Z k:=fun u a b=>by
  cases hf:(rG n).find? (fun x=>decide (Cn on es x u))with
  |none=>rw[List.find?_eq_none]at hf;exact absurd (EL (Cn.refl (es:=es) b)) hGr
  |some k=>grind[MF]
 refine⟨by simp[MF],fun u a b=>?_,fun u w a hw c d=>?_⟩
 .grind
 .constructor
  .grind[Cn.symm,Cn.trans]
  grind[Cn.trans,Cn.symm]
abbrev eN(n:Nat)(es:xLP):Nat->II:=Xl (Zh n es)
theorem qG(n:Nat)(es:xLP):Av n es (Zh n es):=⟨Xq n es,fun v _=>List.Perm.refl _⟩
def Un(R:Nat->II)(H:Nat->Nat->Prop)(v w:Nat):Prop:=w∈R v/\¬H v w
section
variable{n:Nat}{es:List Pr}{H:Nat->Nat->Prop}{F:Cs}{p:wW}
theorem vD(hR:InR n es){v w:Nat}:w∈eN n es v↔Jp es v w:=(qG n es).mem hR
def MG(hR:InR n es)(hA:D3 es):V7 n (eN n es):=(qG n es).jD hR hA
def un_in(hR:InR n es){v w:Nat}(h:Un (eN n es) H v w):GW v w∈es:=T0 hR ((vD hR).1 h.1)
theorem Dc{a b x y:Nat}(h:GW a b=GW x y):(a=x/\b=y)\/(a=y/\b=x):=by grind[ac0]
theorem Sl{v w:Nat}{e:Pr}(h:e=GW v w)(a:Nat):((a:Int)=e.1\/(a:Int)=e.2)↔a=v\/a=w:=by grind[ac0]
structure EJ (n:Nat) (es:xLP) (H:Nat->Nat->Prop) (F:Cs) (p:wW):Prop where
 ne:p.zp≠[]
 sub:p.zp.Sublist es
 un:∀v w:Nat,GW v w∈p.zp->¬H v w
 one:∀v w x y:Nat,Un (eN n es) H v w->Un (eN n es) H x y->GW v w∈p.zp->(GW x y∈p.zp↔QI (eN n es) H x y=QI (eN n es) H v w)
 Fm:∀u:Nat,(u:Int)∈p.Fm↔¬off (eN n es) H u/\∃w,Un (eN n es) H u w/\GW u w∈p.zp
 nat:∀x∈p.Fm,0<=x
 fnd:p.Fm.Nodup
 fits:∀i,i∈p.fits↔i<F.length/\∀x∈p.Fm,x.toNat∈F.getD i []
 tnd:p.fits.Nodup
theorem EJ.UQ(P:EJ n es H F p)(hR:InR n es){e:Pr}(d:e∈p.zp):∃v w,e=GW v w/\v<w/\Un (eN n es) H v w:=by obtain⟨a,b,rfl,c,hb⟩:=jB hR (P.sub.subset d);have f:((a:Int),(b:Int))=GW a b:=(Ix c).symm;exact⟨a,b,f,c,(vD hR).2 (.inl (P.sub.subset d)),P.un a b hGr⟩
theorem EJ.akJ(P:EJ n es H F p)(hR:InR n es){v w:Nat}(h:GW v w∈p.zp):Un (eN n es) H v w:=by refine⟨(vD hR).2 ?_,P.un v w h⟩;have a:=P.sub.subset h;have⟨b,h2,_⟩:=hR _ a;grind[Mf,ac0]
theorem EJ.key(P:EJ n es H F p)(hR:InR n es){v w x y:Nat}(h:GW v w∈p.zp)(h':GW x y∈p.zp):QI (eN n es) H x y=QI (eN n es) H v w:=(by grind[EJ.one,EJ.akJ])
theorem EJ.VN(P:EJ n es H F p)(hR:InR n es){u x:Nat}(h:GW u x∈p.zp){f:II}:Fits (eN n es) H (QI (eN n es) H u x) f↔∀y∈p.Fm,y.toNat∈f:=by
 constructor
 .intro q y c;obtain⟨t,rfl⟩:=WA (P.nat y c);have⟨b,w,h2,h3⟩:=(P.Fm t).1 c;exact q t w ⟨b,h2.1,h2.2⟩ (P.key hR h h3)
 .intro q z y a d;have b:=(P.one u x z y (P.akJ hR h) ⟨a.mem,a.nh⟩ h).2 d;have:=q z ((P.Fm z).2 ⟨a.on,y,⟨a.mem,a.nh⟩,b⟩);grind
def EJ.wm(P:EJ n es H F p)(hR:InR n es){u:Nat}(h:(u:Int)∈p.Fm):∃w,QP (eN n es) H u w/\GW u w∈p.zp:=by have⟨a,w,h2,h3⟩:=(P.Fm u).1 h;exact⟨w,⟨a,h2.1,h2.2⟩,h3⟩
def EJ.E8(P:EJ n es H F p){u w:Nat}(h:QP (eN n es) H u w)(a:GW u w∈p.zp):(u:Int)∈p.Fm:=(P.Fm u).2 ⟨h.on,w,⟨h.mem,h.nh⟩,a⟩
theorem EJ.two(P:EJ n es H F p)(hR:InR n es)(hA:D3 es)(hs:∀v w,H v w->H w v)(D:QG (eN n es))(h2:∃p q,p≠q/\¬off (eN n es) H p/\¬off (eN n es) H q):
  (∃u:Nat,(u:Int)∈p.Fm)/\∀u:Nat,(u:Int)∈p.Fm->∃z:Nat,(z:Int)∈p.Fm/\u≠z:=by
 have⟨h,i⟩:=feet_two (MG hR hA) hs D h2;refine⟨?_,fun u j=>?_⟩
 .obtain⟨e,l,k⟩:=eR P.ne;have⟨v,w,m,_,b⟩:=P.UQ hR (e:=e) (by rw[k];simp);have c:GW v w∈p.zp:=hGr;have⟨u,x,a,d⟩:=i v w b.1 b.2;exact⟨u,P.E8 a ((P.one v w u x b ⟨a.mem,a.nh⟩ c).2 d.symm)⟩
 .obtain⟨w,a,c⟩:=P.wm hR j;have⟨z,y,f,g,d⟩:=h u w a;exact⟨z,P.E8 f ((P.one u w z y ⟨a.mem,a.nh⟩ ⟨f.mem,f.nh⟩ c).2 d.symm),g⟩
theorem cn_to_cr(hR:InR n es){d:xLP}(c:∀e∈d,e∈es){on:Nat->Bool}(k:∀v,v<n->(on v=tT↔¬off (eN n es) H v)){a b:Nat}(ha:a<n)(h:Cn on d a b):Cr (Mm (eN n es) H) a b/\b<n/\off (eN n es) H b:=by
 have i:∀v,v<n->on v=fF->off (eN n es) H v:=hGr
 induction h with
 |refl o=>exact⟨.refl _,ha,i _ ha o⟩
 |@step w x _ g o l=>have⟨m,h2,h3⟩:=l;have f:Jp es w x:=g.imp (c _) (c _);have j:=(f.lt hR).2;exact⟨m.step (EM.2 (by grind[vD])),j,i x j o⟩
theorem cr_to_cn(hR:InR n es){c:xLP}{on:Nat->Bool}(e:∀v,v<n->(on v=tT↔¬off (eN n es) H v)){a b:Nat}(ha:a<n)(f:off (eN n es) H a)(d:∀y z,Cr (Mm (eN n es) H) a y->z∈Mm (eN n es) H y->Jp c y z)(h:Cr (Mm (eN n es) H) a b):Cn on c a b:=by
 have g:∀v,v<n->off (eN n es) H v->on v=fF:=hGr
 induction h with
 |refl=>exact .refl (g a ha f)
 |@step y z i h2 j=>have⟨m1,_,m3⟩:=EM.1 h2;exact .step j (d y z i h2) (by grind[vD,Jp.lt])
theorem Nj(hR:InR n es)(hA:D3 es)(hs:∀v w,H v w->H w v){f:xLP}{Q:Pr->Prop}{on:Nat->Bool}(i:∀e∈f,e∈es)(j:∀v,v<n->(on v=tT↔¬off (eN n es) H v)){gs:List xLP}(T:GrpE f Q (FW on f) gs)(r:∀v w,GW v w∈f->Q (GW v w)->Un (eN n es) H v w)(cl:∀v w x y,Un (eN n es) H x y->GW v w∈f->Q (GW v w)->QI (eN n es) H x y=QI (eN n es) H v w->GW x y∈f/\Q (GW x y)){g:xLP}(hg:g∈gs){v w x y:Nat}(s:Un (eN n es) H x y)(t:GW v w∈g):
  GW x y∈g↔QI (eN n es) H x y=QI (eN n es) H v w:=by
 have m:=MG hR hA;have m1:=(T.sub g hg).subset t;have u:=T.inP g hg _ t;have z:=r v w m1 u;have lt:∀{v w},Un (eN n es) H v w->v<n/\w<n:=fun h=>((vD hR).1 h.1).lt hR;have toP:FW on f (GW v w) (GW x y)↔jJ (eN n es) H v w x y:=by
  constructor
  .rintro(h|⟨a,b,ha,hb,o,B,A⟩)
   .rcases Dc h with h|h
    .exact .inl h
    .exact .inr (.inl h)
   .rw[Sl rfl]at ha hb;have q:a<n:=hGr;have⟨c1,c2,K⟩:=cn_to_cr hR i j q A;have C:off (eN n es) H a:=hGr;exact .inr hGr
  .rintro(⟨rfl,rfl⟩|⟨rfl,rfl⟩|⟨a,b,ha,hb,o,B,A⟩)
   .exact .inl rfl
   .exact .inl (so _ _)
   .have q:a<n:=hGr;have D:b<n:=hGr;have k:∀v,v<n->off (eN n es) H v->on v=fF:=hGr;refine .inr ⟨a,b,(Sl rfl a).2 ha,(Sl rfl b).2 hb,k a q o,k b D B,cr_to_cn hR j q o (fun c d E h2=>?_) A⟩;have⟨k1,k2,L⟩:=EM.1 h2;have G:Un (eN n es) H c d:=⟨k1,k2 d k1⟩;have⟨I,J⟩:=cl v w c d G m1 u (by rw[IV m z.1 ha o,M6 k2,(fX m).2 E]);grind[Mf,V7.ir]
 rw[Uu m s.1 z.1];have l:jJ (eN n es) H x y v w↔jJ (eN n es) H v w x y:=by grind[jJ.symm]
 rw[l,<-toP];constructor
 .intro h;exact(T.one g hg _ t _ ((T.sub g hg).subset h) (T.inP g hg _ h)).1 h
 .intro h;have⟨I,J⟩:=cl v w x y s m1 u ((Uu m s.1 z.1).2 hGr);grind[GrpE.one]
end
theorem WV{F:Cs}{Fm:RZ}{c:II}{i:Nat}:i∈zh F Fm c↔i∈c/\∀x∈Fm,x.toNat∈F.getD i []:=by grind[zh,fitsB]
theorem Pe(on:List Bool)(way:II):(tV on way).length=on.length:=by
 unfold tV
 induction way generalizing on<;>grind
theorem mQ{v:Nat}:∀(way:II)(on:List Bool),v<on.length->(Wg (tV on way) v=tT↔Wg on v=tT\/v∈way)
 |[],on,_=>by simp[tV]
 |w::way,on,h=>by have e:tV on (w::way)=tV (on.set w tT) way:=rfl;rw[e,mQ way _ hGr];grind
def kY(F:Cs)(f:Nat)(way:II):Cs:=F.set f (Ee (F.getD f []) way)++[kP (F.getD f []) way]
def Yz{F:Cs}{f:Nat}{way:II}:(kY F f way).length=F.length+1:=by simp[kY]
theorem ade{F:Cs}{f i:Nat}{way:II}(hf:f<F.length):(kY F f way).getD i []=if i=f then Ee (F.getD f []) way else if i=F.length then kP (F.getD f []) way else F.getD i []:=by grind[kY]
theorem am0{a b v:Nat}{A inn:II}:v∈half a A b inn↔v=a\/v∈A\/v=b\/v∈inn:=by grind[half]
section
variable{n:Nat}{es:List Pr}{H:Nat->Nat->Prop}{F:Cs}{p q:wW}{a b f:Nat}{inn A B:II}
structure Vf (n:Nat) (es:xLP) (H:Nat->Nat->Prop) (F:Cs) (p:wW) (a:Nat) (inn:II) (b f:Nat) (A B:II):Prop where
 hR:InR n es
 hA:D3 es
 hs:∀v w,H v w->H w v
 I:PU n (eN n es) H F
 P:EJ n es H F p
 W:Ka (eN n es) H a inn b
 fst:GW a ((inn++[b]).headD 0)∈p.zp
 hf:f<F.length
 cy:Cyc (F.getD f []) ((a::A)++(b::B))
theorem Vf.Rl(L:Vf n es H F p a inn b f A B):V7 n (eN n es):=MG L.hR L.hA
def Vf.hs'(L:Vf n es H F p a inn b f A B):∀v w,XZ H a inn b v w->XZ H a inn b w v:=fun v w h=>h.imp (L.hs v w) Ef
theorem Vf.EI(L:Vf n es H F p a inn b f A B):F.getD f []∈F:=by grind[Vf.hf]
def Vf.Gf(L:Vf n es H F p a inn b f A B):Ee (F.getD f []) (aaF a inn b)=half a A b inn/\kP (F.getD f []) (aaF a inn b)=half b B a inn.reverse:=_root_.Go.Fw.Gf (L.I.aoJ L.EI).1 L.cy
theorem Vf.mem_face(L:Vf n es H F p a inn b f A B){v:Nat}:v∈F.getD f []↔v=a\/v∈A\/v=b\/v∈B:=by rw[L.cy.perm.mem_iff];grind
theorem Vf.new_face(L:Vf n es H F p a inn b f A B){i v:Nat}(hi:i=f\/i=F.length)(h:v∈(kY F f (aaF a inn b)).getD i []):v∈F.getD f []\/v∈inn:=by rw[ade L.hf]at h;rw[L.mem_face];have hh:=L.Gf;grind[am0]
theorem Vf.LY(L:Vf n es H F p a inn b f A B){i:Nat}(c:i≠f)(h2:i≠F.length):(kY F f (aaF a inn b)).getD i []=F.getD i []:=by grind[ade,Vf.hf]
theorem Vf.keyK(L:Vf n es H F p a inn b f A B){x y:Nat}(h:Ay a inn b x y):QI (eN n es) H x y=QI (eN n es) H a ((inn++[b]).headD 0):=L.W.PW L.Rl L.hs h
theorem Vf.ajU(L:Vf n es H F p a inn b f A B){v:Nat}(h:v∈inn):off (eN n es) H v:=L.W.off v h
theorem Vf.other(L:Vf n es H F p a inn b f A B)(Q:EJ n es H F q)(hd:∀e∈p.zp,e∉q.zp):EJ n es (XZ H a inn b) (kY F f (aaF a inn b)) (GF (kY F f (aaF a inn b)) f F.length q):=by
 have hR:=L.hR;have d:=L.Rl;have g:∀{v w},GW v w∈q.zp->QI (eN n es) H v w≠QI (eN n es) H a ((inn++[b]).headD 0):=fun{v w} h e=>hd _ ((L.P.one _ _ v w (L.P.akJ hR L.fst) (Q.akJ hR h) L.fst).2 e) h;have G:∀{v w},GW v w∈q.zp->¬Ay a inn b v w:=by grind[Vf.keyK]
 have o:∀{v w},GW v w∈q.zp->¬XZ H a inn b v w:=by grind[EJ.un]
 have down:∀{v w},Un (eN n es) (XZ H a inn b) v w->Un (eN n es) H v w:=fun h=>⟨h.1,fun e=>h.2 (.inl e)⟩;have j:∀{v},off (eN n es) (XZ H a inn b) v↔off (eN n es) H v/\v∉inn:=fun{v}=>ahV L.W d;have z:(GF (kY F f (aaF a inn b)) f F.length q).zp=q.zp:=by grind[GF]
 have r:(GF (kY F f (aaF a inn b)) f F.length q).Fm=q.Fm:=by grind[GF]
 have s:∀x∈q.Fm,x.toNat∉inn:=fun x l C=>by obtain⟨t,rfl⟩:=WA (Q.nat x l);grind[Int.toNat_natCast,EJ.Fm,Vf.ajU]
 have D:∀i,(i<F.length+1/\∀x∈q.Fm,x.toNat∈(kY F f (aaF a inn b)).getD i [])->i∈q.fits\/(f∈q.fits/\i=F.length):=by grind[EJ.fits,Vf.hf,Vf.new_face,Vf.LY]
 have I:∀i,i∈q.fits->i<F.length:=by grind[EJ.fits]
 refine⟨by grind[EJ.ne],by grind[EJ.sub],hGr,fun v w x y m l h=>?_,fun u=>?_,by rw[r];exact Q.nat,by grind[EJ.fnd],fun i=>?_,?_⟩
 .rw[z]at h ⊢;rw[Q.one v w x y (down m) (down l) h];rw[Uu d l.1 m.1,Uu d l.1 m.1];constructor
  .intro k;exact(((k.symm d).keep L.W d L.hs m.1 (g h))).symm d
  grind[jJ.mono]
 .rw[r,z,Q.Fm u];constructor
  .rintro⟨E,w,h2,h3⟩;exact⟨hGr,w,⟨h2.1,o h3⟩,h3⟩
  .rintro⟨E,w,h2,h3⟩;refine⟨fun k=>E (j.2 ⟨k,fun C=>?_⟩),w,down h2,h3⟩;exact g h3 (by rw[L.W.QC d L.hs C,IV d h2.1 (.inl rfl) k])
 .rw[r,Yz];by_cases c:f∈q.fits
  .grind[GF,WV]
  .have e:(GF (kY F f (aaF a inn b)) f F.length q).fits=q.fits:=by grind[GF]
   grind[EJ.fits,Vf.LY]
 .unfold GF;split
  .refine qL203 EP ?_;grind[EJ.tnd]
  .exact Q.tnd
end
theorem Ou(n:Nat)(way:II):∀i,(KI n way i).length=n
 |0=>by simp[KI]
 |i+1=>by rw[KI,Q9,Ou n way i]
theorem Lc{n:Nat}{way:II}(nd:way.Nodup){v:Nat}(d:v<n):∀i,i<=way.length->
  (∃k:Nat,k<i/\way[k]?=Z v/\(KI n way i).getD v 0=(k:Int))\/((∀k,k<i->way[k]?≠Z v)/\(KI n way i).getD v 0=-1)
 |0,_=>by grind[KI.eq_1]
 |i+1,hi=>by have e:=Lc nd d i NH;have c:way.getD i 0=way[i]:=D4 NH;rw[KI,cA,Ou,c];grind
theorem Ph{n a b:Nat}{inn:II}(nd:(aaF a inn b).Nodup){v w:Nat}(s:v<n)(hw:w<n):aI (KI n (aaF a inn b) (aaF a inn b).length) (GW v w)=tT↔¬Ay a inn b v w:=by
 have key:∀{x y:Nat},x<n->y<n->(aI (KI n (aaF a inn b) (aaF a inn b).length) ((x:Int),(y:Int))=tT↔¬Ay a inn b x y):=fun{x y} d g=>by
  simp only[aI,yM,Dj,rY,vg];generalize h:aaF a inn b=l at*;unfold Ay;rw[h];rcases Lc nd d l.length (qL0 _)with⟨k,j,h2,h3⟩|⟨j,h2⟩
  .rcases Lc nd g l.length (qL0 _)with⟨m,o,c,t⟩|⟨o,c⟩
   .constructor
    .intro q r;rcases r with⟨i,r1,r2⟩|⟨i,r1,r2⟩
     all_goals grind[afM]
    .intro q;refine .inr ⟨fun e=>q (.inr ⟨m,c,?_⟩),fun e=>q (.inl ⟨k,h2,?_⟩)⟩
     all_goals grind
   .refine⟨fun _ r=>?_,hGr⟩;rcases r with⟨i,_,r2⟩|⟨i,r1,_⟩
    all_goals grind
  .refine⟨fun _ r=>?_,hGr⟩;rcases r with⟨i,r1,_⟩|⟨i,_,r2⟩
   all_goals grind
 grind[Ef,ac0]
theorem ddS_mem{l:RZ}{x y:Int}:y∈Uo l x↔y∈l\/y=x:=by grind[Uo]
theorem ddS_nd{l:RZ}{x:Int}(h:l.Nodup):(Uo l x).Nodup:=by grind[Uo]
theorem KC:∀(l acc:RZ),acc.Nodup->(l.foldl Uo acc).Nodup/\∀y,y∈l.foldl Uo acc↔y∈acc\/y∈l
 |[],acc,h=>by grind
 |x::l,acc,h=>by have⟨c,h2⟩:=KC l (Uo acc x) (ddS_nd h);grind[ddS_mem]
theorem VW(l:RZ):(kZ l).Nodup/\∀y,y∈kZ l↔y∈l:=by grind[KC,kZ]
theorem zS{on:Nat->Bool}{g:xLP}{x:Int}:x∈BY on g↔on x.toNat=tT/\∃e∈g,x=e.1\/x=e.2:=by grind[BY,ftP]
section
variable{n:Nat}{es:List Pr}{H:Nat->Nat->Prop}{F:Cs}{p q:wW}{a b f:Nat}{inn A B:II}{on:List Bool}
def Vf.left(L:Vf n es H F p a inn b f A B){v w:Nat}:GW v w∈V8 n p.zp (aaF a inn b)↔GW v w∈p.zp/\¬Ay a inn b v w:=by
 unfold V8;rw[K4];constructor
 .rintro⟨c,h2⟩;have d:=L.P.akJ L.hR c;have⟨l1,l2⟩:=((vD L.hR).1 d.1).lt L.hR;exact⟨c,(Ph L.W.nd l1 l2).1 h2⟩
 .rintro⟨c,h2⟩;have d:=L.P.akJ L.hR c;have⟨l1,l2⟩:=((vD L.hR).1 d.1).lt L.hR;exact⟨c,(Ph L.W.nd l1 l2).2 h2⟩
theorem Vf.uq(L:Vf n es H F p a inn b f A B){v w:Nat}(h:GW v w∈V8 n p.zp (aaF a inn b)):Un (eN n es) (XZ H a inn b) v w:=by have⟨d,h2⟩:=L.left.1 h;have c:=L.P.akJ L.hR d;exact⟨c.1,fun q=>q.elim c.2 h2⟩
theorem Vf.left_of(L:Vf n es H F p a inn b f A B){v w x y:Nat}(c:Un (eN n es) (XZ H a inn b) x y)(h:GW v w∈V8 n p.zp (aaF a inn b))(j:QI (eN n es) (XZ H a inn b) x y=QI (eN n es) (XZ H a inn b) v w):
  GW x y∈V8 n p.zp (aaF a inn b):=by
 have d:=L.Rl;have g:=L.uq h;have i:=(L.left.1 h).1;have k:=(Uu d c.1 g.1).1 j;have k2:=(Uu d c.1 g.1).2 (k.mono fun _ _=>wayH_sub);exact L.left.2 ⟨(L.P.one v w x y (L.P.akJ L.hR i) ⟨c.1,fun e=>c.2 (.inl e)⟩ i).2 k2,fun e=>c.2 (.inr e)⟩
theorem Vf.on'(L:Vf n es H F p a inn b f A B)(i:on.length=n)(c:∀v,v<n->(Wg on v=tT↔¬off (eN n es) H v)):∀v,v<n->(Wg (tV on (aaF a inn b)) v=tT↔¬off (eN n es) (XZ H a inn b) v):=fun v g=>by
 rw[mQ _ _ hGr,c v g,ahV L.W L.Rl];constructor
 .rintro(h|h) ⟨k1,k2⟩
  .exact h k1
  .rw[aaF,Og,aax,xD]at h;rcases h with rfl|h|rfl
   .obtain⟨z,d,e⟩:=L.W.ona;exact k1 z d e
   .exact k2 h
   .obtain⟨z,d,e⟩:=L.W.onb;exact k1 z d e
 grind[aaF.eq_1]
theorem Vf.groups(L:Vf n es H F p a inn b f A B):GrpE (V8 n p.zp (aaF a inn b)) (fun e=>e∉([]:xLP)) (FW (Wg (tV on (aaF a inn b))) (V8 n p.zp (aaF a inn b)))
  ((aaX (Zo n (Wg (tV on (aaF a inn b))) (MF n (Wg (tV on (aaF a inn b))) (V8 n p.zp (aaF a inn b)))) (V8 n p.zp (aaF a inn b)) [] (V8 n p.zp (aaF a inn b)).length).map (·.2)):=by
 have sl:(V8 n p.zp (aaF a inn b)).Sublist es:=qL200 EP L.P.sub;have nd:(V8 n p.zp (aaF a inn b)).Nodup:=L.hA.nodup.sublist sl;have c:InR n (V8 n p.zp (aaF a inn b)):=fun e d=>L.hR e (sl.subset d);exact Yn (n:=n) nd (by grind[K2,uY])
theorem Vf.fresh(L:Vf n es H F p a inn b f A B)(K:on.length=n)(N:∀v,v<n->(Wg on v=tT↔¬off (eN n es) H v))(aj:f∈p.fits){q:wW}(hq:q∈vX n (tV on (aaF a inn b)) (V8 n p.zp (aaF a inn b))):
  EJ n es (XZ H a inn b) (kY F f (aaF a inn b)) {q with fits:=zh (kY F f (aaF a inn b)) q.Fm (p.fits++[F.length])}/\q.zp.Sublist (V8 n p.zp (aaF a inn b)):=by
 have hR:=L.hR;have o:=L.Rl;have D:=L.on' K N;have T:=L.groups (on:=on);have sl:(V8 n p.zp (aaF a inn b)).Sublist es:=qL200 EP L.P.sub;obtain⟨gr,al,rfl⟩:=aev.1 hq;have hg:gr.2∈((aaX (Zo n (Wg (tV on (aaF a inn b))) (MF n (Wg (tV on (aaF a inn b))) (V8 n p.zp (aaF a inn b)))) (V8 n p.zp (aaF a inn b)) [] (V8 n p.zp (aaF a inn b)).length).map (·.2)):=hGr;generalize gr.2=g at hg;have one:∀{v w x y:Nat},Un (eN n es) (XZ H a inn b) x y->GW v w∈g->(GW x y∈g↔QI (eN n es) (XZ H a inn b) x y=QI (eN n es) (XZ H a inn b) v w):=fun{v w x y} m s=>Nj hR L.hA L.hs' (fun e C=>sl.subset C) D T (by grind[Vf.uq]) (by grind[Vf.left_of]) hg m s;have j:=T.sub g hg;have un:∀{v w},GW v w∈g->Un (eN n es) (XZ H a inn b) v w:=by grind[Vf.uq]
 have⟨fn,fm⟩:=VW (BY (Wg (tV on (aaF a inn b))) g);have Fm:∀u:Nat,(u:Int)∈kZ (BY (Wg (tV on (aaF a inn b))) g)↔¬off (eN n es) (XZ H a inn b) u/\∃w,Un (eN n es) (XZ H a inn b) u w/\GW u w∈g:=fun u=>by
  rw[fm,zS,yM];constructor
  .rintro⟨ho,e,C,m⟩;obtain⟨c,d,rfl,O,hd⟩:=jB hR (sl.subset (j.subset C));have e1:((c:Int),(d:Int))=GW c d:=(Ix O).symm;rcases m with m|m
   .have hu:u=c:=NH;grind
   grind[so]
  .rintro⟨M,w,h2,h3⟩;have hu:=(((vD hR).1 h2.1).lt hR).1;grind[Sl]
 have ai:∀{v},off (eN n es) (XZ H a inn b) v↔off (eN n es) H v/\v∉inn:=fun{v}=>ahV L.W o;have E:∃c∈inn,(c:Int)∈kZ (BY (Wg (tV on (aaF a inn b))) g):=by
  have⟨e,l,C⟩:=eR (T.ne g hg);have s:e∈g:=by rw[C];simp
  obtain⟨v,w,rfl,Q,hd⟩:=jB hR (sl.subset (j.subset s));rw[show(((v:Int),(w:Int)):Pr)=GW v w from(Ix Q).symm]at s;have R:=un s;have K:=L.left.1 (j.subset s);have hU:=L.P.akJ hR K.1;have k:=L.P.key hR L.fst K.1;cases hi:inn with
  |nil=>
   subst hi;have e0:((([]:II)++[b]).headD 0)=b:=rfl;rw[e0]at k;have⟨z,z1,z2⟩:=L.W.ona;have⟨z',S,U⟩:=L.W.onb;rw[rj (fun q=>q z z1 z2) (fun q=>q z' S U)]at k;have aq:Ay a [] b a b:=.inl ⟨0,rfl,rfl⟩;by_cases c1:off (eN n es) H v
   .grind[M6]
   by_cases c2:off (eN n es) H w
   .grind[Jn]
   rw[rj c1 c2]at k
   all_goals grind[Ef]
  |cons c t=>
   rw[<-hi];have V:c∈inn:=by rw[hi];simp
   rw[L.W.QC o L.hs V]at k;have ht:∃t,(t=v\/t=w)/\off (eN n es) H t:=by grind[rj]
   have⟨t,G,ot⟩:=ht;rw[IV o hU.1 G ot]at k;injection k with _ k;injection k with k _;have X:=(fX o).1 k;by_cases ct:t∈inn
   .all_goals grind[so]
   .have J:off (eN n es) (XZ H a inn b) t:=hGr;rcases tq (H:=XZ H a inn b) o (r:=Mm (eN n es) H) (fun v w h=>(EM.1 h).1) X J with h|⟨y,z,M,h2,h3,h4⟩
    .grind
    .obtain⟨m1,m2,m3⟩:=EM.1 h4;have aa:Un (eN n es) (XZ H a inn b) y z:=⟨m1,h2 z m1⟩;have ar:GW y z∈g:=(one aa s).2 (by rw[M6 h2,IV o R.1 G J,(fX o).2 M]);grind[so]
 have av:∀i,i∈p.fits->i<F.length:=fun i h=>((L.P.fits i).1 h).1;refine⟨⟨T.ne g hg,j.trans sl,fun v w h=>(un h).2,hGr,Fm,fun x m=>?_,fn,fun i=>?_,?_⟩,j⟩
 .have:=((zS.1 ((fm x).1 m)).2);have⟨e,C,h⟩:=this;have⟨M,h2,_⟩:=hR e (sl.subset (j.subset C));grind
 .rw[WV,Yz,aax,xD];constructor
  .grind
  .rintro⟨M,h2⟩;refine⟨?_,h2⟩;by_cases c1:i=f
   .grind
   by_cases c2:i=F.length
   .exact .inr c2
   exfalso;have⟨c,V,ae⟩:=E;have:=h2 _ ae;rw[yM,L.LY c1 c2]at this;have ag:F.getD i []∈F:=by rw[D4 NH];grind
   exact L.I.on_face ag this (L.ajU V)
 .refine qL203 EP ?_;rw[j9];refine⟨L.P.tnd,Ma,fun x m y hy e=>?_⟩;grind
end
theorem vd{l:II}(h:l.length=1){x y:Nat}(b:x∈l)(c:y∈l):x=y:=by
 match l,h with
 |[a],_=>grind
noncomputable def OW(es:xLP)(H:Nat->Nat->Prop):Nat:=(es.filter fun e=>decide (¬H e.1.toNat e.2.toNat)).length
structure Z8 (n:Nat) (es:xLP) (H:Nat->Nat->Prop) (S:ShM):Prop where
 inv:PU n (eN n es) H S.Jv
 ZA:S.on.length=n
 on:∀v,v<n->(Wg S.on v=tT↔¬off (eN n es) H v)
 Aa:∀p∈S.left,EJ n es H S.Jv p
 cov:∀v w,Un (eN n es) H v w->∃p∈S.left,GW v w∈p.zp
 TE:S.left.Pairwise fun p q=>∀e∈p.zp,e∉q.zp
 OT:S.Jv.length+OW es H<=es.length+2
theorem EY(left:List wW):∀k,(0<k->abx left k<k)/\∀j,j<k->LF left (abx left k)<=LF left j
 |0=>by grind
 |k+1=>by have⟨a,h2⟩:=EY left k;grind[abx.eq_1,abx.eq_2]
theorem unN_lt{es:xLP}{H a:Nat->Nat->Prop}(c:∀v w,H v w->a v w){e:Pr}(b:e∈es)(d:¬H e.1.toNat e.2.toNat)(h2:a e.1.toNat e.2.toNat):OW es a<OW es H:=by
 unfold OW
 induction es with
 |nil=>cases b
 |cons x es f=>
  have le:∀l:xLP,(l.filter fun e=>decide (¬a e.1.toNat e.2.toNat)).length<=(l.filter fun e=>decide (¬H e.1.toNat e.2.toNat)).length:=fun l=>by
   induction l<;>grind
  grind
section
variable{n:Nat}{es:List Pr}{H:Nat->Nat->Prop}{S:ShM}
theorem Z8.way(I:Z8 n es H S)(hR:InR n es)(hA:D3 es)(D:QG (eN n es)){p:wW}(O:p∈S.left):
  ∃a inn b,J6 n (Zh n es) S.on p=aaF a inn b/\Ka (eN n es) H a inn b/\GW a ((inn++[b]).headD 0)∈p.zp:=by
 have r:=MG hR hA;have P:=I.Aa p O;have hs:=I.inv.sym;have⟨⟨T,s⟩,tw⟩:=P.two hR hA hs D I.inv.Re;have w:2<=p.Fm.length:=by
  have⟨z,Q,A⟩:=tw T s
  match O:p.Fm with
  |[]=>grind
  |[x]=>grind
  |x::y::l=>simp
 have B:∃a:Nat,p.Fm.headD 0=(a:Int)/\(a:Int)∈p.Fm:=by have⟨x,l,e⟩:=eR (show p.Fm≠[]from fun e=>by grind);have⟨a,ha⟩:=WA (P.nat x (by rw[e];simp));grind
 have⟨a,ea,h⟩:=B;have⟨sa,d,j⟩:=P.wm hR h;have C:a<n:=r.lt _ _ d.mem;have c:∀v,v<n->Wg S.on v=fF->off (eN n es) H v:=by grind[Z8.on]
 rcases way_spec (on:=S.on) hR (p:=p) w hGr C (fun e U=>P.sub.subset U)with⟨inn,b,V,nd,hb,W,R,k,ch⟩|⟨_,M,E,F⟩
 .refine⟨a,inn,b,V,⟨nd,fun i x y g h2=>?_,fun x q=>?_,Q7 d.on,Q7 ((I.on b hb).1 W)⟩,k⟩
  .have m:=ch i x y g h2;refine⟨by grind[vD],?_⟩;cases i with
   |zero=>grind[yT,EJ.un]
   |succ i=>have X:=(Ny.1 h2).1;rw[Eo]at X;have e:aaF a inn b=a::(inn++[b]):=rfl;rw[e,amJ,si NH]at g;have q:x∈inn:=BS g;exact c x (m.lt hR).1 (R x q) y (by grind[vD])
  .obtain⟨i,y,g,h2⟩:=qm (a:=a) (b:=b) (inn:=inn) (v:=x) (.inr q);exact c x (((ch i _ _ g h2).lt hR).2) (R x q)
 .exfalso;have has:sa≠a:=by grind[V7.ir,QP.mem]
  have o:=E sa j has;have G:sa<n:=(((vD hR).1 d.mem).lt hR).2;have J:=c sa G (F sa o).2.1;have⟨z,Q,A⟩:=tw a h;have⟨y,K,L⟩:=P.wm hR Q;have f:=P.key hR j L;rw[Jn d.on J]at f;have N:off (eN n es) H y:=by grind[rj,QP.on]
  rw[Jn K.on N]at f;injection f with _ f;injection f with f _;have aa:=((fX r).1 f).symm (QM r);have clo:∀t,Cr (Mm (eN n es) H) sa t->t∈M:=fun t ht=>by
   induction ht with
   |refl=>exact o
   |@step t u g h2 ih=>have⟨m1,m2,m3⟩:=EM.1 h2;grind[vD,QP.on]
  grind[vD,QP.mem,Jp.symm,QP.on,V7.lt]
theorem Z8.lay(I:Z8 n es H S)(hR:InR n es)(hA:D3 es)(D:QG (eN n es))(av:S.left≠[]):
  (AU n (Zh n es) S=Y/\¬XU n (eN n es))\/∃S' H',AU n (Zh n es) S=Z S'/\Z8 n es H' S'/\OW es H'<OW es H:=by
 have hr:=MG hR hA;have hs:=I.inv.sym;have hlen:0<S.left.length:=qL165.2 av;have⟨ay,aV⟩:=EY S.left S.left.length;have X:=ay hlen;unfold AU;generalize abx S.left S.left.length=m at*;have az:S.left.getD m default=S.left[m]:=D4 X;have aa:S.left[m]∈S.left:=aaf X;have ae:S.left=S.left.take m++S.left[m]::S.left.drop (m+1):=by grind[drop_eq_getElem_cons,take_append_drop]
 have J:S.left.eraseIdx m=S.left.take m++S.left.drop (m+1):=qL149 _ _;have aT:∀q∈S.left,(S.left[m]).fits.length<=q.fits.length:=fun q t=>by have⟨j,hj,e⟩:=Yi.1 t;grind[LF]
 simp only[az];generalize S.left[m]=p at*;have P:=I.Aa p aa;have⟨⟨u0,aA⟩,_⟩:=P.two hR hA hs D I.inv.Re;by_cases c0:p.fits.length=0
 .rw[abe c0];refine .inl ⟨rfl,?_⟩;have⟨x,hF,C⟩:=P.wm hR aA;refine I.inv.fail D hF fun f hf k=>?_;have⟨i,hi,e⟩:=Yi.1 hf;have:=(P.fits i).2 ⟨hi,fun y hy=>by grind[EJ.VN]⟩;grind
 rw[abE c0];have⟨a,inn,b,ew,W,o⟩:=I.way hR hA D aa;rw[ew];have aB:¬(aaF a inn b).length<2:=by grind[Eo]
 simp only[aB,if_false];have M:p.fits.headD 0∈p.fits:=by grind[Lt]
 generalize p.fits.headD 0=f at*;have⟨aC,ag⟩:=(P.fits f).1 M;have N:S.Jv.getD f []∈S.Jv:=hGr;obtain⟨sa,aW⟩:∃s,s=(inn++[b]).headD 0:=⟨_,rfl⟩;have F:=P.akJ hR o;have F0:QP (eN n es) H a ((inn++[b]).headD 0):=⟨fun q=>by have⟨z,z1,z2⟩:=W.ona;exact q z z1 z2,F.1,F.2⟩;have ai:Fits (eN n es) H (QI (eN n es) H a ((inn++[b]).headD 0)) (S.Jv.getD f []):=by grind[EJ.VN]
 have aj:a∈S.Jv.getD f []:=by have:=ag _ (P.E8 F0 o);grind[Int.toNat_natCast]
 have al:b∈S.Jv.getD f []:=by have V:=W.lst hr hs;have wb:Ay a inn b b ((inn.reverse++[a]).headD 0):=(W.wE_b hr hs).2 rfl;have hk:=W.PW hr hs wb;have C:=(P.one _ _ b _ F ⟨V.1,V.2⟩ o).2 hk;have:=ag _ ((P.Fm b).2 ⟨fun q=>by have⟨z,z1,z2⟩:=W.onb;exact q z z1 z2,_,⟨V.1,V.2⟩,C⟩);grind[Int.toNat_natCast]
 have⟨A,B,cy⟩:=aoR aj al W.ab;have L:Vf n es H S.Jv p a inn b f A B:=⟨hR,hA,hs,I.inv,P,W,o,aC,cy⟩;have O:(∀h∈S.Jv,Fits (eN n es) H (QI (eN n es) H a ((inn++[b]).headD 0)) h->h=S.Jv.getD f [])\/
   ∀u x,QP (eN n es) H u x->∃E∈S.Jv,∃h2∈S.Jv,E≠h2/\Fits (eN n es) H (QI (eN n es) H u x) E/\Fits (eN n es) H (QI (eN n es) H u x) h2:=by
  by_cases c1:p.fits.length=1
  .refine .inl fun h hh k=>?_;have⟨i,hi,e⟩:=Yi.1 hh;have C:=(P.fits i).2 (by grind[EJ.VN]);grind[vd]
  .refine .inr fun u x hF=>?_;have⟨q,t,C⟩:=I.cov u x ⟨hF.mem,hF.nh⟩;have Q:=I.Aa q t;have h2:2<=q.fits.length:=hGr
   match aX:q.fits with
   |[]=>grind
   |[_]=>grind
   |i::j::l=>
    have hi:=(Q.fits i).1 hGr;have hj:=(Q.fits j).1 hGr;have aD:i≠j:=by grind[EJ.tnd]
    refine⟨S.Jv.getD i [],by grind[getElem_mem],S.Jv.getD j [],by grind[getElem_mem],fun e=>aD ?_,(Q.VN hR C).2 hi.2,(Q.VN hR C).2 hj.2⟩;rw[D4 hi.1,D4 hj.1]at e;exact(qL213 I.inv.nodup).1 e
 have I1:=I.inv.step D hr N F0 ai O W rfl cy;have hh:=L.Gf;have aE:S.Jv.set f (Ee (S.Jv.getD f []) (aaF a inn b))++[kP (S.Jv.getD f []) (aaF a inn b)]=kY S.Jv f (aaF a inn b):=rfl;have R:(half a A b inn::half b B a inn.reverse::S.Jv.erase (S.Jv.getD f [])).Perm (kY S.Jv f (aaF a inn b)):=by unfold kY;rw[hh.1,hh.2];refine List.Perm.trans ?_ (qL185 (l₁:=[half b B a inn.reverse]));refine(List.Perm.swap _ _ _).trans (List.Perm.cons _ ?_);exact(set_perm hGr I.inv.nodup).symm
 have I2:=I1.perm R;rw[aE];have K:=I.TE;rw[ae,abz,ajX]at K;have⟨d1,⟨d2,d3⟩,d4⟩:=K;have aq:∀q∈S.left.eraseIdx m,q∈S.left/\∀e∈p.zp,e∉q.zp:=fun q t=>by
  rw[J]at t;rcases aax.1 t with h|h
  .grind
  grind
 have T:=L.groups (on:=S.on);have aF:OW es (XZ H a inn b)<OW es H:=by
  have C:=P.sub.subset o;have⟨c,d,e,ar,hd⟩:=jB hR C;have wf:Ay a inn b a ((inn++[b]).headD 0):=W.Fp.2 rfl;refine unN_lt hGr C ?_ ?_
  .rw[e];simp only[yM];rw[<-Ix ar]at e;rcases Dc e with⟨E,h2⟩|⟨E,h2⟩
   .rw[<-E,<-h2];exact F.2
   .rw[<-E,<-h2];exact fun q=>F.2 (hs _ _ q)
  .rw[e];simp only[yM];rw[<-Ix ar]at e;rcases Dc e with⟨E,h2⟩|⟨E,h2⟩
   all_goals grind[Ef]
 refine .inr ⟨_,XZ H a inn b,rfl,⟨I2,by grind[Pe,Z8.ZA],L.on' I.ZA I.on,fun q t=>?_,fun v w hU=>?_,?_,?_⟩,aF⟩
 .simp only at t ⊢;rcases aax.1 t with h|h
  .obtain⟨q0,G,rfl⟩:=aev.1 h;have⟨E,h2⟩:=aq q0 G;exact L.other (I.Aa q0 E) h2
  .obtain⟨q0,G,rfl⟩:=aev.1 h;exact(L.fresh I.ZA I.on M G).1
 .have aH:Un (eN n es) H v w:=⟨hU.1,fun q=>hU.2 (.inl q)⟩;have⟨q,t,C⟩:=I.cov v w aH;rw[ae]at t;have U:q=p\/q∈S.left.eraseIdx m:=hGr;rcases U with rfl|h
  .have V:=L.left.2 ⟨C,fun e=>hU.2 (.inr e)⟩;have⟨g,hg,aJ⟩:=T.cov _ V Ma;obtain⟨gr,aK,rfl⟩:=aev.1 hg;refine⟨_,ang _ (aev.2 ⟨_,aev.2 ⟨gr,aK,rfl⟩,rfl⟩),aJ⟩
  .refine⟨_,bC _ (aev.2 ⟨q,h,rfl⟩),?_⟩;unfold GF;split<;>exact C
 .simp only;have r:∀q,(GF (kY S.Jv f (aaF a inn b)) f S.Jv.length q).zp=q.zp:=fun q=>by unfold GF;split<;>rfl
  rw[abz];refine⟨?_,?_,fun q t q' aL e he aN=>?_⟩
  .rw[Vn,J,abz];refine⟨d1.imp fun{x y} h=>by rw[r,r];exact h,d3.imp fun{x y} h=>by rw[r,r];exact h,fun x hx y hy=>?_⟩;rw[r,r];exact d4 x hx y (by simp[hy])
  .rw[Vn];unfold vX;have:=T.TE;grind
  .obtain⟨q0,G,rfl⟩:=aev.1 t;obtain⟨q1,aP,rfl⟩:=aev.1 aL;rw[r]at he;have E:=(L.fresh I.ZA I.on M aP).2.subset aN;have h2:e∈p.zp:=(EP (l:=p.zp)).subset E;grind
 .simp only;rw[Yz];have:=I.OT;omega
theorem Z8.done(I:Z8 n es H S)(h:S.left=[]):∃r,abK n r S.Jv/\Flat n r/\∀x y,y∈r x↔y∈eN n es x:=I.inv.done fun x y a=>ZT fun q=>by have⟨p,b,_⟩:=I.cov x y ⟨a,q⟩;grind
end
end
end Go.Fw
