/- A text. -/
import Derived.Test.YtnakkbhjoiheoaaGreatFwZC
set_option linter.all false
set_option maxRecDepth 99999
set_option maxHeartbeats 9999999
open Go.Proofs
open Option renaming some→Z,none→Y
open Bool renaming true→tT,false→fF
open List renaming replicate→rP,range→rG
open Go.Value renaming slice→sL,pointer→pT
open Go renaming Value→vV
open Go.Proofs.Tryz renaming prog→pG
open Go.Proofs.Tryz
open List
namespace Go.Fw
section
attribute [local irreducible] Kp MQ lU KO1 KO KN KX KE VK Kl ZJ TC aab
theorem Beside_g(W0:LA)(v:vV)(n:Nat)(es:xLP)(h:aai)(hg:GR h v ⟨(n:Int),es⟩)(hr:bX ⟨(n:Int),es⟩):AC pG W0 44 [v] h fun x h'=>RL isG h' x (Zh n es)/\Le h h':=by
 have aD:=hg
 obtain⟨ev,rfl,hp⟩:=hg.open
 have bH:(n:Int)<=200:=hr.n1;have bI:es.length<=594:=hr.len;have y:∀p∈es,0<=p.1/\p.1<p.2/\p.2<(n:Int):=fun p aF=>by have⟨i,hi⟩:=vZ.1 aF;exact(hr.ok i (Ny.1 hi).1 p hi).1
 refine AC.vF ajZ ntmps44 results44 fun aH=>?_;obtain⟨h1,b1,A,bQ,-,lA⟩:=r8 (n:=(n:Int)) aH hp
 generalize h.next=B at*
 have aJ:=lA h1 (Le.refl _);have ll:=fun g=>hp.len g;simp only[HO,seval,b1,aJ.1];refine TC.intro PJ ⟨qS5,rfl,WY⟩ (ak W0 _ _ h1 (aD.le A)) ?_;rintro x h2 C ⟨⟨bb,rfl,aK⟩,m⟩;obtain rfl:bb=tT:=aK.2 hr;have aL:=lA h2 m;have mk:=Ye (P:=pG) (t:=25) (z:=.slice Y 0 0) h2 qS6 rfl rfl rfl rfl Ji Mb Ji n NH;have⟨h3,e3,aN,bW,o3⟩:=Tt C (rP n (.slice Y 0 0));rw[e3]at mk
 have nL:h2.own h2.next=Y:=(Le.refl h2).next C (qL0 _)
 generalize h2.next=L at*
 have fT:=lA h3 (m.trans aN);simp only[HO,seval,Ii,Di,Ip,EL,aL.2.1,mk,fT.2.2,ll];have R0:Rows h2 h3 L (rP n (.slice Y 0 0)) (Zh n (es.take 0)):=by grind[Zh,Rows.start]
 refine aab.intro (fun k fr hh=>∃(i:Nat)(us:xLV),k=es.length-i/\i<=es.length/\fr=mkF [(3,sL (Z L) n n),(13,ev),(14,.int .i64 es.length),(15,i)]/\Rows h2 hh L us (Zh n (es.take i)))
  es.length [(3,sL (Z L) n n),(13,ev),(14,.int .i64 es.length),(15,(0:Nat))] fD ⟨0,_,rfl,Og _,rfl,R0⟩ ?_
 rintro k fr hh D ⟨i,us,rfl,hi,rfl,R⟩;refine Uy ?_;refine Kl.intro (fun ht=>?_) (fun hf=>?_)
 rotate_left
 .have aP:es.length<=i:=vp hf;rw[yM aP]at R;refine Uy ?_;grind[Rows.rlG,Rows.len,Xq,Le.trans,Rows.le]
 have l:i<es.length:=acb ht;clear ht;have o:=CA l;have F:es.take (i+1)=es.take i++[es[i]]:=XJ l;generalize es[i]=p at o F;have⟨p1,p2,p3⟩:=y p (BS o);have aT:=hp.le ((A.trans m).trans R.le);have ad:=hp.addr (k:=.i64) i l;have ld:=aT.load o;have⟨bY,h4,e4,aW,aX,a6,G⟩:=Ut D p
 have a7:hh.own hh.next=Y:=(Le.refl hh).next D (qL0 _)
 have⟨a,c⟩:=p;simp only at p1 p2 p3;obtain⟨a,rfl⟩:=HV p1;obtain⟨c,rfl⟩:=HV (show 0<=c by omega);have R4:=R.up aX
 have a8:∀(v:Nat) u,us[v]?=Z u->blk u≠Z hh.next:=fun v u hu hb=>by have bg:∃q,(Zh n (es.take i))[v]?=Z q:=⟨_,CA (by grind[Rows.len])⟩;have⟨q,hq⟩:=bg;exact(R.gs v u q hu hq).Sy hb a7
 have H:hh.next≠L:=fun e=>by have:=R.oL;grind
 generalize hh.next=E at*
 simp only[HO,seval,ad,ld,e4,aW];have bh:=bV n (es.take i);have bZ:(es.take i).length<=594:=hGr;have I:∀(k:IntKind)(j:Nat),j<n->aao pG 25 (sL (Z L) n n) (.int k j)=Z (pT (Z ⟨L,j,Y⟩)):=fun k j hj=>by rw[Wc qS6 Mb Ji j hj];simp[Ip]
 have J:a<(Zh n (es.take i)).length:=by grind[Xq]
 have K:=CA J;have M:(Zh n (es.take i)).getD a []=(Zh n (es.take i))[a]:=D4 J;have N:((Zh n (es.take i))[a]).length<=100000:=hGr;generalize (Zh n (es.take i))[a]=ra at K M N;have⟨u,u',h5,h6,h7,hu,e5,e6,e7,l5,l6,b0,R7,bk,keep⟩:=R4.push a6 K (c:Int) N;have⟨d,b,O⟩:=keep _ _ G H a8;have Q:=lK G;have S:=HY G;have T:=lK (l5.own _ _ G);have U:=HY (l5.own _ _ G);have V:=lK d;have W:=HY d;have X:=lK b;have aa:=HY b;simp only at Q S T U V W X aa;have bm:aaC pG h4 28 ⟨L,a,Y⟩=Z u:=by rw[Fq Mb rfl R4.oL];exact hu
 have bo:aaC pG h5 28 ⟨L,a,Y⟩=Z u:=by rw[Fq Mb rfl (l5.own _ _ R4.oL)];exact hu
 have bs:aas pG h4 28 1 [(0,c)]=Z (sL (Z h4.next) 1 1,h5):=by rw[DQ,e5]
 refine gh (fRn 0 10 (JQ 10 [9] (JQ 11 [7,10] (tA [12] (JQ 13 [0,1,2,3,4,5,6,7,8,9,10,11,12] .done))))) ?_;simp only[HO,seval,Qg,Dh,Z0,Ip,EL,Q,S,T,U,V,W,I _ a NH,bm,bo,bs,e6,e7];have b2:((Zh n (es.take i)).set a (ra++[(c:Int)])).length=n:=by simp[Xq]
 have r:c<((Zh n (es.take i)).set a (ra++[(c:Int)])).length:=NH;have ae:=CA r;have ai:((Zh n (es.take i)).set a (ra++[(c:Int)])).getD c []=((Zh n (es.take i)).set a (ra++[(c:Int)]))[c]:=D4 r;have aj:(((Zh n (es.take i)).set a (ra++[(c:Int)]))[c]).length<=100000:=by
  rcases ah1 (si r)with e|e
  .grind
  .rw[e];simp;grind
 generalize ((Zh n (es.take i)).set a (ra++[(c:Int)]))[c]=rc at ae ai aj;have⟨w,w',h8,h9,b3,hw,e8,e9,br,l8,l9,b4,aq,bN,s⟩:=R7.push bk ae (a:Int) aj;obtain⟨f,ar,-⟩:=s _ _ b H O;have av:=lK (l8.own _ _ b);have ay:=HY (l8.own _ _ b);have az:=lK f;have aC:=HY f;simp only at av ay az aC;have bx:aaC pG h7 28 ⟨L,c,Y⟩=Z w:=by rw[Fq Mb rfl R7.oL];exact hw
 have bB:aaC pG h8 28 ⟨L,c,Y⟩=Z w:=by rw[Fq Mb rfl (l8.own _ _ R7.oL)];exact hw
 have bF:aas pG h7 28 1 [(0,a)]=Z (sL (Z h7.next) 1 1,h8):=by rw[DQ,e8]
 refine gh (fRn 0 10 (JQ 10 [9] (JQ 11 [7,10] (tA [12] (JQ 13 [0,1,2,3,4,5,6,7,8,9,10,11,12] .done))))) ?_;simp only[HO,seval,Qg,Dh,Z0,Ip,EL,X,aa,av,ay,az,aC,I _ c NH,bx,bB,bF,e9,br,aaa i NH];have:Xs (Zh n (es.take i)) ((a:Int),(c:Int))=((Zh n (es.take i)).set a (ra++[(c:Int)])).set c (rc++[(a:Int)]):=by simp only[Xs,aax,M,ai]
 rw[<-this,<-NJ,<-F]at aq;exact tn (es.length-(i+1)) [(3,sL (Z L) n n),(13,ev),(14,.int .i64 es.length),(15,(i+1:Nat))] NH fD ⟨i+1,_,rfl,l,rfl,aq⟩
def oe(a:LA)(v:vV)(n:Nat)(es:xLP)(h:aai)(hg:GR h v ⟨(n:Int),es⟩)(b:bX ⟨(n:Int),es⟩):AC pG a 44 [v] h fun x h'=>RL (RL RP) h' x (Zh n es)/\Le h h':=(Beside_g a v n es h hg b).mono fun _ _ h=>⟨h.1.map fun _ _ g=>g.rl,h.2⟩
def aO(p:Pr)(v:Int):Bool:=decide (p.1=v)||decide (p.2=v)
def onE(ps:xLP)(v:Int):Bool:=ps.any fun p=>aO p v
def eqP(p q:Pr):aEq pG 49 (UI p) (UI q)=Z (decide (p=q)):=by
 have e:p=q↔p.1=q.1/\p.2=q.2:=Prod.ext_iff;simp only[aEq,qS7,Ac,UI,aa9,ts3];by_cases a:p.1=q.1
 .by_cases h2:p.2=q.2
  .simp[e,a,h2]
  .simp[e,a,h2]
 .simp[e,a]
def gfP(p:Pr):aci (UI p)=tT:=rfl
def abinP(p q:Pr):mM pG .eql 49 (UI p) (UI q)=Z (.bool (decide (p=q)))/\mM pG .neq 49 (UI p) (UI q)=Z (.bool (!decide (p=q))):=by
 have a:ae3 pG .eql 49 (UI p) (UI q)=match aEq pG 49 (UI p) (UI q)with|some b=>Z (.bool b)|none=>Y:=rfl
 have h2:ae3 pG .neq 49 (UI p) (UI q)=match aEq pG 49 (UI p) (UI q)with|some b=>Z (.bool (!b))|none=>Y:=rfl
 constructor
 .rw[mM,gfP,cond_true,a,eqP]
 .rw[mM,gfP,cond_true,h2,eqP]
def hasB(ps:xLP)(p:Pr):Bool:=ps.any fun q=>decide (q=p)
def hasB_iff(ps:xLP)(p:Pr):hasB ps p=tT↔p∈ps:=by simp[hasB]
theorem abn(u:LA)(v w:vV)(ps a:xLP)(h:aai)(n:PR h v ps)(hw:PR h w a)(A:ps.length<=100000):AC pG u 17 [v,w] h fun x h'=>x=.bool (decide (ps=a))/\h'=h:=by
 refine AC.vF func17 ntmps17 results17 fun y=>?_;have o:=fun g=>n.len g;have lw:=fun g=>hw.len g;by_cases c:(ps.length:Int)=(a.length:Int)
 rotate_left
 .simp only[HO,seval,o,lw,bne,eq_false c];exact⟨by rw[IE (fun e=>c (by rw[e]))],trivial⟩
 have c':ps.length=a.length:=NH;simp only[HO,seval,o,lw,bne,eq_true c];refine lIn (fun k fr hh=>∃i:Nat,k=ps.length-i/\i<=ps.length/\hh=h/\fr=mkF [(0,v),(1,w),(5,i)]/\ps.take i=a.take i) ⟨0,rfl,Og _,rfl,rfl,rfl⟩ ?_;rintro k fr hh-⟨i,rfl,hi,rfl,rfl,s⟩;refine Sk o ?_;refine Kl.intro (fun z=>?_) (fun hf=>?_)
 .have b:i<ps.length:=acb z;have f:=CA b;have j:=CA (show i<a.length by omega);have t1:ps.take (i+1)=ps.take i++[ps[i]]:=XJ b;have t:a.take (i+1)=a.take i++[a[i]'(by omega)]:=XJ NH
  generalize ps[i]=p at f t1;generalize a[i]'(by omega)=q at j t
  have ad:=n.addr (k:=.i64) i b;have ld:=n.load f;have l:=hw.addr (k:=.i64) i NH;have m:=hw.load j;have d:=(abinP p q).2;refine Uy ?_;refine gh (fRn 0 9 .done) ?_;cases hb:decide (p=q)with
  |true=>rw[hb]at d;have e:=ag1 hb;simp only[kS1,aer,aet,ab6,Zm,abr,aa6,acZ,aeb,aec,putDst,flat,kA,kB,Nat.reduceLT,↓reduceIte,kC,Nat.reduceEqDiff,aeZ,mM,aci,ae3,adY,aUn,acy,agk,G8,acD,acf,ad7,mkF,Yx,reduceCtorEq,kD,kE,kF,kG,kH,kI,kJ,kK,acW,abt,kD1,Nat.reduceBEq,abj,kL,kM,kN,kO,ad,ld,l,m,d,-mM,aaa i NH];exact lgA NH ⟨i+1,rfl,b,rfl,rfl,by rw[t1,t,s,e]⟩
  |false=>rw[hb]at d;have e:=qL185 hb;simp only[kS1,aer,aet,ab6,Zm,abr,aa6,acZ,aeb,aec,putDst,flat,kA,kB,Nat.reduceLT,↓reduceIte,kC,Nat.reduceEqDiff,aeZ,mM,aci,ae3,adY,aUn,acy,agk,G8,acD,acf,ad7,mkF,Yx,reduceCtorEq,kD,kE,kF,kG,kH,kI,kJ,kK,acW,abt,kD1,Nat.reduceBEq,abj,kL,kM,kN,kO,ad,ld,l,m,d,-mM];exact by rw[IE (fun e'=>e hGr)]
 .have r:ps.length<=i:=vp hf;rw[yM r,yM NH]at s;refine Uy ?_;grind
variable {L:RZ} {cl cl':Nat->Nat->Prop} {es:List Pr} {met:II} {n u v w x:Nat} {on:Nat->Bool} {α:Type}
theorem cA(l:List α)(i j:Nat)(a d:α):(l.set i a).getD j d=if i=j/\i<l.length then a else l.getD j d:=hGr
def aV(n:Nat)(es:xLP):Prop:=∀p∈es,0<=p.1/\p.1<p.2/\p.2<(n:Int)
theorem bX.GD(b:bX ⟨(n:Int),es⟩):aV n es:=fun p a=>by have⟨i,hi⟩:=vZ.1 a;exact(b.ok i (Ny.1 hi).1 p hi).1
def Jp(es:xLP)(u w:Nat):Prop:=((u:Int),(w:Int))∈es\/((w:Int),(u:Int))∈es
theorem Jp.symm{es:xLP}{u w:Nat}(h:Jp es u w):Jp es w u:=Or.symm h
theorem Jp.lt(a:aV n es)(h:Jp es u w):u<n/\w<n:=by
 rcases h with h|h<;>have:=a _ h<;>simp only at this<;>omega
theorem bes_step(rows:AM)(p:Pr)(u:Nat)(x:Int)(a:p.1.toNat<rows.length)(h2:p.2.toNat<rows.length):
  x∈(Xs rows p).getD u []↔x∈rows.getD u []\/(p.1.toNat=u/\x=p.2)\/(p.2.toNat=u/\x=p.1):=by
 simp only[Xs,cA,Ua];grind
theorem FH(n:Nat):∀(es:xLP)(rows:AM),rows.length=n->aV n es->∀(u:Nat)(x:Int),x∈(es.foldl Xs rows).getD u []↔x∈rows.getD u []\/∃p∈es,(p.1.toNat=u/\x=p.2)\/(p.2.toNat=u/\x=p.1)
 |[],rows,_,_,u,x=>by simp
 |p::es,rows,c,a,u,x=>by have d:=a p Ma;rw[WZ,FH n es _ (by grind[pO]) (fun q b=>a q (by simp[b])) u x,bes_step rows p u x NH NH];grind
theorem EW(d:aV n es)(u w:Nat):(w:Int)∈(Zh n es).getD u []↔Jp es u w:=by
 have c:(rP n ([]:RZ)).getD u []=[]:=hGr;rw[Zh,FH n es _ Ma d,c];simp only[eR,false_or,Jp];constructor
 .rintro⟨⟨a,b⟩,e,⟨f,h2⟩|⟨f,h2⟩⟩
  .have:=d _ e;grind
  .have:=d _ e;grind
 grind
theorem Ru(b:aV n es){x:Int}(c:x∈(Zh n es).getD u []):∃w:Nat,x=(w:Int)/\w<n:=by
 have a:(rP n ([]:RZ)).getD u []=[]:=hGr;rw[Zh,FH n es _ Ma b,a]at c;simp only[eR,false_or]at c;obtain⟨p,d,⟨_,rfl⟩|⟨_,rfl⟩⟩:=c
 .have:=b _ d;exact⟨p.2.toNat,NH,NH⟩
 .have:=b _ d;exact⟨p.1.toNat,NH,NH⟩
inductive Cn (on:Nat->Bool) (es:xLP):Nat->Nat->Prop
 |refl {u:Nat}:on u=fF->Cn on es u u
 |step {u w x:Nat}:Cn on es u w->Jp es w x->on x=fF->Cn on es u x
theorem Cn.off1(h:Cn on es u w):on u=fF:=by
 induction h with
 |refl h=>exact h
 |step _ _ _ a=>exact a
theorem Cn.AB(h:Cn on es u w):on w=fF:=by
 cases h<;>grind
theorem Cn.trans(h:Cn on es u w)(k:Cn on es w x):Cn on es u x:=by
 induction k with
 |refl _=>exact h
 |step _ a o b=>exact b.step a o
theorem Cn.symm{on:Nat->Bool}{es:xLP}{u w:Nat}(h:Cn on es u w):Cn on es w u:=by
 induction h with
 |refl h=>exact .refl h
 |step h a o b=>exact((Cn.refl o).step a.symm h.AB).trans b
structure TO (n:Nat) (on:Nat->Bool) (es:xLP) (v:Nat) (L:RZ):Prop where
 len:L.length=n
 val:∀(u:Nat) l,L[u]?=Z l->l=-1\/on u=fF/\∃k:Nat,k<v/\l=(k:Int)/\Cn on es k u
 qi:∀(u w:Nat) l,L[u]?=Z l->0<=l->Jp es u w->on w=fF->L[w]?=Z l
 low:∀u,u<v->u<n->on u=fF->L[u]?≠Z (-1)
structure TI (n:Nat) (on:Nat->Bool) (es:xLP) (v:Nat) (L:RZ) (met:II) (cl:Nat->Nat->Prop):Prop where
 len:L.length=n
 val:∀(u:Nat) l,L[u]?=Z l->l=-1\/on u=fF/\∃k:Nat,k<=v/\l=(k:Int)/\Cn on es k u
 qi:∀(u w:Nat) l,L[u]?=Z l->0<=l->l<(v:Int)->Jp es u w->on w=fF->L[w]?=Z l
 low:∀u,u<=v->u<n->on u=fF->L[u]?≠Z (-1)
 mm:∀u,u∈met↔L[u]?=Z (v:Int)
 nd:met.Nodup
 cl:∀u w,cl u w->L[w]?=Z (v:Int)
theorem TO.start(n:Nat)(on:Nat->Bool)(es:xLP):TO n on es 0 (rP n (-1)):=⟨Ma,fun u l h=>.inl (qL186 (BS h)),fun u w l h a=>by grind,fun u h=>by omega⟩
theorem TO.skip(t:TO n on es v L)(h:on v=tT\/L[v]?≠Z (-1)):TO n on es (v+1) L:=⟨t.len,fun u l a=>(t.val u l a).imp id fun⟨b,k,h2,h3⟩=>⟨b,k,NH,h3⟩,t.qi,fun u c d e=>by grind[TO.low]⟩
theorem TO.begin(t:TO n on es v L)(j:v<n)(c:on v=fF)(k:L[v]?=Z (-1))(cl:Nat->Nat->Prop)(b:∀u w,¬cl u w):TI n on es v (L.set v (v:Int)) [v] cl:=by
 have d:v<L.length:=hGr;have f:∀u,u≠v->(L.set v (v:Int))[u]?=L[u]?:=fun u g=>by grind
 have heq:(L.set v (v:Int))[v]?=Z (v:Int):=hGr;refine⟨by simp[t.len],fun u l a=>?_,fun u w l a m o ha hw=>?_,fun u g p i=>?_,fun u=>?_,Ma,fun u w h=>absurd h (b u w)⟩
 .by_cases e:u=v
  .subst e;rw[heq]at a;injection a with a;exact .inr ⟨c,u,qL0 _,a.symm,.refl c⟩
  grind[TO.val]
 .grind[TO.qi]
 .grind[TO.low]
 grind[TO.val]
theorem TI.mono(t:TI n on es v L met cl)(h:∀u w,cl' u w->cl u w):TI n on es v L met cl':=⟨t.len,t.val,t.qi,t.low,t.mm,t.nd,fun u w k=>t.cl u w (h u w k)⟩
theorem TI.off(t:TI n on es v L met cl)(a:u∈met):on u=fF/\Cn on es v u:=by
 rcases t.val u _ ((t.mm u).1 a)with h|⟨h,k,_,h2,h3⟩
 all_goals grind
theorem TI.stay(t:TI n on es v L met cl)(f:u∈met)(ha:Jp es u w)(c:∃l,L[w]?=Z l/\l≠-1)(h:∀a b,cl' a b->cl a b\/b=w):TI n on es v L met cl':=by
 refine⟨t.len,t.val,t.qi,t.low,t.mm,t.nd,fun a b k=>?_⟩;rcases h a b k with h|rfl
 .exact t.cl a b h
 .obtain⟨l,d,g⟩:=c;rcases t.val _ _ d with h'|⟨i,k,j,rfl,_⟩
  .grind
  .by_cases e:k=v
   .grind
   .have:=t.qi b u (k:Int) d NH NH ha.symm (t.off f).1;grind[TI.mm]
theorem TI.push(t:TI n on es v L met cl)(g:u∈met)(ha:Jp es u w)(c:on w=fF)(f:L[w]?=Z (-1))(h:∀a b,cl' a b->cl a b\/b=w):
  TI n on es v (L.set w (v:Int)) (met++[w]) cl':=by
 have i:w<L.length:=(Ny.1 f).1;have j:∀x,x≠w->(L.set w (v:Int))[x]?=L[x]?:=fun x m=>by grind
 have heq:(L.set w (v:Int))[w]?=Z (v:Int):=hGr;have o:w∉met:=fun h=>by grind[TI.mm]
 refine⟨by simp[t.len],fun x l d=>?_,fun x y l d r s p z=>?_,fun x m A q=>?_,fun x=>?_,?_,fun a b k=>?_⟩
 .by_cases e:x=w
  .subst e;rw[heq]at d;injection d with d;exact .inr ⟨c,v,qL0 _,d.symm,(t.off g).2.step ha c⟩
  grind[TI.val]
 .grind[TI.qi]
 .grind[TI.low]
 .grind[TI.mm]
 .grind[TI.nd]
 .rcases h a b k with h|rfl
  .have:=t.cl a b h;grind
  .exact heq
theorem TI.finish(t:TI n on es v L met cl)(h:∀u w,u∈met->Jp es u w->on w=fF->cl u w):TO n on es (v+1) L:=by
 refine⟨t.len,fun u l a=>(t.val u l a).imp id fun⟨b,k,h2,h3⟩=>⟨b,k,NH,h3⟩,fun u w l a d ha hw=>?_,fun u f g c=>?_⟩
 .rcases t.val u l a with h'|⟨b,k,h2,rfl,_⟩
  .omega
  .by_cases e:k=v
   .subst e;exact t.cl u w (h u w ((t.mm u).2 a) ha hw)
   grind[TI.qi]
 grind[TI.low]
theorem TI.abP(t:TI n on es v L met cl):met.length<=n:=by
 have hs:met⊆rG n:=fun u a=>by have:=(Ny.1 ((t.mm u).1 a)).1;grind[TI.len]
 have:=t.nd.length_le_of_subset hs;grind
structure wx (n:Nat) (on:Nat->Bool) (es:xLP) (L:RZ):Prop where
 len:L.length=n
 off:∀u,u<n->on u=fF->∃k:Nat,k<n/\L[u]?=Z (k:Int)/\Cn on es k u
 same:∀u w,u<n->w<n->on u=fF->on w=fF->(L[u]?=L[w]?↔Cn on es u w)
theorem TO.done(d:aV n es)(t:TO n on es n L):wx n on es L:=by
 have off:∀u,u<n->on u=fF->∃k:Nat,k<n/\L[u]?=Z (k:Int)/\Cn on es k u:=fun u a f=>by grind[TO.len,TO.val,TO.low]
 refine⟨t.len,off,fun u w a hw g b=>⟨fun e=>?_,fun c=>?_⟩⟩
 .grind[Cn.symm,Cn.trans]
 .clear hw b
  induction c<;>grind[TO.qi]
variable {h:aai} {i:Nat} {l:II} {ps:List Pr} {v:Value} {xs:RZ}
def GI(h:aai)(v:vV)(xs:RZ):Prop:=GS 1 h v xs.length (Bp xs)
theorem GI.le{h h':aai}{v:vV}{xs:RZ}(g:GI h v xs)(e:Le h h'):GI h' v xs:=GS.le g e
theorem GI.rl(g:GI h v xs):RL RP h v xs:=RL.Wh (GS.cs g).rs
theorem GI.nil(h:aai):GI h (.slice Y 0 0) []:=GS.nil 1 h
theorem GI.push{h:aai}{v:vV}{xs:RZ}(g:GI h v xs)(d:WF h)(x:Int)(m:xs.length<=100000):
  ∃v' c a,aas pG h 28 1 [(0,x)]=Z (sL (Z h.next) 1 1,c)/\aaR pG c 28 28 v (sL (Z h.next) 1 1)=Z (v',a)/\GI a v' (xs++[x])/\WF a/\Le h c/\
   (∀f,Le f h->Z2 f v->Le f a/\Z2 f v')/\(∀b o,h.own b=Z o->blk v≠Z b->a.own b=Z o/\blk v'≠Z b):=by
 have⟨c,e4,l4,e,j⟩:=Tt d [x];have⟨v',a,i,n,hf⟩:=(GS.le g l4).push (P:=pG) (t:=28) Ji j (yG _) rfl NH;refine⟨v',c,a,by rw[DQ,e4],i,?_,xr e i,l4,fun f k af=>hf f e (k.trans l4) af,fun b o l hb=>aG hf e (l4.own _ _ l) hb⟩;grind[Bp,GI.eq_1]
def GP(h:aai)(v:vV)(ps:xLP):Prop:=GS 2 h v ps.length (Iu ps)
theorem GP.le{h h':aai}{v:vV}{ps:xLP}(g:GP h v ps)(e:Le h h'):GP h' v ps:=GS.le g e
theorem GP.pr(g:GP h v ps):PR h v ps:=GS.cs g
theorem GP.nil(h:aai):GP h (.slice Y 0 0) []:=GS.nil 2 h
theorem GP.join{v x:vV}{ps c:xLP}(g:GP h v ps)(d:WF h)(i:PR h x c)(l:ps.length+c.length<=1000000000):
  ∃v' a,aaR pG h 22 22 v x=Z (v',a)/\GP a v' (ps++c)/\WF a/\
   (∀f,Le f h->Z2 f v->Le f a/\Z2 f v')/\(∀b o,h.own b=Z o->blk v≠Z b->a.own b=Z o/\blk v'≠Z b):=by
 have⟨v',a,m,n,hf⟩:=GS.append (P:=pG) (t:=22) (xt:=22) (k:=2) Ji g (fun e j=>CS.src j i) (WI _) (WI _) (Ta _) NH;grind[xr,aG,GP.eq_1,mZ]
theorem mkP1(h:aai)(p:Pr):aas pG h 22 1 [(0,UI p)]=Z (sL (Z h.next) 1 1,h.alloc (.cells (xM p))):=rfl
theorem GP.push(g:GP h v ps)(d:WF h)(p:Pr)(l:ps.length+1<=100000):
  ∃v' c a,aas pG h 22 1 [(0,UI p)]=Z (sL (Z h.next) 1 1,c)/\aaR pG c 22 22 v (sL (Z h.next) 1 1)=Z (v',a)/\GP a v' (ps++[p])/\WF a/\Le h c/\
   (∀f,Le f h->Z2 f v->Le f a/\Z2 f v')/\(∀b o,h.own b=Z o->blk v≠Z b->a.own b=Z o/\blk v'≠Z b):=by
 have⟨c,e4,l4,e,i⟩:=Tt d (xM p)
 have j:PR c (sL (Z h.next) 1 1) [p]:=by have:=CS.own (k:=2) (off:=0) (n:=1) (cap:=1) i (by simp[xM]);exact this
 have⟨v',a,m,q,r,hf,s⟩:=(g.le l4).join e j (by simp;omega);grind[mkP1,Le.trans,Le.own]
theorem yy(L:RZ)(i:Nat)(x:Int):(Bp L).set i x=Bp (L.set i x):=by simp[Bp,alw]
def kz(l:II):RZ:=l.map fun(x:Nat)=>(x:Int)
theorem y6(l:II):(kz l).length=l.length:=by simp[kz]
theorem sY(hi:i<l.length):(kz l)[i]'(by grind[y6])=((l[i]:Nat):Int):=by simp[kz]
theorem tS(W0:LA)(v o:vV)(n:Nat)(es:xLP)(bs:List Bool)(h:aai)(hg:GR h v ⟨(n:Int),es⟩)(hr:bX ⟨(n:Int),es⟩)(hb:RL sJ h o bs)(b2:bs.length=n):
  AC pG W0 160 [v,o] h fun x h'=>∃L,RL RP h' x L/\wx n (fun u=>bs.getD u fF) es L/\Le h h':=by
 have bb:=hg
 obtain⟨ev,rfl,hp⟩:=hg.open
 have b0:(n:Int)<=200:=hr.n1;have hR:=hr.GD;refine AC.vF func160 ntmps160 results160 fun bg=>?_;obtain⟨h1,b1,ae,b3,-,lA⟩:=r8 (n:=(n:Int)) bg hp
 generalize h.next=B at*
 have bh:=lA h1 (Le.refl _);simp only[HO,seval,b1,bh.1];refine TC.intro PJ ⟨ajZ,rfl,WY⟩ (oe W0 _ n es h1 (bb.le ae) hr) ?_;rintro y hB bk ⟨G,H⟩;have b4:=lA hB H;have⟨h2,e2,Q,bm,o2⟩:=Tt bk [.int .i64 (-1)];have bo:=lA h2 (H.trans Q);simp only[HO,seval,DQ,e2,Ii,Ip,EL,bo.2.1];refine TC.intro PJ ⟨YW,rfl,WY⟩ (rN W0 _ n NH h2 (RL.Wh (RS.whole o2 rfl))) ?_;rintro x h3 b5 ⟨T,rfl,hT,o3,az⟩;have fT:=lA h3 ((H.trans Q).trans az);have aC:=Q.trans az
 have nT:hB.own T=Y:=Q.next bm hT
 have br:h3.own T=Z (.cells (Bp (rP n (-1)))):=by rw[o3];simp[Bp]
 simp only[HO,seval,Ii,Ip,EL,fT.2.1];let on:Nat->Bool:=fun u=>bs.getD u fF;have b6:=hb.le Nn.sJ (ae.trans H);have aD:∀g,Le hB g->∀u,u<n->aaC pG g 4 (aaq o u)=Z (.bool (on u)):=fun g lg u hu=>by grind[RL.le,Nn.sJ,RL.W7]
 have z:∀(k:IntKind)(u:Nat),u<n->aao pG 41 o (.int k u)=Z (pT (Z (aaq o u))):=fun k u hu=>hb.LB u NH;have R:∀(k:IntKind)(j:Nat),j<n->aao pG 28 (sL (Z T) n n) (.int k j)=Z (pT (Z ⟨T,j,Y⟩)):=fun k j hj=>by rw[Wc Mb Ac Ji j hj];simp[Ip]
 have aF:∀(g:aai)(L:RZ)(j:Nat)(l:Int),g.own T=Z (.cells (Bp L))->L[j]?=Z l->aaC pG g 3 ⟨T,j,Y⟩=Z (.int .i64 l):=fun g L j l ho hl=>by rw[Fq Ac rfl ho];simp[Bp,hl]
 refine aab.intro (fun k fr hh=>∃(v:Nat)(L:RZ),k=n-v/\v<=n/\fr=mkF [(1,o),(5,y),(6,sL (Z T) n n),(19,n),(20,v)]/\hh.own T=Z (.cells (Bp L))/\Le hB hh/\TO n on es v L)
  n [(1,o),(5,y),(6,sL (Z T) n n),(19,n),(20,(0:Nat))] fD ⟨0,_,rfl,Og _,rfl,br,aC,TO.start n on es⟩ ?_
 rintro k fr hh ai ⟨v,L,rfl,hv,rfl,oT,A,tO⟩;refine Uy ?_;refine Kl.intro (fun ht=>?_) (fun hf=>?_)
 rotate_left
 .have aH:n<=v:=vp hf;obtain rfl:v=n:=NH;refine Uy ?_;exact⟨L,RL.Wh (RS.whole oT (by grind[TO.len])),tO.done hR,(ae.trans H).trans A⟩
 have c:v<n:=acb ht;clear ht;have S:=CA (show v<L.length by grind[TO.len]);generalize L[v]'(by grind)=lv at S
 have C:=aD hh A v c;have aj:=aF hh L v lv oT S;by_cases c1:on v=tT
 .rw[c1]at C;simp only[HO,seval,z _ v c,C,aaa v NH];exact tn (n-(v+1)) [(1,o),(5,y),(6,sL (Z T) n n),(19,n),(20,(v+1:Nat))] NH fD ⟨v+1,L,rfl,c,rfl,oT,A,tO.skip (.inl c1)⟩
 rw[agy]at c1;rw[c1]at C;by_cases c2:lv>=0
 .simp only[HO,seval,z _ v c,C,R _ v c,aj,c2,aaa v NH];exact tn (n-(v+1)) [(1,o),(5,y),(6,sL (Z T) n n),(19,n),(20,(v+1:Nat))] NH fD ⟨v+1,L,rfl,c,rfl,oT,A,tO.skip (.inr (by rw[S];intro e;injection e with e;omega))⟩
 have aa:L[v]?=Z (-1):=by grind[TO.val]
 have st1:aaK pG hh 3 (pT (Z ⟨T,v,Y⟩)) v=Z (hh.put T (.cells (Bp (L.set v (v:Int))))):=by rw[QB (P:=pG) (t:=3) (x:=v) Ac Ji oT (off:=v) (by rw[uE,tO.len];exact c) rfl rfl,yy]
 have D:WF (hh.put T (.cells (Bp (L.set v (v:Int))))):=ai.put _ (ai.lt oT);have I:Le hB (hh.put T (.cells (Bp (L.set v (v:Int))))):=A.put _ nT;have J:(hh.put T (.cells (Bp (L.set v (v:Int))))).own T=Z (.cells (Bp (L.set v (v:Int)))):=aai.Y3 _ _ _;simp only[HO,seval,z _ v c,C,R _ v c,aj,c2,st1];generalize hh.put T (.cells (Bp (L.set v (v:Int))))=h4 at*;have⟨h5,e5,aq,bx,o5⟩:=Tt D [v]
 have nM:hB.own h4.next=Y:=I.next D (qL0 _)
 have bB:T≠h4.next:=fun e=>by have:=D.lt J;omega
 simp only[HO,seval,DQ,e5];have aJ:=tO.begin c c1 aa (fun a w=>(∃j,j<0/\[v][j]?=Z a)/\Jp es a w/\on w=fF) (fun a w h=>by grind)
 have gM:GI h5 (sL (Z h4.next) 1 1) (kz [v]):=GS.full o5 rfl (show 1<1000000000000 by decide)
 refine aab.intro (fun k fr m=>∃(i:Nat)(L:RZ)(d:vV)(met:II),k=n-i/\i<=met.length/\fr=mkF [(1,o),(5,y),(6,sL (Z T) n n),(7,v),(8,d),(9,i),(19,n),(20,v)]/\
   m.own T=Z (.cells (Bp L))/\Le hB m/\GI m d (kz met)/\blk d≠Z T/\Z2 hB d/\TI n on es v L met (fun a w=>(∃j,j<i/\met[j]?=Z a)/\Jp es a w/\on w=fF))
  n [(1,o),(5,y),(6,sL (Z T) n n),(7,v),(8,sL (Z h4.next) 1 1),(9,(0:Nat)),(19,n),(20,v)] fD
  ⟨0,_,_,[v],rfl,Og _,rfl,aq.own _ _ J,I.trans aq,gM,by grind[blk],fun b hb=>by grind[blk],aJ⟩ ?_
 clear aJ gM bB nM o5 bx aq e5 h5 J I D st1 C aj S aa c2 oT A tO ai;clear h4 hh L;rintro k fr m U ⟨i,L,d,met,rfl,hi,rfl,oT,leq,gm,nm,am,E⟩;have lm:=fun g=>gm.rl.DH g;have aK:=E.abP;rw[y6]at lm;simp only[HO,seval,lm];refine Kl.intro (fun ht=>?_) (fun hf=>?_)
 rotate_left
 .have aH:met.length<=i:=vp hf;simp only[HO,seval,aaa v NH];refine tn (n-(v+1)) [(1,o),(5,y),(6,sL (Z T) n n),(19,n),(20,(v+1:Nat))] NH fD ⟨v+1,L,rfl,c,rfl,oT,leq,E.finish fun a w ha V bF=>⟨?_,V,bF⟩⟩;grind[mem_iff_getElem?]
 have p:i<met.length:=acb ht;clear ht;have f:=CA p;have aL:=sY p;have aN:=gm.rl.TA i (by rw[y6];exact p);have W:=gm.rl.Uc i (by rw[y6];exact p);rw[aL]at W;generalize met[i]=u at f W;clear aL;have K:u∈met:=BS f;have b8:u<n:=by have:=(Ny.1 ((E.mm u).1 K)).1;grind[TI.len]
 have ar:u<(Zh n es).length:=by grind[Xq]
 have bH:=G.Wm u ar;have⟨uv,bI,s⟩:=G.NS u ar;have bN:(Zh n es).getD u []=(Zh n es)[u]:=D4 ar;generalize (Zh n es)[u]=row at s bN;have lr:=fun g=>s.DH g;have b9:row.length<=2000:=by have:=bV n es row (by grind);have:es.length<=594:=hr.len;omega
 simp only[HO,seval,aN,W,bH,bI m leq,lr];have aP:TI n on es v L met (fun a w=>((∃j,j<i/\met[j]?=Z a)/\Jp es a w/\on w=fF)\/(a=u/\(w:Int)∈row.take 0/\on w=fF)):=E.mono fun a w h=>by grind
 refine aab.intro (fun k fr m=>∃(q:Nat)(L:RZ)(d:vV)(met:II),k=row.length-q/\q<=row.length/\fr=mkF [(1,o),(5,y),(6,sL (Z T) n n),(7,v),(8,d),(9,i),(19,n),(20,v),(52,uv),(53,row.length),(54,q)]/\
   m.own T=Z (.cells (Bp L))/\Le hB m/\GI m d (kz met)/\blk d≠Z T/\Z2 hB d/\met[i]?=Z u/\TI n on es v L met (fun a w=>((∃j,j<i/\met[j]?=Z a)/\Jp es a w/\on w=fF)\/(a=u/\(w:Int)∈row.take q/\on w=fF)))
  row.length [(1,o),(5,y),(6,sL (Z T) n n),(7,v),(8,d),(9,i),(19,n),(20,v),(52,uv),(53,row.length),(54,(0:Nat))] fD
  ⟨0,L,d,met,rfl,Og _,rfl,oT,leq,gm,nm,am,f,aP⟩ ?_
 clear aP aN W lm;clear K f p aK E am nm gm leq oT U hi;clear m L d met;rintro k fr m U ⟨q,L,d,met,rfl,cc,rfl,oT,leq,gm,nm,am,f,E⟩;have K:u∈met:=BS f;have aK:=E.abP;have p:=(Ny.1 f).1;refine Uy ?_;refine Kl.intro (fun ht=>?_) (fun hf=>?_)
 rotate_left
 .have aH:row.length<=q:=vp hf;simp only[HO,seval,aaa i NH];refine tn (n-(i+1)) [(1,o),(5,y),(6,sL (Z T) n n),(7,v),(8,d),(9,(i+1:Nat)),(19,n),(20,v)] NH fD ⟨i+1,L,d,met,rfl,p,rfl,oT,leq,gm,nm,am,E.mono fun a w h=>?_⟩;grind[EW]
 have F:q<row.length:=acb ht;clear ht;have av:=s.TA q F;have X:=(s.le Nn.RP leq).Uc q F;have bQ:row.take (q+1)=row.take q++[row[q]]:=XJ F;have ay:row[q]∈(Zh n es).getD u []:=hGr;generalize row[q]=x at X bQ ay;obtain⟨w,rfl,r⟩:=Ru hR ay;have V:=(EW hR u w).1 ay;have M:=CA (show w<L.length by grind[TI.len]);generalize L[w]'(by grind)=lw at M
 have N:=aD m leq w r;have aT:=aF m L w lw oT M;by_cases c3:on w=tT
 .rw[c3]at N;simp only[HO,seval,av,X,z _ w r,N,aaa q NH];refine tn (row.length-(q+1)) [(1,o),(5,y),(6,sL (Z T) n n),(7,v),(8,d),(9,i),(19,n),(20,v),(52,uv),(53,row.length),(54,(q+1:Nat))] NH fD
   ⟨q+1,L,d,met,rfl,F,rfl,oT,leq,gm,nm,am,f,E.mono fun a b h=>?_⟩
  rcases h with h|⟨h1,h2,h3⟩
  .exact .inl h
  grind
 rw[agy]at c3;rw[c3]at N;have aW:∀(O:II),(∀j,j<met.length->O[j]?=met[j]?)->∀a b,((∃j,j<i/\O[j]?=Z a)/\Jp es a b/\on b=fF)\/(a=u/\(b:Int)∈row.take (q+1)/\on b=fF)->
   (((∃j,j<i/\met[j]?=Z a)/\Jp es a b/\on b=fF)\/(a=u/\(b:Int)∈row.take q/\on b=fF))\/b=w:=fun O hm a b h=>by
  rcases h with⟨⟨j,hj,cd⟩,h2⟩|⟨h1,h2,h3⟩
  .grind
  grind
 by_cases c4:lw<0
 rotate_left
 .simp only[HO,seval,av,X,z _ w r,N,R _ w r,aT,c4,aaa q NH];exact tn (row.length-(q+1)) [(1,o),(5,y),(6,sL (Z T) n n),(7,v),(8,d),(9,i),(19,n),(20,v),(52,uv),(53,row.length),(54,(q+1:Nat))] NH fD
   ⟨q+1,L,d,met,rfl,F,rfl,oT,leq,gm,nm,am,f,E.stay K V ⟨lw,M,NH⟩ (aW met fun _ _=>rfl)⟩
 have aX:L[w]?=Z (-1):=by
  rcases E.val w lw M with rfl|⟨_,k,_,rfl,_⟩
  .exact M
  .omega
 have st1:aaK pG m 3 (pT (Z ⟨T,w,Y⟩)) v=Z (m.put T (.cells (Bp (L.set w (v:Int))))):=by rw[QB (P:=pG) (t:=3) (x:=v) Ac Ji oT (off:=w) (by rw[uE,E.len];exact r) rfl rfl,yy]
 have D:WF (m.put T (.cells (Bp (L.set w (v:Int))))):=U.put _ (U.lt oT);have I:Le hB (m.put T (.cells (Bp (L.set w (v:Int))))):=leq.put _ nT;have J:(m.put T (.cells (Bp (L.set w (v:Int))))).own T=Z (.cells (Bp (L.set w (v:Int)))):=aai.Y3 _ _ _;have bW:GI (m.put T (.cells (Bp (L.set w (v:Int))))) d (kz met):=GS.put gm _ nm;simp only[HO,seval,av,X,z _ w r,N,R _ w r,aT,c4,st1];generalize m.put T (.cells (Bp (L.set w (v:Int))))=h4 at*;have⟨a7,h5,h6,e5,e6,g6,w6,l5,hf,hk⟩:=bW.push D (w:Int) (by grind[y6]);have⟨l6,a6⟩:=hf hB I am;have⟨bY,bZ⟩:=hk T _ J nm;have a8:kz met++[(w:Int)]=kz (met++[w]):=by simp[kz]
 rw[a8]at g6;simp only[HO,seval,e5,e6,aaa q NH];exact tn (row.length-(q+1)) [(1,o),(5,y),(6,sL (Z T) n n),(7,v),(8,a7),(9,i),(19,n),(20,v),(52,uv),(53,row.length),(54,(q+1:Nat))] NH fD
  ⟨q+1,_,a7,met++[w],rfl,F,rfl,bY,l6,g6,bZ,a6,by rw[VU p];exact f,E.push K V c3 aX (aW _ fun j hj=>VU hj)⟩
variable {j s t v:Nat} {met:List Bool} {o opn tH:II} {up:RZ}
theorem D3.lt(a:D3 es){p q:Pr}(b:i<j)(hi:es[i]?=Z p)(c:es[j]?=Z q):p.1<q.1\/p.1=q.1/\p.2<q.2:=(Hv p q).1 (a i j p q b hi c)
theorem besM_asc':∀(k:Nat)(es:xLP),es.length=k->aV n es->D3 es->∀u,((Zh n es).getD u []).Pairwise (·<·):=by
 intro k
 induction k with
 |zero=>
  intro es d _ _ u;obtain rfl:=abZ d;have f:(Zh n []).getD u []=[]:=by grind[Zh]
  rw[f];exact .nil
 |succ k s=>
  intro g d t ha u;obtain⟨es,p,rfl⟩:∃es p,g=es++[p]:=by
   rcases kS g with rfl|⟨es,p,h⟩
   all_goals grind
  have c:aV n es:=fun q m=>t q (by simp[m]);have mi:D3 es:=fun i j a b o hi B=>ha i j a b o hGr hGr;have s:=s es hGr c mi;have C:=t p Ma;have low:∀u:Nat,∀x∈(Zh n es).getD u [],((u:Int)=p.1->x<p.2)/\((u:Int)=p.2->x<p.1):=by
   intro u x v;obtain⟨w,rfl,_⟩:=Ru c v;have l:=(EW c u w).1 v;have key:∀q∈es,q.1<p.1\/q.1=p.1/\q.2<p.2:=by intro q m;have⟨i,hi⟩:=vZ.1 m;have r:=(Ny.1 hi).1;exact ha.lt (i:=i) (j:=es.length) r hGr Ma
   rcases l with h|h<;>have y:=c _ h<;>have h2:=key _ h<;>simp only at y h2<;>constructor<;>intro e<;>omega
  have gd:∀(rows:AM)(x:Int)(i:Nat),(rows.set i (rows.getD i []++[x])).getD u []=if i=u/\i<rows.length then rows.getD u []++[x]else rows.getD u []:=hGr
  rw[NJ];have z:=Xq n es;have y:p.1.toNat<n:=NH;simp only[Xs];rw[gd];simp only[Ua,z];have A:=gd (Zh n es) p.2 p.1.toNat;rw[z]at A;rw[A];by_cases D:p.1.toNat=u
  .grind
  .by_cases E:p.2.toNat=u
   .grind
   grind
theorem KW(es:xLP)(a:aV n es)(ha:D3 es)(u:Nat):((Zh n es).getD u []).Pairwise (·<·):=besM_asc' es.length es rfl a ha u
def Full(es:xLP)(o:II)(x:Nat):Prop:=∀y,Jp es x y->y∈o
inductive du (n:Nat) (es:xLP) (from_:Nat):II->RZ->Prop
 |start:du n es from_ [from_] (rP n (-1))
 |step {o:II} {up:RZ} {k v w:Nat}:du n es from_ o up->o[k]?=Z v->Jp es v w->w∉o->(∀y,Jp es v y->y∉o->w<=y)->(∀(j x:Nat),k<j->o[j]?=Z x->Full es o x)->du n es from_ (o++[w]) (up.set w (v:Int))
structure Oc (n:Nat) (es:xLP) (from_:Nat) (o:II) (up:RZ):Prop where
 KP:du n es from_ o up
 full:∀x∈o,Full es o x
theorem du.len(d:du n es s o up):1<=o.length/\up.length=n:=by
 induction d<;>grind
theorem du.same(d:du n es s o up):∀{b:II}{a:RZ},du n es s b a->o.length=b.length->o=b/\up=a:=by
 induction d with
 |start=>intro b a c j;cases c<;>grind
 |@step o up k v w d l ha hw u hf m=>
  intro b a c j;cases c with
  |start=>grind
  |@step x p k1 q w1 d1 e f g r i=>
   obtain⟨rfl,rfl⟩:=m d1 hGr;have t:k=k1:=by
    rcases oZ k k1 with h|h|h
    .exact absurd (hf k1 q h e w1 f) g
    .exact h
    .exact absurd (i k v h l w ha) hw
   grind
theorem du.peel(d:du n es s o up):∀m,1<=m->m<o.length->∃a b,du n es s a b/\a.length=m/\∃x∈a,¬Full es a x:=by
 induction d with
 |start=>grind
 |@step o up k v w d c ha hw e hf g=>
  intro m i h2;by_cases h:m<o.length
  .grind
  .simp at h2;exact⟨o,up,d,NH,v,BS c,fun f=>hw (f w ha)⟩
theorem Oc.uniq{o d:II}{up c:RZ}(a:Oc n es s o up)(b:Oc n es s d c):o=d/\up=c:=by
 have key:∀{o d:II}{up c:RZ},Oc n es s o up->Oc n es s d c->¬o.length<d.length:=by intro o d up c a b h;have⟨g,e,d2,f,x,i,hf⟩:=b.KP.peel o.length a.KP.len.1 h;obtain⟨rfl,rfl⟩:=a.KP.same d2 f.symm;grind[Oc.full]
 have j:=key a b;have h2:=key b a;exact a.KP.same b.KP NH
structure DS (n:Nat) (es:xLP) (s:Nat) (met:List Bool) (tH:II) (o opn:II) (up:RZ):Prop where
 KP:du n es s o up
 metl:met.length=n
 mm:∀v,v<n->(met[v]?=Z tT↔v∈o)
 trl:tH.length=n
 tr:∀v t,tH[v]?=Z t->t<=((Zh n es).getD v []).length/\∀x∈((Zh n es).getD v []).take t,x.toNat∈o
 sub:opn.Sublist o
 closed:∀v∈o,v∉opn->Full es o v
 lt:∀v∈o,v<n
 nodup:o.Nodup
theorem DS.start{n:Nat}{es:xLP}{s:Nat}(hs:s<n):DS n es s ((rP n fF).set s tT) (rP n 0) [s] [s] (rP n (-1)) where
 KP:=.start
 metl:=by simp
 mm v a:=hGr
 trl:=by simp
 tr v t c:=hGr
 sub:=alu _
 closed v a b:=absurd a b
 lt v a:=hGr
 nodup:=by simp
theorem DS.len_o(d:DS n es s met tH o opn up):o.length<=n:=by have:o.length<=(rG n).length:=d.nodup.length_le_of_subset (by grind[DS.lt]);grind
def DS.len_opn(d:DS n es s met tH o opn up):opn.length<=n:=K4 d.sub.length_le d.len_o
theorem DS.pop(b:aV n es)(d:DS n es s met tH o (opn++[v]) up)(a:tH[v]?=Z ((Zh n es).getD v []).length):DS n es s met tH o opn up:=
 {d with
  sub:=by grind[List.Sublist.trans,DS.sub]
  closed:=fun x c f=>by
   by_cases e:x=v
   .intro y g;have:=(d.tr _ _ a).2 y (by grind[EW]);grind
   grind[DS.closed]}
theorem DS.skip{x:Int}(d:DS n es s met tH o opn up)(f:tH[v]?=Z t)(c:((Zh n es).getD v [])[t]?=Z x)(h:x.toNat∈o):DS n es s met (tH.set v (t+1)) o opn up:=
 {d with
  trl:=by simp[d.trl]
  tr:=fun u q a=>by
   rw[fj]at a;split at a
   .rename_i e;subst e;split at a
    .injection a with a;subst a;have g:=(Ny.1 c).1;refine⟨g,fun y b=>?_⟩;rw[fE,c]at b;simp at b;rcases b with b|b
     .exact(d.tr _ _ f).2 y b
     grind
    .cases a
   .exact d.tr u q a}
theorem DS.last(d:DS n es s met tH o (opn++[v]) up):
  ∃k,o[k]?=Z v/\∀(j x:Nat),k<j->o[j]?=Z x->Full es o x:=by
 obtain⟨a,b,rfl,h,h2⟩:=List.append_sublist_iff.1 d.sub;have g:v∈b:=hGr;have⟨i,hi⟩:=vZ.1 g;refine⟨a.length+i,by rw[Eh NH];simpa using hi,fun j x l f=>?_⟩;have e:x∈a++b:=BS f;refine d.closed x e fun c=>?_;rw[Eh NH]at f;have nd:=d.nodup;rw[abe,Gw]at c;rcases c with c|rfl
 .grind
 .have:j-a.length=i:=by grind[List.getElem?_inj]
  omega
theorem DS.push(g:aV n es)(ha:D3 es)(d:DS n es s met tH o (opn++[v]) up)(p:tH[v]?=Z t)(j:((Zh n es).getD v [])[t]?=Z (w:Int))(x:w∉o):
  DS n es s (met.set w tT) (tH.set v (t+1)) (o++[w]) (opn++[v]++[w]) (up.set w (v:Int)):=by
 have⟨k,z,hf⟩:=d.last;have l:(w:Int)∈(Zh n es).getD v []:=BS j;have c:=(EW g v w).1 l;have m:=(c.lt g).2;have r:=KW es g ha v;refine⟨.step d.KP z c x (fun y a A=>?_) hf,by simp[d.metl],fun u b=>?_,by simp[d.trl],fun u q f=>?_,(by grind[DS.sub]),fun u b B=>?_,fun u b=>?_,?_⟩
 .obtain⟨i,hi⟩:=vZ.1 ((EW g v y).2 a);rcases oZ i t with h|h|h
  .have:=(d.tr v t p).2 (y:Int) (BS (i:=i) hGr);grind
  .grind
  grind[pairwise_iff_getElem]
 .grind[DS.metl,DS.mm]
 .rw[fj]at f;split at f
  .rename_i e;subst e;split at f
   .injection f with f;subst f;refine⟨(Ny.1 j).1,fun y a=>?_⟩;rw[fE,j]at a;simp at a;rw[abe];rcases a with a|a
    .exact .inl ((d.tr _ _ p).2 y a)
    grind
   .cases f
  .obtain⟨C,h2⟩:=d.tr u q f;grind
 .rw[abe,Gw]at b;rcases b with b|rfl
  .exact fun y a=>MY _ (d.closed u b (by grind[mem_append_left]) y a)
  grind
 .rw[abe,Gw]at b;rcases b with b|rfl
  .exact d.lt u b
  .exact m
 grind[DS.nodup]
theorem DS.fin(d:DS n es s met tH o [] up):Oc n es s o up:=⟨d.KP,(by grind[DS.closed])⟩
end
end Go.Fw
