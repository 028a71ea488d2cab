/- A text. -/
import Derived.Shelf.Sort.Plain
import Derived.Shelf.Slices.In.SortNone
import Derived.Shelf.Slices.CompactI
import Derived.Test.YtnakkbhjoiheoaaGreatFwZC
set_option linter.all false
set_option maxRecDepth 99999
set_option maxHeartbeats 9999999
open Go.Proofs
open Option renaming some→Z,none→Y
open Bool renaming true→tT,false→fF
open List renaming replicate→rP,range→rG
open Go.Value renaming slice→sL,pointer→pT
open Go renaming Value→vV
open Go.Proofs.Tryz renaming prog→pG
open Go.Proofs.Tryz
open List
namespace Go.Fw
section
attribute [local irreducible] Kp MQ lU KO1 KO KN KX KE VK Kl ZJ TC aab
theorem Beside_g(W0:LA)(v:vV)(n:Nat)(es:xLP)(h:aai)(hg:GR h v ⟨(n:Int),es⟩)(hr:bX ⟨(n:Int),es⟩):AC pG W0 44 [v] h fun x h'=>RL isG h' x (Zh n es)/\Le h h':=by
 have aD:=hg
 obtain⟨ev,rfl,hp⟩:=hg.open
 have bH:(n:Int)<=200:=hr.n1;have bI:es.length<=594:=hr.len;have y:∀p∈es,0<=p.1/\p.1<p.2/\p.2<(n:Int):=fun p aF=>by have⟨i,hi⟩:=Og.1 aF;exact(hr.ok i (Ny.1 hi).1 p hi).1
 refine AC.vF akP ntmps44 results44 fun aH=>?_;obtain⟨h1,b1,A,bQ,-,lA⟩:=r8 (n:=(n:Int)) aH hp
 generalize h.next=B at*
 have aJ:=lA h1 (Le.refl _);have ll:=fun g=>hp.len g;simp only[HO,seval,b1,aJ.1];refine TC.intro PJ ⟨qS6,rfl,WY⟩ (ak W0 _ _ h1 (aD.le A)) ?_;rintro x h2 C ⟨⟨bb,rfl,aK⟩,m⟩;obtain rfl:bb=tT:=aK.2 hr;have aL:=lA h2 m;have mk:=Ye (P:=pG) (t:=25) (z:=.slice Y 0 0) h2 qS8 rfl rfl rfl rfl Ji Mb Ji n NH;have⟨h3,e3,aN,bW,o3⟩:=Tt C (rP n (.slice Y 0 0));rw[e3]at mk
 have nL:h2.own h2.next=Y:=(Le.refl h2).next C (qL0 _)
 generalize h2.next=L at*
 have fT:=lA h3 (m.trans aN);simp only[HO,seval,Ii,Di,Ip,EL,aL.2.1,mk,fT.2.2,ll];have R0:Rows h2 h3 L (rP n (.slice Y 0 0)) (Zh n (es.take 0)):=by grind[Zh,Rows.start]
 refine aab.intro (fun k fr hh=>∃(i:Nat)(us:xLV),k=es.length-i/\i<=es.length/\fr=mkF [(3,sL (Z L) n n),(13,ev),(14,.int .i64 es.length),(15,i)]/\Rows h2 hh L us (Zh n (es.take i)))
  es.length [(3,sL (Z L) n n),(13,ev),(14,.int .i64 es.length),(15,(0:Nat))] fD ⟨0,_,rfl,aax _,rfl,R0⟩ ?_
 rintro k fr hh D ⟨i,us,rfl,hi,rfl,R⟩;refine Uy ?_;refine Kl.intro (fun ht=>?_) (fun hf=>?_)
 rotate_left
 .have aP:es.length<=i:=vp hf;rw[abe aP]at R;refine Uy ?_;grind[Rows.rlG,Rows.len,Xq,Le.trans,Rows.le]
 have l:i<es.length:=acb ht;clear ht;have o:=CA l;have F:es.take (i+1)=es.take i++[es[i]]:=XJ l;generalize es[i]=p at o F;have⟨p1,p2,p3⟩:=y p (BS o);have aT:=hp.le ((A.trans m).trans R.le);have ad:=hp.addr (k:=.i64) i l;have ld:=aT.load o;have⟨bY,h4,e4,aW,aX,a6,G⟩:=Ut D p
 have a7:hh.own hh.next=Y:=(Le.refl hh).next D (qL0 _)
 have⟨a,c⟩:=p;simp only at p1 p2 p3;obtain⟨a,rfl⟩:=qL7 p1;obtain⟨c,rfl⟩:=qL7 (show 0<=c by omega);have R4:=R.up aX
 have a8:∀(v:Nat) u,us[v]?=Z u->blk u≠Z hh.next:=fun v u hu hb=>by have bg:∃q,(Zh n (es.take i))[v]?=Z q:=⟨_,CA (by grind[Rows.len])⟩;have⟨q,hq⟩:=bg;exact(R.gs v u q hu hq).Sy hb a7
 have H:hh.next≠L:=fun e=>by have:=R.oL;grind
 generalize hh.next=E at*
 simp only[HO,seval,ad,ld,e4,aW];have bh:=bV n (es.take i);have bZ:(es.take i).length<=594:=hGr;have I:∀(k:IntKind)(j:Nat),j<n->aao pG 25 (sL (Z L) n n) (.int k j)=Z (pT (Z ⟨L,j,Y⟩)):=fun k j hj=>by rw[Wc qS8 Mb Ji j hj];simp[Ip]
 have J:a<(Zh n (es.take i)).length:=by grind[Xq]
 have K:=CA J;have M:(Zh n (es.take i)).getD a []=(Zh n (es.take i))[a]:=D4 J;have N:((Zh n (es.take i))[a]).length<=100000:=hGr;generalize (Zh n (es.take i))[a]=ra at K M N;have⟨u,u',h5,h6,h7,hu,e5,e6,e7,l5,l6,b0,R7,bk,keep⟩:=R4.push a6 K (c:Int) N;have⟨d,b,O⟩:=keep _ _ G H a8;have Q:=lK G;have S:=HY G;have T:=lK (l5.own _ _ G);have U:=HY (l5.own _ _ G);have V:=lK d;have W:=HY d;have X:=lK b;have aa:=HY b;simp only at Q S T U V W X aa;have bm:aaC pG h4 28 ⟨L,a,Y⟩=Z u:=by rw[Fq Mb rfl R4.oL];exact hu
 have bo:aaC pG h5 28 ⟨L,a,Y⟩=Z u:=by rw[Fq Mb rfl (l5.own _ _ R4.oL)];exact hu
 have bs:aas pG h4 28 1 [(0,c)]=Z (sL (Z h4.next) 1 1,h5):=by rw[DQ,e5]
 refine gh (fRn 0 10 (JQ 10 [9] (JQ 11 [7,10] (tA [12] (JQ 13 [0,1,2,3,4,5,6,7,8,9,10,11,12] .done))))) ?_;simp only[HO,seval,Qg,Dh,Z0,Ip,EL,Q,S,T,U,V,W,I _ a NH,bm,bo,bs,e6,e7];have b2:((Zh n (es.take i)).set a (ra++[(c:Int)])).length=n:=by simp[Xq]
 have r:c<((Zh n (es.take i)).set a (ra++[(c:Int)])).length:=NH;have ae:=CA r;have ai:((Zh n (es.take i)).set a (ra++[(c:Int)])).getD c []=((Zh n (es.take i)).set a (ra++[(c:Int)]))[c]:=D4 r;have aj:(((Zh n (es.take i)).set a (ra++[(c:Int)]))[c]).length<=100000:=by
  rcases agK (aev r)with e|e
  .grind
  .rw[e];simp;grind
 generalize ((Zh n (es.take i)).set a (ra++[(c:Int)]))[c]=rc at ae ai aj;have⟨w,w',h8,h9,b3,hw,e8,e9,br,l8,l9,b4,aq,bN,s⟩:=R7.push bk ae (a:Int) aj;obtain⟨f,ar,-⟩:=s _ _ b H O;have av:=lK (l8.own _ _ b);have ay:=HY (l8.own _ _ b);have az:=lK f;have aC:=HY f;simp only at av ay az aC;have bx:aaC pG h7 28 ⟨L,c,Y⟩=Z w:=by rw[Fq Mb rfl R7.oL];exact hw
 have bB:aaC pG h8 28 ⟨L,c,Y⟩=Z w:=by rw[Fq Mb rfl (l8.own _ _ R7.oL)];exact hw
 have bF:aas pG h7 28 1 [(0,a)]=Z (sL (Z h7.next) 1 1,h8):=by rw[DQ,e8]
 refine gh (fRn 0 10 (JQ 10 [9] (JQ 11 [7,10] (tA [12] (JQ 13 [0,1,2,3,4,5,6,7,8,9,10,11,12] .done))))) ?_;simp only[HO,seval,Qg,Dh,Z0,Ip,EL,X,aa,av,ay,az,aC,I _ c NH,bx,bB,bF,e9,br,aaa i NH];have:Xs (Zh n (es.take i)) ((a:Int),(c:Int))=((Zh n (es.take i)).set a (ra++[(c:Int)])).set c (rc++[(a:Int)]):=by simp only[Xs,yM,M,ai]
 rw[<-this,<-NJ,<-F]at aq;exact tn (es.length-(i+1)) [(3,sL (Z L) n n),(13,ev),(14,.int .i64 es.length),(15,(i+1:Nat))] NH fD ⟨i+1,_,rfl,l,rfl,aq⟩
def oe(a:LA)(v:vV)(n:Nat)(es:xLP)(h:aai)(hg:GR h v ⟨(n:Int),es⟩)(b:bX ⟨(n:Int),es⟩):AC pG a 44 [v] h fun x h'=>RL (RL RP) h' x (Zh n es)/\Le h h':=(Beside_g a v n es h hg b).mono fun _ _ h=>⟨h.1.map fun _ _ g=>g.rl,h.2⟩
def aO(p:Pr)(v:Int):Bool:=decide (p.1=v)||decide (p.2=v)
def onE(ps:xLP)(v:Int):Bool:=ps.any fun p=>aO p v
def eqP(p q:Pr):aEq pG 49 (UI p) (UI q)=Z (decide (p=q)):=by
 have e:p=q↔p.1=q.1/\p.2=q.2:=Prod.ext_iff;simp only[aEq,qS5,Ac,UI,aa9,ts3];by_cases a:p.1=q.1
 .by_cases h2:p.2=q.2
  .simp[e,a,h2]
  .simp[e,a,h2]
 .simp[e,a]
def gfP(p:Pr):aci (UI p)=tT:=rfl
def abinP(p q:Pr):mM pG .eql 49 (UI p) (UI q)=Z (.bool (decide (p=q)))/\mM pG .neq 49 (UI p) (UI q)=Z (.bool (!decide (p=q))):=by
 have a:ae3 pG .eql 49 (UI p) (UI q)=match aEq pG 49 (UI p) (UI q)with|some b=>Z (.bool b)|none=>Y:=rfl
 have h2:ae3 pG .neq 49 (UI p) (UI q)=match aEq pG 49 (UI p) (UI q)with|some b=>Z (.bool (!b))|none=>Y:=rfl
 constructor
 .rw[mM,gfP,cond_true,a,eqP]
 .rw[mM,gfP,cond_true,h2,eqP]
def hasB(ps:xLP)(p:Pr):Bool:=ps.any fun q=>decide (q=p)
def hasB_iff(ps:xLP)(p:Pr):hasB ps p=tT↔p∈ps:=by simp[hasB]
theorem abn(u:LA)(v w:vV)(ps a:xLP)(h:aai)(n:PR h v ps)(hw:PR h w a)(A:ps.length<=100000):AC pG u 17 [v,w] h fun x h'=>x=.bool (decide (ps=a))/\h'=h:=by
 refine AC.vF func17 ntmps17 results17 fun y=>?_;have o:=fun g=>n.len g;have lw:=fun g=>hw.len g;by_cases c:(ps.length:Int)=(a.length:Int)
 rotate_left
 .simp only[HO,seval,o,lw,bne,eq_false c];exact⟨by rw[IE (fun e=>c (by rw[e]))],trivial⟩
 have c':ps.length=a.length:=NH;simp only[HO,seval,o,lw,bne,eq_true c];refine lIn (fun k fr hh=>∃i:Nat,k=ps.length-i/\i<=ps.length/\hh=h/\fr=mkF [(0,v),(1,w),(5,i)]/\ps.take i=a.take i) ⟨0,rfl,aax _,rfl,rfl,rfl⟩ ?_;rintro k fr hh-⟨i,rfl,hi,rfl,rfl,s⟩;refine Sk o ?_;refine Kl.intro (fun z=>?_) (fun hf=>?_)
 .have b:i<ps.length:=acb z;have f:=CA b;have j:=CA (show i<a.length by omega);have t1:ps.take (i+1)=ps.take i++[ps[i]]:=XJ b;have t:a.take (i+1)=a.take i++[a[i]'(by omega)]:=XJ NH
  generalize ps[i]=p at f t1;generalize a[i]'(by omega)=q at j t
  have ad:=n.addr (k:=.i64) i b;have ld:=n.load f;have l:=hw.addr (k:=.i64) i NH;have m:=hw.load j;have d:=(abinP p q).2;refine Uy ?_;refine gh (fRn 0 9 .done) ?_;cases hb:decide (p=q)with
  |true=>rw[hb]at d;have e:=acg hb;simp only[kS1,aer,aet,ab6,Zm,abr,aa6,acZ,aeb,aec,putDst,flat,kA,kB,Nat.reduceLT,↓reduceIte,kC,Nat.reduceEqDiff,aeZ,mM,aci,ae3,adY,aUn,acy,agk,G8,acD,acf,ad7,mkF,Yx,reduceCtorEq,kD,kE,kF,kG,kH,kI,kJ,kK,acW,abt,kD1,Nat.reduceBEq,abj,kL,kM,kN,kO,ad,ld,l,m,d,-mM,aaa i NH];exact lgA NH ⟨i+1,rfl,b,rfl,rfl,by rw[t1,t,s,e]⟩
  |false=>rw[hb]at d;have e:=qL215 hb;simp only[kS1,aer,aet,ab6,Zm,abr,aa6,acZ,aeb,aec,putDst,flat,kA,kB,Nat.reduceLT,↓reduceIte,kC,Nat.reduceEqDiff,aeZ,mM,aci,ae3,adY,aUn,acy,agk,G8,acD,acf,ad7,mkF,Yx,reduceCtorEq,kD,kE,kF,kG,kH,kI,kJ,kK,acW,abt,kD1,Nat.reduceBEq,abj,kL,kM,kN,kO,ad,ld,l,m,d,-mM];exact by rw[IE (fun e'=>e hGr)]
 .have r:ps.length<=i:=vp hf;rw[abe r,abe NH]at s;refine Uy ?_;grind
variable {L:RZ} {cl cl':Nat->Nat->Prop} {es:List Pr} {met:II} {n u v w x:Nat} {on:Nat->Bool} {α:Type}
theorem cA(l:List α)(i j:Nat)(a d:α):(l.set i a).getD j d=if i=j/\i<l.length then a else l.getD j d:=hGr
def aV(n:Nat)(es:xLP):Prop:=∀p∈es,0<=p.1/\p.1<p.2/\p.2<(n:Int)
theorem bX.GD(b:bX ⟨(n:Int),es⟩):aV n es:=fun p a=>by have⟨i,hi⟩:=Og.1 a;exact(b.ok i (Ny.1 hi).1 p hi).1
def Jp(es:xLP)(u w:Nat):Prop:=((u:Int),(w:Int))∈es\/((w:Int),(u:Int))∈es
theorem Jp.symm{es:xLP}{u w:Nat}(h:Jp es u w):Jp es w u:=Or.symm h
theorem Jp.lt(a:aV n es)(h:Jp es u w):u<n/\w<n:=by
 rcases h with h|h<;>have:=a _ h<;>simp only at this<;>omega
theorem bes_step(rows:AM)(p:Pr)(u:Nat)(x:Int)(a:p.1.toNat<rows.length)(h2:p.2.toNat<rows.length):
  x∈(Xs rows p).getD u []↔x∈rows.getD u []\/(p.1.toNat=u/\x=p.2)\/(p.2.toNat=u/\x=p.1):=by
 simp only[Xs,cA,WZ];grind
theorem FH(n:Nat):∀(es:xLP)(rows:AM),rows.length=n->aV n es->∀(u:Nat)(x:Int),x∈(es.foldl Xs rows).getD u []↔x∈rows.getD u []\/∃p∈es,(p.1.toNat=u/\x=p.2)\/(p.2.toNat=u/\x=p.1)
 |[],rows,_,_,u,x=>by simp
 |p::es,rows,c,a,u,x=>by have d:=a p Ma;rw[gK,FH n es _ (by grind[pO]) (fun q b=>a q (by simp[b])) u x,bes_step rows p u x NH NH];grind
theorem EW(d:aV n es)(u w:Nat):(w:Int)∈(Zh n es).getD u []↔Jp es u w:=by
 have c:(rP n ([]:RZ)).getD u []=[]:=hGr;rw[Zh,FH n es _ Ma d,c];simp only[fj,false_or,Jp];constructor
 .rintro⟨⟨a,b⟩,e,⟨f,h2⟩|⟨f,h2⟩⟩
  .have:=d _ e;grind
  .have:=d _ e;grind
 grind
theorem Ru(b:aV n es){x:Int}(c:x∈(Zh n es).getD u []):∃w:Nat,x=(w:Int)/\w<n:=by
 have a:(rP n ([]:RZ)).getD u []=[]:=hGr;rw[Zh,FH n es _ Ma b,a]at c;simp only[fj,false_or]at c;obtain⟨p,d,⟨_,rfl⟩|⟨_,rfl⟩⟩:=c
 .have:=b _ d;exact⟨p.2.toNat,NH,NH⟩
 .have:=b _ d;exact⟨p.1.toNat,NH,NH⟩
inductive Cn (on:Nat->Bool) (es:xLP):Nat->Nat->Prop
 |refl {u:Nat}:on u=fF->Cn on es u u
 |step {u w x:Nat}:Cn on es u w->Jp es w x->on x=fF->Cn on es u x
theorem Cn.off1(h:Cn on es u w):on u=fF:=by
 induction h with
 |refl h=>exact h
 |step _ _ _ a=>exact a
theorem Cn.AB(h:Cn on es u w):on w=fF:=by
 cases h<;>grind
theorem Cn.trans(h:Cn on es u w)(k:Cn on es w x):Cn on es u x:=by
 induction k with
 |refl _=>exact h
 |step _ a o b=>exact b.step a o
theorem Cn.symm{on:Nat->Bool}{es:xLP}{u w:Nat}(h:Cn on es u w):Cn on es w u:=by
 induction h with
 |refl h=>exact .refl h
 |step h a o b=>exact((Cn.refl o).step a.symm h.AB).trans b
structure TO (n:Nat) (on:Nat->Bool) (es:xLP) (v:Nat) (L:RZ):Prop where
 len:L.length=n
 val:∀(u:Nat) l,L[u]?=Z l->l=-1\/on u=fF/\∃k:Nat,k<v/\l=(k:Int)/\Cn on es k u
 qi:∀(u w:Nat) l,L[u]?=Z l->0<=l->Jp es u w->on w=fF->L[w]?=Z l
 low:∀u,u<v->u<n->on u=fF->L[u]?≠Z (-1)
structure TI (n:Nat) (on:Nat->Bool) (es:xLP) (v:Nat) (L:RZ) (met:II) (cl:Nat->Nat->Prop):Prop where
 len:L.length=n
 val:∀(u:Nat) l,L[u]?=Z l->l=-1\/on u=fF/\∃k:Nat,k<=v/\l=(k:Int)/\Cn on es k u
 qi:∀(u w:Nat) l,L[u]?=Z l->0<=l->l<(v:Int)->Jp es u w->on w=fF->L[w]?=Z l
 low:∀u,u<=v->u<n->on u=fF->L[u]?≠Z (-1)
 mm:∀u,u∈met↔L[u]?=Z (v:Int)
 nd:met.Nodup
 cl:∀u w,cl u w->L[w]?=Z (v:Int)
theorem TO.start(n:Nat)(on:Nat->Bool)(es:xLP):TO n on es 0 (rP n (-1)):=⟨Ma,fun u l h=>.inl (qL192 (BS h)),fun u w l h a=>by grind,fun u h=>by omega⟩
theorem TO.skip(t:TO n on es v L)(h:on v=tT\/L[v]?≠Z (-1)):TO n on es (v+1) L:=⟨t.len,fun u l a=>(t.val u l a).imp id fun⟨b,k,h2,h3⟩=>⟨b,k,NH,h3⟩,t.qi,fun u c d e=>by grind[TO.low]⟩
theorem TO.begin(t:TO n on es v L)(j:v<n)(c:on v=fF)(k:L[v]?=Z (-1))(cl:Nat->Nat->Prop)(b:∀u w,¬cl u w):TI n on es v (L.set v (v:Int)) [v] cl:=by
 have d:v<L.length:=hGr;have f:∀u,u≠v->(L.set v (v:Int))[u]?=L[u]?:=fun u g=>by grind
 have heq:(L.set v (v:Int))[v]?=Z (v:Int):=hGr;refine⟨by simp[t.len],fun u l a=>?_,fun u w l a m o ha hw=>?_,fun u g p i=>?_,fun u=>?_,Ma,fun u w h=>absurd h (b u w)⟩
 .by_cases e:u=v
  .subst e;rw[heq]at a;injection a with a;exact .inr ⟨c,u,qL0 _,a.symm,.refl c⟩
  grind[TO.val]
 .grind[TO.qi]
 .grind[TO.low]
 grind[TO.val]
theorem TI.mono(t:TI n on es v L met cl)(h:∀u w,cl' u w->cl u w):TI n on es v L met cl':=⟨t.len,t.val,t.qi,t.low,t.mm,t.nd,fun u w k=>t.cl u w (h u w k)⟩
theorem TI.off(t:TI n on es v L met cl)(a:u∈met):on u=fF/\Cn on es v u:=by
 rcases t.val u _ ((t.mm u).1 a)with h|⟨h,k,_,h2,h3⟩
 all_goals grind
theorem TI.stay(t:TI n on es v L met cl)(f:u∈met)(ha:Jp es u w)(c:∃l,L[w]?=Z l/\l≠-1)(h:∀a b,cl' a b->cl a b\/b=w):TI n on es v L met cl':=by
 refine⟨t.len,t.val,t.qi,t.low,t.mm,t.nd,fun a b k=>?_⟩;rcases h a b k with h|rfl
 .exact t.cl a b h
 .obtain⟨l,d,g⟩:=c;rcases t.val _ _ d with h'|⟨i,k,j,rfl,_⟩
  .grind
  .by_cases e:k=v
   .grind
   .have:=t.qi b u (k:Int) d NH NH ha.symm (t.off f).1;grind[TI.mm]
theorem TI.push(t:TI n on es v L met cl)(g:u∈met)(ha:Jp es u w)(c:on w=fF)(f:L[w]?=Z (-1))(h:∀a b,cl' a b->cl a b\/b=w):
  TI n on es v (L.set w (v:Int)) (met++[w]) cl':=by
 have i:w<L.length:=(Ny.1 f).1;have j:∀x,x≠w->(L.set w (v:Int))[x]?=L[x]?:=fun x m=>by grind
 have heq:(L.set w (v:Int))[w]?=Z (v:Int):=hGr;have o:w∉met:=fun h=>by grind[TI.mm]
 refine⟨by simp[t.len],fun x l d=>?_,fun x y l d r s p z=>?_,fun x m A q=>?_,fun x=>?_,?_,fun a b k=>?_⟩
 .by_cases e:x=w
  .subst e;rw[heq]at d;injection d with d;exact .inr ⟨c,v,qL0 _,d.symm,(t.off g).2.step ha c⟩
  grind[TI.val]
 .grind[TI.qi]
 .grind[TI.low]
 .grind[TI.mm]
 .grind[TI.nd]
 .rcases h a b k with h|rfl
  .have:=t.cl a b h;grind
  .exact heq
theorem TI.finish(t:TI n on es v L met cl)(h:∀u w,u∈met->Jp es u w->on w=fF->cl u w):TO n on es (v+1) L:=by
 refine⟨t.len,fun u l a=>(t.val u l a).imp id fun⟨b,k,h2,h3⟩=>⟨b,k,NH,h3⟩,fun u w l a d ha hw=>?_,fun u f g c=>?_⟩
 .rcases t.val u l a with h'|⟨b,k,h2,rfl,_⟩
  .omega
  .by_cases e:k=v
   .subst e;exact t.cl u w (h u w ((t.mm u).2 a) ha hw)
   grind[TI.qi]
 grind[TI.low]
theorem TI.abP(t:TI n on es v L met cl):met.length<=n:=by
 have hs:met⊆rG n:=fun u a=>by have:=(Ny.1 ((t.mm u).1 a)).1;grind[TI.len]
 have:=t.nd.length_le_of_subset hs;grind
structure wx (n:Nat) (on:Nat->Bool) (es:xLP) (L:RZ):Prop where
 len:L.length=n
 off:∀u,u<n->on u=fF->∃k:Nat,k<n/\L[u]?=Z (k:Int)/\Cn on es k u
 same:∀u w,u<n->w<n->on u=fF->on w=fF->(L[u]?=L[w]?↔Cn on es u w)
theorem TO.done(d:aV n es)(t:TO n on es n L):wx n on es L:=by
 have off:∀u,u<n->on u=fF->∃k:Nat,k<n/\L[u]?=Z (k:Int)/\Cn on es k u:=fun u a f=>by grind[TO.len,TO.val,TO.low]
 refine⟨t.len,off,fun u w a hw g b=>⟨fun e=>?_,fun c=>?_⟩⟩
 .grind[Cn.symm,Cn.trans]
 .clear hw b
  induction c<;>grind[TO.qi]
variable {h:aai} {i:Nat} {l:II} {ps:List Pr} {v:Value} {xs:RZ}
def GI(h:aai)(v:vV)(xs:RZ):Prop:=GS 1 h v xs.length (Bp xs)
theorem GI.le{h h':aai}{v:vV}{xs:RZ}(g:GI h v xs)(e:Le h h'):GI h' v xs:=GS.le g e
theorem GI.rl(g:GI h v xs):RL RP h v xs:=RL.Wh (GS.cs g).rs
theorem GI.nil(h:aai):GI h (.slice Y 0 0) []:=GS.nil 1 h
theorem GI.push{h:aai}{v:vV}{xs:RZ}(g:GI h v xs)(d:WF h)(x:Int)(m:xs.length<=100000):
  ∃v' c a,aas pG h 28 1 [(0,x)]=Z (sL (Z h.next) 1 1,c)/\aaR pG c 28 28 v (sL (Z h.next) 1 1)=Z (v',a)/\GI a v' (xs++[x])/\WF a/\Le h c/\
   (∀f,Le f h->Z2 f v->Le f a/\Z2 f v')/\(∀b o,h.own b=Z o->blk v≠Z b->a.own b=Z o/\blk v'≠Z b):=by
 have⟨c,e4,l4,e,j⟩:=Tt d [x];have⟨v',a,i,n,hf⟩:=(GS.le g l4).push (P:=pG) (t:=28) Ji j (yG _) rfl NH;refine⟨v',c,a,by rw[DQ,e4],i,?_,xr e i,l4,fun f k af=>hf f e (k.trans l4) af,fun b o l hb=>aG hf e (l4.own _ _ l) hb⟩;grind[Bp,GI.eq_1]
def GP(h:aai)(v:vV)(ps:xLP):Prop:=GS 2 h v ps.length (Iu ps)
theorem GP.le{h h':aai}{v:vV}{ps:xLP}(g:GP h v ps)(e:Le h h'):GP h' v ps:=GS.le g e
theorem GP.pr(g:GP h v ps):PR h v ps:=GS.cs g
theorem GP.nil(h:aai):GP h (.slice Y 0 0) []:=GS.nil 2 h
theorem GP.join{v x:vV}{ps c:xLP}(g:GP h v ps)(d:WF h)(i:PR h x c)(l:ps.length+c.length<=1000000000):
  ∃v' a,aaR pG h 22 22 v x=Z (v',a)/\GP a v' (ps++c)/\WF a/\
   (∀f,Le f h->Z2 f v->Le f a/\Z2 f v')/\(∀b o,h.own b=Z o->blk v≠Z b->a.own b=Z o/\blk v'≠Z b):=by
 have⟨v',a,m,n,hf⟩:=GS.append (P:=pG) (t:=22) (xt:=22) (k:=2) Ji g (fun e j=>CS.src j i) (WI _) (WI _) (Ta _) NH;grind[xr,aG,GP.eq_1,mZ]
theorem mkP1(h:aai)(p:Pr):aas pG h 22 1 [(0,UI p)]=Z (sL (Z h.next) 1 1,h.alloc (.cells (xM p))):=rfl
theorem GP.push(g:GP h v ps)(d:WF h)(p:Pr)(l:ps.length+1<=100000):
  ∃v' c a,aas pG h 22 1 [(0,UI p)]=Z (sL (Z h.next) 1 1,c)/\aaR pG c 22 22 v (sL (Z h.next) 1 1)=Z (v',a)/\GP a v' (ps++[p])/\WF a/\Le h c/\
   (∀f,Le f h->Z2 f v->Le f a/\Z2 f v')/\(∀b o,h.own b=Z o->blk v≠Z b->a.own b=Z o/\blk v'≠Z b):=by
 have⟨c,e4,l4,e,i⟩:=Tt d (xM p)
 have j:PR c (sL (Z h.next) 1 1) [p]:=by have:=CS.own (k:=2) (off:=0) (n:=1) (cap:=1) i (by simp[xM]);exact this
 have⟨v',a,m,q,r,hf,s⟩:=(g.le l4).join e j (by simp;omega);grind[mkP1,Le.trans,Le.own]
theorem yy(L:RZ)(i:Nat)(x:Int):(Bp L).set i x=Bp (L.set i x):=by simp[Bp,ak3]
def kz(l:II):RZ:=l.map fun(x:Nat)=>(x:Int)
theorem y6(l:II):(kz l).length=l.length:=by simp[kz]
theorem sY(hi:i<l.length):(kz l)[i]'(by grind[y6])=((l[i]:Nat):Int):=by simp[kz]
theorem tS(W0:LA)(v o:vV)(n:Nat)(es:xLP)(bs:List Bool)(h:aai)(hg:GR h v ⟨(n:Int),es⟩)(hr:bX ⟨(n:Int),es⟩)(hb:RL sJ h o bs)(b2:bs.length=n):
  AC pG W0 160 [v,o] h fun x h'=>∃L,RL RP h' x L/\wx n (fun u=>bs.getD u fF) es L/\Le h h':=by
 have bb:=hg
 obtain⟨ev,rfl,hp⟩:=hg.open
 have b0:(n:Int)<=200:=hr.n1;have hR:=hr.GD;refine AC.vF func160 ntmps160 results160 fun bg=>?_;obtain⟨h1,b1,ae,b3,-,lA⟩:=r8 (n:=(n:Int)) bg hp
 generalize h.next=B at*
 have bh:=lA h1 (Le.refl _);simp only[HO,seval,b1,bh.1];refine TC.intro PJ ⟨akP,rfl,WY⟩ (oe W0 _ n es h1 (bb.le ae) hr) ?_;rintro y hB bk ⟨G,H⟩;have b4:=lA hB H;have⟨h2,e2,Q,bm,o2⟩:=Tt bk [.int .i64 (-1)];have bo:=lA h2 (H.trans Q);simp only[HO,seval,DQ,e2,Ii,Ip,EL,bo.2.1];refine TC.intro PJ ⟨YW,rfl,WY⟩ (rN W0 _ n NH h2 (RL.Wh (RS.whole o2 rfl))) ?_;rintro x h3 b5 ⟨T,rfl,hT,o3,az⟩;have fT:=lA h3 ((H.trans Q).trans az);have aC:=Q.trans az
 have nT:hB.own T=Y:=Q.next bm hT
 have br:h3.own T=Z (.cells (Bp (rP n (-1)))):=by rw[o3];simp[Bp]
 simp only[HO,seval,Ii,Ip,EL,fT.2.1];let on:Nat->Bool:=fun u=>bs.getD u fF;have b6:=hb.le Nn.sJ (ae.trans H);have aD:∀g,Le hB g->∀u,u<n->aaC pG g 4 (aaq o u)=Z (.bool (on u)):=fun g lg u hu=>by grind[RL.le,Nn.sJ,RL.W7]
 have z:∀(k:IntKind)(u:Nat),u<n->aao pG 41 o (.int k u)=Z (pT (Z (aaq o u))):=fun k u hu=>hb.LB u NH;have R:∀(k:IntKind)(j:Nat),j<n->aao pG 28 (sL (Z T) n n) (.int k j)=Z (pT (Z ⟨T,j,Y⟩)):=fun k j hj=>by rw[Wc Mb Ac Ji j hj];simp[Ip]
 have aF:∀(g:aai)(L:RZ)(j:Nat)(l:Int),g.own T=Z (.cells (Bp L))->L[j]?=Z l->aaC pG g 3 ⟨T,j,Y⟩=Z (.int .i64 l):=fun g L j l ho hl=>by rw[Fq Ac rfl ho];simp[Bp,hl]
 refine aab.intro (fun k fr hh=>∃(v:Nat)(L:RZ),k=n-v/\v<=n/\fr=mkF [(1,o),(5,y),(6,sL (Z T) n n),(19,n),(20,v)]/\hh.own T=Z (.cells (Bp L))/\Le hB hh/\TO n on es v L)
  n [(1,o),(5,y),(6,sL (Z T) n n),(19,n),(20,(0:Nat))] fD ⟨0,_,rfl,aax _,rfl,br,aC,TO.start n on es⟩ ?_
 rintro k fr hh ai ⟨v,L,rfl,hv,rfl,oT,A,tO⟩;refine Uy ?_;refine Kl.intro (fun ht=>?_) (fun hf=>?_)
 rotate_left
 .have aH:n<=v:=vp hf;obtain rfl:v=n:=NH;refine Uy ?_;exact⟨L,RL.Wh (RS.whole oT (by grind[TO.len])),tO.done hR,(ae.trans H).trans A⟩
 have c:v<n:=acb ht;clear ht;have S:=CA (show v<L.length by grind[TO.len]);generalize L[v]'(by grind)=lv at S
 have C:=aD hh A v c;have aj:=aF hh L v lv oT S;by_cases c1:on v=tT
 .rw[c1]at C;simp only[HO,seval,z _ v c,C,aaa v NH];exact tn (n-(v+1)) [(1,o),(5,y),(6,sL (Z T) n n),(19,n),(20,(v+1:Nat))] NH fD ⟨v+1,L,rfl,c,rfl,oT,A,tO.skip (.inl c1)⟩
 rw[alU]at c1;rw[c1]at C;by_cases c2:lv>=0
 .simp only[HO,seval,z _ v c,C,R _ v c,aj,c2,aaa v NH];exact tn (n-(v+1)) [(1,o),(5,y),(6,sL (Z T) n n),(19,n),(20,(v+1:Nat))] NH fD ⟨v+1,L,rfl,c,rfl,oT,A,tO.skip (.inr (by rw[S];intro e;injection e with e;omega))⟩
 have aa:L[v]?=Z (-1):=by grind[TO.val]
 have st1:aaK pG hh 3 (pT (Z ⟨T,v,Y⟩)) v=Z (hh.put T (.cells (Bp (L.set v (v:Int))))):=by rw[QB (P:=pG) (t:=3) (x:=v) Ac Ji oT (off:=v) (by rw[uE,tO.len];exact c) rfl rfl,yy]
 have D:WF (hh.put T (.cells (Bp (L.set v (v:Int))))):=ai.put _ (ai.lt oT);have I:Le hB (hh.put T (.cells (Bp (L.set v (v:Int))))):=A.put _ nT;have J:(hh.put T (.cells (Bp (L.set v (v:Int))))).own T=Z (.cells (Bp (L.set v (v:Int)))):=aai.Y3 _ _ _;simp only[HO,seval,z _ v c,C,R _ v c,aj,c2,st1];generalize hh.put T (.cells (Bp (L.set v (v:Int))))=h4 at*;have⟨h5,e5,aq,bx,o5⟩:=Tt D [v]
 have nM:hB.own h4.next=Y:=I.next D (qL0 _)
 have bB:T≠h4.next:=fun e=>by have:=D.lt J;omega
 simp only[HO,seval,DQ,e5];have aJ:=tO.begin c c1 aa (fun a w=>(∃j,j<0/\[v][j]?=Z a)/\Jp es a w/\on w=fF) (fun a w h=>by grind)
 have gM:GI h5 (sL (Z h4.next) 1 1) (kz [v]):=GS.full o5 rfl (show 1<1000000000000 by decide)
 refine aab.intro (fun k fr m=>∃(i:Nat)(L:RZ)(d:vV)(met:II),k=n-i/\i<=met.length/\fr=mkF [(1,o),(5,y),(6,sL (Z T) n n),(7,v),(8,d),(9,i),(19,n),(20,v)]/\
   m.own T=Z (.cells (Bp L))/\Le hB m/\GI m d (kz met)/\blk d≠Z T/\Z2 hB d/\TI n on es v L met (fun a w=>(∃j,j<i/\met[j]?=Z a)/\Jp es a w/\on w=fF))
  n [(1,o),(5,y),(6,sL (Z T) n n),(7,v),(8,sL (Z h4.next) 1 1),(9,(0:Nat)),(19,n),(20,v)] fD
  ⟨0,_,_,[v],rfl,aax _,rfl,aq.own _ _ J,I.trans aq,gM,by grind[blk],fun b hb=>by grind[blk],aJ⟩ ?_
 clear aJ gM bB nM o5 bx aq e5 h5 J I D st1 C aj S aa c2 oT A tO ai;clear h4 hh L;rintro k fr m U ⟨i,L,d,met,rfl,hi,rfl,oT,leq,gm,nm,am,E⟩;have lm:=fun g=>gm.rl.TA g;have aK:=E.abP;rw[y6]at lm;simp only[HO,seval,lm];refine Kl.intro (fun ht=>?_) (fun hf=>?_)
 rotate_left
 .have aH:met.length<=i:=vp hf;simp only[HO,seval,aaa v NH];refine tn (n-(v+1)) [(1,o),(5,y),(6,sL (Z T) n n),(19,n),(20,(v+1:Nat))] NH fD ⟨v+1,L,rfl,c,rfl,oT,leq,E.finish fun a w ha V bF=>⟨?_,V,bF⟩⟩;grind[mem_iff_getElem?]
 have p:i<met.length:=acb ht;clear ht;have f:=CA p;have aL:=sY p;have aN:=gm.rl.DH i (by rw[y6];exact p);have W:=gm.rl.Uc i (by rw[y6];exact p);rw[aL]at W;generalize met[i]=u at f W;clear aL;have K:u∈met:=BS f;have b8:u<n:=by have:=(Ny.1 ((E.mm u).1 K)).1;grind[TI.len]
 have ar:u<(Zh n es).length:=by grind[Xq]
 have bH:=G.Wm u ar;have⟨uv,bI,s⟩:=G.NS u ar;have bN:(Zh n es).getD u []=(Zh n es)[u]:=D4 ar;generalize (Zh n es)[u]=row at s bN;have lr:=fun g=>s.TA g;have b9:row.length<=2000:=by have:=bV n es row (by grind);have:es.length<=594:=hr.len;omega
 simp only[HO,seval,aN,W,bH,bI m leq,lr];have aP:TI n on es v L met (fun a w=>((∃j,j<i/\met[j]?=Z a)/\Jp es a w/\on w=fF)\/(a=u/\(w:Int)∈row.take 0/\on w=fF)):=E.mono fun a w h=>by grind
 refine aab.intro (fun k fr m=>∃(q:Nat)(L:RZ)(d:vV)(met:II),k=row.length-q/\q<=row.length/\fr=mkF [(1,o),(5,y),(6,sL (Z T) n n),(7,v),(8,d),(9,i),(19,n),(20,v),(52,uv),(53,row.length),(54,q)]/\
   m.own T=Z (.cells (Bp L))/\Le hB m/\GI m d (kz met)/\blk d≠Z T/\Z2 hB d/\met[i]?=Z u/\TI n on es v L met (fun a w=>((∃j,j<i/\met[j]?=Z a)/\Jp es a w/\on w=fF)\/(a=u/\(w:Int)∈row.take q/\on w=fF)))
  row.length [(1,o),(5,y),(6,sL (Z T) n n),(7,v),(8,d),(9,i),(19,n),(20,v),(52,uv),(53,row.length),(54,(0:Nat))] fD
  ⟨0,L,d,met,rfl,aax _,rfl,oT,leq,gm,nm,am,f,aP⟩ ?_
 clear aP aN W lm;clear K f p aK E am nm gm leq oT U hi;clear m L d met;rintro k fr m U ⟨q,L,d,met,rfl,cc,rfl,oT,leq,gm,nm,am,f,E⟩;have K:u∈met:=BS f;have aK:=E.abP;have p:=(Ny.1 f).1;refine Uy ?_;refine Kl.intro (fun ht=>?_) (fun hf=>?_)
 rotate_left
 .have aH:row.length<=q:=vp hf;simp only[HO,seval,aaa i NH];refine tn (n-(i+1)) [(1,o),(5,y),(6,sL (Z T) n n),(7,v),(8,d),(9,(i+1:Nat)),(19,n),(20,v)] NH fD ⟨i+1,L,d,met,rfl,p,rfl,oT,leq,gm,nm,am,E.mono fun a w h=>?_⟩;grind[EW]
 have F:q<row.length:=acb ht;clear ht;have av:=s.DH q F;have X:=(s.le Nn.RP leq).Uc q F;have bQ:row.take (q+1)=row.take q++[row[q]]:=XJ F;have ay:row[q]∈(Zh n es).getD u []:=hGr;generalize row[q]=x at X bQ ay;obtain⟨w,rfl,r⟩:=Ru hR ay;have V:=(EW hR u w).1 ay;have M:=CA (show w<L.length by grind[TI.len]);generalize L[w]'(by grind)=lw at M
 have N:=aD m leq w r;have aT:=aF m L w lw oT M;by_cases c3:on w=tT
 .rw[c3]at N;simp only[HO,seval,av,X,z _ w r,N,aaa q NH];refine tn (row.length-(q+1)) [(1,o),(5,y),(6,sL (Z T) n n),(7,v),(8,d),(9,i),(19,n),(20,v),(52,uv),(53,row.length),(54,(q+1:Nat))] NH fD
   ⟨q+1,L,d,met,rfl,F,rfl,oT,leq,gm,nm,am,f,E.mono fun a b h=>?_⟩
  rcases h with h|⟨h1,h2,h3⟩
  .exact .inl h
  grind
 rw[alU]at c3;rw[c3]at N;have aW:∀(O:II),(∀j,j<met.length->O[j]?=met[j]?)->∀a b,((∃j,j<i/\O[j]?=Z a)/\Jp es a b/\on b=fF)\/(a=u/\(b:Int)∈row.take (q+1)/\on b=fF)->
   (((∃j,j<i/\met[j]?=Z a)/\Jp es a b/\on b=fF)\/(a=u/\(b:Int)∈row.take q/\on b=fF))\/b=w:=fun O hm a b h=>by
  rcases h with⟨⟨j,hj,cd⟩,h2⟩|⟨h1,h2,h3⟩
  .grind
  grind
 by_cases c4:lw<0
 rotate_left
 .simp only[HO,seval,av,X,z _ w r,N,R _ w r,aT,c4,aaa q NH];exact tn (row.length-(q+1)) [(1,o),(5,y),(6,sL (Z T) n n),(7,v),(8,d),(9,i),(19,n),(20,v),(52,uv),(53,row.length),(54,(q+1:Nat))] NH fD
   ⟨q+1,L,d,met,rfl,F,rfl,oT,leq,gm,nm,am,f,E.stay K V ⟨lw,M,NH⟩ (aW met fun _ _=>rfl)⟩
 have aX:L[w]?=Z (-1):=by
  rcases E.val w lw M with rfl|⟨_,k,_,rfl,_⟩
  .exact M
  .omega
 have st1:aaK pG m 3 (pT (Z ⟨T,w,Y⟩)) v=Z (m.put T (.cells (Bp (L.set w (v:Int))))):=by rw[QB (P:=pG) (t:=3) (x:=v) Ac Ji oT (off:=w) (by rw[uE,E.len];exact r) rfl rfl,yy]
 have D:WF (m.put T (.cells (Bp (L.set w (v:Int))))):=U.put _ (U.lt oT);have I:Le hB (m.put T (.cells (Bp (L.set w (v:Int))))):=leq.put _ nT;have J:(m.put T (.cells (Bp (L.set w (v:Int))))).own T=Z (.cells (Bp (L.set w (v:Int)))):=aai.Y3 _ _ _;have bW:GI (m.put T (.cells (Bp (L.set w (v:Int))))) d (kz met):=GS.put gm _ nm;simp only[HO,seval,av,X,z _ w r,N,R _ w r,aT,c4,st1];generalize m.put T (.cells (Bp (L.set w (v:Int))))=h4 at*;have⟨a7,h5,h6,e5,e6,g6,w6,l5,hf,hk⟩:=bW.push D (w:Int) (by grind[y6]);have⟨l6,a6⟩:=hf hB I am;have⟨bY,bZ⟩:=hk T _ J nm;have a8:kz met++[(w:Int)]=kz (met++[w]):=by simp[kz]
 rw[a8]at g6;simp only[HO,seval,e5,e6,aaa q NH];exact tn (row.length-(q+1)) [(1,o),(5,y),(6,sL (Z T) n n),(7,v),(8,a7),(9,i),(19,n),(20,v),(52,uv),(53,row.length),(54,(q+1:Nat))] NH fD
  ⟨q+1,_,a7,met++[w],rfl,F,rfl,bY,l6,g6,bZ,a6,by rw[EP p];exact f,E.push K V c3 aX (aW _ fun j hj=>EP hj)⟩
variable {j s t v:Nat} {met:List Bool} {o opn tH:II} {up:RZ}
theorem D3.lt(a:D3 es){p q:Pr}(b:i<j)(hi:es[i]?=Z p)(c:es[j]?=Z q):p.1<q.1\/p.1=q.1/\p.2<q.2:=(Hv p q).1 (a i j p q b hi c)
theorem besM_asc':∀(k:Nat)(es:xLP),es.length=k->aV n es->D3 es->∀u,((Zh n es).getD u []).Pairwise (·<·):=by
 intro k
 induction k with
 |zero=>
  intro es d _ _ u;obtain rfl:=im d;have f:(Zh n []).getD u []=[]:=by grind[Zh]
  rw[f];exact .nil
 |succ k s=>
  intro g d t ha u;obtain⟨es,p,rfl⟩:∃es p,g=es++[p]:=by
   rcases Cj g with rfl|⟨es,p,h⟩
   all_goals grind
  have c:aV n es:=fun q m=>t q (by simp[m]);have mi:D3 es:=fun i j a b o hi B=>ha i j a b o hGr hGr;have s:=s es hGr c mi;have C:=t p Ma;have low:∀u:Nat,∀x∈(Zh n es).getD u [],((u:Int)=p.1->x<p.2)/\((u:Int)=p.2->x<p.1):=by
   intro u x v;obtain⟨w,rfl,_⟩:=Ru c v;have l:=(EW c u w).1 v;have key:∀q∈es,q.1<p.1\/q.1=p.1/\q.2<p.2:=by intro q m;have⟨i,hi⟩:=Og.1 m;have r:=(Ny.1 hi).1;exact ha.lt (i:=i) (j:=es.length) r hGr Ma
   rcases l with h|h<;>have y:=c _ h<;>have h2:=key _ h<;>simp only at y h2<;>constructor<;>intro e<;>omega
  have gd:∀(rows:AM)(x:Int)(i:Nat),(rows.set i (rows.getD i []++[x])).getD u []=if i=u/\i<rows.length then rows.getD u []++[x]else rows.getD u []:=hGr
  rw[NJ];have z:=Xq n es;have y:p.1.toNat<n:=NH;simp only[Xs];rw[gd];simp only[WZ,z];have A:=gd (Zh n es) p.2 p.1.toNat;rw[z]at A;rw[A];by_cases D:p.1.toNat=u
  .grind
  .by_cases E:p.2.toNat=u
   .grind
   grind
theorem KW(es:xLP)(a:aV n es)(ha:D3 es)(u:Nat):((Zh n es).getD u []).Pairwise (·<·):=besM_asc' es.length es rfl a ha u
def Full(es:xLP)(o:II)(x:Nat):Prop:=∀y,Jp es x y->y∈o
inductive du (n:Nat) (es:xLP) (from_:Nat):II->RZ->Prop
 |start:du n es from_ [from_] (rP n (-1))
 |step {o:II} {up:RZ} {k v w:Nat}:du n es from_ o up->o[k]?=Z v->Jp es v w->w∉o->(∀y,Jp es v y->y∉o->w<=y)->(∀(j x:Nat),k<j->o[j]?=Z x->Full es o x)->du n es from_ (o++[w]) (up.set w (v:Int))
structure Oc (n:Nat) (es:xLP) (from_:Nat) (o:II) (up:RZ):Prop where
 KP:du n es from_ o up
 full:∀x∈o,Full es o x
theorem du.len(d:du n es s o up):1<=o.length/\up.length=n:=by
 induction d<;>grind
theorem du.same(d:du n es s o up):∀{b:II}{a:RZ},du n es s b a->o.length=b.length->o=b/\up=a:=by
 induction d with
 |start=>intro b a c j;cases c<;>grind
 |@step o up k v w d l ha hw u hf m=>
  intro b a c j;cases c with
  |start=>grind
  |@step x p k1 q w1 d1 e f g r i=>
   obtain⟨rfl,rfl⟩:=m d1 hGr;have t:k=k1:=by
    rcases adQ k k1 with h|h|h
    .exact absurd (hf k1 q h e w1 f) g
    .exact h
    .exact absurd (i k v h l w ha) hw
   grind
theorem du.peel(d:du n es s o up):∀m,1<=m->m<o.length->∃a b,du n es s a b/\a.length=m/\∃x∈a,¬Full es a x:=by
 induction d with
 |start=>grind
 |@step o up k v w d c ha hw e hf g=>
  intro m i h2;by_cases h:m<o.length
  .grind
  .simp at h2;exact⟨o,up,d,NH,v,BS c,fun f=>hw (f w ha)⟩
theorem Oc.uniq{o d:II}{up c:RZ}(a:Oc n es s o up)(b:Oc n es s d c):o=d/\up=c:=by
 have key:∀{o d:II}{up c:RZ},Oc n es s o up->Oc n es s d c->¬o.length<d.length:=by intro o d up c a b h;have⟨g,e,d2,f,x,i,hf⟩:=b.KP.peel o.length a.KP.len.1 h;obtain⟨rfl,rfl⟩:=a.KP.same d2 f.symm;grind[Oc.full]
 have j:=key a b;have h2:=key b a;exact a.KP.same b.KP NH
structure DS (n:Nat) (es:xLP) (s:Nat) (met:List Bool) (tH:II) (o opn:II) (up:RZ):Prop where
 KP:du n es s o up
 metl:met.length=n
 mm:∀v,v<n->(met[v]?=Z tT↔v∈o)
 trl:tH.length=n
 tr:∀v t,tH[v]?=Z t->t<=((Zh n es).getD v []).length/\∀x∈((Zh n es).getD v []).take t,x.toNat∈o
 sub:opn.Sublist o
 closed:∀v∈o,v∉opn->Full es o v
 lt:∀v∈o,v<n
 nodup:o.Nodup
theorem DS.start{n:Nat}{es:xLP}{s:Nat}(hs:s<n):DS n es s ((rP n fF).set s tT) (rP n 0) [s] [s] (rP n (-1)) where
 KP:=.start
 metl:=by simp
 mm v a:=hGr
 trl:=by simp
 tr v t c:=hGr
 sub:=alZ _
 closed v a b:=absurd a b
 lt v a:=hGr
 nodup:=by simp
theorem DS.len_o(d:DS n es s met tH o opn up):o.length<=n:=by have:o.length<=(rG n).length:=d.nodup.length_le_of_subset (by grind[DS.lt]);grind
def DS.len_opn(d:DS n es s met tH o opn up):opn.length<=n:=ff d.sub.length_le d.len_o
theorem DS.pop(b:aV n es)(d:DS n es s met tH o (opn++[v]) up)(a:tH[v]?=Z ((Zh n es).getD v []).length):DS n es s met tH o opn up:=
 {d with
  sub:=by grind[List.Sublist.trans,DS.sub]
  closed:=fun x c f=>by
   by_cases e:x=v
   .intro y g;have:=(d.tr _ _ a).2 y (by grind[EW]);grind
   grind[DS.closed]}
theorem DS.skip{x:Int}(d:DS n es s met tH o opn up)(f:tH[v]?=Z t)(c:((Zh n es).getD v [])[t]?=Z x)(h:x.toNat∈o):DS n es s met (tH.set v (t+1)) o opn up:=
 {d with
  trl:=by simp[d.trl]
  tr:=fun u q a=>by
   rw[K4]at a;split at a
   .rename_i e;subst e;split at a
    .injection a with a;subst a;have g:=(Ny.1 c).1;refine⟨g,fun y b=>?_⟩;rw[To,c]at b;simp at b;rcases b with b|b
     .exact(d.tr _ _ f).2 y b
     grind
    .cases a
   .exact d.tr u q a}
theorem DS.last(d:DS n es s met tH o (opn++[v]) up):
  ∃k,o[k]?=Z v/\∀(j x:Nat),k<j->o[j]?=Z x->Full es o x:=by
 obtain⟨a,b,rfl,h,h2⟩:=List.append_sublist_iff.1 d.sub;have g:v∈b:=hGr;have⟨i,hi⟩:=Og.1 g;refine⟨a.length+i,by rw[jf NH];simpa using hi,fun j x l f=>?_⟩;have e:x∈a++b:=BS f;refine d.closed x e fun c=>?_;rw[jf NH]at f;have nd:=d.nodup;rw[vZ,iy]at c;rcases c with c|rfl
 .grind
 .have:j-a.length=i:=by grind[List.getElem?_inj]
  omega
theorem DS.push(g:aV n es)(ha:D3 es)(d:DS n es s met tH o (opn++[v]) up)(p:tH[v]?=Z t)(j:((Zh n es).getD v [])[t]?=Z (w:Int))(x:w∉o):
  DS n es s (met.set w tT) (tH.set v (t+1)) (o++[w]) (opn++[v]++[w]) (up.set w (v:Int)):=by
 have⟨k,z,hf⟩:=d.last;have l:(w:Int)∈(Zh n es).getD v []:=BS j;have c:=(EW g v w).1 l;have m:=(c.lt g).2;have r:=KW es g ha v;refine⟨.step d.KP z c x (fun y a A=>?_) hf,by simp[d.metl],fun u b=>?_,by simp[d.trl],fun u q f=>?_,(by grind[DS.sub]),fun u b B=>?_,fun u b=>?_,?_⟩
 .obtain⟨i,hi⟩:=Og.1 ((EW g v y).2 a);rcases adQ i t with h|h|h
  .have:=(d.tr v t p).2 (y:Int) (BS (i:=i) hGr);grind
  .grind
  grind[pairwise_iff_getElem]
 .grind[DS.metl,DS.mm]
 .rw[K4]at f;split at f
  .rename_i e;subst e;split at f
   .injection f with f;subst f;refine⟨(Ny.1 j).1,fun y a=>?_⟩;rw[To,j]at a;simp at a;rw[vZ];rcases a with a|a
    .exact .inl ((d.tr _ _ p).2 y a)
    grind
   .cases f
  .obtain⟨C,h2⟩:=d.tr u q f;grind
 .rw[vZ,iy]at b;rcases b with b|rfl
  .exact fun y a=>bC _ (d.closed u b (by grind[mem_append_left]) y a)
  grind
 .rw[vZ,iy]at b;rcases b with b|rfl
  .exact d.lt u b
  .exact m
 grind[DS.nodup]
theorem DS.fin(d:DS n es s met tH o [] up):Oc n es s o up:=⟨d.KP,(by grind[DS.closed])⟩
variable {X id k:Nat} {ev:Value} {n:Int}
def Wj{v:vV}(a:xO v k):acB pG 24 [(0,n),(1,v)]=Z (.agg #[n,v]):=by obtain⟨_,_,rfl,_⟩:=a;kernel_rfl
theorem Lo(h:aai):abO pG h 24=Z (pT (Z h.next),h.alloc (.cells [.int .i64 0,.slice Y 0 0])):=rfl
def akX(hw:WF h)(r:PR h ev es):∃b h2,abO pG h 24=Z (pT (Z ⟨h.next,0,Y⟩),b)/\aaK pG b 24 (pT (Z ⟨h.next,0,Y⟩)) (.agg #[.int .i64 n,ev])=Z h2/\Le h h2/\WF h2/\
  ∀g,Le h2 g->aaC pG g 24 ⟨h.next,0,Y⟩=Z (.agg #[.int .i64 n,ev])/\aaC pG g 3 ⟨h.next,0,Y⟩=Z (.int .i64 n)/\aaC pG g 22 ⟨h.next,1,Y⟩=Z ev:=by
 obtain⟨b,f,l1,w1,d⟩:=Tt hw [.int .i64 0,.slice Y 0 0]
 have i:h.own h.next=Y:=(Le.refl h).next hw (qL0 _)
 have one:=r.sl.one;have a:UA pG 24=2:=Ji;have j:(vV.agg #[.int .i64 n,ev]).cells=#[.int .i64 n,ev]:=rfl;have k:(vV.int IntKind.i64 n).oneCell'=tT:=rfl
 have c:(b.put h.next (.cells [.int .i64 n,ev])).own h.next=Z (.cells [.int .i64 n,ev]):=aai.Y3 _ _ _
 refine⟨b,b.put h.next (.cells [.int .i64 n,ev]),by rw[Lo,f],?_,l1.put _ i,w1.put _ (w1.lt d),fun g e=>⟨?_,Fq Ac rfl (e.own _ _ c),Fq eY rfl (e.own _ _ c)⟩⟩
 .simp[aaK,d,j,a,putCells,qS7,one,k]
 .rw[Wx qS7 rfl a (e.own _ _ c) Ma];rfl
theorem PR.made(a:h.own id=Z (.cells (Iu ps)))(b:ps.length=k):PR h (sL (Z id) k k) ps:=by have:=CS.own (k:=2) (off:=0) (n:=k) (cap:=k) a (by grind[Ta]);grind[Ta,PR.eq_1]
structure GX (h:aai) (X:Nat) (n:Int) (ev:vV) (ps:xLP):Prop where
 ox:h.own X=Z (.cells [n,ev])
 gp:GP h ev ps
 ne:blk ev≠Z X
def ait(n:Int):acB pG 24 [(0,n)]=Z (.agg #[n,.slice Y 0 0]):=Ji
theorem GX.new(hw:WF h)(n:Int):∃a h2,abO pG h 24=Z (pT (Z ⟨h.next,0,Y⟩),a)/\aaK pG a 24 (pT (Z ⟨h.next,0,Y⟩)) (.agg #[.int .i64 n,.slice Y 0 0])=Z h2/\Le h h2/\WF h2/\h.own h.next=Y/\GX h2 h.next n (.slice Y 0 0) []:=by
 obtain⟨a,j,l1,w1,d⟩:=Tt hw [.int .i64 0,.slice Y 0 0]
 have e:h.own h.next=Y:=(Le.refl h).next hw (qL0 _)
 have b:UA pG 24=2:=Ji;have f:(vV.agg #[.int .i64 n,.slice Y 0 0]).cells=#[.int .i64 n,.slice Y 0 0]:=rfl;have g:(vV.int IntKind.i64 n).oneCell'=tT:=rfl;have c:(vV.slice Y 0 0).oneCell'=tT:=rfl
 have i:(a.put h.next (.cells [.int .i64 n,.slice Y 0 0])).own h.next=Z (.cells [.int .i64 n,.slice Y 0 0]):=aai.Y3 _ _ _
 refine⟨a,a.put h.next (.cells [.int .i64 n,.slice Y 0 0]),by grind[Lo],?_,l1.put _ e,w1.put _ (w1.lt d),e,⟨i,GP.nil _,by simp[blk]⟩⟩
 simp[aaK,d,f,b,putCells,qS7,g,c]
theorem GX.le{h h':aai}{X:Nat}{n:Int}{ev:vV}{ps:xLP}(g:GX h X n ev ps)(e:Le h h'):GX h' X n ev ps:=⟨e.own _ _ g.ox,g.gp.le e,g.ne⟩
def GX.ld(g:GX h X n ev ps):aaC pG h 24 ⟨X,0,Y⟩=Z (.agg #[n,ev])/\aaC pG h 3 ⟨X,0,Y⟩=Z (.int .i64 n)/\aaC pG h 22 ⟨X,1,Y⟩=Z ev:=by refine⟨?_,Fq Ac rfl g.ox,Fq eY rfl g.ox⟩;rw[Wx qS7 rfl (by kernel_rfl:UA pG 24=2) g.ox Ma];rfl
theorem GX.push'(g:GX h X n ev ps)(hw:WF h)(p:Pr)(l:ps.length+1<=100000):
  ∃v' a i c,aas pG h 22 1 [(0,UI p)]=Z (sL (Z h.next) 1 1,a)/\aaR pG a 22 22 ev (sL (Z h.next) 1 1)=Z (v',i)/\aaK pG i 22 (pT (Z ⟨X,1,Y⟩)) v'=Z c/\
   GX c X n v' (ps++[p])/\WF c/\Le h a/\(∀f,Le f h->f.own X=Y->Z2 f ev->Le f c/\Z2 f v')/\(∀b o,h.own b=Z o->b≠X->blk ev≠Z b->c.own b=Z o/\blk v'≠Z b):=by
 have⟨v',a,i,e4,m,j,k,l4,hf,q⟩:=g.gp.push hw p l;have⟨d,e⟩:=q X _ g.ox g.ne;have one:=j.pr.sl.one;have r:v'.cells=#[v']:=by obtain⟨_,_,rfl,_⟩:=j.pr.sl;rfl
 have st:=QB (P:=pG) (t:=22) (x:=v') eY Ji d (off:=1) Ma r one;refine⟨v',a,i,_,e4,m,st,⟨aai.Y3 _ _ _,GS.put j _ e,e⟩,k.put _ (k.lt d),l4,fun f s u af=>?_,fun b o hb v w=>?_⟩
 all_goals grind[Le.put,aai.By]
theorem Back_any(b:LA)(v:vV)(xs:RZ)(h:aai)(c:RL RP h v xs):AC pG b 85 [v] h fun x h'=>∃B,x=.func (.func 123) #[] #[pT (Z ⟨B,0,Y⟩)]/\h.next<=B/\h'.own B=Z (.cells [v])/\Le h h':=by
 refine AC.vF func85 ntmps85 results85 fun a=>?_;have⟨d,e,l1,w1,g⟩:=Tt a [v]
 have f:zF h v=Z (pT (Z h.next),d):=by rw[<-e];obtain⟨_,_,rfl,_⟩:=c.sl;rfl
 refine Sk f ?_;grind
theorem Back1_any(o:LA)(e B:Nat)(v:vV)(xs:RZ)(I:Nat->aai->Prop)(h:aai)(u:xs.length<1000000)(d:∀i g,I i g->g.own B=Z (.cells [v])/\RL RP g v xs)(f:I xs.length h)(p:∀i g (hi:i<xs.length),WF g->h.next<=g.next->I (i+1) g->AY pG o e [.int .i64 i,.int .i64 xs[i]] g fun x l=>x=.bool tT/\h.next<=l.next/\I i l):
  AC pG o 123 [Yg e,pT (Z B)] h fun _ h'=>I 0 h':=by
 have ld:∀i g,I i g->aaC pG g 28 ⟨B,0,Y⟩=Z v:=fun i g hi=>by rw[Fq Mb rfl (d i g hi).1];rfl
 refine AC.vF func123 ntmps123 results123 fun q=>?_;have w1:aaY .i64 ((xs.length:Int)-1)=(xs.length:Int)-1:=ie _ NH NH;simp only[HO,seval,ld _ _ f,(d _ _ f).2.len Mb,w1]
 refine lIn (fun k fr g=>∃i:Nat,k=i/\i<=xs.length/\fr=mkF [(0,Yg e),(1,pT (Z B)),(3,.int .i64 ((i:Int)-1))]/\h.next<=g.next/\I i g) ⟨xs.length,rfl,qL0 _,rfl,qL0 _,f⟩ ?_
 rintro k fr g r ⟨i,rfl,hi,rfl,hle,a⟩;refine Uy ?_;refine Kl.intro (fun w=>?_) (fun hf=>?_)
 .have b:1<=k:=hGr;obtain⟨j,rfl⟩:∃j,k=j+1:=⟨k-1,NH⟩;have m:j<xs.length:=NH;have s:((j+1:Nat):Int)-1=(j:Int):=NH;have ad:=(d _ _ a).2.addr (k:=.i64) Mb Ac rfl j m;have le:=(d _ _ a).2.Uc j m;simp only[HO,seval,s,ld _ _ a,ad,le];refine TC.yield (by simp only[HO,seval,yieldOf]<;>rfl) (p j g m r hle a) ?_;rintro x l t ⟨rfl,c,n⟩;have w2:aaY .i64 ((j:Int)-1)=(j:Int)-1:=ie _ NH NH;refine Sk w2 ?_;exact lgA NH ⟨j,rfl,NH,rfl,c,n⟩
 .have b:k=0:=hGr;subst b;refine Uy ?_;exact a
variable {n:Nat}
instance adjDec (es:xLP) (u w:Nat):Decidable (Jp es u w):=by unfold Jp;infer_instance
def nxtF(n:Nat)(es:xLP)(o:II)(v:Nat):Option Nat:=(rG n).find? fun w=>decide (Jp es v w)&&!o.contains w
def af5(n:Nat)(es:xLP)(o:II):II->Option (Nat×Nat)
  |[]=>Y
  |v::r=>match nxtF n es o v with
    |some w=>Z (v,w)
    |none=>af5 n es o r
def walkS(n:Nat)(es:xLP)(st:II×RZ):II×RZ:=
 match af5 n es st.1 st.1.reverse with
 |some (v,w)=>(st.1++[w],st.2.set w (v:Int))
 |none=>st
def afG(n:Nat)(es:xLP):Nat->II×RZ->II×RZ
 |0,st=>st
 |k+1,st=>afG n es k (walkS n es st)
def K9(n:Nat)(es:xLP)(s:Nat):II×RZ:=afG n es n ([s],rP n (-1))
theorem nxtF_some(a:aV n es)(h:nxtF n es o v=Z w):Jp es v w/\w∉o/\∀y,Jp es v y->y∉o->w<=y:=by grind[nxtF,List.find?_range_eq_some]
theorem Yf(a:aV n es)(h:nxtF n es o v=Y):Full es o v:=by intro y b;unfold nxtF at h;rw[List.find?_eq_none]at h;have:=h y (Db.2 (b.lt a).2);grind
theorem ac8{n:Nat}{es:xLP}{o:II}(b:aV n es):∀{l:II},af5 n es o l=Y->∀x∈l,Full es o x
 |[],_,x,a=>by simp at a
 |v::r,h,x,a=>by
  simp only[af5]at h;split at h
  .cases h
  .rcases HV.1 a with rfl|a
   .grind[Yf]
   .exact ac8 b h x a
theorem O6{n:Nat}{es:xLP}{o:II}(b:aV n es):∀{l:II}{v w:Nat},af5 n es o l=Z (v,w)->∃i,l[i]?=Z v/\nxtF n es o v=Z w/\∀(j x:Nat),j<i->l[j]?=Z x->Full es o x
 |[],v,w,h=>by cases h
 |u::r,v,w,h=>by
  simp only[af5]at h;split at h
  .rename_i w' c;injection h with h;injection h with a h2;subst a h2;exact⟨0,rfl,c,NH⟩
  .obtain⟨i,a,h2,h3⟩:=O6 b h;refine⟨i+1,hGr,h2,fun j x d e=>?_⟩;cases j<;>grind[Yf]
theorem du.ndlt(b:aV n es)(hs:s<n)(d:du n es s o up):o.Nodup/\∀x∈o,x<n:=by
 induction d with
 |start=>simp[hs]
 |@step o up k v w d c ha hw e hf f=>
  refine⟨?_,fun x a=>?_⟩
  .grind
  .rw[vZ,iy]at a;rcases a with a|rfl
   .grind
   .exact(ha.lt b).2
theorem du.boundF(a:aV n es)(hs:s<n)(d:du n es s o up):o.length<=n:=by have:=(d.ndlt a hs).1.length_le_of_subset (l₂:=rG n) fun v b=>Db.2 ((d.ndlt a hs).2 v b);grind
theorem jM{n:Nat}{es:xLP}{s:Nat}(a:aV n es)(hs:s<n):∀(k:Nat){o:II}{up:RZ},du n es s o up->n<o.length+k->Oc n es s (afG n es k (o,up)).1 (afG n es k (o,up)).2
 |0,o,up,d,h=>by have:=d.boundF a hs;omega
 |k+1,o,up,d,h=>by
  simp only[afG,walkS];split
  .rename_i v w b;have⟨i,m,h2,h3⟩:=O6 a b;have⟨c,e,f⟩:=nxtF_some a h2;refine jM a hs k (.step (k:=o.length-1-i) d ?_ c e f fun j x p g=>?_) (by simp;omega)
   .grind
   .have l:=(Ny.1 g).1;refine h3 (o.length-1-j) x NH ?_;grind
  .rename_i b;have hf:∀x∈o,Full es o x:=by grind[ac8]
   have:∀k,afG n es k (o,up)=(o,up):=by
    intro k
    induction k<;>grind[afG,walkS]
   rw[this];exact⟨d,hf⟩
def Te(a:aV n es)(hs:s<n):Oc n es s (K9 n es s).1 (K9 n es s).2:=jM a hs n .start Ma
theorem Oc.eq(a:aV n es)(hs:s<n)(d:Oc n es s o up):o=(K9 n es s).1/\up=(K9 n es s).2:=d.uniq (Te a hs)
variable {a b:Nat}
def GW(a b:Nat):Pr:=(min (a:Int) (b:Int),max (a:Int) (b:Int))
theorem so(a b:Nat):GW a b=GW b a:=by grind[GW]
theorem bj:GW a b=(((min a b:Nat):Int),((max a b:Nat):Int)):=by grind[GW]
theorem H4(c:aV n es)(h:Jp es a b):GW a b∈es:=by
 unfold GW;rcases h with h|h
 .have:=c _ h;grind
 .have:=c _ h;grind
theorem ahq(h:GW v a=GW v b):a=b:=by rw[bj,bj,Gw]at h;omega
theorem T0(c:aV n es)(h:Jp es a b):GW a b∈es:=H4 c h
theorem Xa(b:aV n es)(h:Jp es a a):False:=by
 rcases h with h|h<;>have:=(b _ h).2.1<;>simp at this
def goS(rows:AM)(d:Nat×Nat):Nat×Nat:=(d.2,(if(rows.getD d.2 []).getD 0 0=(d.1:Int)then(rows.getD d.2 []).getD 1 0 else(rows.getD d.2 []).getD 0 0).toNat)
def goF(rows:AM):Nat->Nat×Nat->Nat->Nat×Nat
 |0,d,k=>(d.2,k)
 |f+1,d,k=>if(rows.getD d.2 []).length=2 then goF rows f (goS rows d) (k+1)else(d.2,k)
theorem alE(rows:AM):∀(K f:Nat)(d:Nat×Nat)(k:Nat),K<f->(∀i,i<K->(rows.getD (it (goS rows) i d).2 []).length=2)->(rows.getD (it (goS rows) K d).2 []).length≠2->goF rows f d k=((it (goS rows) K d).2,k+K)
 |0,f+1,d,k,_,_,h=>by have h':(rows.getD d.2 []).length≠2:=h;rw[goF,WA h'];rfl
 |K+1,f+1,d,k,hf,a,h2=>by have b:(rows.getD d.2 []).length=2:=a 0 (Nat.succ_pos _);rw[goF,Sb b,alE rows K f (goS rows d) (k+1) NH (by grind[aaS]) (by rw[<-aaS];exact h2),<-aaS];congr 1;omega
section
variable{n:Nat}{es:List Pr}(hR:aV n es)(hA:D3 es)
include hR hA
theorem abg{v:Nat}(h:((Zh n es).getD v []).length=2):∃a b:Nat,(Zh n es).getD v []=[(a:Int),(b:Int)]/\a≠b/\Jp es v a/\Jp es v b/\∀w,Jp es v w->w=a\/w=b:=by
 have f:=KW es hR hA v;have d:=fun w=>EW hR v w;have c:=fun x=>Ru hR (u:=v) (x:=x);generalize (Zh n es).getD v []=r at*
 match r,h with
 |[x,y],_=>
  obtain⟨a,rfl,-⟩:=c x Ma;obtain⟨b,rfl,-⟩:=c y Ma;have e:(a:Int)<(b:Int):=by grind[mem_singleton]
  refine⟨a,b,rfl,NH,hGr,hGr,fun w hw=>?_⟩;have:=(d w).2 hw;simp at this;omega
def goS_adj{d:Nat×Nat}(h2:((Zh n es).getD d.2 []).length=2):Jp es (goS (Zh n es) d).1 (goS (Zh n es) d).2:=by have⟨a,b,e,ne,h3,c,f⟩:=abg hR hA h2;unfold goS;rw[e];split<;>simpa using by assumption
theorem amd{d c:Nat×Nat}(v:Jp es d.2 d.1)(v':Jp es c.2 c.1)(h2:((Zh n es).getD d.2 []).length=2)(e:goS (Zh n es) d=goS (Zh n es) c):d=c:=by have⟨l,x⟩:=d;have⟨l',x'⟩:=c;have ex:x=x':=congrArg Prod.fst e;subst ex;have f:=congrArg Prod.snd e;have⟨a,b,h,ne,h3,i,g⟩:=abg hR hA h2;unfold goS at f;rw[h]at f;simp only[ak8,alN]at f;have:=g l v;have:=g l' v';grind
theorem aa7{d:Nat×Nat}(v:Jp es d.1 d.2):∀k,(∀i,i<k->((Zh n es).getD (it (goS (Zh n es)) i d).2 []).length=2)->Jp es (it (goS (Zh n es)) k d).1 (it (goS (Zh n es)) k d).2
 |0,_=>v
 |k+1,h=>goS_adj hR hA hGr
def af6{d:Nat×Nat}(v:Jp es d.1 d.2){K:Nat}(h:∀i,i<K->((Zh n es).getD (it (goS (Zh n es)) i d).2 []).length=2):∀i j,i<j->j<=K->it (goS (Zh n es)) i d=it (goS (Zh n es)) j d->d=it (goS (Zh n es)) (j-i) d
 |0,j,_,_,e=>e
 |i+1,j+1,a,c,e=>by have a1:=aa7 hR hA v i fun q b=>h q NH;have a2:=aa7 hR hA v j fun q b=>h q NH;have:=af6 v h i j NH NH (amd hR hA a1.symm a2.symm (h i NH) e);rwa[show j+1-(i+1)=j-i by omega]
theorem go_ends{c v:Nat}(b:Jp es c v)(p:((Zh n es).getD c []).length≠2):∃K,K<=n*n/\(∀i,i<K->((Zh n es).getD (it (goS (Zh n es)) i (c,v)).2 []).length=2)/\((Zh n es).getD (it (goS (Zh n es)) K (c,v)).2 []).length≠2:=by
 by_cases H:∀K,K<=n*n->(∀i,i<K->((Zh n es).getD (it (goS (Zh n es)) i (c,v)).2 []).length=2)->((Zh n es).getD (it (goS (Zh n es)) K (c,v)).2 []).length=2
 rotate_left
 .simp only[MY]at H;have⟨K,d,h2,h3⟩:=H;exact hGr
 have all:∀K,K<=n*n+1->∀i,i<K->((Zh n es).getD (it (goS (Zh n es)) i (c,v)).2 []).length=2:=by
  intro K
  induction K with
  |zero=>omega
  |succ K g=>
   intro q i hi;rcases Nat.lt_succ_iff_lt_or_eq.1 hi with h|rfl
   .exact g NH i h
   .exact hGr
 have all:=all _ (qL0 _);let code:Nat->Nat:=fun i=>(it (goS (Zh n es)) i (c,v)).1*n+(it (goS (Zh n es)) i (c,v)).2;have lt:∀i,i<=n*n->(it (goS (Zh n es)) i (c,v)).1<n/\(it (goS (Zh n es)) i (c,v)).2<n:=fun i hi=>(aa7 hR hA b i hGr).lt hR;have nd:((rG (n*n+1)).map code).Nodup:=by
  have key:∀i j,i<j->j<=n*n->code i≠code j:=fun i j a k e=>by
   have⟨a1,a2⟩:=lt i NH;have⟨r,l⟩:=lt j k;have e':(it (goS (Zh n es)) i (c,v)).1*n+(it (goS (Zh n es)) i (c,v)).2=(it (goS (Zh n es)) j (c,v)).1*n+(it (goS (Zh n es)) j (c,v)).2:=e;have s:0<n:=NH;have m2:(it (goS (Zh n es)) i (c,v)).2=(it (goS (Zh n es)) j (c,v)).2:=by have:=congrArg (·%n) e';simp only[Nat.mul_add_mod_self_right]at this;rwa[PN a2,PN l]at this
   have m1:(it (goS (Zh n es)) i (c,v)).1=(it (goS (Zh n es)) j (c,v)).1:=by exact(by grind[Nat.eq_of_mul_eq_mul_right])
   have f:=af6 hR hA b (K:=n*n+1) all i j a NH (akv m1 m2);obtain⟨t,m⟩:∃t,j-i=t+1:=⟨j-i-1,NH⟩;rw[m]at f;have:c=(it (goS (Zh n es)) t (c,v)).2:=congrArg Prod.fst f;exact hGr
  rw[AE,V3];exact DF hGr b7
 have:=tf nd (B:=rG (n*n)) fun x o=>by obtain⟨i,hi,rfl⟩:=si.1 o;have hi:=Db.1 hi;have⟨a1,a2⟩:=lt i NH;rw[Db];have d:((it (goS (Zh n es)) i (c,v)).1+1)*n<=n*n:=WS n a1;rw[dU,Nat.one_mul]at d;show(it (goS (Zh n es)) i (c,v)).1*n+(it (goS (Zh n es)) i (c,v)).2<n*n;omega
 simp only[vg,ag4]at this;omega
end
def aaA(rows:AM)(v:Nat):Bool:=(rows.getD v []).length==3||(rows.getD v []).length==4
def aad(rows:AM):II:=(rG rows.length).filter fun v=>aaA rows v
def aaj(rows:AM)(cs:II):List (Nat×Nat):=cs.flatMap fun c=>(rows.getD c []).map fun x=>(c,x.toNat)
def aal(rows:AM)(d:Nat×Nat):Nat×Nat:=goF rows 40001 d 0
def aaH(rows:AM)(d:Nat×Nat):Pr:=(min (d.1:Int) ((aal rows d).1:Int),max (d.1:Int) ((aal rows d).1:Int))
def aaI(rows:AM)(cs:II)(p:Pr):Nat:=((aaj rows cs).map (aaH rows)).count p
def aaU(rows:AM)(cs:II):Nat:=((aaj rows cs).map fun d=>(aal rows d).2+1).sum
def abh(W:Pr->Nat)(A B:II):Bool:=A.all fun c=>B.all fun d=>c==d||W (min (c:Int) (d:Int),max (c:Int) (d:Int))==2
def aa1(W:Pr->Nat)(cs:II):Bool:=
 let f:=cs.headD 0;let A:=cs.filter fun(c:Nat)=>W ((f:Int),((c:Nat):Int))==0;let B:=cs.filter fun(c:Nat)=>W ((f:Int),((c:Nat):Int))!=0
 A.length==3&&!B.contains f&&abh W A B
def aaN(es:xLP):Int:=
 let rows:=Zh 200 es
 if rows.any (fun r=>!(r.length==0||r.length==2||r.length==3||r.length==4))then 0 else
 let cs:=aad rows
 if cs.length=5 then
  if cs.any (fun c=>(rows.getD c []).length !=4)then 0
  else if aaU rows cs≠2*es.length then 0
  else if abh (aaI rows cs) cs cs then 5 else 0
 else if cs.length=6 then
  if cs.any (fun c=>(rows.getD c []).length !=3)then 0
  else if aaU rows cs≠2*es.length then 0
  else if aa1 (aaI rows cs) cs then 33 else 0
 else 0
attribute [local instance] Classical.propDecidable in
noncomputable def aaz(es:xLP):Int:=if bX ⟨200,es⟩then aaN es else 0
def ahL{n:Nat}{es:xLP}(hR:aV n es)(hA:D3 es)(a:n<=200){c v:Nat}(b:Jp es c v)(d:((Zh n es).getD c []).length≠2):
  ∃K,K<=40000/\(∀i,i<K->((Zh n es).getD (it (goS (Zh n es)) i (c,v)).2 []).length=2)/\((Zh n es).getD (it (goS (Zh n es)) K (c,v)).2 []).length≠2/\aal (Zh n es) (c,v)=((it (goS (Zh n es)) K (c,v)).2,K):=by
 have⟨K,e,h2,h3⟩:=go_ends hR hA b d;have f:K<=40000:=ff e (af7 a a);refine⟨K,f,h2,h3,?_⟩;rw[aal,alE _ K 40001 _ _ NH h2 h3,EL]
theorem RL.loadS{R:aai->vV->α->Prop}{v:vV}{xs:List α}(a:RL R h v xs){e:TypeId}{d:TypeDesc}(c:pG.underlying e=Z d)(hd:ab8 d=fF)(i:Nat)(hi:i<xs.length):∃u,R h u xs[i]/\∀g,Le h g->aaC pG g e (aaq v i)=Z u:=by have⟨vs,r,f,b⟩:=a;exact⟨_,b i _ _ (Gc hi) (Gc NH),(by grind[RS.le,RS.load])⟩
variable{P:Program}{W0:LA}{m:abd}{h:aai}{w:World}
def acO(l:RZ):xLV:=l.map (vV.int .i64)
theorem mN(l:RZ):(acO l).length=l.length:=by simp[acO]
theorem vr_int{n:Nat}{m:abd}{k:IntKind}{x:Int}{v:vV}(h:VR n m (.int k x) v):v=.int k x:=by cases h;rfl
theorem Rel.row(R:Rel W0 m h w){id:Nat}{c:xLV}{ys:RZ}(G:h.own id=Z (.cells c))(X:ys.length<=c.length)(q:Nat)(os:Array Obj):
  Rel W0 m (h.put id (.cells (acO ys++c.drop ys.length))) (Sort.grow (Sort.putRow (vV.int .i64) (Sort.ahead w q) (m id).blk (m id).base ys.toArray) os):=by
 have s:h.own id≠Y:=by rw[G];simp
 have⟨C,e,lo,hi,hb,hs,L,M,H,hf⟩:=R.own id _ G;have N:(m id).blk<w.heap.size:=(Fu.1 hb).1;generalize t:acO ys++c.drop ys.length=I;have J:I.length=c.length:=by grind[mN]
 have a:∀i,(h.put id (.cells I)).own i≠Y->h.own i≠Y:=by grind[aai.By]
 have p:∀i,h.own i≠Y->i≠id->(m i).blk≠(m id).blk:=fun i f n A=>n (R.inj i id f s A);have heq:∀b,b<w.heap.size->b≠(m id).blk->(Sort.grow (Sort.putRow (vV.int .i64) (Sort.ahead w q) (m id).blk (m id).base ys.toArray) os).heap[b]?=w.heap[b]?:=fun b O Q=>by simp only[Sort.grow,Sort.putRow,Sort.mapBlock,Sort.ahead];grind
 have y:(Sort.grow (Sort.putRow (vV.int .i64) (Sort.ahead w q) (m id).blk (m id).base ys.toArray) os).heap[(m id).blk]?=Z (.cells (Sort.putCells (vV.int .i64) (m id).base ys.toArray C) e (lo,hi)):=by simp only[Sort.grow,Sort.putRow,Sort.mapBlock,Sort.ahead];rw[qL180 hGr,aeu,Sb rfl,hb];rfl
 have B:(Sort.grow (Sort.putRow (vV.int .i64) (Sort.ahead w q) (m id).blk (m id).base ys.toArray) os).heap.size=w.heap.size+os.size:=by simp[Sort.grow,Sort.putRow,Sort.mapBlock,Sort.ahead]
 refine⟨by rw[B];have:=R.size;omega,fun b sZ=>?_,R.ext,fun i f=>R.lt i (a i f),fun i f=>R.new i (a i f),fun i o g=>?_,fun i j f D=>R.inj i j (a i f) (a j D),R.os,R.output,⟨R.tape.1,ff R.tape.2 (qL228 _ _)⟩,R.aah.put a (fun b hb S=>heq b hb (fun e=>S id s e.symm))⟩
 .grind[Rel.new,Rel.qi]
 .by_cases n:i=id
  .subst n;rw[aai.Y3]at g;injection g with g;subst g;have T:(Sort.putCells (vV.int .i64) (m i).base ys.toArray C).size=C.size:=by simp[Sort.putCells]
   have r:∀k,(Sort.putCells (vV.int .i64) (m i).base ys.toArray C)[k]?=(C[k]?).map fun x=>if(m i).base<=k/\k<(m i).base+ys.length then vV.int .i64 ys.toArray[k-(m i).base]!else x:=fun k=>by simp[Sort.putCells]
   refine⟨_,e,lo,hi,y,hGr,hGr,⟨hGr,fun k v v' l d=>?_⟩,fun u U=>?_,fun j hj=>hf j hGr⟩
   .rw[Dj]at d;split at d
    .rename_i V;rw[Ki,iU,r]at d;by_cases E:k<ys.length
     .have F:(m i).base+k<C.size:=NH;rw[aex F,V9,Sb ⟨NH,NH⟩]at d;rw[<-t,EP hGr]at l;simp only[acO,Q4,Gc E,V9,ah1]at l d;subst l d;have:(m i).base+k-(m i).base=k:=NH;rw[this,getElem!_pos _ k hGr];exact .flat rfl
     .rw[<-t,jf hGr,mN,Ki]at l;have W:ys.length+(k-ys.length)=k:=NH;rw[W]at l;refine M.2 k v v' l ?_;rw[Dj,Sb NH,Ki,iU,<-d];cases K:C[(m i).base+k]? with
      |none=>rfl
      |some x=>grind
    .cases d
   .obtain⟨k,l⟩:=Og.1 U;rw[iU,r]at l;cases K:C[k]? with
    |none=>grind
    |some x=>
     rw[K,V9]at l;injection l with l;split at l
     .subst l;rfl
     grind
  .rw[aai.By _ _ _ _ n]at g;have z:h.own i≠Y:=hGr;exact Rel.JP (R.own i o g) (qL0 _) (ZK.refl _ _) (heq _ (R.Hc z) (p i z n))
theorem Rel.holds(R:Rel W0 m h w){id:Nat}{c:xLV}{xs:RZ}(d:h.own id=Z (.cells c))(a:c.take xs.length=acO xs):Sort.Holds (vV.int .i64) w (m id).blk (m id).base xs.toArray:=by
 intro j e;have b:j<xs.length:=hGr;have hg:c[j]?=Z (.int .i64 xs[j]):=by have:=congrArg (·[j]?) a;grind[acO]
 grind[Rel.UL,vr_int,Rel.frozen]
theorem IA{n:Nat}{m:abd}{id len cap:Nat}{v':vV}(b:len<=cap)(d:0<len)(h:VR n m (sL (Z id) len cap) v'):
  ∃cap',v'=sL (Z ⟨(m id).blk,(m id).base,Y⟩) len cap'/\len<=cap'/\∀k,k<=len->VR n m (sL (Z id) k cap) (sL (Z ⟨(m id).blk,(m id).base,Y⟩) k cap'):=by
 cases h with
 |flat h=>grind[flat]
 |slice h c=>exact⟨cap,Ma,b,fun k _=>by simpa using VR.slice (m:=m) (off:=0) (len:=k) h c⟩
 |@buf _ _ _ k cap' a' h a ha=>
  rcases ha with⟨rfl,ha⟩|ha
  .exact⟨cap',Ma,a,fun j e=>by simpa using VR.buf (m:=m) (off:=0) (len:=j) (k:=k) (cap':=cap') h NH (.inl ⟨rfl,hGr⟩)⟩
  .omega
 |empty=>omega
theorem WT{n:Nat}{m:abd}{a:Option Addr}{cap:Nat}{v':vV}(h:VR n m (.slice a 0 cap) v'):∃a' cap',v'=.slice a' 0 cap':=by
 cases h<;>grind
theorem AC.ofRow{f:FuncId}{id len cap k:Nat}{c:xLV}{xs ys:RZ}{out:vV}(g:h.own id=Z (.cells c))(G:c.take len=acO xs)(u:xs.length=len)(j:ys.length=len)(y:len<=c.length)(z:len<=cap)(A:0<len)(B:k<=len)(d:out=.tuple #[]\/out=sL (Z id) k cap)(C:∀(blk off cap':Nat)(w:World),Sort.Holds (vV.int .i64) w blk off xs.toArray->blk<w.heap.size->len<=cap'->
   Calls P f #[sL (Z ⟨blk,off,Y⟩) len cap'] w fun e w'=>(∃v,e=.returned v/\(out=.tuple #[]/\v=.tuple #[]\/out≠.tuple #[]/\v=sL (Z ⟨blk,off,Y⟩) k cap'))/\∃q os,w'=Sort.grow (Sort.putRow (vV.int .i64) (Sort.ahead w q) blk off ys.toArray) os):
  AC P W0 f [sL (Z id) len cap] h fun x h'=>x=out/\h'=h.put id (.cells (acO ys++c.drop len)):=by
 intro ex m w a R s;have⟨D,E,l⟩:=s.get (i:=0) rfl;have b:a=[D]:=by
  have n:=s.1
  match a,n with
  |[x],_=>grind
 obtain⟨cap',rfl,o,p⟩:=IA z A l;rw[b];have r:h.own id≠Y:=by rw[g];simp
 refine(C (m id).blk (m id).base cap' w (R.holds g hGr) (R.Hc r) o).mono ?_;rintro e w' ⟨⟨v,rfl,F⟩,q,os,rfl⟩;have R':=R.row (ys:=ys) g NH q os;rw[j]at R';refine⟨out,v,m,_,rfl,R',ZK.refl _ _,qL0 _,?_,rfl,rfl⟩;rcases F with⟨t,rfl⟩|⟨t,rfl⟩
 .rw[t];exact .tuple rfl (fun i v v' e=>by simp at e)
 .rcases d with h2|h2
  .grind
  .rw[h2];exact p k B
end
section
variable{P:Program}{W0:LA}{h:aai}
theorem AC.frame{f:FuncId}{args:xLV}{R:Nat}{o:fK}{Q:vV->aai->Prop}(D:h.own R=Z o)(H:AC P W0 f args (h.kill R) Q):
  AC P W0 f args h fun x h'=>∃g,Q x g/\g.own R=Y/\h'=g.put R o:=by
 intro ex m w p r I;have q:h.own R≠Y:=by rw[D];simp
 have u:R<h.next:=r.lt R q
 have A:=r.own R o D;obtain⟨O,hb⟩:∃O,w.heap[(m R).blk]?=Z O:=by
  cases o with
  |cells c=>have⟨C,e,lo,hi,J,_⟩:=A;grind
  |map es=>have⟨E,clock,J,_⟩:=A;grind
 have K:∀b a,(b,a)∈(W0.add ex).rw->(m R).blk≠b:=fun b a sZ=>r.aah.apart b a R sZ q;have t:∀i,(h.kill R).own i≠Y->h.own i≠Y/\i≠R:=fun i hi=>by grind[aai.Dg,aai.xJ]
 have L:Rel (W0.add (((m R).blk,O)::ex)) m (h.kill R) w:={
  size:=r.size
  qi:=r.qi
  ext:=r.ext
  lt:=fun i hi=>r.lt i (t i hi).1
  new:=fun i hi=>r.new i (t i hi).1
  own:=fun i a hi=>by have:=t i (by rw[hi];simp);rw[aai.xJ _ _ _ this.2]at hi;exact r.own i a hi
  inj:=fun i j hi F e=>r.inj i j (t i hi).1 (t j F).1 e
  os:=r.os
  output:=r.output
  tape:=r.tape
  aah:={
   agree:=r.aah.agree
   next:=r.aah.next
   VM:=by show(((m R).blk,O)::(W0.add ex).rw|>.map (·.1)).Nodup;rw[AQ,eR];refine⟨fun d=>?_,r.aah.VM⟩;grind
   hi:=fun b a d=>by
    rcases HV.1 d with e|d
    .injection e with M T;subst M;exact r.new R q
    .exact r.aah.hi b a d
   held:=fun b a d=>by
    rcases HV.1 d with e|d
    .grind
    .exact r.aah.held b a d
   apart:=fun b a i d hi=>by
    rcases HV.1 d with e|d
    .grind[Rel.inj]
    .exact r.aah.apart b a i d (t i hi).1}}
 refine(H (((m R).blk,O)::ex) m w p L I).mono ?_;rintro e w' ⟨v,v',z,g,N,rg,k,l,S,hQ⟩
 have k:ZK h.next m z:=k
 have l:h.next<=g.next:=l
 have y:z R=m R:=k R u;have n:((m R).blk,O)∈(W0.add (((m R).blk,O)::ex)).rw:=qH ..;have B:=rg.aah.held _ _ n;have s:g.own R=Y:=by
  cases hg:g.own R with
  |none=>rfl
  |some a=>exact absurd (by rw[y]) (rg.aah.apart _ _ R n (by rw[hg];simp))
 have hs:∀i,(g.put R o).own i≠Y->i=R\/(i≠R/\g.own i≠Y):=fun i hi=>by grind[aai.By]
 have G:∀i,g.own i≠Y->(z i).blk≠(m R).blk:=fun i hi=>rg.aah.apart _ _ i n hi;refine⟨v,v',z,g.put R o,N,?_,k,l,S,g,hQ,s,rfl⟩;exact{
  size:=rg.size
  qi:=rg.qi
  ext:=rg.ext
  lt:=fun i hi=>by
   rcases hs i hi with rfl|⟨_,hi⟩
   .exact ahD u l
   .exact rg.lt i hi
  new:=fun i hi=>by
   rcases hs i hi with rfl|⟨_,hi⟩
   .grind[Rel.new]
   .exact rg.new i hi
  own:=fun i a hi=>by
   by_cases e:i=R
   .subst e;rw[aai.Y3]at hi;injection hi with hi;subst hi;rw[y];exact Rel.JP A l k (by rw[B,hb])
   .rw[aai.By _ _ _ _ e]at hi;exact rg.own i a hi
  inj:=fun i j hi F e=>by grind[Rel.inj]
  os:=rg.os
  output:=rg.output
  tape:=rg.tape
  aah:={
   agree:=rg.aah.agree
   next:=rg.aah.next
   VM:=r.aah.VM
   hi:=r.aah.hi
   held:=fun b a d=>rg.aah.held b a (VU _ d)
   apart:=fun b a i d hi=>by
    rcases hs i hi with rfl|⟨_,hi⟩
    .grind
    .exact rg.aah.apart b a i (VU _ d) hi}}
theorem Le.Y5{g:aai}{R:Nat}(a:g.own R=Option.none)(o:fK):Le g (g.put R o):=(Le.refl g).put o a
theorem Le.aiY{f:aai}{R:Nat}(l:Le f h)(a:f.own R=Option.none):Le f (h.kill R):=⟨l.ext,fun i o hi=>by grind[aai.xJ,Le.own]⟩
theorem AC.exact{f:FuncId}{id n k:Nat}{rest:xLV}{Q:Nat->aai->Prop}(E:0<n)(H:∀cap,n<=cap->cap<UNK->AC P W0 f (sL (Z id) n cap::rest) h fun x h'=>∃n',n'<=cap/\x=sL (Z id) n' cap/\Q n' h'):
  AC P W0 f (sL (Z id) n (UNK+k)::rest) h fun x h'=>∃n',x=sL (Z id) n' (UNK+k)/\Q n' h':=by
 intro ex m w d r j;obtain⟨l,c,rfl⟩:∃l c,d=l::c:=by
  cases d with
  |nil=>have:=j.1;simp at this
  |cons a b=>grind
 have q:VR h.next m (sL (Z id) n (UNK+k)) l:=j.2 0 _ _ rfl rfl
 have u:AK h.next m rest c:=by simpa using j.drop 1
 generalize F:UNK+k=C at q;cases q with
 |flat hf=>grind[flat]
 |slice _ G=>omega
 |@buf _ _ _ k1 cap' a' g y ha=>
  rcases ha with⟨rfl,s,t⟩|I
  .refine(H cap' y t ex m w _ r (.cons (.slice g t) u)).mono ?_;rintro e w' ⟨v,v',z,h',A,rg,i,o,B,n',p,rfl,hQ⟩;refine⟨_,v',z,h',A,rg,i,o,?_,n',rfl,hQ⟩;have J:=i id g;cases B with
   |flat hf=>grind[flat]
   |slice D h2=>exact .buf D p hGr
   |buf _ _ _=>omega
   |empty=>omega
  .omega
 |empty=>grind
end
end Go.Fw
namespace Go.Proofs
open Go.Shelf
def Tryz.lays189_ren:Go.Shelf.Ren:=⟨fun | 189=>54 | 125=>79 | 257=>83 | 128=>110 | 129=>111 | 294=>114 | 295=>115 | 296=>116 | 297=>117 | 298=>118 | 299=>119 | 216=>120 | 300=>121 | 301=>122 | 328=>154 | 329=>148 | 330=>149 | 331=>155 | 332=>156 | 215=>112 | 343=>175 | n=>n,fun | 28=>28 | 3=>3 | 46=>114 | 0=>0 | 51=>148 | 53=>150 | 4=>4 | 183=>142 | 182=>141 | 131=>79 | 5=>5 | 9=>9 | 218=>181 | 222=>185 | 228=>204 | 229=>205 | n=>n,fun | n=>n⟩
theorem Tryz.lays189:Go.Proofs.Lays.n189 Tryz.prog Tryz.lays189_ren:={
 mixed:=by kernel_rfl
 f125:=Tryz.func79.trans (congrArg some (by kernel_rfl))
 f128:=Tryz.func110.trans (congrArg some (by kernel_rfl))
 f129:=Tryz.func111.trans (congrArg some (by kernel_rfl))
 f189:=Tryz.func54.trans (congrArg some (by kernel_rfl))
 f215:=Tryz.func112.trans (congrArg some (by kernel_rfl))
 f216:=Tryz.func120.trans (congrArg some (by kernel_rfl))
 f257:=Tryz.func83.trans (congrArg some (by kernel_rfl))
 f294:=Tryz.func114.trans (congrArg some (by kernel_rfl))
 f295:=Tryz.func115.trans (congrArg some (by kernel_rfl))
 f296:=Tryz.func116.trans (congrArg some (by kernel_rfl))
 f297:=Tryz.func117.trans (congrArg some (by kernel_rfl))
 f298:=Tryz.func118.trans (congrArg some (by kernel_rfl))
 f299:=Tryz.func119.trans (congrArg some (by kernel_rfl))
 f300:=Tryz.func121.trans (congrArg some (by kernel_rfl))
 f301:=Tryz.func122.trans (congrArg some (by kernel_rfl))
 f328:=Tryz.func154.trans (congrArg some (by kernel_rfl))
 f329:=Tryz.func148.trans (congrArg some (by kernel_rfl))
 f330:=Tryz.func149.trans (congrArg some (by kernel_rfl))
 f331:=Tryz.func155.trans (congrArg some (by kernel_rfl))
 f332:=Tryz.func156.trans (congrArg some (by kernel_rfl))
 f343:=Tryz.func175.trans (congrArg some (by kernel_rfl))
 t0:=Tryz.underlying0
 a0:=Tryz.isAgg0
 z0:=Tryz.sizeOf0
 v0:=Tryz.zeroValue0
 t3:=Tryz.underlying3
 a3:=Tryz.isAgg3
 z3:=Tryz.sizeOf3
 v3:=Tryz.zeroValue3
 t4:=Tryz.underlying4
 a4:=Tryz.isAgg4
 z4:=Tryz.sizeOf4
 v4:=Tryz.zeroValue4
 t5:=Tryz.underlying5
 a5:=Tryz.isAgg5
 z5:=Tryz.sizeOf5
 v5:=Tryz.zeroValue5
 t9:=Tryz.underlying9
 a9:=Tryz.isAgg9
 z9:=Tryz.sizeOf9
 v9:=Tryz.zeroValue9
 t28:=Tryz.underlying28
 a28:=Tryz.isAgg28
 z28:=Tryz.sizeOf28
 v28:=Tryz.zeroValue28
 t46:=Tryz.underlying114
 a46:=Tryz.isAgg114
 z46:=Tryz.sizeOf114
 v46:=Tryz.zeroValue114
 t51:=Tryz.underlying148
 a51:=Tryz.isAgg148
 z51:=Tryz.sizeOf148
 v51:=Tryz.zeroValue148
 t53:=Tryz.underlying150
 a53:=Tryz.isAgg150
 z53:=Tryz.sizeOf150
 v53:=Tryz.zeroValue150
 t131:=Tryz.underlying79
 a131:=Tryz.isAgg79
 z131:=Tryz.sizeOf79
 v131:=Tryz.zeroValue79
 t182:=Tryz.underlying141
 a182:=Tryz.isAgg141
 z182:=Tryz.sizeOf141
 v182:=Tryz.zeroValue141
 t183:=Tryz.underlying142
 a183:=Tryz.isAgg142
 z183:=Tryz.sizeOf142
 v183:=Tryz.zeroValue142
 t218:=Tryz.underlying181
 a218:=Tryz.isAgg181
 z218:=Tryz.sizeOf181
 v218:=Tryz.zeroValue181
 t222:=Tryz.underlying185
 a222:=Tryz.isAgg185
 z222:=Tryz.sizeOf185
 v222:=Tryz.zeroValue185
 t228:=Tryz.underlying204
 a228:=Tryz.isAgg204
 z228:=Tryz.sizeOf204
 v228:=Tryz.zeroValue204
 t229:=Tryz.underlying205
 a229:=Tryz.isAgg205
 z229:=Tryz.sizeOf205
 v229:=Tryz.zeroValue205 }
def Tryz.laysNm220_ren:Go.Shelf.Ren:=⟨fun | 20=>58 | n=>n,fun | 22=>28 | 3=>3 | 4=>4 | 0=>0 | n=>n,fun | n=>n⟩
theorem Tryz.laysNm220:Go.Proofs.Lays2.n20 Tryz.prog Tryz.laysNm220_ren:={
 mixed:=by kernel_rfl
 f20:=Tryz.func58.trans (congrArg some (by kernel_rfl))
 t0:=Tryz.underlying0
 a0:=Tryz.isAgg0
 z0:=Tryz.sizeOf0
 v0:=Tryz.zeroValue0
 t3:=Tryz.underlying3
 a3:=Tryz.isAgg3
 z3:=Tryz.sizeOf3
 v3:=Tryz.zeroValue3
 t4:=Tryz.underlying4
 a4:=Tryz.isAgg4
 z4:=Tryz.sizeOf4
 v4:=Tryz.zeroValue4
 t22:=Tryz.underlying28
 a22:=Tryz.isAgg28
 z22:=Tryz.sizeOf28
 v22:=Tryz.zeroValue28
 i3:=by kernel_rfl }
end Go.Proofs
namespace Go.Fw
open Go.Proofs
set_option maxHeartbeats 1000000
set_option maxRecDepth 10000
def qC(l:RZ):RZ:=l.mergeSort fun x y=>decide (x<=y)
theorem GI.cases{h:aai}{v:vV}{xs:RZ}(g:GI h v xs)(k:xs.length<=100000):(∃a cap,v=.slice a 0 cap/\xs=[])\/∃id c cap,v=sL (Z ⟨id,0,Y⟩) xs.length cap/\h.own id=Z (.cells c)/\c.take xs.length=acO xs/\(cap=UNK+1\/cap=xs.length/\xs.length<1000000000000)/\0<xs.length/\xs.length<=cap/\xs.length<=c.length:=by
 obtain⟨e,⟨rfl,f⟩|⟨id,c,cap,rfl,i,d,j⟩⟩:=g
 .grind
 .by_cases f:xs.length=0
  .grind
  .rw[akO]at d e;have b:xs.length<=c.length:=hGr;refine .inr ⟨id,c,cap,rfl,i,d,j,NH,?_,b⟩;grind[UNK]
theorem AC.ofNone{P:Program}{n:LA}{h:aai}{f:FuncId}{a:Option Addr}{cap:Nat}{out:vV}(j:out=.tuple #[]\/out=.slice a 0 cap)(o:∀(a':Option Addr)(cap':Nat)(w:World),Calls P f #[.slice a' 0 cap'] w fun e w'=>(∃v,e=.returned v/\(out=.tuple #[]/\v=.tuple #[]\/out≠.tuple #[]/\v=.slice a' 0 cap'))/\w'=w):
  AC P n f [.slice a 0 cap] h fun x h'=>x=out/\h'=h:=by
 intro ex m w b R k;have⟨p,q,d⟩:=k.get (i:=0) rfl;have c:b=[p]:=by
  have g:=k.1
  match b,g with
  |[x],_=>grind
 obtain⟨a',cap',rfl⟩:=WT d;rw[c];refine(o a' cap' w).mono ?_;rintro e w' ⟨⟨v,rfl,r⟩,rfl⟩;refine⟨out,v,m,_,rfl,R,ZK.refl _ _,qL0 _,?_,rfl,rfl⟩;rcases r with⟨l,rfl⟩|⟨l,rfl⟩
 .rw[l];exact .tuple rfl (fun i v v' e=>by simp at e)
 grind
theorem OX(l:RZ):(qC l).length=l.length:=by simp[qC]
theorem VQ(l:LA){h:aai}{v:vV}{xs:RZ}(g:GI h v xs)(m:xs.length<=100000):AC pG l 54 [v] h fun x h'=>x=.tuple #[]/\GI h' v (qC xs)/\∀f,Le f h->Z2 f v->Le f h':=by
 rcases g.cases m with⟨a,cap,rfl,rfl⟩|⟨id,c,cap,rfl,n,o,s,p,b,d⟩
 .refine(AC.ofNone (out:=.tuple #[]) (.inl rfl) fun a' cap' w=>(Any.slices_Sort_int_none Tryz.lays189 a' cap' w).mono ?_).mono ?_
  .grind
  .rintro x h' ⟨rfl,rfl⟩;exact⟨rfl,by simpa[qC]using g,fun f i _=>i⟩
 .refine(AC.ofRow (xs:=xs) (ys:=qC xs) (out:=.tuple #[]) (k:=0) n o rfl (OX xs) d b p (aax _) (.inl rfl) fun blk off cap' w r hb j=>(Any.slices_Sort_int Tryz.lays189 blk off cap' xs w r hb NH).mono ?_).mono ?_
  .rintro e w' ⟨rfl,q,os,rfl⟩;exact⟨⟨_,rfl,.inl ⟨rfl,rfl⟩⟩,q,os,rfl⟩
  .rintro x h' ⟨rfl,rfl⟩;refine⟨rfl,⟨by grind[Bp],.inr ⟨id,_,cap,by rw[OX],aai.Y3 _ _ _,?_,by grind[OX]⟩⟩,fun f i af=>i.put _ (af id rfl)⟩;rw[akO,als (by simp[mN]),abe (by simp[mN])];rfl
def OV(xs:RZ):(Lib.compact xs).length<=xs.length:=by have:=OM (Lib.keeps xs.toArray) (rG xs.length);simpa[Lib.compact,Lib.compactUpTo]using this
theorem VY(l:LA){h:aai}{v:vV}{xs:RZ}(g:GI h v xs)(m:xs.length<=100000):AC pG l 58 [v] h fun x h'=>RL RP h' x (Lib.compact xs)/\blk x=blk v/\∀f,Le f h->Z2 f v->Le f h':=by
 rcases g.cases m with⟨a,cap,rfl,rfl⟩|⟨id,c,cap,rfl,o,p,u,r,d,i⟩
 .refine(AC.ofNone (out:=.slice a 0 cap) (.inr rfl) fun a' cap' w=>(Any.slices_Compact_int_empty Tryz.laysNm220 a' cap' w).mono ?_).mono ?_
  .grind
  .rintro x h' ⟨rfl,rfl⟩;refine⟨?_,rfl,fun f j _=>j⟩;have:Lib.compact ([]:RZ)=[]:=rfl;grind[GI.rl]
 .have s:=OV xs;refine(AC.ofRow (xs:=xs) (ys:=Lib.compact xs++rP (xs.length-(Lib.compact xs).length) 0) (out:=sL (Z id) (Lib.compact xs).length cap) (k:=(Lib.compact xs).length) o p rfl (by simp;omega) i d r s (.inr rfl)
   fun blk off cap' w t hb b=>(Any.slices_Compact_int Tryz.laysNm220 blk off cap' xs w t NH b).mono ?_).mono ?_
  .rintro e w' ⟨rfl,q,rfl⟩;exact⟨⟨_,rfl,.inr ⟨Ma,rfl⟩⟩,q,#[],by rw[Sort.grow_empty]⟩
  .rintro x h' ⟨rfl,rfl⟩;refine⟨RL.Wh ?_,rfl,fun f j af=>j.put _ (af id rfl)⟩;have:=RS.own (c:=cap) (n:=(Lib.compact xs).length) (aai.Y3 h id (.cells (acO (Lib.compact xs++rP (xs.length-(Lib.compact xs).length) 0)++c.drop xs.length))) (off:=0) (by grind[mN]);grind[acO]
end Go.Fw
namespace Go.Fw
section
attribute [local irreducible] Kp MQ lU KO1 KO KN KX KE VK Kl ZJ TC aab
def zR(p:Pr)(q:Nat):Int:=if q=0 then p.1 else p.2
def ix42(p:Pr)(q:Nat)(a:q<2):afh pG 49 (UI p) q=Z (.int .i64 (zR p q)):=by have:q=0\/q=1:=NH;rcases this with rfl|rfl<;>simp[afh,qS5,Ac,UI,zR,ts3]<;>rfl
def ftP(on:Nat->Bool)(p:Pr):RZ:=[p.1,p.2].filter fun x=>on x.toNat
def BY(on:Nat->Bool)(es:xLP):RZ:=es.flatMap (ftP on)
def YJ(on:Nat->Bool)(es:xLP):RZ:=Lib.compact (qC (BY on es))
theorem Dr(on:Nat->Bool)(es:xLP):(BY on es).length<=2*es.length:=by
 induction es<;>grind[BY,ftP]
def YB(on:Nat->Bool)(p:Pr)(q:Nat):RZ:=([p.1,p.2].take q).filter fun x=>on x.toNat
theorem BM(on:Nat->Bool)(p:Pr)(q:Nat)(a:q<2):YB on p (q+1)=YB on p q++if on (zR p q).toNat=tT then[zR p q]else[]:=by
 have:q=0\/q=1:=NH;rcases this with rfl|rfl
 all_goals grind[YB,zR]
theorem feet_any(G:LA)(ev r:vV)(n:Nat)(es:xLP)(bs:List Bool)(h:aai)(H:PR h ev es)(hb:RL sJ h r bs)(hR:aV n es)(aa:bs.length=n)(hn:es.length<=1000):
  AC pG G 162 [ev,r] h fun x h'=>RL RP h' x (YJ (fun u=>bs.getD u fF) es)/\Le h h'/\Z2 h x:=by
 refine AC.vF func162 ntmps162 results162 fun w=>?_;have⟨I,T,y,J,U⟩:=Tt w []
 have A:aas pG h 28 0 []=Z (sL (Z h.next) 0 0,I):=by rw[<-T];rfl
 have ll:=fun g=>H.len g;refine Sk (XC A ll) ?_
 have nB:h.own h.next=Y:=(Le.refl h).next w (qL0 _)
 generalize h.next=B at*
 let on:Nat->Bool:=fun u=>bs.getD u fF;have V:GI I (sL (Z B) 0 0) (BY on (es.take 0)):=GS.full U rfl WY;refine lIn (fun k fr hh=>∃(i:Nat)(a:vV),k=es.length-i/\i<=es.length/\fr=mkF [(1,r),(5,a),(11,ev),(12,es.length),(13,i)]/\GI hh a (BY on (es.take i))/\Le h hh/\Z2 h a) ⟨0,_,rfl,aax _,rfl,V,y,fun b hb=>by grind[blk]⟩ ?_;clear V U nB A J y T I B;rintro k fr hh s ⟨i,a,rfl,hi,rfl,g,f,ap⟩;refine Uy ?_;refine Kl.intro (fun W=>?_) (fun hf=>?_)
 rotate_left
 .have K:es.length<=i:=vp hf;rw[abe K]at g;have hl:=Dr on es;refine Uy ?_;refine kCi qS22 (VQ G g NH) ?_;rintro x h2 w2 ⟨rfl,g2,k2⟩;have L:=k2 h f ap;refine Uy ?_;refine kCi func58 (VY G g2 (by rw[OX];omega)) ?_;rintro x h3 w3 ⟨r3,bx,k3⟩;have d:=k3 h L ap;refine Uy ?_;exact⟨r3,d,fun b hb=>ap b hGr⟩
 have j:i<es.length:=acb W;clear W;have t:=CA j;have M:es.take (i+1)=es.take i++[es[i]]:=XJ j;generalize es[i]=p at t M;have⟨p1,p2,p3⟩:=hR p (BS t);have ad:=H.addr (k:=.i64) i j;have ld:=(H.le f).load t;have⟨ae,h3,X,e3,d,N,o3⟩:=Ut s p
 have nE:h.own hh.next=Y:=f.none ((Le.refl hh).next s (qL0 _))
 have O:∀b,blk a=Z b->b≠hh.next:=fun b hb e=>by subst e;have:=GS.Sy g hb;exact this ((Le.refl hh).next s (qL0 _))
 have P:=g.le d;have m:=f.trans d;have LP:=uM o3
 generalize hh.next=E at*
 simp only[HO,seval,ad,ld,X,e3,LP];have C:BY on (es.take i)=BY on (es.take i)++YB on p 0:=by simp[YB]
 rw[C]at P;refine lIn (fun k fr F=>∃(q:Nat)(a:vV),k=2-q/\q<=2/\fr=mkF [(1,r),(5,a),(11,ev),(12,es.length),(13,i),(17,UI p),(18,q)]/\GI F a (BY on (es.take i)++YB on p q)/\Le h F/\Z2 h a) ⟨0,_,rfl,aax _,rfl,P,m,ap⟩ ?_;clear C P O ap g a LP m nE o3 N d X e3;rintro k fr F Q ⟨q,a,rfl,ai,rfl,g,leq,ap⟩;have hlen:(BY on (es.take i)++YB on p q).length<=100000:=by grind[Dr,YB,Nat.min_le_right]
 by_cases c:q<2
 rotate_left
 .have z:((q:Int)<2)=False:=eq_false NH;obtain rfl:q=2:=NH;have D:BY on (es.take i)++YB on p 2=BY on (es.take (i+1)):=by grind[BY,YB,ftP]
  rw[D]at g;refine Sk (XC z (aaa i NH)) ?_;exact lgA NH ⟨i+1,a,rfl,j,rfl,g,leq,ap⟩
 have z:((q:Int)<2)=True:=eq_true NH;have ix:=ix42 p q c;have o:0<=zR p q/\zR p q<(n:Int):=by grind[zR]
 have l:=BM on p q c;generalize zR p q=x at ix o l;obtain⟨v,rfl⟩:=qL7 o.1;have R:v<bs.length:=NH;have oa:aao pG 41 r v=Z (pT (Z (aaq r v))):=hb.LB v R;have ol:aaC pG F 4 (aaq r v)=Z (.bool (on v)):=by rw[(hb.le Nn.sJ leq).W7 v R];simp only[on];rw[D4 R]
 rw[yM]at l;cases c2:on v with
 |false=>rw[c2]at ol l;have D:BY on (es.take i)++YB on p q=BY on (es.take i)++YB on p (q+1):=hGr;rw[D]at g;simp only[HO,seval,z,ix,oa,ol,aaa q NH];exact lgA NH ⟨q+1,a,rfl,c,rfl,g,leq,ap⟩
 |true=>rw[c2]at ol l;obtain⟨S,h4,h5,e4,e5,g5,w5,l4,hf,-⟩:=g.push Q (v:Int) hlen;have⟨l5,a5⟩:=hf h leq ap;have D:BY on (es.take i)++YB on p q++[(v:Int)]=BY on (es.take i)++YB on p (q+1):=hGr;rw[D]at g5;simp only[HO,seval,z,ix,oa,ol,e4,e5,aaa q NH];exact lgA NH ⟨q+1,S,rfl,c,rfl,g5,l5,a5⟩
def Zo(n:Nat)(on:Nat->Bool)(L:RZ)(p:Pr)(i:Nat):Int:=if on p.1.toNat=fF then L.getD p.1.toNat 0 else if on p.2.toNat=fF then L.getD p.2.toNat 0 else(n:Int)+i
theorem frag_any(y:LA)(ev g r:vV)(n:Nat)(es:xLP)(bs:List Bool)(L:RZ)(B O T:Nat)(i:Nat)(p:Pr)(h:aai)(s:PR h ev es)(hb:RL sJ h g bs)(t:RL RP h r L)(hR:aV n es)(A:bs.length=n)(C:L.length=n)(l0:aaC pG h 3 ⟨B,0,Y⟩=Z (.int .i64 n))(l1:aaC pG h 22 ⟨B,1,Y⟩=Z ev)(l2:aaC pG h 41 ⟨O,0,Y⟩=Z g)(l3:aaC pG h 28 ⟨T,0,Y⟩=Z r)(f:es[i]?=Z p)(K:n<=100000)(D:es.length<=100000):
  AC pG y 161 [i,pT (Z B),pT (Z O),pT (Z T)] h fun x h'=>x=.int .i64 (Zo n (fun u=>bs.getD u fF) L p i)/\h'=h:=by
 refine AC.vF func161 ntmps161 results161 fun E=>?_;have l:=(Ny.1 f).1;have⟨M,N,P⟩:=hR p (BS f);have ad:=s.addr (k:=.i64) i l;have ld:=s.load f;simp only[HO,seval,Di,Ip,EL,l1,ad,ld];let on:Nat->Bool:=fun u=>bs.getD u fF;refine lIn (fun k fr m=>∃q:Nat,k=2-q/\q<=2/\m=h/\fr=mkF [(0,i),(1,pT (Z B)),(2,pT (Z O)),(3,pT (Z T)),(12,UI p),(13,q)]/\∀j,j<q->on (zR p j).toNat=tT) ⟨0,rfl,aax _,rfl,rfl,NH⟩ ?_;rintro k fr m-⟨q,rfl,F,rfl,rfl,d⟩;by_cases c:q<2
 rotate_left
 .have z:((q:Int)<2)=False:=eq_false NH;obtain rfl:q=2:=NH;have G:=d 0 NH;have c1:=d 1 NH;simp only[zR,if_true,qL240,if_false]at G c1;have hf:Zo n on L p i=(n:Int)+i:=by grind[Zo]
  have wr:aaY .i64 ((n:Int)+(i:Int))=(n:Int)+i:=cT _ NH NH;simp only[HO,seval,z,Ii,Ip,EL,l0,wr];grind
 have z:((q:Int)<2)=True:=eq_true NH;have ix:=ix42 p q c;have e:0<=zR p q/\zR p q<(n:Int):=by grind[zR]
 have b:on (zR p q).toNat=fF->Zo n on L p i=L.getD (zR p q).toNat 0:=fun H=>by have:q=0\/q=1:=NH;grind[zR,Zo]
 have a:on (zR p q).toNat=tT->∀j,j<q+1->on (zR p j).toNat=tT:=fun H j Q=>by grind
 generalize zR p q=x at ix e b a;obtain⟨v,rfl⟩:=qL7 e.1;rw[yM]at b a;have o:v<bs.length:=NH;have w:aao pG 41 g v=Z (pT (Z (aaq g v))):=hb.LB v o;have ol:aaC pG m 4 (aaq g v)=Z (.bool (on v)):=by rw[hb.W7 v o];simp only[on];rw[D4 o]
 have I:=t.DH v NH;have J:=t.Uc v NH;cases c2:on v with
 |true=>rw[c2]at ol;simp only[HO,seval,z,ix,l2,w,ol,aaa q NH];exact lgA NH ⟨q+1,rfl,c,rfl,rfl,a c2⟩
 |false=>rw[c2]at ol;have hf:=b c2;rw[D4 NH]at hf;simp only[HO,seval,z,ix,l2,w,ol,l3,I,J];grind
variable {M:Nat} {b0 h h':aai} {us:List Value}
abbrev Gr:=Int×xLP
def Ea(gs:List Gr):RZ:=gs.map (·.1)
def acU:List Gr->Int->xLP
 |[],_=>[]
 |(k,l)::r,f=>if k=f then l else acU r f
def ab4:List Gr->Int->Pr->List Gr
 |[],f,p=>[(f,[p])]
 |(k,l)::r,f,p=>if k=f then(k,l++[p])::r else(k,l)::ab4 r f p
def AO(gs:List Gr)(us:xLV):List (vV×vV):=(gs.zip us).map fun x=>(.int .i64 x.1.1,x.2)
theorem Ga(f:Int):∀(gs:List Gr)(us:xLV)(i:Nat),us.length=gs.length->
  (f∉Ea gs/\aeU .i64 f (AO gs us) i=Z Y/\acU gs f=[]/\∀p,ab4 gs f p=gs++[(f,[p])])\/
  ∃(j:Nat)(l:xLP)(u:vV),gs[j]?=Z (f,l)/\us[j]?=Z u/\aeU .i64 f (AO gs us) i=Z (Z (i+j,u))/\acU gs f=l/\∀p,ab4 gs f p=gs.set j (f,l++[p])
 |[],us,i,h=>.inl (by simp[Ea,AO,aeU,acU,ab4])
 |(k,l)::gs,[],i,h=>by simp at h
 |(k,l)::gs,u::us,i,h=>by
  have e:AO ((k,l)::gs) (u::us)=(.int .i64 k,u)::AO gs us:=rfl;by_cases c:f=k
  .subst c;exact .inr ⟨0,l,u,rfl,rfl,by grind[aeU.eq_2],by simp[acU],fun p=>by simp[ab4]⟩
  .have c':¬k=f:=fun h=>c h.symm;rcases Ga f gs us (i+1) (by simpa using h)with⟨a,h2,h3,b⟩|⟨j,l',u',a,h2,h3,b,d⟩
   .grind[Ea,aeU.eq_2,acU.eq_2,ab4.eq_2]
   .exact .inr ⟨j+1,l',u',hGr,hGr,by grind[aeU.eq_2],by grind[acU.eq_2],fun p=>by grind[ab4.eq_2]⟩
def dK{f:Int}{l l':xLP}{u':vV}:∀(gs:List Gr)(us:xLV)(j:Nat),us.length=gs.length->gs[j]?=Z (f,l)->AO (gs.set j (f,l')) (us.set j u')=(AO gs us).set j (.int .i64 f,u')
 |[],us,j,h,e=>by simp at e
 |g::gs,[],j,h,e=>by simp at h
 |g::gs,u::us,0,h,e=>by simp at e;subst e;rfl
 |g::gs,u::us,j+1,h,e=>by have:=dK (l':=l') (u':=u') gs us j (by simpa using h) (by simpa using e);show(.int .i64 g.1,u)::AO (gs.set j (f,l')) (us.set j u')=(.int .i64 g.1,u)::(AO gs us).set j (.int .i64 f,u');rw[this]
def mapG_snoc{gs:List Gr}(a:us.length=gs.length)(g:Gr)(u:vV):AO (gs++[g]) (us++[u])=AO gs us++[(.int .i64 g.1,u)]:=by rw[AO,zip_append a.symm];simp[AO]
structure aaE (b0 h:aai) (M:Nat) (us:xLV) (gs:List Gr):Prop where
 oM:h.own M=Z (.map (AO gs us))
 len:us.length=gs.length
 gp:∀(j:Nat) u g,us[j]?=Z u->gs[j]?=Z g->GP h u g.2
 nM:∀(j:Nat) u,us[j]?=Z u->blk u≠Z M
 TE:∀(j k:Nat) u u' b,j≠k->us[j]?=Z u->us[k]?=Z u'->blk u=Z b->blk u'≠Z b
 ap:∀(j:Nat) u,us[j]?=Z u->Z2 b0 u
 le:Le b0 h
 bM:b0.own M=Y
theorem aaE.keep{gs:List Gr}(R:aaE b0 h M us gs)(le:Le b0 h')(a:∀b o,h.own b=Z o->(b=M\/∃(j:Nat)(u:vV),us[j]?=Z u/\blk u=Z b)->h'.own b=Z o):aaE b0 h' M us gs:=⟨a _ _ R.oM (.inl rfl),R.len,fun j u g c hg=>GS.kept (R.gp j u g c hg) fun b o hb d=>a b o d (.inr ⟨j,u,c,hb⟩),R.nM,R.TE,R.ap,le,R.bM⟩
theorem aaE.up{b0 h h':aai}{M:Nat}{us:xLV}{gs:List Gr}(R:aaE b0 h M us gs)(e:Le h h'):aaE b0 h' M us gs:=R.keep (R.le.trans e) fun b o a _=>e.own _ _ a
def B9:acd pG 22=Z (.slice Y 0 0):=Ji
theorem aaE.look{gs:List Gr}(R:aaE b0 h M us gs)(f:Int):∃u,acR pG h 96 (.map (Z M)) f fF=Z u/\GP h u (acU gs f):=by
 rcases Ga f gs us 0 R.len with⟨a,h2,h3,b⟩|⟨j,l,u,a,h2,h3,b,c⟩
 .refine⟨.slice Y 0 0,?_,by grind[GP.nil]⟩;simp[acR,qS9,Ac,R.oM,B9,h2,Fw.flat]
 .refine⟨u,?_,by grind[aaE.gp]⟩;simp[acR,qS9,Ac,R.oM,B9,h3,Fw.flat]
theorem aaE.push{b0 h:aai}{M:Nat}{us:xLV}{gs:List Gr}(R:aaE b0 h M us gs)(z:WF h)(f:Int)(p:Pr)(L:(acU gs f).length+1<=100000):
  ∃u u' w A E B,acR pG h 96 (.map (Z M)) (.int .i64 f) fF=Z u/\aas pG h 22 1 [(0,UI p)]=Z (sL (Z ⟨h.next,0,Y⟩) 1 1,w)/\aaR pG w 22 22 u (sL (Z ⟨h.next,0,Y⟩) 1 1)=Z (u',A)/\
   acM pG A 96 (.map (Z M)) (.int .i64 f) u'=Z E/\aaE b0 E M B (ab4 gs f p)/\WF E/\Le h w/\
   (∀b o,h.own b=Z o->b≠M->(∀(j:Nat) a,us[j]?=Z a->blk a≠Z b)->A.own b=Z o/\E.own b=Z o/\∀(j:Nat) a,B[j]?=Z a->blk a≠Z b):=by
 rcases Ga f gs us 0 R.len with⟨F,h2,h3,w⟩|⟨j,l,u,F,h2,h3,w,A⟩
 .obtain⟨u',G,x,e4,H,s,C,l4,hf,y⟩:=(GP.nil h).push z p Ma;have c:∀b o,h.own b=Z o->x.own b=Z o/\blk u'≠Z b:=fun b o d=>y b o d (by simp[blk]);obtain⟨l5,N⟩:=hf b0 R.le (fun b hb=>by grind[blk]);have m:=(c _ _ R.oM).1;refine⟨.slice Y 0 0,u',G,x,x.put M (.map (AO gs us++[(.int .i64 f,u')])),us++[u'],by simp[acR,qS9,Ac,R.oM,B9,h2,Fw.flat],e4,H,by simp only[acM,qS9,Ac,m,h2],?_,C.put _ (C.lt m),l4,fun b o d hb I=>⟨(c b o d).1,by rw[aai.By _ _ _ _ hb];exact(c b o d).1,fun k a ha=>?_⟩⟩
  .rw[w];have O:=mapG_snoc R.len (f,[p]) u';have t:∀(k:Nat) a,(us++[u'])[k]?=Z a->(us[k]?=Z a)\/(k=us.length/\a=u'):=fun k a ha=>by grind
   refine⟨by grind[aai.Y3],by simp[R.len],fun k a g ha hg=>?_,fun k a ha=>?_,fun k v a a' b J ha mi hb=>?_,fun k a ha=>?_,l5.put _ R.bM,R.bM⟩
   .rcases t k a ha with xa|⟨rfl,rfl⟩
    .have P:=(Ny.1 xa).1;rw[EP (by grind[aaE.len])]at hg;exact GS.put (GS.kept (R.gp k a g xa hg) fun b o hb d=>(c b o d).1) _ (R.nM k a xa)
    .rw[jf (by grind[aaE.len]),R.len]at hg;simp at hg;subst hg;have:([]++[p]:xLP)=[p]:=rfl;rw[this]at s;exact GS.put s _ (c _ _ R.oM).2
   .grind[aaE.nM,aaE.oM]
   .rcases t k a ha with xa|⟨rfl,rfl⟩
    .rcases t v a' mi with n|⟨rfl,rfl⟩
     .grind[aaE.TE]
     .have r:∃q,gs[k]?=Z q:=⟨_,CA (by grind[aaE.len])⟩;obtain⟨q,D⟩:=r;obtain⟨o,d⟩:=uV.1 (GS.Sy (R.gp k a q xa D) hb);grind
    .rcases t v a' mi with n|⟨rfl,rfl⟩
     .intro sZ;have r:∃q,gs[v]?=Z q:=⟨_,CA (by grind[aaE.len])⟩;obtain⟨q,D⟩:=r;obtain⟨o,d⟩:=uV.1 (GS.Sy (R.gp v a' q n D) sZ);grind
     grind
   grind[aaE.ap]
  grind
 .rw[w]at L;have Q:=R.gp j u _ h2 F;obtain⟨u',G,x,e4,H,s,C,l4,hf,y⟩:=GP.push Q z p L;obtain⟨l5,N⟩:=hf b0 R.le (R.ap j u h2);have m:=y _ _ R.oM (R.nM j u h2);have S:=(Ny.1 h2).1;have i:∀(k:Nat) a,(us.set j u')[k]?=Z a->(k≠j/\us[k]?=Z a)\/(k=j/\a=u'):=fun k a ha=>by grind
  have own:∀(k:Nat) a b,us[k]?=Z a->blk a=Z b->∃o,h.own b=Z o:=fun k a b ha hb=>by have r:∃q,gs[k]?=Z q:=⟨_,CA (by grind[aaE.len])⟩;obtain⟨q,D⟩:=r;exact uV.1 (GS.Sy (R.gp k a q ha D) hb)
  refine⟨u,u',G,x,x.put M (.map ((AO gs us).set (0+j) (.int .i64 f,u'))),us.set j u',by simp[acR,qS9,Ac,R.oM,B9,h3,Fw.flat],e4,H,by simp only[acM,qS9,Ac,m.1,h3],?_,C.put _ (C.lt m.1),l4,fun b o d hb I=>⟨(y b o d (I j u h2)).1,by rw[aai.By _ _ _ _ hb];exact(y b o d (I j u h2)).1,fun k a ha=>?_⟩⟩
  .rw[A];have O:=dK (l':=l++[p]) (u':=u') gs us j R.len F;have K:=(Ny.1 F).1;refine⟨by grind[aai.Y3],by simp[R.len],fun k a g ha hg=>?_,fun k a ha=>?_,fun k v a a' b J ha mi hb=>?_,fun k a ha=>?_,l5.put _ R.bM,R.bM⟩
   .rcases i k a ha with⟨e,xa⟩|⟨rfl,rfl⟩
    .rw[K4,WA (wI e)]at hg;exact GS.put (GS.kept (R.gp k a g xa hg) fun b o hb d=>(y b o d (fun sZ=>R.TE k j a u b e xa h2 hb sZ)).1) _ (R.nM k a xa)
    .rw[K4,Sb rfl,Sb K]at hg;injection hg with hg;subst hg;exact GS.put s _ m.2
   .grind[aaE.nM]
   .rcases i k a ha with⟨e,xa⟩|⟨rfl,rfl⟩
    .rcases i v a' mi with⟨e',n⟩|⟨rfl,rfl⟩
     .grind[aaE.TE]
     .obtain⟨o,d⟩:=own k a b xa hb;grind[aaE.TE]
    .rcases i v a' mi with⟨e',n⟩|⟨rfl,rfl⟩
     .intro sZ;obtain⟨o,d⟩:=own v a' b n sZ;grind[aaE.TE]
     grind
   grind[aaE.ap]
  grind
end
end Go.Fw
