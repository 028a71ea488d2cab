/- A text. -/
import Derived.Test.YtigllaheamfhaaaGreatFwLN12
set_option linter.all false
set_option maxRecDepth 99999
set_option maxHeartbeats 9999999
open Go.Proofs
open Option renaming some→Z,none→Y
open Bool renaming true→tT,false→fF
open List renaming range→rG
open Go.Value renaming slice→sL
open Go renaming Value→vV
open Go.Proofs.Tryz renaming prog→pG
open Go.Proofs.Tryz
open List
namespace Go.Fw
section
attribute [local irreducible] Kp MQ lU KO1 KO KN KX KE VK Kl ZJ TC aab
variable {g h:aai} {i:Nat} {o:Value} {rows:AM} {xs ys:RZ} {α:Type}
theorem aeV{P:α->Bool}{l:List α}(h:(l.take i).all P=tT)(hi:i<l.length)(a:P l[i]=tT):(l.take (i+1)).all P=tT:=by grind[take_succ_eq_append_getElem]
theorem aoW{P:α->Bool}{l:List α}(hi:i<l.length)(a:P l[i]=fF):l.all P=fF:=hGr
theorem adZ(K:abw)(M:Nat)(l:List (Pr×Int))(W:Pr->Nat)(y bv:vV)(A B:II)(h:aai)(oM:h.own M=Z (.map (wy l)))(L:∀p,(abo l p).getD 0=(W p:Int))(ha:RL RP h y (kz A))(hb:RL RP h bv (kz B))(T:A.length<=1000)(U:B.length<=1000):
  AC pG K 28 [.map (Z M),y,bv] h fun x h'=>x=.bool (abh W A B)/\h'=h:=by
 refine AC.vF func28 ntmps28 results28 fun N=>?_;have ln:=fun g=>ha.TA g;have s:=fun g=>hb.TA g;rw[y6]at ln s;simp only[HO,seval,ln];refine lIn (fun k fr C=>∃i:Nat,k=A.length-i/\i<=A.length/\fr=mkF [(0,.map (Z M)),(2,bv),(11,y),(12,A.length),(13,i)]/\C=h/\(A.take i).all (fun c=>B.all fun d=>c==d||W (min (c:Int) (d:Int),max (c:Int) (d:Int))==2)=tT) ⟨0,rfl,Z6 _,rfl,rfl,rfl⟩ ?_;rintro k fr C O ⟨i,rfl,hi,rfl,rfl,n⟩;refine Uy ?_;refine Kl.intro (fun t=>?_) (fun hf=>?_)
 rotate_left
 .have q:A.length<=i:=vp hf;rw[HV q]at n;refine Uy ?_;grind[abh.eq_1]
 have b:i<A.length:=acb t;clear t;have D:=ha.DH i (by rw[y6];exact b);have u:=ha.Uc i (by rw[y6];exact b);rw[sY b]at u;have E:=aeV n b;have Q:=aoW (P:=fun c=>B.all fun d=>c==d||W (min (c:Int) (d:Int),max (c:Int) (d:Int))==2) b;generalize A[i]=c at*;have F:=aaa i NH;refine Sk (Yb D u s) ?_;refine lIn (fun k fr H=>∃j:Nat,k=B.length-j/\j<=B.length/\fr=mkF [(0,.map (Z M)),(2,bv),(8,(c:Nat)),(11,y),(12,A.length),(13,i),(17,bv),(18,B.length),(19,j)]/\H=C/\(B.take j).all (fun d=>c==d||W (min (c:Int) (d:Int),max (c:Int) (d:Int))==2)=tT) ⟨0,rfl,Z6 _,rfl,rfl,rfl⟩ ?_;rintro k fr H R ⟨j,rfl,V,rfl,rfl,f⟩;refine Uy ?_;refine Kl.intro (fun t=>?_) (fun hf=>?_)
 rotate_left
 .have q:B.length<=j:=vp hf;rw[HV q]at f;refine Sk F ?_;exact lgA (JS b) ⟨i+1,rfl,b,rfl,rfl,E f⟩
 have a:j<B.length:=acb t;clear t;have r:=hb.DH j (by rw[y6];exact a);have m:=hb.Uc j (by rw[y6];exact a);rw[sY a]at m;have o:=aeV f a;have I:=aoW (P:=fun d=>c==d||W (min (c:Int) (d:Int),max (c:Int) (d:Int))==2) a;generalize B[j]=d at*;have v:=aaa j NH;have mn:=Dv (c:Int) (d:Int);have J:=z6 (c:Int) (d:Int);have w:=xe (min (c:Int) (d:Int)) (max (c:Int) (d:Int));have G:=SA oM (min (c:Int) (d:Int),max (c:Int) (d:Int));rw[L]at G;by_cases e:c=d
 .have z:decide ((c:Int)=(d:Int))=tT:=EL NH;refine Sk (IX r m @bne.eq_1.{0} z v) ?_
  exact lgA (JS a) ⟨j+1,rfl,a,rfl,rfl,o (by simp[e])⟩
 have z:decide ((c:Int)=(d:Int))=fF:=Sb NH;by_cases S:W (min (c:Int) (d:Int),max (c:Int) (d:Int))=2
 .have d2:decide ((W (min (c:Int) (d:Int),max (c:Int) (d:Int)):Int)=2)=tT:=EL NH;simp only[HO,seval,r,m,bne,z,mn,J,w,acS,G,d2,v];exact lgA (JS a) ⟨j+1,rfl,a,rfl,rfl,o (by simp[S])⟩
 .have d2:decide ((W (min (c:Int) (d:Int),max (c:Int) (d:Int)):Int)=2)=fF:=Sb NH;simp only[HO,seval,r,m,bne,z,mn,J,w,acS,G,d2];grind[abh.eq_1]
theorem GI.keep(r:GI h o ys)(k:∀b x,h.own b=Z x->blk o=Z b->g.own b=Z x):GI g o ys:=by
 obtain⟨a,⟨rfl,i⟩|⟨id,c,cap,rfl,d,e,f⟩⟩:=r
 .exact⟨a,hGr⟩
 .exact⟨a,.inr ⟨id,c,cap,rfl,k id _ d rfl,e,f⟩⟩
theorem GI.an0{a h:aai}{v o:vV}(g:GI h v xs)(go:GI h o ys)(i:∀b,blk v=Z b->blk o≠Z b)(l:Le a h)(e:Z2 a v)(hw:WF h)(x:Int)(f:xs.length<=100000):
  ∃v' d c,aas pG h 47 1 [(0,x)]=Z (sL (Z h.next) 1 1,d)/\aaR pG d 47 47 v (sL (Z h.next) 1 1)=Z (v',c)/\GI c v' (xs++[x])/\GI c o ys/\(∀b,blk v'=Z b->blk o≠Z b)/\Le a c/\Z2 a v':=by
 have⟨v',d,c,e4,j,k,m,l4,hf,n⟩:=g.push hw x f;have⟨l5,p⟩:=hf a l e;have own:∀b,blk o=Z b->∃y,h.own b=Z y:=fun b hb=>by
  cases q:h.own b with
  |none=>exact absurd q (GS.Sy go hb)
  |some y=>grind
 grind[GI.keep]
theorem acH{P:Nat->Bool}{l:II}(hi:i<l.length):(l.take (i+1)).filter P=(l.take i).filter P++if P l[i]then[l[i]]else[]:=by grind[take_succ_eq_append_getElem]
def ab9(a b:II):kz (a++b)=kz a++kz b:=by simp[kz]
theorem afw(H:abw)(M:Nat)(l:List (Pr×Int))(W:Pr->Nat)(cv:vV)(cs:II)(h:aai)(oM:h.own M=Z (.map (wy l)))(T:∀p,(abo l p).getD 0=(W p:Int))(u:RL RP h cv (kz cs))(lc:cs.length<=1000)(l0:0<cs.length):
  AC pG H 29 [.map (Z M),cv] h fun x h'=>x=.bool (aa1 W cs)/\Le h h':=by
 refine AC.vF func29 ntmps29 results29 fun X=>?_;have ln:=fun g=>u.TA g;rw[y6]at ln;have F:=u.DH 0 (by rw[y6];exact l0);have f0:∀g,Le h g->aaC pG g 3 (aaq cv 0)=Z (.int .i64 (cs.headD 0:Nat)):=fun g lg=>by have:=(u.le Nn.RP lg).Uc 0 (by rw[y6];exact l0);rw[sY l0]at this;rw[this];cases cs<;>grind
 simp only[oZ]at F;have hT:aa1 W cs=((cs.filter fun(c:Nat)=>W (((cs.headD 0:Nat):Int),(c:Int))==0).length==3&&!(cs.filter fun(c:Nat)=>W (((cs.headD 0:Nat):Int),(c:Int))!=0).contains (cs.headD 0)&&abh W (cs.filter fun(c:Nat)=>W (((cs.headD 0:Nat):Int),(c:Int))==0) (cs.filter fun(c:Nat)=>W (((cs.headD 0:Nat):Int),(c:Int))!=0)):=rfl;generalize cs.headD 0=f at*;simp only[HO,seval,ln];refine lIn (fun k fr s=>∃(i:Nat)(m j:vV),k=cs.length-i/\i<=cs.length/\fr=mkF [(0,.map (Z M)),(1,cv),(5,m),(6,j),(10,cv),(11,cs.length),(12,i)]/\GI s m (kz ((cs.take i).filter fun(c:Nat)=>W ((f:Int),(c:Int))==0))/\GI s j (kz ((cs.take i).filter fun(c:Nat)=>W ((f:Int),(c:Int))!=0))/\(∀b,blk m=Z b->blk j≠Z b)/\Le h s/\Z2 h m/\Z2 h j) ⟨0,_,_,rfl,Z6 _,rfl,GI.nil h,GI.nil h,(by grind[blk]),Le.refl _,fun b hb=>by grind[blk],fun b hb=>by grind[blk]⟩ ?_;rintro k fr s v ⟨i,m,j,rfl,hi,rfl,w,gt,dj,t,pa,U⟩;have n:=f0 s t;refine Uy ?_;refine Kl.intro (fun V=>?_) (fun hf=>?_)
 rotate_left
 .have I:cs.length<=i:=vp hf;rw[HV I]at w gt;have aa:=abZ (fun(c:Nat)=>W ((f:Int),(c:Int))==0) cs;have ae:=abZ (fun(c:Nat)=>W ((f:Int),(c:Int))!=0) cs;generalize cs.filter (fun(c:Nat)=>W ((f:Int),(c:Int))==0)=A at*;generalize cs.filter (fun(c:Nat)=>W ((f:Int),(c:Int))!=0)=B at*;have o:=fun g=>w.rl.TA g;rw[y6]at o;by_cases c3:A.length=3
  rotate_left
  .have d3:decide ((A.length:Int)=3)=fF:=Sb NH;have e3:(A.length==3)=fF:=hGr;refine Sk (XC o d3) ?_;grind
  have d3:decide ((A.length:Int)=3)=tT:=EL NH;have e3:(A.length==3)=tT:=hGr;refine Sk (xU o d3 F n) ?_;refine kCi func49 (W3 H j (kz B) (f:Int) s gt.rl (by rw[y6];omega)) ?_;rintro y z w5 ⟨rfl,rfl⟩;have J:decide ((f:Int)∈kz B)=B.contains f:=by grind[kz.eq_1]
  rw[J];cases cB:B.contains f with
  |true=>refine Uy ?_;grind
  |false=>refine Uy ?_;refine kCi func28 (adZ H M l W m j A B z (t.own _ _ oM) T w.rl gt.rl NH NH) ?_;rintro y h6 w6 ⟨rfl,rfl⟩;refine Uy ?_;grind
 have a:i<cs.length:=acb V;clear V;have adc:=u.DH i (by rw[y6];exact a);have q:=(u.le Nn.RP t).Uc i (by rw[y6];exact a);rw[sY a]at q;have fa:=acH (P:=fun(c:Nat)=>W ((f:Int),(c:Int))==0) a;have G:=acH (P:=fun(c:Nat)=>W ((f:Int),(c:Int))!=0) a;have K:(kz ((cs.take i).filter fun(c:Nat)=>W ((f:Int),(c:Int))==0)).length<=100000:=by grind[y6]
 have L:(kz ((cs.take i).filter fun(c:Nat)=>W ((f:Int),(c:Int))!=0)).length<=100000:=by grind[y6]
 generalize cs[i]=c at*;have C:=aaa i NH;have D:=xe (f:Int) (c:Int);have N:=SA (t.own _ _ oM) ((f:Int),(c:Int));rw[T]at N;by_cases e:W ((f:Int),(c:Int))=0
 .have O:decide ((W ((f:Int),(c:Int)):Int)>0)=fF:=Sb NH;have⟨v',h4,z,e4,Q,R,d,E,l5,S⟩:=w.an0 gt dj t pa v (c:Int) K;rw[abe (by simp[e])]at fa;rw[abE (by simp[e]),adN]at G;have r:GI z v' (kz ((cs.take (i+1)).filter fun(c:Nat)=>W ((f:Int),(c:Int))==0)):=by rw[fa,ab9];exact R
  rw[<-G]at d;simp only[HO,seval,adc,q,F,n,D,acS,N,O,e4,Q,C];exact lgA (JS a) ⟨i+1,v',j,rfl,a,rfl,r,d,E,l5,S,U⟩
 .have O:decide ((W ((f:Int),(c:Int)):Int)>0)=tT:=EL NH;have⟨v',h4,z,e4,Q,R,d,E,l5,S⟩:=gt.an0 w hGr t U v (c:Int) L;rw[abE (by simp[e]),adN]at fa;rw[abe (by simp[e])]at G;have r:GI z v' (kz ((cs.take (i+1)).filter fun(c:Nat)=>W ((f:Int),(c:Int))!=0)):=by rw[G,ab9];exact R
  rw[<-fa]at d;simp only[HO,seval,adc,q,F,n,D,acS,N,O,e4,Q,C];exact lgA (JS a) ⟨i+1,m,v',rfl,a,rfl,d,r,hGr,l5,pa,S⟩
def aaW(r:RZ):Bool:=!(r.length==0||r.length==2||r.length==3||r.length==4)
def aa8(rows:AM)(cs:II)(m:Nat)(E:Nat):Int:=
 if cs.any (fun c=>(rows.getD c []).length !=E)then 0
 else if aaU rows cs≠2*m then 0
 else if E=4 then(if abh (aaI rows cs) cs cs then 5 else 0)else if aa1 (aaI rows cs) cs then 33 else 0
theorem agP(es:xLP):aaN es=if(Zh 200 es).any aaW then 0 else if(aad (Zh 200 es)).length=5 then aa8 (Zh 200 es) (aad (Zh 200 es)) es.length 4 else if(aad (Zh 200 es)).length=6 then aa8 (Zh 200 es) (aad (Zh 200 es)) es.length 3 else 0:=rfl
theorem abp{cs:II}{E:Nat}(h:∀c∈cs,(rows.getD c []).length=E):(aaj rows cs).length=E*cs.length:=by
 induction cs<;>grind[aaj]
theorem corn_step(rows:AM)(i:Nat):(rG (i+1)).filter (aaA rows)=(rG i).filter (aaA rows)++if aaA rows i then[i]else[]:=by grind[range_succ]
theorem any_take(h:(rows.take i).any aaW=fF)(hi:i<rows.length)(hb:aaW rows[i]=fF):(rows.take (i+1)).any aaW=fF:=by grind[take_succ_eq_append_getElem]
theorem aj2(Q:abw)(ev:vV)(es:xLP)(h:aai)(T:PR h ev es):
  AC pG Q 11 [ev] h fun x h'=>x=.int .i64 (aaz es)/\Le h h':=by
 refine AC.vF akP ntmps11 results11 fun ai=>?_;have⟨h2,h3,a2,s2,l3,w3,lG⟩:=newG (n:=200) ai T;have bg:=Wj (n:=200) T.sl;have U:GR h3 (.agg #[.int .i64 200,ev]) ⟨200,es⟩:=⟨ev,rfl,T.le l3⟩;refine Sk (xU bg a2 s2 ((lG h3 (Le.refl _)).1)) ?_;refine kCi UP (ak Q _ ⟨200,es⟩ h3 U) ?_;rintro x h4 w4 ⟨⟨bb,rfl,V⟩,l4⟩;cases bb with
 |false=>refine Uy ?_;grind[aaz.eq_1,Le.trans]
 |true=>
 have W:bX ⟨((200:Nat):Int),es⟩:=V.1 rfl;have m:aaz es=aaN es:=abe W;clear V;have aj:=l3.trans l4;refine Sk ((lG h4 l4).1) ?_;refine kCi ap3 (oe Q _ 200 es h4 (U.le l4) W) ?_;rintro bv h5 w5 ⟨hb,l5⟩;have al:=aj.trans l5;have aH:es.length<=594:=W.len;have hR:=W.GD;rw[agP]at m;have L:=fun cv cs g b1 b2 b3 b4 b5=>afv Q bv cv (n:=200) (es:=es) cs g b1 b2 W b3 b4 b5;have bl:=Xq 200 es;generalize Zh 200 es=rows at*;have lb:=fun g=>hb.qP5 g;rw[bl]at lb;refine Sk lb ?_;refine lIn (fun k fr R=>∃(i:Nat)(cv:vV),k=200-i/\i<=200/\fr=mkF [(0,ev),(4,bv),(5,cv),(20,bv),(21,(200:Nat)),(22,.int .i64 i)]/\GI R cv (kz ((rG i).filter (aaA rows)))/\Le h5 R/\Z2 h5 cv/\(rows.take i).any aaW=fF) ⟨0,_,rfl,Z6 _,rfl,GI.nil h5,Le.refl _,fun b hb=>by grind[blk],rfl⟩ ?_;rintro k fr R aq ⟨i,cv,rfl,hi,rfl,gc,F,pc,t⟩;have X:=al.trans F;refine Uy ?_;refine Kl.intro (fun O=>?_) (fun hf=>?_)
 rotate_left
 .have G:200<=i:=by grind[vp]
  obtain rfl:i=200:=NH;rw[HV NH]at t;rw[t,abE Ma]at m;have av:aad rows=(rG 200).filter (aaA rows):=by rw[aad,bl]
  rw[<-av]at gc;have H:∀c∈aad rows,c<200:=hGr;generalize aad rows=cs at*;have lc:=fun g=>gc.rl.TA g;rw[y6]at lc;by_cases c5:cs.length=5
  .have d5:decide ((cs.length:Int)=5)=tT:=EL NH;rw[abe c5]at m;simp only[HO,seval,lc,d5];refine lIn (fun k fr I=>∃i:Nat,k=cs.length-i/\i<=cs.length/\fr=mkF [(0,ev),(4,bv),(5,cv),(8,.int .i64 4),(46,cv),(47,.int .i64 cs.length),(48,.int .i64 i)]/\I=R/\∀c∈cs.take i,(rows.getD c []).length=4) ⟨0,rfl,Z6 _,rfl,rfl,fun c J=>by simp at J⟩ ?_;rintro k fr I ay ⟨i,rfl,hi,rfl,rfl,f⟩;refine Uy ?_;refine Kl.intro (fun O=>?_) (fun hf=>?_)
   .have a:i<cs.length:=acb O;clear O;have A:=aaf a;have adc:=gc.rl.DH i (by rw[y6];exact a);have v:=gc.rl.Uc i (by rw[y6];exact a);rw[sY a]at v;have az:=XJ a;generalize cs[i]=c at*;have aA:=H c A;have w:c<rows.length:=NH;have B:=hb.NS c w;have⟨u,C,hu⟩:=hb.Wm c w;have lu:=C I F;have gd:rows.getD c []=rows[c]:=D4 w;generalize rows[c]=r at*;have j:=fun g=>hu.TA g;have o:=aaa i NH;by_cases e:r.length=4
    .have z:decide ((r.length:Int)=4)=tT:=EL NH;simp only[HO,seval,adc,v,B,lu,j,bne,z,o];exact lgA (JS a) ⟨i+1,rfl,a,rfl,rfl,fun d hd=>by grind⟩
    .have z:decide ((r.length:Int)=4)=fF:=Sb NH;have p:cs.any (fun c=>(rows.getD c []).length !=4)=tT:=hGr;simp only[HO,seval,adc,v,B,lu,j,bne,z];grind[aa8.eq_1]
   have G:cs.length<=i:=vp hf;rw[HV G]at f;have p:¬cs.any (fun c=>(rows.getD c []).length !=4)=tT:=hGr;rw[aa8,abE p]at m;refine Uy ?_;refine kCi func27 (L cv cs I (hb.le (Nn.RL Nn.RP) F) gc.rl (fun c J=>⟨H c J,by rw[f c J];decide⟩) (by rw[abp f];omega) NH) ?_;rintro x h8 w8 ⟨M,l,rfl,oM,hW,S⟩;have aB:=X.trans S;have lP:=fun g=>T.len g;have D:aaY .i64 (2*(es.length:Int))=((2*es.length:Nat):Int):=by grind[ie]
   by_cases e:aaU rows cs=2*es.length
   rotate_left
   .have z:decide (((aaU rows cs:Nat):Int)=((2*es.length:Nat):Int))=fF:=Sb NH;rw[abe e]at m;refine Sk (xU lP D @bne.eq_1.{0} z) ?_
    grind
   have z:decide (((aaU rows cs:Nat):Int)=((2*es.length:Nat):Int))=tT:=EL NH;rw[abE (fun q=>q e)]at m;rw[abe rfl]at m;have d4:decide ((4:Int)=4)=tT:=by decide
   have aC:decide ((4:Int)=3)=fF:=by decide
   refine Sk (IX lP D @bne.eq_1.{0} z d4) ?_
   refine kCi func28 (adZ Q M l (aaI rows cs) cv cv cs cs h8 oM hW (gc.rl.le Nn.RP S) (gc.rl.le Nn.RP S) NH NH) ?_;rintro y h9 w9 ⟨rfl,rfl⟩;cases hE:abh (aaI rows cs) cs cs with
   |true=>rw[hE,abe rfl]at m;refine Uy ?_;grind
   |false=>rw[hE,abE Ma]at m;refine Sk aC ?_;grind
  have d5:decide ((cs.length:Int)=5)=fF:=Sb NH;rw[abE c5]at m;by_cases c6:cs.length=6
  .have d5:decide ((cs.length:Int)=5)=fF:=Sb NH;rw[abe c6]at m;have d6:decide ((cs.length:Int)=6)=tT:=EL NH;simp only[HO,seval,lc,d5,bne,d6];refine lIn (fun k fr I=>∃i:Nat,k=cs.length-i/\i<=cs.length/\fr=mkF [(0,ev),(4,bv),(5,cv),(8,.int .i64 3),(46,cv),(47,.int .i64 cs.length),(48,.int .i64 i)]/\I=R/\∀c∈cs.take i,(rows.getD c []).length=3) ⟨0,rfl,Z6 _,rfl,rfl,fun c J=>by simp at J⟩ ?_;rintro k fr I ay ⟨i,rfl,hi,rfl,rfl,f⟩;refine Uy ?_;refine Kl.intro (fun O=>?_) (fun hf=>?_)
   .have a:i<cs.length:=acb O;clear O;have A:=aaf a;have adc:=gc.rl.DH i (by rw[y6];exact a);have v:=gc.rl.Uc i (by rw[y6];exact a);rw[sY a]at v;have az:=XJ a;generalize cs[i]=c at*;have aA:=H c A;have w:c<rows.length:=NH;have B:=hb.NS c w;have⟨u,C,hu⟩:=hb.Wm c w;have lu:=C I F;have gd:rows.getD c []=rows[c]:=D4 w;generalize rows[c]=r at*;have j:=fun g=>hu.TA g;have o:=aaa i NH;by_cases e:r.length=3
    .have z:decide ((r.length:Int)=3)=tT:=EL NH;simp only[HO,seval,adc,v,B,lu,j,bne,z,o];exact lgA (JS a) ⟨i+1,rfl,a,rfl,rfl,fun d hd=>by grind⟩
    .have z:decide ((r.length:Int)=3)=fF:=Sb NH;have p:cs.any (fun c=>(rows.getD c []).length !=3)=tT:=hGr;simp only[HO,seval,adc,v,B,lu,j,bne,z];grind[aa8.eq_1]
   have G:cs.length<=i:=vp hf;rw[HV G]at f;have p:¬cs.any (fun c=>(rows.getD c []).length !=3)=tT:=hGr;rw[aa8,abE p]at m;refine Uy ?_;refine kCi func27 (L cv cs I (hb.le (Nn.RL Nn.RP) F) gc.rl (fun c J=>⟨H c J,by rw[f c J];decide⟩) (by rw[abp f];omega) NH) ?_;rintro x h8 w8 ⟨M,l,rfl,oM,hW,S⟩;have aB:=X.trans S;have lP:=fun g=>T.len g;have D:aaY .i64 (2*(es.length:Int))=((2*es.length:Nat):Int):=by grind[ie]
   by_cases e:aaU rows cs=2*es.length
   rotate_left
   .have z:decide (((aaU rows cs:Nat):Int)=((2*es.length:Nat):Int))=fF:=Sb NH;rw[abe e]at m;refine Sk (xU lP D @bne.eq_1.{0} z) ?_
    grind
   have z:decide (((aaU rows cs:Nat):Int)=((2*es.length:Nat):Int))=tT:=EL NH;rw[abE (fun q=>q e)]at m;rw[abE WY]at m;have aD:decide ((3:Int)=4)=fF:=by decide
   have d3:decide ((3:Int)=3)=tT:=by decide
   refine Sk (bG lP D @bne.eq_1.{0} z aD d3) ?_
   refine kCi func29 (afw Q M l (aaI rows cs) cv cs h8 oM hW (gc.rl.le Nn.RP S) NH NH) ?_;rintro y h9 w9 ⟨rfl,l9⟩;cases hE:aa1 (aaI rows cs) cs with
   |true=>rw[hE,abe rfl]at m;refine Uy ?_;grind[Le.trans]
   |false=>rw[hE,abE Ma]at m;refine Uy ?_;grind[Le.trans]
  have d6:decide ((cs.length:Int)=6)=fF:=Sb NH;rw[abE c6]at m;simp only[HO,seval,lc,d5,bne,d6];grind
 have a:i<200:=by grind[acb]
 clear O;have K:i<rows.length:=NH;have B:=hb.NS i K;have⟨u,C,hu⟩:=hb.Wm i K;have lu:=C R F;have gd:rows.getD i []=rows[i]:=D4 K;have E:=corn_step rows i;have aJ:aaA rows i=((rows[i]).length==3||(rows[i]).length==4):=by rw[aaA,gd]
 have N:=any_take t K;have aa:aaW rows[i]=tT->rows.any aaW=tT:=hGr;generalize rows[i]=r at*;have j:=fun g=>hu.TA g;have o:=aaa i NH;have aE:(kz ((rG i).filter (aaA rows))).length<=100000:=by grind[y6]
 by_cases c0:r.length=0\/r.length=2
 .have cb:aaA rows i=fF:=hGr;rw[cb,abE Ma,adN]at E;have s:=N (by grind[aaW]);rcases c0 with q|q
  .have P:decide ((r.length:Int)=0)=tT:=EL NH;simp only[HO,seval,B,lu,j,P,o];exact lgA (JS a) ⟨i+1,cv,rfl,a,rfl,by rw[E];exact gc,F,pc,s⟩
  .have P:decide ((r.length:Int)=0)=fF:=Sb NH;have d2:decide ((r.length:Int)=2)=tT:=EL NH;simp only[HO,seval,B,lu,j,P,d2,o];exact lgA (JS a) ⟨i+1,cv,rfl,a,rfl,by rw[E];exact gc,F,pc,s⟩
 have P:decide ((r.length:Int)=0)=fF:=Sb NH;have d2:decide ((r.length:Int)=2)=fF:=Sb NH;by_cases c3:r.length=3\/r.length=4
 .have cb:aaA rows i=tT:=hGr;rw[cb,abe rfl]at E;have s:=N (by grind[aaW]);obtain⟨v',h6,h7,e6,e7,g7,w7,l6,aF,-⟩:=gc.push aq (i:Int) aE;have⟨l7,a7⟩:=aF h5 F pc;have ae:GI h7 v' (kz ((rG (i+1)).filter (aaA rows))):=by rw[E,ab9];exact g7
  rcases c3 with q|q
  .have d3:decide ((r.length:Int)=3)=tT:=EL NH;simp only[HO,seval,B,lu,j,P,d2,d3,e6,e7,o];exact lgA (JS a) ⟨i+1,v',rfl,a,rfl,ae,l7,a7,s⟩
  .have d3:decide ((r.length:Int)=3)=fF:=Sb NH;have d4:decide ((r.length:Int)=4)=tT:=EL NH;simp only[HO,seval,B,lu,j,P,d2,d3,d4,e6,e7,o];exact lgA (JS a) ⟨i+1,v',rfl,a,rfl,ae,l7,a7,s⟩
 have d3:decide ((r.length:Int)=3)=fF:=Sb NH;have d4:decide ((r.length:Int)=4)=fF:=Sb NH;have ag:aaW r=tT:=by grind[aaW]
 rw[aa ag,abe rfl]at m;simp only[HO,seval,B,lu,j,P,d2,d3,d4];grind
attribute [local instance] Classical.propDecidable
theorem Td{α:Type}{p q:α->Bool}:∀(l:List α),(∀v∈l,p v=tT\/q v=tT)->(l.filter p).length+(l.filter q).length=l.length+(l.filter fun v=>p v&&q v).length
 |[],_=>rfl
 |x::l,h=>by have c:=Td l fun v b=>h v (Gw _ b);grind
theorem keepE_row{P:Nat->Nat->Prop}{r:Nat->II}{v:Nat}(h:∀w∈r v,P v w):Om P r v=r v:=by grind[Om.eq_1,filter_eq_self]
theorem Ud{n:Nat}{s:Nat->II}(S:V7 n s){l:xLP}(nd:l.Nodup)(c:InR n l)(h:∀v w,w∈s v↔Jp l v w):(dl n s).length=2*l.length:=by
 have key:∀l:xLP,(l.flatMap fun p=>[(p.1.toNat,p.2.toNat),(p.2.toNat,p.1.toNat)]).length=2*l.length:=by
  intro l
  induction l<;>grind
 rw[<-key l];refine(yR (J8 S) ?_ fun d=>?_).length_eq
 .rw[iy,als];refine⟨fun p b=>?_,?_⟩
  .have:=c p b;grind
  .refine ff (fun{p q} b e f=>?_) nd;have g:=c p b;have h2:=c q e;grind
 .rw[IP S,h,uu];simp only[Jp,Og,ai4,or_false,jf];constructor
  .grind
  .rintro⟨p,b,⟨rfl,rfl⟩|⟨rfl,rfl⟩⟩
   .have:=c p b;grind
   .have:=c p b;grind
section
variable{n:Nat}{es:List Pr}{rs:AM}{a:Nat}
theorem T8(t:InR n es)(ha:D3 es)(G:Av n es rs)(E:a∈Es n es)(F:0<Gn es es a):∃g,(Ic n es a).length+sA es (IN n rs) a+2*g=Gn es es a+2:=by
 have⟨H,I⟩:=QO.1 E;have R:=G.jD t ha;generalize m:Xl rs=r at R;have i:∀v w,w∈r v↔Jp es v w:=fun v w=>by rw[<-m];exact G.mem t
 have S:V7 n (Om (fun v w=>Pu es a v/\Pu es a w) r):=by grind[OG]
 generalize hs:Om (fun v w=>Pu es a v/\Pu es a w) r=s at S;have j:∀v w,w∈s v↔Jp es v w/\Pu es a v:=fun v w=>by rw[<-hs,EM,i];exact⟨hGr,fun h=>⟨h.1,h.2,h.2.step h.1 rfl⟩⟩
 have row:∀v,Pu es a v->s v=r v:=fun v u=>by rw[<-hs];exact keepE_row fun w hw=>⟨u,u.step ((i v w).1 hw) rfl⟩
 have J:∀v y,Cr s v y->v=y\/(Pu es a v/\Pu es a y):=fun v y h=>by
  induction h with
  |refl=>grind
  |@step b c _ K z=>
   have⟨f,h2⟩:=(j _ _).1 K;right;rcases z with rfl|⟨h3,_⟩
   .exact⟨h2,h2.step f rfl⟩
   .exact⟨h3,h2.step f rfl⟩
 have L:∀y,Pu es a y->Cr s a y:=fun y h=>by
  induction h with
  |refl=>exact .refl _
  |step f h2 _ z=>exact z.step hGr
 have M:iJ n s+(Ic n es a).length=n+1:=by
  have C:iJ n s=((rG n).filter fun v=>decide (v=a\/¬Pu es a v)).length:=by rw[iJ,Yy (ags _).symm (Cr.eqv S _),zE (lt:=fun a b=>a<b) (by grind[Nat.lt_asymm]) _ _ rfl (uA n)];grind[Cr.symm,Cn.symm]
  have N:=Td (p:=fun v=>decide (v=a\/¬Pu es a v)) (q:=fun v=>decide (Pu es a v)) (rG n) hGr;have e3:((rG n).filter fun v=>decide (v=a\/¬Pu es a v)&&decide (Pu es a v)).length=1:=by
   refine Cq ?_ (x:=a) ?_ ?_
   all_goals grind[List.nodup_range,Pu.refl]
  grind[Ic]
 have nb:∀v,Pu es a v->∃w,Jp es v w:=fun v u=>by
  have⟨e,l⟩:=qL153 F;rw[K4,vg]at l;have O:=t e l.1;by_cases c:v=e.1.toNat
  .refine⟨e.2.toNat,.inl ?_⟩;grind
  .exact(FV (u.symm.trans l.2) c).1
 have D:((rG n).filter fun v=>decide (s v=[])).length+(Ic n es a).length=n:=by
  have N:=Td (p:=fun v=>decide (s v=[])) (q:=fun v=>decide (Pu es a v)) (rG n) fun v _=>by
   simp only[vg];by_cases c:Pu es a v
   .exact .inr c
   .rw[qH];grind
  have e3:((rG n).filter fun v=>decide (s v=[])&&decide (Pu es a v))=[]:=by rw[qL72];grind
  grind[Ic]
 have A:(dl n s).length=2*Gn es es a:=by
  refine Ud S (ha.nodup.sublist EP) (fun p P=>t p (K4.1 P).1) fun v w=>?_;rw[j];simp only[Jp,K4,vg,yM];constructor
  .rintro⟨f|f,h2⟩
   .grind
   .exact .inr ⟨f,h2.step (.inr f) rfl⟩
  .rintro(⟨f,h2⟩|⟨f,h2⟩)
   .grind
   .exact⟨.inr f,h2.step (.inl f) rfl⟩
 have q:=aaG S;have Q:∀d:H8,Pu es a d.2->Nv s d=Nv r d:=fun d hd=>by show(d.2,nx (s d.2) d.1)=(d.2,nx (r d.2) d.1);rw[row _ hd]
 have T:∀d:H8,d.2∈s d.1->Pu es a d.2:=fun d hd=>by have⟨f,h2⟩:=(j _ _).1 hd;exact h2.step f rfl
 have o:∀(k:Nat)(d:H8),d.2∈s d.1->it (Nv s) k d=it (Nv r) k d:=fun k d hd=>by
  induction k with
  |zero=>rfl
  |succ k z=>show Nv s (it (Nv s) k d)=Nv r (it (Nv r) k d);have U:=q.uN ((IP S).2 hd) k;grind[IP]
 have B:sA es (IN n rs) a=(ahN n s).length:=by
  have C:ahN n s=(ahN n r).filter fun d=>decide (Pu es a d.1):=by
   refine afe JN (by grind[Nd]) _ _ ((pI n s).filter _) (((pI n r).filter _).filter _) fun d=>?_;rw[K4,vg];rw[afQ S,afQ R,j,i];constructor
   .rintro⟨⟨f,h2⟩,h3⟩;refine⟨⟨f,?_⟩,h2⟩;rintro e ⟨k,rfl⟩;rw[<-o k d hGr];exact h3 _ ⟨k,rfl⟩
   .rintro⟨⟨f,h3⟩,h2⟩;refine⟨⟨f,h2⟩,?_⟩;rintro e ⟨k,rfl⟩;rw[o k d hGr];exact h3 _ ⟨k,rfl⟩
  rw[C,sA,VF,IN,m,vf,KG,qL219,wI];grind[List.filter_congr,afQ,JE,IP,Int.toNat_natCast]
 have⟨g,hg⟩:=genus S;rw[mj,<-yp S,<-B,A]at hg;exact⟨g,NH⟩
end
theorem yB{P:Nat->Prop}:∀(hs:II),hs.Nodup->(∃a∈hs,P a)->(∀a∈hs,∀b∈hs,P a->P b->a=b)->(hs.map fun a=>if P a then 1 else 0).sum=1
 |[],_,h,_=>by have⟨a,ha,_⟩:=h;cases ha
 |x::hs,nd,h,u=>by
  rw[VU]at nd;rw[QD,alw];by_cases c:P x
  .have:∀l:II,(∀a∈l,¬P a)->(l.map fun a=>if P a then 1 else 0).sum=0:=by
    intro l
    induction l<;>grind
   grind
  .rw[abE c,yB hs nd.2 ?_ (by grind[List.mem_cons_of_mem])];grind
def aS(f g:Nat->Nat):∀l:II,(l.map fun a=>f a+g a).sum=(l.map f).sum+(l.map g).sum
 |[]=>rfl
 |x::l=>by simp only[QD,alw,aS f g l];omega
theorem fH{α:Type}{P:Nat->α->Prop}{hs:II}(nd:hs.Nodup):∀(l:List α),(∀e∈l,∃a∈hs,P a e)->(∀e∈l,∀a∈hs,∀b∈hs,P a e->P b e->a=b)->(hs.map fun a=>VF P l a).sum=l.length
 |[],_,_=>by
  have:∀l:II,(l.map fun a=>VF P ([]:List α) a).sum=0:=by
   intro l
   induction l with
   |nil=>rfl
   |cons x l c=>rw[QD,alw,c];rfl
  exact this hs
 |e::l,h,u=>by
  have c:=fH nd l (fun x d=>h x (Gw _ d)) fun x d=>u x (Gw _ d)
  have f:∀a,VF P (e::l) a=(if P a e then 1 else 0)+VF P l a:=by grind[VF]
  simp only[f];rw[aS,c,yB (P:=fun a=>P a e) hs nd (h e Hs) (u e Hs),Fu];omega
theorem Qs(l:II)(p:Nat->Prop)[DecidablePred p]:(l.map fun a=>if p a then 1 else 0).sum=(l.filter fun a=>decide (p a)).length:=by
 induction l<;>grind
section
variable{n:Nat}{es:List Pr}{rs:AM}
theorem acn(c:InR n es){v:Nat}(d:v<n):(∃a∈Es n es,Pu es a v)/\∀a∈Es n es,∀b∈Es n es,Pu es a v->Pu es b v->a=b:=(by grind[B6,rf,Cn.trans,Cn.symm])
theorem sum_verts(c:InR n es):((Es n es).map fun a=>(Ic n es a).length).sum=n:=by have:=fH (P:=fun a v=>Pu es a v) (qD n es) (rG n) (fun v b=>(acn c (j3.1 b)).1) fun v b=>(acn c (j3.1 b)).2;grind[VF,Ic]
theorem sum_edges(b:InR n es):((Es n es).map fun a=>Gn es es a).sum=es.length:=by
 have d:∀e∈es,e.1.toNat<n:=fun e c=>by have:=b e c;omega
 unfold Gn;grind[fH,qD,acn]
theorem sum_faces(b:InR n es)(ha:D3 es)(G:Av n es rs):((Es n es).map fun a=>sA es (IN n rs) a).sum=(IN n rs).length:=by
 have c:∀f∈IN n rs,(f.headD 0).toNat<n:=fun f hf=>by have⟨_,v,c,e⟩:=Uj b ha G hf;grind
 unfold sA;grind[fH,qD,acn]
theorem ed_pos(f:InR n es){a:Nat}(g:a<n):0<Gn es es a↔1<(Ic n es a).length:=by
 have nd:(Ic n es a).Nodup:=by grind[Ic,List.filter_sublist]
 constructor
 .intro h;have⟨e,b⟩:=qL153 h;rw[K4,vg]at b;have k:=f e b.1;have h2:Pu es a e.2.toNat:=b.2.step (.inl hGr) rfl;have:=acK (A:=[e.1.toNat,e.2.toNat]) (B:=Ic n es a) (by simp;omega) (by grind[mY]);grind
 .intro h;have:∃v∈Ic n es a,v≠a:=ZT fun i=>by
   have c:∀v∈Ic n es a,v=a:=hGr;have:=Cq nd (by grind[mY,Pu.refl]) c;omega
  have⟨v,j,d⟩:=this;have⟨w,hw⟩:=(FV (mY.1 j).2 (EH d)).1;have:∃e∈es,Pu es a e.1.toNat:=by
   rcases hw with hw|hw
   .exact⟨_,hw,by simpa using Pu.refl es a⟩
   .exact⟨_,hw,by simpa using abu (.inr hw)⟩
  have⟨e,b,i⟩:=this;exact aho (K4.2 ⟨b,hGr⟩)
end
theorem QY(g:abw)(v:vV)(xs:RZ)(h:aai)(e:RL RP h v xs)(p:xs.length<=100000):AC pG g 88 [v] h fun x h'=>GI h' x xs/\Le h h'/\Z2 h x:=by
 obtain⟨a,c,rfl,hs⟩:=e.sl;refine AC.vF qS30 ntmps88 results88 fun d=>?_;cases a with
 |none=>
  have i:xs=[]:=by
   cases xs<;>grind
  subst i;simp only[HO,seval,aEq,Mb,qL201];exact⟨GI.nil _,Le.refl _,fun b hb=>by grind[blk]⟩
 |some a=>
  have⟨f,j,l1,w1,k⟩:=Tt d []
  have mk:aas pG h 47 0 []=Z (sL (Z h.next) 0 0,f):=by rw[<-j];rfl
  have q:h.own h.next=Y:=(Le.refl h).next d (qL0 _)
  have l:GI f (sL (Z h.next) 0 0) []:=GS.full k rfl WY
  have m:Z2 h (sL (Z h.next) 0 0):=fun b hb=>by injection hb with hb;grind
  obtain⟨r,s,n,t,u,o,-⟩:=GI.join l w1 (e.le Nn.RP l1) (by simp;omega);have⟨l6,w⟩:=o h l1 m;simp only[HO,seval,aEq,Mb,Ex,mk,n];grind
def aju(xs ys:RZ)(i:Nat):Prop:=ys.length=xs.length/\∀p,p<xs.length->ys[p]?=if p<i\/xs.length-i<=p then xs[xs.length-1-p]? else xs[p]?
theorem aju.zero(xs:RZ):aju xs xs 0:=⟨rfl,hGr⟩
theorem aju.fin(R:aju xs ys i)(h:xs.length<=2*i+1):ys=xs.reverse:=by
 apply mJ;intro p;by_cases a:p<xs.length
 .rw[R.2 p a,WZ a];grind
 .rw[aex (by rw[R.1];omega),aex hGr]
theorem aju.step{xs ys:RZ}{i:Nat}(R:aju xs ys i)(h:2*i+1<xs.length)(b:i<ys.length)(h2:xs.length-1-i<ys.length):
  aju xs ((ys.set i ys[xs.length-1-i]).set (xs.length-1-i) ys[i]) (i+1):=by
 refine⟨by simp[R.1],fun p a=>?_⟩;have c:ys[xs.length-1-i]?=xs[xs.length-1-i]?:=by rw[R.2 _ NH,abE NH]
 have d:ys[i]?=xs[i]?:=by rw[R.2 _ NH,abE NH]
 by_cases c1:p=xs.length-1-i
 .grind
 .rw[qL237 (EH c1)];by_cases c2:p=i
  .grind
  .rw[qL237 (EH c2),R.2 p a];grind
theorem Wk(w:abw)(u:vV)(xs:RZ)(h:aai)(g:GI h u xs)(L:xs.length<=100000):
  AC pG w 89 [u] h fun _ h'=>GI h' u xs.reverse/\(∀f,Le f h->Z2 f u->Le f h')/\∀b o,h.own b=Z o->blk u≠Z b->h'.own b=Z o:=by
 refine AC.vF qS31 ntmps89 results89 fun x=>?_;have lu:=fun y=>(GI.rl g).TA y;have z:aaY .i64 ((xs.length:Int)-1)=(xs.length:Int)-1-((0:Nat):Int):=by grind[ie]
 simp only[HO,seval,lu,z];refine lIn (fun k fr j=>∃(i:Nat)(ys:RZ),k=xs.length-i/\2*i<=xs.length/\fr=mkF [(0,u),(2,i),(3,.int .i64 ((xs.length:Int)-1-(i:Int)))]/\aju xs ys i/\GI j u ys/\(∀f,Le f h->Z2 f u->Le f j)/\∀b o,h.own b=Z o->blk u≠Z b->j.own b=Z o) ⟨0,xs,rfl,Z6 _,rfl,aju.zero xs,g,fun f n _=>n,fun b o hb _=>hb⟩ ?_;rintro k fr j p ⟨i,ys,rfl,hi,rfl,R,v,A,B⟩;by_cases c:2*i+1<xs.length
 .have d:decide ((i:Int)<(xs.length:Int)-1-(i:Int))=tT:=EL NH;have C:(xs.length:Int)-1-(i:Int)=((xs.length-1-i:Nat):Int):=NH;have l:i<ys.length:=by rw[R.1];omega
  have h2:xs.length-1-i<ys.length:=by rw[R.1];omega
  have m:=GI.rl v;have q:=m.DH i l;have e:=m.DH _ h2;have ld1:=m.Uc i l;have r:=m.Uc _ h2;have⟨M,D,E,F,l5,G⟩:=GI.store v p l ys[xs.length-1-i];have⟨N,H,I,O,l6,J⟩:=GI.store E F (i:=xs.length-1-i) hGr ys[i];have K:=R.step c l h2;have s:=aaa i NH;have t:aaY .i64 ((xs.length:Int)-1-(i:Int)-1)=(xs.length:Int)-1-((i+1:Nat):Int):=by grind[ie]
  rw[<-C]at e;refine Sk d ?_;refine gh (fRn 0 13 (JQ 13 [0,1,4,5,6,7,11,12] (tA [14] (JQ 15 [0,1,2,3,4,5,6,7,8,9,10,11,12,13,14] .done)))) ?_;simp only[HO,seval,Qg,q,e,ld1,r,D,H,s,t];exact lgA (JS NH) ⟨i+1,_,rfl,NH,rfl,K,I,fun f n af=>l6 f (l5 f (A f n af) af) af,fun b o hb a=>J b o (G b o (B b o hb a) a) a⟩
 .have d:decide ((i:Int)<(xs.length:Int)-1-(i:Int))=fF:=Sb NH;refine Sk d ?_;grind[aju.fin]
section
variable{n:Nat}{es:List Pr}{rs:AM}
theorem Tk(d:InR n es)(G:Av n es rs){a b:Nat}:Cr (Xl rs) a b↔Pu es a b:=by
 constructor
 .intro h
  induction h with
  |refl=>grind[Pu.refl]
  |step _ e c=>exact c.step ((G.mem d).1 e) rfl
 .intro h
  induction h with
  |refl _=>exact .refl _
  |step _ h2 _ c=>exact c.step ((G.mem d).2 h2)
theorem IL(c:InR n es)(ha:D3 es)(G:Av n es rs):iJ n (Xl rs)=(Es n es).length:=by
 have R:=G.jD c ha;rw[iJ,Yy (ags _).symm (Cr.eqv R _),zE (lt:=fun a b=>a<b) (by grind[Nat.lt_asymm]) _ _ rfl (uA n),Es];congr 1;refine Uz fun v d=>?_;rw[ai7];rw[j3]at d;constructor
 .intro h u e f;exact h u hGr ((Tk c G).2 f.symm) e
 grind[Tk,Cn.symm]
theorem iso_heads(d:InR n es)(ha:D3 es)(G:Av n es rs):((rG n).filter fun v=>decide (Xl rs v=[])).length=((Es n es).filter fun a=>decide (Gn es es a=0)).length:=by
 refine(yR (by grind[List.filter_sublist]) (by grind[qD]) fun v=>?_).length_eq;rw[K4,K4,j3,QO,vg,vg];constructor
 .rintro⟨c,i⟩;have j:∀w,¬Jp es v w:=fun w hw=>by
   have:=(G.mem d).2 hw;grind
  have k:∀u,Pu es v u->u=v:=fun u g=>ZT fun f=>by have⟨w,hw⟩:=(FV g (EH f)).1;grind
  refine⟨⟨c,fun u g l=>?_⟩,?_⟩
  .grind[Cn.symm]
  .refine qL226 fun m=>?_;have p:=(ed_pos d c).1 m;have h2:(Ic n es v).length=1:=Cq (by grind[Ic,List.filter_sublist]) (x:=v) (by grind[mY,Pu.refl]) (by grind[mY]);omega
 .rintro⟨⟨c,_⟩,i⟩;refine⟨c,qH.2 fun w hw=>?_⟩;have b:=(G.mem d).1 hw;have:∃e∈es,Pu es v e.1.toNat:=by
   rcases b with h|h
   .exact⟨_,h,by simpa using Pu.refl es v⟩
   .exact⟨_,h,by simpa using abu (.inr h)⟩
  have⟨e,o,k⟩:=this;have:0<Gn es es v:=by unfold Gn VF;exact aho (K4.2 ⟨o,hGr⟩)
  omega
theorem U3{l:II}(h:l.length=1){x y:Nat}(a:x∈l)(b:y∈l):x=y:=by
 match l,h with
 |[z],_=>grind
theorem sumz:∀(l:II)(f:Nat->Nat),(l.map f).sum=0↔∀a∈l,f a=0
 |[],f=>by simp
 |a::l,f=>by have b:=sumz l f;grind
theorem Va(f g:Nat->Nat):∀l:II,(∀a∈l,f a=g a)->(l.map f).sum=(l.map g).sum
 |[],_=>rfl
 |a::l,h=>by rw[QD,QD,alw,alw,h a Hs,Va f g l (by grind[mem_cons_of_mem])]
theorem En(i:InR n es)(ha:D3 es)(G:Av n es rs):z8 n es rs↔Flat n (Xl rs):=by
 have R:=G.jD i ha
 have key:∀a,a∈Es n es->∃g,(Ic n es a).length+(sA es (IN n rs) a+if Gn es es a=0 then 1 else 0)+2*g=Gn es es a+2/\(g=0↔(0<Gn es es a->(Ic n es a).length+sA es (IN n rs) a=Gn es es a+2)):=fun a j=>by
  by_cases c:0<Gn es es a
  .grind[T8]
  .refine⟨0,?_,hGr⟩;have p:Gn es es a=0:=NH;rw[abe p,p];have u:¬1<(Ic n es a).length:=by grind[ed_pos,QO]
   have h2:0<(Ic n es a).length:=aho (mY.2 ⟨(QO.1 j).1,Pu.refl es a⟩);have h3:sA es (IN n rs) a=0:=by
    refine qL226 fun q=>?_;have⟨f,hf⟩:=qL153 q;rw[K4,vg]at hf;have⟨o,h⟩:=hf;obtain⟨v,k,rfl⟩:=aev.1 o;rw[vf,aev]at k;obtain⟨d,hd,rfl⟩:=k;have m:=((afQ R).1 hd).1;rw[(JE R ((IP R).2 m)).1,yM]at h;have b:=(G.mem i).1 m;have:d.2=d.1:=by have e:(Ic n es a).length=1:=NH;exact U3 e (mY.2 ⟨Pu.lt i (show Pu es a d.2 from h.step b rfl) (QO.1 j).1,h.step b rfl⟩) (by grind[mY,Pu.lt,QO])
    grind[V7.ir]
   omega
 have⟨g,hg⟩:=To (r:=fun a g=>a∈Es n es->(Ic n es a).length+(sA es (IN n rs) a+if Gn es es a=0 then 1 else 0)+2*g=Gn es es a+2/\(g=0↔(0<Gn es es a->(Ic n es a).length+sA es (IN n rs) a=Gn es es a+2))) fun a=>by
  by_cases j:a∈Es n es
  .grind
  .exact⟨0,hGr⟩
 have S:=Va _ _ (Es n es) fun a j=>(hg a j).1
 rw[aS (fun a=>(Ic n es a).length+(sA es (IN n rs) a+if Gn es es a=0 then 1 else 0)),aS (fun a=>(Ic n es a).length),aS (fun a=>sA es (IN n rs) a),aS (fun a=>Gn es es a) (fun _=>2),sum_verts i,sum_edges i,sum_faces i ha G,Qs]at S
 have w:((Es n es).map fun _=>2).sum=2*(Es n es).length:=by
  have:∀l:II,(l.map fun _=>2).sum=2*l.length:=fun l=>by
   induction l<;>grind
  exact this _
 have s:mj n (Xl rs)=(IN n rs).length+((Es n es).filter fun a=>decide (Gn es es a=0)).length:=by grind[mj.eq_1,yp,iso_heads,IN.eq_1,vf.eq_1]
 have t:(dl n (Xl rs)).length=2*es.length:=by grind[Ud,D3.nodup,Av.mem]
 grind[z8,sumz,Flat.eq_1,IL]
end
structure zW (n:Nat) (es:xLP):Prop where
 n3:3<=n
 one:(Es n es).length=1
 aoX:∀v,¬Fo.Cut2 es v
section
variable{n:Nat}{es:List Pr}
theorem zW.bp(T:zW n es){u v:Nat}(a:u<n)(b:v<n):Pu es u v:=uh T.one a b
theorem nb_of(hR:InR n es){u v:Nat}(h:Pu es u v)(a:u≠v):∃w,Jp es v w:=by
 cases h<;>grind[Jp.symm]
theorem zW.ne(T:zW n es)(hR:InR n es){v:Nat}(a:v<n):∃w,Jp es v w:=by
 have h3:=T.n3;by_cases c:v=0
 .exact nb_of hR (T.bp (u:=1) NH a) NH
 .exact nb_of hR (T.bp (u:=0) NH a) NH
theorem cnW(hR:InR n es){c a b:Nat}(h:Cn (wo c) es a b):Cr (Om (fun x y=>x≠c/\y≠c) (eN n es)) a b:=by
 induction h with
 |refl=>exact .refl _
 |@step x y f h2 h3 d=>
  have g:x≠c:=by grind[Cn.aom]
  have i:y≠c:=fun e=>by grind
  exact d.step (by grind[EM,vD])
def crW(hR:InR n es){c a b:Nat}(ha:a≠c)(h:Cr (Om (fun x y=>x≠c/\y≠c) (eN n es)) a b):Cn (wo c) es a b:=by
 induction h with
 |refl=>exact .refl (iO ha)
 |@step x y f h2 d=>have⟨k1,k2,e⟩:=EM.1 h2;exact .step d ((vD hR).1 k1) (iO e)
theorem aU(hR:InR n es){v:Nat}:eN n es v≠[]↔∃w,Jp es v w:=by
 constructor
 .intro h;have⟨w,l,e⟩:=eR h;exact⟨w,(vD hR).1 (by rw[e];simp)⟩
 .rintro⟨w,h⟩ e;have:=(vD hR).2 h;grind
theorem zW.Z7(T:zW n es)(hR:InR n es):QG (eN n es):=by
 have lt:∀{v},eN n es v≠[]->v<n:=fun h=>by have⟨w,hw⟩:=(aU hR).1 h;exact(hw.lt hR).1
 refine⟨fun v w f hw=>(Tk hR (qG n es)).2 (by grind[zW.bp]),fun c v w g h2 f hw=>cnW hR ?_⟩;by_cases d:c<n
 .obtain⟨a,h3,l⟩:=KH (T.bp d (lt f)) g;have⟨b,i,m⟩:=KH (T.bp d (lt hw)) h2;have j:Cn (wo c) es a b:=ZT fun q=>T.aoX c ⟨a,b,h3,i,q⟩;grind[anB,Cn.symm,Cn.trans]
 .have:∀{a b},Pu es a b->a≠c->Cn (wo c) es a b:=fun h ha=>by
   induction h with
   |refl=>exact .refl (iO ha)
   |step _ a _ k=>exact .step k a (iO fun e=>d (by have:=(a.lt hR).2;omega))
  grind[zW.bp]
def zW.es_ne(T:zW n es)(hR:InR n es):es≠[]:=fun e=>by have⟨w,hw⟩:=T.ne hR (v:=0) (by have:=T.n3;omega);rw[e]at hw;rcases hw with h|h<;>cases h
theorem Uv(a:bX ⟨(n:Int),es⟩)(h3:3<=n)(b:(Es n es).length=1):(vq n es).length=1↔zW n es:=by
 have hR:=a.GD;constructor
 .intro d;refine⟨h3,b,fun v c=>?_⟩;have:=(YH hR v).2 c;grind[Sq]
 .intro T;have K:=treeM_lk a ⟨T.es_ne hR,b⟩;have e:JL n es=[]:=qH.2 (by grind[zW.aoX,OI]);grind[acF,Er,Lk.len]
theorem zW.less(T:zW n es)(hR:InR n es){a b:Nat}{rest:xLP}(ha:a<n)(hb:b<n)(d:a≠b)(e:∀x y,Jp es x y->¬((x=a/\y=b)\/(x=b/\y=a))->Jp rest x y):Pu rest b a:=by
 have D:=T.Z7 hR;have h3:=T.n3;obtain⟨t,i,f,g⟩:∃t,t<n/\t≠a/\t≠b:=by
  by_cases k:a≠0/\b≠0
  .exact⟨0,NH,NH,NH⟩
  by_cases c1:a≠1/\b≠1
  .exact⟨1,NH,NH,NH⟩
  .exact⟨2,NH,NH,NH⟩
 have key:∀{c x y:Nat},(c=a\/c=b)->Cr (Om (fun x y=>x≠c/\y≠c) (eN n es)) x y->Pu rest x y:=fun{c x y} l h=>by
  induction h with
  |refl=>grind[Pu.refl]
  |@step u w m h2 j=>have⟨k1,k2,o⟩:=EM.1 h2;refine .step j (e _ _ ((vD hR).1 k1) ?_) rfl;grind
 have ne:∀{v},v<n->eN n es v≠[]:=by grind[aU,zW.ne]
 have p:=key (.inl rfl) (D.Z7 a b t (EH d) f (ne hb) (ne i));have q:=key (.inr rfl) (D.Z7 b t a g d (ne i) (ne ha));grind[Cn.trans]
theorem pth_ok(hR:InR n es){b:Nat}{L:RZ}(F:Far n es b L):∀(k v:Nat),L[v]?=Z (k:Int)->∃l:II,agl (Zh n es) L k v=kz l/\l.length=k+1/\l[0]?=Z v/\l[k]?=Z b/\
  (∀(i x:Nat),l[i]?=Z x->L[x]?=Z ((k-i:Nat):Int))/\∀(i x y:Nat),l[i]?=Z x->l[i+1]?=Z y->Jp es x y
 |0,v,h=>by have hb:=F.zero v h;subst hb;refine⟨[v],rfl,rfl,rfl,rfl,fun i x m=>?_,hGr⟩;grind
 |k+1,v,h=>by
  have⟨w,ha,hw⟩:=F.pre v _ h NH;have a:L.getD v 0=((k+1:Nat):Int):=hGr;cases hf:((Zh n es).getD v []).find? (fun w=>decide (L.getD w.toNat 0=L.getD v 0-1))with
  |none=>grind[EW,Int.toNat_natCast]
  |some x=>
   have e:=mem_of_find?_eq_some hf;have h2:=List.find?_some hf;obtain⟨u,rfl,o⟩:=Ru hR e;have c:=CA (show u<L.length by grind[Far.len]);rw[vg,yM,V3,c,a]at h2;have d:L[u]?=Z (k:Int):=hGr;have⟨l,f,g,e3,e4,p,q⟩:=pth_ok hR F k u d;refine⟨v::l,?_,by simp[g],rfl,hGr,fun i y j=>?_,fun i y z j r=>?_⟩
   .rw[agl,hf];simp only[yM];rw[f];rfl
   .cases i with
    |zero=>grind
    |succ i=>grind
   .cases i with
    |zero=>grind[EW]
    |succ i=>grind
theorem path_ring(w:bX ⟨(n:Int),es⟩){a b:Nat}{rest:xLP}(r:es=((a:Int),(b:Int))::rest)(F:Far n rest b (NY (Zh n rest) n b))(C:Pu rest b a):
  ∃l,DO n rest a b=kz l/\Ho n es l:=by
 have hR:=w.GD;have d:InR n rest:=fun p M=>hR p hGr;have s:(((a:Int),(b:Int)):Pr)∈es:=by rw[r];simp
 have t:=(hR _ s).2.1;simp only at t;have u:=(hR _ s).2.2;simp only at u;have nd:es.Nodup:=w.q9.nodup;have f:=CA (show a<(NY (Zh n rest) n b).length by grind[Far.len]);have g:=(F.pos a _ f).2 C;have⟨k,D⟩:=WA g;have m:(NY (Zh n rest) n b)[a]?=Z (k:Int):=by rw[f,D]
 have⟨l,E,N,e3,e4,z,A⟩:=pth_ok d F k a m;have G:k≠0:=hGr;have H:k≠1:=fun e=>by
  subst e;have:=A 0 a b e3 e4;rw[r,VU]at nd;rcases this with h|h
  .exact nd.1 h
  .have:=(d _ h).2.1;grind
 have o:l.Nodup:=by rw[iy,Lm];intro i j hi q I e;have B:=z i _ (qL7 hi);have h2:=z j _ (qL7 q);grind
 refine⟨l,?_,o,NH,fun v J=>?_⟩
 .unfold DO;rw[V3,m];exact E
 .obtain⟨j,q,rfl⟩:=Yi.1 J;rw[nx_idx o q];have sub:∀{x y},Jp rest x y->Jp es x y:=fun h=>by rw[r];exact h.imp (Gw _) (Gw _)
  by_cases c:j+1<l.length
  .have e:l[(j+1)%l.length]'(Q4 _ NH)=l[j+1]:=by grind[Nat.mod_eq_of_lt]
   rw[e];exact sub (A j _ _ (qL7 q) (qL7 c))
  .have K:j=k:=NH;subst K;have e:l[(j+1)%l.length]'(Q4 _ NH)=l[0]:=by grind[Nat.mod_self]
   rw[e];have B:l[j]=b:=hGr;have L:l[0]=a:=hGr;rw[B,L];exact .inr s
end
end
end Go.Fw
