/- A text. -/
import Derived.Test.YtnakkbhjoiheoaaGreatFwLF8
set_option linter.all false
set_option maxRecDepth 99999
set_option maxHeartbeats 9999999
open Go.Proofs
open Option renaming some→Z
open Bool renaming true→tT,false→fF
open List renaming range→rG
open Go.Value renaming slice→sL
open Go renaming Value→vV
open Go.Proofs.Tryz renaming prog→pG
open Go.Proofs.Tryz
namespace Go.Fw
section
attribute [local irreducible] Kp MQ lU KO1 KO KN KX KE VK Kl ZJ TC aab
variable {g h:aai} {i:Nat} {l:II} {o v:Value} {rows:AM} {xs ys:RZ} {α:Type}
def aeV{P:α->Bool}{l:List α}(h:(l.take i).all P=tT)(hi:i<l.length)(a:P l[i]=tT):(l.take (i+1)).all P=tT:=by rw[XJ hi,afJ,h];simp[a]
def age{P:α->Bool}{l:List α}(hi:i<l.length)(a:P l[i]=fF):l.all P=fF:=by rw[Bool.eq_false_iff];intro h;rw[Yi.1 h _ (aev hi)]at a;cases a
theorem adZ(K:LA)(M:Nat)(l:List (Pr×Int))(W:Pr->Nat)(y bv:vV)(A B:II)(h:aai)(oM:h.own M=Z (.map (wy l)))(L:∀p,(abo l p).getD 0=(W p:Int))(ha:RL RP h y (kz A))(hb:RL RP h bv (kz B))(T:A.length<=1000)(U:B.length<=1000):
  AC pG K 47 [.map (Z M),y,bv] h fun x h'=>x=.bool (abh W A B)/\h'=h:=by
 refine AC.vE ⟨func47,rfl,WY⟩ ntmps47 results47 fun N=>?_;simp only[Br,seval];have ln:=fun g=>ha.Uc g;have s:=fun g=>hb.Uc g;rw[y6]at ln s;simp only[HO,seval,ln];refine lIn (fun k fr C=>∃i:Nat,k=A.length-i/\i<=A.length/\fr=mkF [(0,.map (Z M)),(2,bv),(11,y),(12,A.length),(13,i)]/\C=h/\(A.take i).all (fun c=>B.all fun d=>c==d||W (min (c:Int) (d:Int),max (c:Int) (d:Int))==2)=tT) ⟨0,rfl,vZ _,rfl,rfl,rfl⟩ ?_;rintro k fr C O ⟨i,rfl,hi,rfl,rfl,n⟩;refine Uy ?_;refine Kl.intro (fun t=>?_) (fun hf=>?_)
 rotate_left
 .have q:A.length<=i:=vp hf;rw[HV q]at n;refine Uy ?_;exact(by grind[abh.eq_1])
 have b:i<A.length:=CC t;clear t;have D:=ha.TA i (by rw[y6];exact b);have u:=ha.DH i (by rw[y6];exact b);rw[sY b]at u;have E:=aeV n b;have Q:=age (P:=fun c=>B.all fun d=>c==d||W (min (c:Int) (d:Int),max (c:Int) (d:Int))==2) b;generalize A[i]=c at*;have F:=aaa i NH;refine Sk (Yb D u s) ?_;refine lIn (fun k fr H=>∃j:Nat,k=B.length-j/\j<=B.length/\fr=mkF [(0,.map (Z M)),(2,bv),(8,(c:Nat)),(11,y),(12,A.length),(13,i),(17,bv),(18,B.length),(19,j)]/\H=C/\(B.take j).all (fun d=>c==d||W (min (c:Int) (d:Int),max (c:Int) (d:Int))==2)=tT) ⟨0,rfl,vZ _,rfl,rfl,rfl⟩ ?_;rintro k fr H R ⟨j,rfl,V,rfl,rfl,f⟩;refine Uy ?_;refine Kl.intro (fun t=>?_) (fun hf=>?_)
 rotate_left
 .have q:B.length<=j:=vp hf;rw[HV q]at f;refine Sk F ?_;exact lgA (JS b) ⟨i+1,rfl,b,rfl,rfl,E f⟩
 have a:j<B.length:=CC t;clear t;have r:=hb.TA j (by rw[y6];exact a);have m:=hb.DH j (by rw[y6];exact a);rw[sY a]at m;have o:=aeV f a;have I:=age (P:=fun d=>c==d||W (min (c:Int) (d:Int),max (c:Int) (d:Int))==2) a;generalize B[j]=d at*;have v:=aaa j NH;have mn:=Dv (c:Int) (d:Int);have J:=z6 (c:Int) (d:Int);have w:=xe (min (c:Int) (d:Int)) (max (c:Int) (d:Int));have G:=SA oM (min (c:Int) (d:Int),max (c:Int) (d:Int));rw[L]at G;by_cases e:c=d
 .have z:decide ((c:Int)=(d:Int))=tT:=qL7 NH;refine Sk (IX r m @bne.eq_1.{0} z v) ?_
  exact lgA (JS a) ⟨j+1,rfl,a,rfl,rfl,o (by simp[e])⟩
 have z:decide ((c:Int)=(d:Int))=fF:=WA NH;by_cases S:W (min (c:Int) (d:Int),max (c:Int) (d:Int))=2
 .have d2:decide ((W (min (c:Int) (d:Int),max (c:Int) (d:Int)):Int)=2)=tT:=qL7 NH;simp only[HO,seval,r,m,bne,z,mn,J,w,wD,G,d2,v];exact lgA (JS a) ⟨j+1,rfl,a,rfl,rfl,o (by simp[S])⟩
 .have d2:decide ((W (min (c:Int) (d:Int),max (c:Int) (d:Int)):Int)=2)=fF:=WA NH;simp only[HO,seval,r,m,bne,z,mn,J,w,wD,G,d2];exact(by grind[abh.eq_1])
theorem GI.keep(r:GI h o ys)(k:∀b x,h.own b=Z x->blk o=Z b->g.own b=Z x):GI g o ys:=by
 obtain⟨a,⟨rfl,i⟩|⟨id,c,cap,rfl,d,e,f⟩⟩:=r
 .exact⟨a,pw⟩
 .exact⟨a,.inr ⟨id,c,cap,rfl,k id _ d rfl,e,f⟩⟩
theorem GI.push2{c h:aai}(g:GI h v xs)(go:GI h o ys)(n:∀b,blk v=Z b->blk o≠Z b)(l:Le c h)(e:Z2 c v)(hw:WF h)(x:Int)(f:xs.length<=100000):
  ∃v' d a,aas pG h 28 1 [(0,x)]=Z (sL (Z h.next) 1 1,d)/\aaR pG d 28 28 v (sL (Z h.next) 1 1)=Z (v',a)/\GI a v' (xs++[x])/\GI a o ys/\(∀b,blk v'=Z b->blk o≠Z b)/\Le c a/\Z2 c v':=by
 obtain⟨v',d,a,e4,i,j,p,l4,hf,r⟩:=g.push hw x f;obtain⟨l5,k⟩:=hf c l e;have own:∀b,blk o=Z b->∃y,h.own b=Z y:=fun b hb=>by
  cases q:h.own b with
  |none=>exact absurd q (GS.Sy go hb)
  |some y=>exact⟨y,rfl⟩
 refine⟨v',d,a,e4,i,j,(by grind[GI.keep]),fun b hb m=>?_,l5,k⟩;obtain⟨y,s⟩:=own b m;exact pw
def acH{P:Nat->Bool}(hi:i<l.length):(l.take (i+1)).filter P=(l.take i).filter P++if P l[i]then[l[i]]else[]:=by rw[XJ hi,Db];cases h:P l[i]<;>simp[h]
def ab9(a b:II):kz (a++b)=kz a++kz b:=by simp[kz]
theorem afw(H:LA)(M:Nat)(l:List (Pr×Int))(W:Pr->Nat)(cv:vV)(cs:II)(h:aai)(oM:h.own M=Z (.map (wy l)))(T:∀p,(abo l p).getD 0=(W p:Int))(u:RL RP h cv (kz cs))(lc:cs.length<=1000)(l0:0<cs.length):
  AC pG H 48 [.map (Z M),cv] h fun x h'=>x=.bool (aa1 W cs)/\Le h h':=by
 refine AC.vE ⟨func48,rfl,WY⟩ ntmps48 results48 fun aa=>?_;simp only[Br,seval];have ln:=fun g=>u.Uc g;rw[y6]at ln;have F:=u.TA 0 (by rw[y6];exact l0);have f0:∀g,Le h g->aaC pG g 3 (aaq cv 0)=Z (.int .i64 (cs.headD 0:Nat)):=fun g lg=>by
  have:=(u.le Nn.RP lg).DH 0 (by rw[y6];exact l0);rw[sY l0]at this;rw[this];cases cs with
  |nil=>cases l0
  |cons=>rfl
 simp only[NC]at F;have hT:aa1 W cs=((cs.filter fun(c:Nat)=>W (((cs.headD 0:Nat):Int),(c:Int))==0).length==3&&!(cs.filter fun(c:Nat)=>W (((cs.headD 0:Nat):Int),(c:Int))!=0).contains (cs.headD 0)&&abh W (cs.filter fun(c:Nat)=>W (((cs.headD 0:Nat):Int),(c:Int))==0) (cs.filter fun(c:Nat)=>W (((cs.headD 0:Nat):Int),(c:Int))!=0)):=rfl;generalize cs.headD 0=f at*;simp only[HO,seval,ln];refine lIn (fun k fr s=>∃(i:Nat)(m j:vV),k=cs.length-i/\i<=cs.length/\fr=mkF [(0,.map (Z M)),(1,cv),(5,m),(6,j),(10,cv),(11,cs.length),(12,i)]/\GI s m (kz ((cs.take i).filter fun(c:Nat)=>W ((f:Int),(c:Int))==0))/\GI s j (kz ((cs.take i).filter fun(c:Nat)=>W ((f:Int),(c:Int))!=0))/\(∀b,blk m=Z b->blk j≠Z b)/\Le h s/\Z2 h m/\Z2 h j) ⟨0,_,_,rfl,vZ _,rfl,GI.nil h,GI.nil h,(by grind[blk]),Le.refl _,fun b hb=>by simp[blk]at hb,fun b hb=>by simp[blk]at hb⟩ ?_;rintro k fr s v ⟨i,m,j,rfl,hi,rfl,w,gt,dj,t,pa,U⟩;have n:=f0 s t;refine Uy ?_;refine Kl.intro (fun V=>?_) (fun hf=>?_)
 rotate_left
 .have I:cs.length<=i:=vp hf;rw[HV I]at w gt;have ae:=Vn (fun(c:Nat)=>W ((f:Int),(c:Int))==0) cs;have ag:=Vn (fun(c:Nat)=>W ((f:Int),(c:Int))!=0) cs;generalize cs.filter (fun(c:Nat)=>W ((f:Int),(c:Int))==0)=A at*;generalize cs.filter (fun(c:Nat)=>W ((f:Int),(c:Int))!=0)=B at*;have o:=fun g=>w.rl.Uc g;rw[y6]at o;by_cases X:A.length=3
  rotate_left
  .have d3:decide ((A.length:Int)=3)=fF:=WA NH;have e3:(A.length==3)=fF:=by simpa using X
   refine Sk (XC o d3) ?_;exact pw
  have d3:decide ((A.length:Int)=3)=tT:=qL7 NH;have e3:(A.length==3)=tT:=by simpa using X
  refine Sk (xU o d3 F n) ?_;refine kCi func77 (W3 H j (kz B) (f:Int) s gt.rl (by rw[y6];omega)) ?_;rintro y z w5 ⟨rfl,rfl⟩;have J:decide ((f:Int)∈kz B)=B.contains f:=by rw[Bool.eq_iff_iff,vg,ahK,kz,Gw];exact pw
  rw[J];cases cB:B.contains f with
  |true=>refine Uy ?_;exact pw
  |false=>refine Uy ?_;refine kCi func47 (adZ H M l W m j A B z (t.own _ _ oM) T w.rl gt.rl NH NH) ?_;rintro y h6 w6 ⟨rfl,rfl⟩;refine Uy ?_;exact pw
 have a:i<cs.length:=CC V;clear V;have adc:=u.TA i (by rw[y6];exact a);have q:=(u.le Nn.RP t).DH i (by rw[y6];exact a);rw[sY a]at q;have fa:=acH (P:=fun(c:Nat)=>W ((f:Int),(c:Int))==0) a;have G:=acH (P:=fun(c:Nat)=>W ((f:Int),(c:Int))!=0) a;have K:(kz ((cs.take i).filter fun(c:Nat)=>W ((f:Int),(c:Int))==0)).length<=100000:=by rw[y6];exact(by grind[List.length_take])
 have L:(kz ((cs.take i).filter fun(c:Nat)=>W ((f:Int),(c:Int))!=0)).length<=100000:=by rw[y6];exact(by grind[List.length_take])
 generalize cs[i]=c at*;have C:=aaa i NH;have D:=xe (f:Int) (c:Int);have N:=SA (t.own _ _ oM) ((f:Int),(c:Int));rw[T]at N;by_cases e:W ((f:Int),(c:Int))=0
 .have O:decide ((W ((f:Int),(c:Int)):Int)>0)=fF:=WA NH;obtain⟨v',h4,z,e4,Q,R,d,E,l5,S⟩:=w.push2 gt dj t pa v (c:Int) K;rw[Z6 (by simp[e])]at fa;rw[abe (by simp[e]),aik]at G;have r:GI z v' (kz ((cs.take (i+1)).filter fun(c:Nat)=>W ((f:Int),(c:Int))==0)):=by rw[fa,ab9];exact R
  rw[<-G]at d;simp only[HO,seval,adc,q,F,n,D,wD,N,O,e4,Q,C];exact lgA (JS a) ⟨i+1,v',j,rfl,a,rfl,r,d,E,l5,S,U⟩
 .have O:decide ((W ((f:Int),(c:Int)):Int)>0)=tT:=qL7 NH;obtain⟨v',h4,z,e4,Q,R,d,E,l5,S⟩:=gt.push2 w pw t U v (c:Int) L;rw[abe (by simp[e]),aik]at fa;rw[Z6 (by simp[e])]at G;have r:GI z v' (kz ((cs.take (i+1)).filter fun(c:Nat)=>W ((f:Int),(c:Int))!=0)):=by rw[G,ab9];exact R
  rw[<-fa]at d;simp only[HO,seval,adc,q,F,n,D,wD,N,O,e4,Q,C];exact lgA (JS a) ⟨i+1,m,v',rfl,a,rfl,d,r,pw,l5,pa,S⟩
def aaW(r:RZ):Bool:=!(r.length==0||r.length==2||r.length==3||r.length==4)
def aa8(rows:AM)(cs:II)(m:Nat)(E:Nat):Int:=
 if cs.any (fun c=>(rows.getD c []).length !=E)then 0
 else if aaU rows cs≠2*m then 0
 else if E=4 then(if abh (aaI rows cs) cs cs then 5 else 0)else if aa1 (aaI rows cs) cs then 33 else 0
def kindB_eq(es:xLP):aaN es=if(Zh 200 es).any aaW then 0 else if(aad (Zh 200 es)).length=5 then aa8 (Zh 200 es) (aad (Zh 200 es)) es.length 4 else if(aad (Zh 200 es)).length=6 then aa8 (Zh 200 es) (aad (Zh 200 es)) es.length 3 else 0:=rfl
def abp{cs:II}{E:Nat}(h:∀c∈cs,(rows.getD c []).length=E):(aaj rows cs).length=E*cs.length:=by
 induction cs with
 |nil=>rfl
 |cons c cs a=>have:=a fun d hd=>h d (by simp[hd]);simp only[aaj,oK,ZT,wI,Yq]at*;rw[this,h c Ma,Nat.mul_add];omega
def agM(rows:AM)(i:Nat):(rG (i+1)).filter (aaA rows)=(rG i).filter (aaA rows)++if aaA rows i then[i]else[]:=by rw[rY,Db];cases h:aaA rows i<;>simp[h]
def any_take(h:(rows.take i).any aaW=fF)(hi:i<rows.length)(hb:aaW rows[i]=fF):(rows.take (i+1)).any aaW=fF:=by rw[XJ hi,List.any_append,h];simp[hb]
theorem Kind_any(R:LA)(ev:vV)(es:xLP)(h:aai)(U:PR h ev es):
  AC pG R 25 [ev] h fun x h'=>x=.int .i64 (aaz es)/\Le h h':=by
 refine AC.vE ⟨func25,rfl,WY⟩ ntmps25 results25 fun al=>?_;simp only[Br,seval];obtain⟨h2,h3,a2,s2,l3,w3,lG⟩:=newG (n:=200) al U;have bg:=Wj (n:=200) U.sl;have V:GR h3 (.agg #[.int .i64 200,ev]) ⟨200,es⟩:=⟨ev,rfl,U.le l3⟩;refine Sk (xU bg a2 s2 ((lG h3 (Le.refl _)).1)) ?_;refine kCi yU (ak R _ ⟨200,es⟩ h3 V) ?_;rintro x h4 w4 ⟨⟨bb,rfl,W⟩,l4⟩;cases bb with
 |false=>refine Uy ?_;exact(by grind[aaz.eq_1,Le.trans])
 |true=>
 have X:bX ⟨((200:Nat):Int),es⟩:=W.1 rfl;have m:aaz es=aaN es:=Z6 X;clear W;have aq:=l3.trans l4;refine Sk ((lG h4 l4).1) ?_;refine kCi zL (oe R _ 200 es h4 (V.le l4) X) ?_;rintro bv h5 w5 ⟨hb,l5⟩;have av:=aq.trans l5;have aT:es.length<=594:=X.len;have hR:=X.GD;rw[kindB_eq]at m;have L:=fun cv cs g b1 b2 b3 b4 b5=>afv R bv cv (n:=200) (es:=es) cs g b1 b2 X b3 b4 b5;have bl:=Xq 200 es;generalize Zh 200 es=rows at*;have lb:=fun g=>hb.qP5 g;rw[bl]at lb;refine Sk lb ?_;refine lIn (fun k fr S=>∃(i:Nat)(cv:vV),k=200-i/\i<=200/\fr=mkF [(0,ev),(4,bv),(5,cv),(20,bv),(21,(200:Nat)),(22,.int .i64 i)]/\GI S cv (kz ((rG i).filter (aaA rows)))/\Le h5 S/\Z2 h5 cv/\(rows.take i).any aaW=fF) ⟨0,_,rfl,vZ _,rfl,GI.nil h5,Le.refl _,fun b hb=>by simp[blk]at hb,rfl⟩ ?_;rintro k fr S ay ⟨i,cv,rfl,hi,rfl,gc,F,pc,t⟩;have aa:=av.trans F;refine Uy ?_;refine Kl.intro (fun O=>?_) (fun hf=>?_)
 rotate_left
 .have G:200<=i:=by grind[vp]
  obtain rfl:i=200:=NH;rw[HV NH]at t;rw[t,abe Ma]at m;have az:aad rows=(rG 200).filter (aaA rows):=by rw[aad,bl]
  rw[<-az]at gc;have H:∀c∈aad rows,c<200:=pw;generalize aad rows=cs at*;have lc:=fun g=>gc.rl.Uc g;rw[y6]at lc;by_cases c5:cs.length=5
  .have d5:decide ((cs.length:Int)=5)=tT:=qL7 NH;rw[Z6 c5]at m;simp only[HO,seval,lc,d5];refine lIn (fun k fr I=>∃i:Nat,k=cs.length-i/\i<=cs.length/\fr=mkF [(0,ev),(4,bv),(5,cv),(8,.int .i64 4),(46,cv),(47,.int .i64 cs.length),(48,.int .i64 i)]/\I=S/\∀c∈cs.take i,(rows.getD c []).length=4) ⟨0,rfl,vZ _,rfl,rfl,fun c J=>by simp at J⟩ ?_;rintro k fr I aC ⟨i,rfl,hi,rfl,rfl,f⟩;refine Uy ?_;refine Kl.intro (fun O=>?_) (fun hf=>?_)
   .have a:i<cs.length:=CC O;clear O;have A:=aev a;have adc:=gc.rl.TA i (by rw[y6];exact a);have v:=gc.rl.DH i (by rw[y6];exact a);rw[sY a]at v;have P:=XJ a;generalize cs[i]=c at*;have aD:=H c A;have w:c<rows.length:=NH;have B:=hb.Wm c w;obtain⟨u,C,hu⟩:=hb.NS c w;have lu:=C I F;have gd:rows.getD c []=rows[c]:=D4 w;generalize rows[c]=r at*;have j:=fun g=>hu.Uc g;have o:=aaa i NH;by_cases e:r.length=4
    .have z:decide ((r.length:Int)=4)=tT:=qL7 NH;simp only[HO,seval,adc,v,B,lu,j,bne,z,o];exact lgA (JS a) ⟨i+1,rfl,a,rfl,rfl,fun d hd=>by
      rw[P]at hd;rcases aax.1 hd with q|q
      .exact f d q
      .rw[iy.1 q,gd];exact e⟩
    .have z:decide ((r.length:Int)=4)=fF:=WA NH;have p:cs.any (fun c=>(rows.getD c []).length !=4)=tT:=by grind[List.any_eq_true]
     simp only[HO,seval,adc,v,B,lu,j,bne,z];exact(by grind[aa8.eq_1])
   have G:cs.length<=i:=vp hf;rw[HV G]at f;have p:¬cs.any (fun c=>(rows.getD c []).length !=4)=tT:=by grind[List.any_eq_true]
   rw[aa8,abe p]at m;refine Uy ?_;refine kCi func46 (L cv cs I (hb.le (Nn.RL Nn.RP) F) gc.rl (fun c J=>⟨H c J,by rw[f c J];decide⟩) (by rw[abp f];omega) NH) ?_;rintro x h8 w8 ⟨M,l,rfl,oM,hW,T⟩;have aF:=aa.trans T;have lP:=fun g=>U.len g;have D:aaY .i64 (2*(es.length:Int))=((2*es.length:Nat):Int):=by rw[ie _ NH NH];omega
   by_cases e:aaU rows cs=2*es.length
   rotate_left
   .have z:decide (((aaU rows cs:Nat):Int)=((2*es.length:Nat):Int))=fF:=WA NH;rw[Z6 e]at m;refine Sk (xU lP D @bne.eq_1.{0} z) ?_
    exact pw
   have z:decide (((aaU rows cs:Nat):Int)=((2*es.length:Nat):Int))=tT:=qL7 NH;rw[abe (fun q=>q e)]at m;rw[Z6 rfl]at m;have d4:decide ((4:Int)=4)=tT:=by decide
   have aH:decide ((4:Int)=3)=fF:=by decide
   refine Sk (IX lP D @bne.eq_1.{0} z d4) ?_
   refine kCi func47 (adZ R M l (aaI rows cs) cv cv cs cs h8 oM hW (gc.rl.le Nn.RP T) (gc.rl.le Nn.RP T) NH NH) ?_;rintro y h9 w9 ⟨rfl,rfl⟩;cases hE:abh (aaI rows cs) cs cs with
   |true=>rw[hE,Z6 rfl]at m;refine Uy ?_;exact pw
   |false=>rw[hE,abe Ma]at m;refine Sk aH ?_;exact pw
  have d5:decide ((cs.length:Int)=5)=fF:=WA NH;rw[abe c5]at m;by_cases c6:cs.length=6
  .have d5:decide ((cs.length:Int)=5)=fF:=WA NH;rw[Z6 c6]at m;have d6:decide ((cs.length:Int)=6)=tT:=qL7 NH;simp only[HO,seval,lc,d5,bne,d6];refine lIn (fun k fr I=>∃i:Nat,k=cs.length-i/\i<=cs.length/\fr=mkF [(0,ev),(4,bv),(5,cv),(8,.int .i64 3),(46,cv),(47,.int .i64 cs.length),(48,.int .i64 i)]/\I=S/\∀c∈cs.take i,(rows.getD c []).length=3) ⟨0,rfl,vZ _,rfl,rfl,fun c J=>by simp at J⟩ ?_;rintro k fr I aC ⟨i,rfl,hi,rfl,rfl,f⟩;refine Uy ?_;refine Kl.intro (fun O=>?_) (fun hf=>?_)
   .have a:i<cs.length:=CC O;clear O;have A:=aev a;have adc:=gc.rl.TA i (by rw[y6];exact a);have v:=gc.rl.DH i (by rw[y6];exact a);rw[sY a]at v;have P:=XJ a;generalize cs[i]=c at*;have aD:=H c A;have w:c<rows.length:=NH;have B:=hb.Wm c w;obtain⟨u,C,hu⟩:=hb.NS c w;have lu:=C I F;have gd:rows.getD c []=rows[c]:=D4 w;generalize rows[c]=r at*;have j:=fun g=>hu.Uc g;have o:=aaa i NH;by_cases e:r.length=3
    .have z:decide ((r.length:Int)=3)=tT:=qL7 NH;simp only[HO,seval,adc,v,B,lu,j,bne,z,o];exact lgA (JS a) ⟨i+1,rfl,a,rfl,rfl,fun d hd=>by
      rw[P]at hd;rcases aax.1 hd with q|q
      .exact f d q
      .rw[iy.1 q,gd];exact e⟩
    .have z:decide ((r.length:Int)=3)=fF:=WA NH;have p:cs.any (fun c=>(rows.getD c []).length !=3)=tT:=by grind[List.any_eq_true]
     simp only[HO,seval,adc,v,B,lu,j,bne,z];exact(by grind[aa8.eq_1])
   have G:cs.length<=i:=vp hf;rw[HV G]at f;have p:¬cs.any (fun c=>(rows.getD c []).length !=3)=tT:=by grind[List.any_eq_true]
   rw[aa8,abe p]at m;refine Uy ?_;refine kCi func46 (L cv cs I (hb.le (Nn.RL Nn.RP) F) gc.rl (fun c J=>⟨H c J,by rw[f c J];decide⟩) (by rw[abp f];omega) NH) ?_;rintro x h8 w8 ⟨M,l,rfl,oM,hW,T⟩;have aF:=aa.trans T;have lP:=fun g=>U.len g;have D:aaY .i64 (2*(es.length:Int))=((2*es.length:Nat):Int):=by rw[ie _ NH NH];omega
   by_cases e:aaU rows cs=2*es.length
   rotate_left
   .have z:decide (((aaU rows cs:Nat):Int)=((2*es.length:Nat):Int))=fF:=WA NH;rw[Z6 e]at m;refine Sk (xU lP D @bne.eq_1.{0} z) ?_
    exact pw
   have z:decide (((aaU rows cs:Nat):Int)=((2*es.length:Nat):Int))=tT:=qL7 NH;rw[abe (fun q=>q e)]at m;rw[abe WY]at m;have aJ:decide ((3:Int)=4)=fF:=by decide
   have d3:decide ((3:Int)=3)=tT:=by decide
   refine Sk (bG lP D @bne.eq_1.{0} z aJ d3) ?_
   refine kCi func48 (afw R M l (aaI rows cs) cv cs h8 oM hW (gc.rl.le Nn.RP T) NH NH) ?_;rintro y h9 w9 ⟨rfl,l9⟩;cases hE:aa1 (aaI rows cs) cs with
   |true=>rw[hE,Z6 rfl]at m;refine Uy ?_;exact(by grind[Le.trans])
   |false=>rw[hE,abe Ma]at m;refine Uy ?_;exact(by grind[Le.trans])
  have d6:decide ((cs.length:Int)=6)=fF:=WA NH;rw[abe c6]at m;simp only[HO,seval,lc,d5,bne,d6];exact pw
 have a:i<200:=by grind[CC]
 clear O;have K:i<rows.length:=NH;have B:=hb.Wm i K;obtain⟨u,C,hu⟩:=hb.NS i K;have lu:=C S F;have gd:rows.getD i []=rows[i]:=D4 K;have E:=agM rows i;have ae:aaA rows i=((rows[i]).length==3||(rows[i]).length==4):=by rw[aaA,gd]
 have N:=any_take t K;have ag:aaW rows[i]=tT->rows.any aaW=tT:=by grind[List.getElem_mem]
 generalize rows[i]=r at*;have j:=fun g=>hu.Uc g;have o:=aaa i NH;have aK:(kz ((rG i).filter (aaA rows))).length<=100000:=by rw[y6];exact(by grind[List.length_filter_le])
 by_cases c0:r.length=0\/r.length=2
 .have cb:aaA rows i=fF:=by rw[ae];rcases c0 with q|q<;>rw[q]<;>rfl
  rw[cb,abe Ma,aik]at E;have s:=N (by unfold aaW;rcases c0 with q|q<;>rw[q]<;>rfl);rcases c0 with q|q
  .have Q:decide ((r.length:Int)=0)=tT:=qL7 NH;simp only[HO,seval,B,lu,j,Q,o];exact lgA (JS a) ⟨i+1,cv,rfl,a,rfl,by rw[E];exact gc,F,pc,s⟩
  .have Q:decide ((r.length:Int)=0)=fF:=WA NH;have d2:decide ((r.length:Int)=2)=tT:=qL7 NH;simp only[HO,seval,B,lu,j,Q,d2,o];exact lgA (JS a) ⟨i+1,cv,rfl,a,rfl,by rw[E];exact gc,F,pc,s⟩
 have Q:decide ((r.length:Int)=0)=fF:=WA NH;have d2:decide ((r.length:Int)=2)=fF:=WA NH;by_cases c3:r.length=3\/r.length=4
 .have cb:aaA rows i=tT:=by rw[ae];rcases c3 with q|q<;>rw[q]<;>rfl
  rw[cb,Z6 rfl]at E;have s:=N (by unfold aaW;rcases c3 with q|q<;>rw[q]<;>rfl);obtain⟨v',h6,h7,e6,e7,g7,w7,l6,aP,-⟩:=gc.push ay (i:Int) aK;obtain⟨l7,a7⟩:=aP h5 F pc;have ai:GI h7 v' (kz ((rG (i+1)).filter (aaA rows))):=by rw[E,ab9];exact g7
  rcases c3 with q|q
  .have d3:decide ((r.length:Int)=3)=tT:=qL7 NH;simp only[HO,seval,B,lu,j,Q,d2,d3,e6,e7,o];exact lgA (JS a) ⟨i+1,v',rfl,a,rfl,ai,l7,a7,s⟩
  .have d3:decide ((r.length:Int)=3)=fF:=WA NH;have d4:decide ((r.length:Int)=4)=tT:=qL7 NH;simp only[HO,seval,B,lu,j,Q,d2,d3,d4,e6,e7,o];exact lgA (JS a) ⟨i+1,v',rfl,a,rfl,ai,l7,a7,s⟩
 have d3:decide ((r.length:Int)=3)=fF:=WA NH;have d4:decide ((r.length:Int)=4)=fF:=WA NH;have aj:aaW r=tT:=by
  unfold aaW;have e0:(r.length==0)=fF:=by grind[beq_eq_false_iff_ne]
  have e2:(r.length==2)=fF:=by grind[beq_eq_false_iff_ne]
  have e3:(r.length==3)=fF:=by grind[beq_eq_false_iff_ne]
  have e4:(r.length==4)=fF:=by grind[beq_eq_false_iff_ne]
  rw[e0,e2,e3,e4];rfl
 rw[ag aj,Z6 rfl]at m;simp only[HO,seval,B,lu,j,Q,d2,d3,d4];exact pw
end
end Go.Fw
