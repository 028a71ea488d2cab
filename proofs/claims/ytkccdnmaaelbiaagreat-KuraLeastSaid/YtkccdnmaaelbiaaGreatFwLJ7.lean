/- A text. -/
import Derived.Test.YtkccdnmaaelbiaaGreatFwLI12
set_option linter.all false
set_option maxRecDepth 99999
set_option maxHeartbeats 9999999
namespace Go.Fw
section
attribute [local instance] Classical.propDecidable
attribute [local irreducible] Kp MQ lU rS KO KN KX KE VK Kl ZJ TC aaa
open Go.Proofs
variable {i n:Nat} {rows:AM}
def pf0 (a:Addr):aField Tryz.prog 125 (.pointer (some a)) 0=some (.pointer (some (Ip a 0))):=rfl
def pf1 (a:Addr):aField Tryz.prog 125 (.pointer (some a)) 1=some (.pointer (some (Ip a 1))):=rfl
def pf2 (a:Addr):aField Tryz.prog 125 (.pointer (some a)) 2=some (.pointer (some (Ip a 2))):=rfl
theorem way_at {on:List Bool} {p:wW} {start i:Nat} (h2:¬p.Fm.length<2) (a:(p.Fm.headD 0).toNat=start) (hi:i<n+1)
  (b:∀j,j<i->XG rows on start (SL n start p.zp) j=false) (hs:XG rows on start (SL n start p.zp) i=true):
  J6 n rows on p=match(bfsM rows start (SL n start p.zp) i).2[i]? with
   |some v=>traceM (bfsM rows start (SL n start p.zp) i).1 start n v
   |none=>[]:=by grind [List.find?_range_eq_some,J6]
theorem headI0:∀{l:RZ} (h:0<l.length),l.headD 0=l[0]
 |_::_,_=>rfl
def sub_lt1 (h:i<n):n+1-(i+1)<n+1-i:=NH
theorem TL (fr:RZ) (start:Nat):∀f,traceM fr start f start=[start]
 |0=>rfl
 |f+1=>by grind [traceM.eq_2]
abbrev TT1:Nat->Prop:=fun _=>True
abbrev TT2:Nat->Nat->Prop:=fun _ _=>True
def trc_k {k f:Nat} (h:k<f+1) (j:Nat) (a:j<k):j<f:=NH
theorem way_any (W0:LA) (B n:Nat) (bv ov fv iv lv ea fa ta:Value) (es:List Pr) (on:List Bool) (p:wW) (h:AHeap) (hs:Sr h B n bv ov fv iv lv) (hb:RL (RL RP) h bv (Zh n es)) (ho:RL sJ h ov on) (c9:on.length=n)
  (Q:PR h ea p.zp) (R:RL RP h fa p.Fm) (b4:ta.oneCell'=true) (hR:aV n es) (b5:aV n p.zp) (b6:∀x∈p.Fm,∃v:Nat,x=(v:Int)/\v<n) (hn:n<=300) (da:es.length<=1000) (b8:p.zp.length<=1000) (db:p.Fm.length<=1000):
  AC Tryz.prog W0 98 [.pointer (some ⟨B,0,none⟩),.agg #[ea,fa,ta]] h fun x h'=>GI h' x (kz (J6 n (Zh n es) on p))/\Le h h'/\Z2 h x:=by
 refine AC.vE ⟨Tryz.func98,rfl,WY⟩ Tryz.ntmps98 Tryz.results98 fun b9=>?_;simp only[Br,Nat.reduceAdd];obtain⟨S,e1,l1,w1,o1⟩:=Tt b9 [ea,fa,ta];have bx:=aBox3 (h:=h) (a:=ea) (b:=fa) (c:=ta) Q.sl.one R.one b4;rw[e1]at bx
 have P0:∀g,Le S g->aload Tryz.prog g 22 ⟨h.next,0,none⟩=some ea/\aload Tryz.prog g 49 ⟨h.next,1,none⟩=some fa:=fun g lg=>by
  have o:=lg.own _ _ o1;exact⟨by rw[Fq AV rfl o];rfl,by rw[Fq Ac rfl o];rfl⟩
 generalize h.next=P at*
 have lf:=fun g=>R.Uc g;by_cases c2:p.Fm.length<2
 .have d2 : decide ((p.Fm.length : Int) < 2) = true := decide_eq_true NH
  refine Sk (rE bx @pf1 @Ip.eq_1 @BS ((P0 S (Le.refl _)).2) lf @d2) ?_;have e:J6 n (Zh n es) on p=[]:=by grind [J6]
  rw[e];exact⟨GI.nil _,l1,fun b hb=>by grind [blk]⟩
 have d2:decide ((p.Fm.length:Int)<2)=false:=decide_eq_false NH;have f0:0<p.Fm.length:=NH;have aW:=R.TA 0 f0;have aX:=(R.le Nn.RP l1).DH 0 f0;obtain⟨start,cc,dc⟩:=b6 _ (Gw f0);have a6:(p.Fm.headD 0).toNat=start:=by grind [headI0]
 rw[cc]at aX;obtain⟨h2,h3,e2,e3,l3,w3,o3⟩:=newI w1 (start:Int);simp only[sL]at aW;refine Sk (rk bx @pf1 @Ip.eq_1 @BS ((P0 S (Le.refl _)).2) lf @d2 aW aX e2 e3) ?_
 have a7:h.own S.next=none:=l1.next w1 (Ny _)
 generalize S.next=l at*
 have aj:=l1.trans l3;obtain⟨h4,e4,l4,w4,o4⟩:=Tt w3 [.int .i64 (-1)];have s4:=hs.le (aj.trans l4);refine Sk (bG @DQ e4 @sf0 @Ip.eq_1 @BS s4.l0) ?_;refine TC.intro PJ ⟨NQ,rfl,WY⟩ (rN W0 _ n NH h4 (RL.Wh (RS.whole o4 rfl))) ?_;rintro x G w5 ⟨T,rfl,hT,o5,l5⟩;have U:=l4.trans l5;have a8:=aj.trans U
 have nT:h.own T=none:=(aj.trans l4).next w4 hT
 have bb:G.own T=some (.cells (Bp (List.replicate n (-1)))):=by rw[o5];simp[Bp]
 have bg:=U.own _ _ o3;obtain⟨h6,e6,l6,w6,o6⟩:=Tt w5 [.slice none 0 0]
 have n6:h.own G.next=none:=a8.next w5 (Ny _)
 have bh:T≠G.next:=fun e=>by have:=w5.lt bb;omega
 have cd:G.next≠l:=fun e=>by have:=w5.lt bg;omega
 have bk:=QB (P:=Tryz.prog) (t:=49) (x:=.slice (some ⟨T,0,none⟩) n n) Ac Ji o6 (off:=0) Ma rfl rfl;refine Sk (Yb @Hj e6 bk) ?_
 have al:Le h (h6.put G.next (.cells (([.slice none 0 0]:List Value).set 0 (.slice (some ⟨T,0,none⟩) n n)))):=(a8.trans l6).put _ n6
 have w7:WF (h6.put G.next (.cells (([.slice none 0 0]:List Value).set 0 (.slice (some ⟨T,0,none⟩) n n)))):=w6.put _ (w6.lt o6)
 have aq:(h6.put G.next (.cells (([.slice none 0 0]:List Value).set 0 (.slice (some ⟨T,0,none⟩) n n)))).own T=some (.cells (Bp (List.replicate n (-1)))):=by grind [AHeap.By,Le.own]
 have ar:(h6.put G.next (.cells (([.slice none 0 0]:List Value).set 0 (.slice (some ⟨T,0,none⟩) n n)))).own l=some (.cells [.int .i64 (start:Int)]):=by grind [AHeap.By,Le.own]
 have av:(h6.put G.next (.cells (([.slice none 0 0]:List Value).set 0 (.slice (some ⟨T,0,none⟩) n n)))).own G.next=some (.cells [.slice (some ⟨T,0,none⟩) n n]):=AHeap.Y3 _ _ _
 have P7:Le S (h6.put G.next (.cells (([.slice none 0 0]:List Value).set 0 (.slice (some ⟨T,0,none⟩) n n)))):=((l3.trans U).trans l6).put _ ((l3.trans U).next w5 (Ny _))
 have bm:T≠l:=fun e=>by
  have:=w4.lt (l4.own _ _ o3);omega
 generalize G.next=m at*
 generalize h6.put m (.cells (([.slice none 0 0]:List Value).set 0 (.slice (some ⟨T,0,none⟩) n n)))=h7 at*;obtain⟨h8,e8,l8,w8,o8⟩:=Tt w7 [.slice none 0 0]
 have n8:h.own h7.next=none:=al.next w7 (Ny _)
 have dM:∀{b o},h7.own b=some o->h7.next≠b:=fun{b o} ob e=>by have:=w7.lt ob;omega
 have cf:=fun g=>Q.len g;refine Sk (rE @Hj e8 @pf0 @Ip.eq_1 @BS ((P0 h8 (P7.trans l8)).1) cf) ?_
 have W8:LL h h8 l m h7.next T n start (.slice none 0 0) (List.replicate n (-1),[]):=
  ⟨l8.own _ _ ar,l8.own _ _ av,l8.own _ _ aq,o8,GI.nil _,a7,n6,nT,n8,fun b hb=>by grind [blk],bh,fun e=>dM aq e.symm,bm,dM ar,dM av,by simp[blk],by simp[blk],by simp[blk],by simp[blk],al.trans l8⟩
 generalize h7.next=r at*
 clear dM n8 o8 P7 av ar aq w7 al bk cd bh n6 o6 w6 l6 e6 bg bb o5 e4 e8;clear bm nT a7 P0 hT;have bo:BF n start TT1 TT2 ((p.zp.take 0).foldl (wR start) (List.replicate n (-1),[])):=BF.zero;refine aaa.intro (fun k fr hq=>∃(i:Nat) (y:Value),k=p.zp.length-i/\i<=p.zp.length/\fr=mkF [(0,.pointer (some ⟨B,0,none⟩)),(5,.pointer (some ⟨l,0,none⟩)),(6,.pointer (some ⟨m,0,none⟩)),(7,.pointer (some ⟨r,0,none⟩)),(8,.func (.func 140) #[] #[.pointer (some ⟨l,0,none⟩),.pointer (some ⟨m,0,none⟩),.pointer (some ⟨r,0,none⟩)]),(32,ea),(33,.int .i64 (p.zp.length:Nat)),(34,.int .i64 (i:Nat))]/\
   LL h hq l m r T n start y ((p.zp.take i).foldl (wR start) (List.replicate n (-1),[]))/\BF n start TT1 TT2 ((p.zp.take i).foldl (wR start) (List.replicate n (-1),[])))
  p.zp.length [(0,.pointer (some ⟨B,0,none⟩)),(5,.pointer (some ⟨l,0,none⟩)),(6,.pointer (some ⟨m,0,none⟩)),(7,.pointer (some ⟨r,0,none⟩)),(8,.func (.func 140) #[] #[.pointer (some ⟨l,0,none⟩),.pointer (some ⟨m,0,none⟩),.pointer (some ⟨r,0,none⟩)]),(32,ea),(33,.int .i64 (p.zp.length:Nat)),(34,.int .i64 (0:Nat))] fD
  ⟨0,_,rfl,AE _,rfl,W8,bo⟩ ?_
 clear bo W8 w8 l8;rintro k fr hq br ⟨i,y,rfl,hi,rfl,W,F⟩;refine Uy ?_;refine Kl.intro (fun ht=>?_) (fun hf=>?_)
 .have d : i < p.zp.length := CC ht
  clear ht;have cg:=CA d;have ck:p.zp.take (i+1)=p.zp.take i++[p.zp[i]]:=EL d;have cm:=Gw d;obtain⟨p1,p2,p3⟩:=b5 p.zp[i] cm;have ad:=Q.addr (k:=.i64) i d;have ld:=(Q.le W.le).load cg;have N:(p.zp.take (i+1)).foldl (wR start) (List.replicate n (-1),[])=wR start ((p.zp.take i).foldl (wR start) (List.replicate n (-1),[])) p.zp[i]:=pw;have F1:=(F.Vk [p.zp[i]] fun e he=>by grind [jB]).1;rw[show[p.zp[i]].foldl (wR start) ((p.zp.take i).foldl (wR start) (List.replicate n (-1),[]))=wR start ((p.zp.take i).foldl (wR start) (List.replicate n (-1),[])) p.zp[i]from rfl]at F1;rw[N.symm]at F1;have hm:=F.jI;have hlen:=F.len;generalize p.zp[i]=e at*;obtain⟨g3,g4,q3,q4,m4,v4,u4⟩:=Ut br e;have W4:=W.up m4;have V:=lK u4;have X:=HY u4
  generalize hq.next=E at*
  have aw:=Tw i (Lb d (QJ b8));obtain⟨a,ha⟩:∃a:Nat,e.1=(a:Int):=⟨e.1.toNat,NH⟩;obtain⟨b,sZ⟩:∃b:Nat,e.2=(b:Int):=⟨e.2.toNat,NH⟩;have cp:a<n:=NH;have cq:b<n:=NH;rw[ha]at V;rw[sZ]at X;have Y:((p.zp.take i).foldl (wR start) (List.replicate n (-1),[])).2.length<=1000:=NH;by_cases c1:a=start
  .have d1 : decide ((a : Int) = (start : Int)) = true := decide_eq_true NH
   have eB:wR start ((p.zp.take i).foldl (wR start) (List.replicate n (-1),[])) e=dt start ((p.zp.take i).foldl (wR start) (List.replicate n (-1),[])) b start:=by grind [wR]
   rw[eB]at N;simp only[HO,Nat.reduceLT,↓reduceIte,Nat.reduceEqDiff,reduceCtorEq,ad,ld,q3,q4,Dh,Z0,Ip,BS,V,X,W4.lS,lW,d1];refine TC.intro PJ ⟨qS37,rfl,WY⟩ (K8 W0 W4 hlen (v:=b) (by_:=start) cq Y) ?_;rintro x g5 v5 ⟨H,O⟩;simp only[HO,Nat.reduceLT,↓reduceIte,Nat.reduceEqDiff,reduceCtorEq,aw];exact tn (p.zp.length-(i+1)) [(0,.pointer (some ⟨B,0,none⟩)),(5,.pointer (some ⟨l,0,none⟩)),(6,.pointer (some ⟨m,0,none⟩)),(7,.pointer (some ⟨r,0,none⟩)),(8,.func (.func 140) #[] #[.pointer (some ⟨l,0,none⟩),.pointer (some ⟨m,0,none⟩),.pointer (some ⟨r,0,none⟩)]),(32,ea),(33,.int .i64 (p.zp.length:Nat)),(34,.int .i64 (i+1:Nat))] (JS d) fD ⟨i+1,H,rfl,d,rfl,by rw[N];exact O,F1⟩
  have d1:decide ((a:Int)=(start:Int))=false:=decide_eq_false NH;by_cases c3:b=start
  .have d3 : decide ((b : Int) = (start : Int)) = true := decide_eq_true NH
   have eB:wR start ((p.zp.take i).foldl (wR start) (List.replicate n (-1),[])) e=dt start ((p.zp.take i).foldl (wR start) (List.replicate n (-1),[])) a start:=by grind [wR]
   rw[eB]at N;simp only[HO,Nat.reduceLT,↓reduceIte,Nat.reduceEqDiff,reduceCtorEq,ad,ld,q3,q4,Dh,Z0,Ip,BS,V,X,W4.lS,lW,d1,d3];refine TC.intro PJ ⟨qS37,rfl,WY⟩ (K8 W0 W4 hlen (v:=a) (by_:=start) cp Y) ?_;rintro x g5 v5 ⟨H,O⟩;simp only[HO,Nat.reduceLT,↓reduceIte,Nat.reduceEqDiff,reduceCtorEq,aw];exact tn (p.zp.length-(i+1)) [(0,.pointer (some ⟨B,0,none⟩)),(5,.pointer (some ⟨l,0,none⟩)),(6,.pointer (some ⟨m,0,none⟩)),(7,.pointer (some ⟨r,0,none⟩)),(8,.func (.func 140) #[] #[.pointer (some ⟨l,0,none⟩),.pointer (some ⟨m,0,none⟩),.pointer (some ⟨r,0,none⟩)]),(32,ea),(33,.int .i64 (p.zp.length:Nat)),(34,.int .i64 (i+1:Nat))] (JS d) fD ⟨i+1,H,rfl,d,rfl,by rw[N];exact O,F1⟩
  .have d3 : decide ((b : Int) = (start : Int)) = false := decide_eq_false NH
   have eB:wR start ((p.zp.take i).foldl (wR start) (List.replicate n (-1),[])) e=(p.zp.take i).foldl (wR start) (List.replicate n (-1),[]):=by grind [wR]
   rw[eB]at N;simp only[HO,Nat.reduceLT,↓reduceIte,Nat.reduceEqDiff,reduceCtorEq,ad,ld,q3,q4,Dh,Z0,Ip,BS,V,X,W4.lS,lW,d1,d3,aw];exact tn (p.zp.length-(i+1)) [(0,.pointer (some ⟨B,0,none⟩)),(5,.pointer (some ⟨l,0,none⟩)),(6,.pointer (some ⟨m,0,none⟩)),(7,.pointer (some ⟨r,0,none⟩)),(8,.func (.func 140) #[] #[.pointer (some ⟨l,0,none⟩),.pointer (some ⟨m,0,none⟩),.pointer (some ⟨r,0,none⟩)]),(32,ea),(33,.int .i64 (p.zp.length:Nat)),(34,.int .i64 (i+1:Nat))] (JS d) fD ⟨i+1,y,rfl,d,rfl,by rw[N];exact W4,F1⟩
 have A:p.zp.length<=i:=vp hf;rw[vZ A]at W F;have ae:p.zp.foldl (wR start) (List.replicate n (-1),[])=SL n start p.zp:=rfl;rw[ae]at W F;refine Uy ?_;have bB:SL n start p.zp=bfsM (Zh n es) start (SL n start p.zp) 0:=rfl;rw[bB]at W F;refine aaa.intro (fun k fr hz=>∃(i:Nat) (y:Value),k=n+1-i/\fr=mkF [(0,.pointer (some ⟨B,0,none⟩)),(5,.pointer (some ⟨l,0,none⟩)),(6,.pointer (some ⟨m,0,none⟩)),(7,.pointer (some ⟨r,0,none⟩)),(8,.func (.func 140) #[] #[.pointer (some ⟨l,0,none⟩),.pointer (some ⟨m,0,none⟩),.pointer (some ⟨r,0,none⟩)]),(11,.int .i64 (i:Nat))]/\
   LL h hz l m r T n start y (bfsM (Zh n es) start (SL n start p.zp) i)/\BF n start TT1 TT2 (bfsM (Zh n es) start (SL n start p.zp) i)/\i<=(bfsM (Zh n es) start (SL n start p.zp) i).2.length/\∀j,j<i->XG (Zh n es) on start (SL n start p.zp) j=false)
  (n+1) [(0,.pointer (some ⟨B,0,none⟩)),(5,.pointer (some ⟨l,0,none⟩)),(6,.pointer (some ⟨m,0,none⟩)),(7,.pointer (some ⟨r,0,none⟩)),(8,.func (.func 140) #[] #[.pointer (some ⟨l,0,none⟩),.pointer (some ⟨m,0,none⟩),.pointer (some ⟨r,0,none⟩)]),(11,.int .i64 (0:Nat))] fD
  ⟨0,y,rfl,rfl,W,F,AE _,fun j hj=>absurd hj (To _)⟩ ?_
 clear br W F A hf hi bB ae i y;rintro k fr hz cx ⟨i,y,rfl,rfl,W,F,cz,cC⟩;have Y:=F.jI;have hlen:=F.len;have lm:=fun g=>W.gm.rl.Uc g;rw[y6]at lm;have ay:=way_at (p:=p) (i:=i) (n:=n) (rows:=Zh n es) (on:=on) c2 a6 NH cC;simp only[HO,Nat.reduceLT,↓reduceIte,Nat.reduceEqDiff,reduceCtorEq,W.lM,lm];refine Kl.intro (fun ht=>?_) (fun hf=>?_)
 rotate_left
 .have A : (bfsM (Zh n es) start (SL n start p.zp) i).2.length <= i := vp hf
  have az:(bfsM (Zh n es) start (SL n start p.zp) i).2[i]?=none:=qk A;have e:=ay (by grind [XG]);simp only[az]at e;rw[e];refine Uy ?_;exact⟨GI.nil _,W.le,fun b hb=>by grind [blk]⟩
 have d:i<(bfsM (Zh n es) start (SL n start p.zp) i).2.length:=CC ht;clear ht;have s:=CA d;have aD:=W.gm.rl.TA i (by rw[y6];exact d);have I:=W.gm.rl.DH i (by rw[y6];exact d);rw[sY d]at I;have bF:=Gw d;have cE:=(F.lt _ bF).1;generalize (bfsM (Zh n es) start (SL n start p.zp) i).2[i]=v at s I bF cE;have sz:=hs.le W.le;have J:v<on.length:=pw;have aF:=ho.LB (k:=.i64) v J;have C:=(ho.le Nn.sJ W.le).W7 v J;have cM:Wg on v=on[v]:=D4 J;rw[<-cM]at C;have bH:i<n:=NH;cases aH:Wg on v with
 |true=>
  rw[aH]at C;have e:=ay (by grind [XG]);simp only[s]at e;rw[e];refine Sk (xL W.lM aD I @sf2 @Ip.eq_1 @BS sz.l2 aF C) ?_;have par:=F.par;clear e aH;generalize bfsM (Zh n es) start (SL n start p.zp) i=st at*;refine aaa.intro (fun k fr hy=>∃(cur:Nat) (xv:Value) (L:II),fr=mkF [(5,.pointer (some ⟨l,0,none⟩)),(6,.pointer (some ⟨m,0,none⟩)),(12,.int .i64 (cur:Nat)),(13,xv)]/\LL h hy l m r T n start y st/\GI hy xv (kz L)/\Z2 hz xv/\Le hz hy/\
    traceM st.1 start k cur++L.reverse=traceM st.1 start n v/\(cur=start\/∃q,q<k/\st.2[q]?=some cur)/\L.length+k=n)
   n [(5,.pointer (some ⟨l,0,none⟩)),(6,.pointer (some ⟨m,0,none⟩)),(12,.int .i64 (v:Nat)),(13,.slice none 0 0)] fD
   ⟨v,_,[],rfl,W,GI.nil _,fun b hb=>by grind [blk],Le.refl _,Ma,.inr ⟨i,bH,s⟩,Ma⟩ ?_
  rintro k fr hy aJ ⟨cur,xv,L,rfl,Wy,gx,ax,bI,aK,bN,dd⟩;by_cases cs:cur=start
  .subst cs
   have ds:decide ((cur:Int)=(cur:Int))=true:=decide_eq_true rfl;obtain⟨Z,g4,g5,q4,q5,K,v5,m4,aP,-⟩:=gx.push aJ (cur:Int) (by grind [y6]);obtain⟨m5,a5⟩:=aP hz bI ax;have e6:kz L++[(cur:Int)]=kz (L++[cur]):=by simp[kz]
   rw[e6]at K;simp only[HO,Nat.reduceLT,↓reduceIte,Nat.reduceEqDiff,reduceCtorEq,Wy.lS,bne,ds,q4,q5];refine TC.intro PJ ⟨ae1,rfl,WY⟩ (Wk W0 Z _ g5 K (by rw[y6,kc,QD];omega)) ?_;rintro x g6 v6 ⟨bQ,cN,-⟩;refine Uy ?_;have e7:(kz (L++[cur])).reverse=kz (traceM st.1 cur n v):=by rw[<-aK,TL];simp[kz]
   rw[e7]at bQ;have l6:=cN hz m5 a5;exact⟨bQ,W.le.trans l6,fun b hb=>W.le.none (a5 b hb)⟩
  .have ds : decide ((cur : Int) = (start : Int)) = false := decide_eq_false NH
   obtain⟨q,cP,bW⟩:=bN.resolve_left cs;obtain⟨f,rfl⟩:∃f,k=f+1:=⟨k-1,NH⟩;have cR:=(F.lt cur (Gc bW)).1;obtain⟨Z,g4,g5,q4,q5,K,v5,m4,aP,de⟩:=gx.push aJ (cur:Int) (by grind [y6]);obtain⟨m5,a5⟩:=aP hz bI ax;have O:=W.up m5;have e6:kz L++[(cur:Int)]=kz (L++[cur]):=by simp[kz]
   rw[e6]at K;have hL:=CA (show cur<st.1.length by grind);have ld:=XP O.oT hL;have gd:st.1.getD cur 0=st.1[cur]'(by grind):=D4 _
   rw[traceM,if_neg cs]at aK;have cU:∃D:Nat,st.1.getD cur 0=(D:Int)/\(D=start\/∃q,q<f/\st.2[q]?=some D):=by
    rcases par q cur bW with⟨S,_⟩|⟨j,u,S,h2,h3,_⟩
    .grind
    .exact⟨u,h3,.inr ⟨j,trc_k cP j S,h2⟩⟩
   obtain⟨D,ag,bZ⟩:=cU;rw[<-gd,ag]at ld;rw[ag,yY]at aK;simp only[HO,Nat.reduceLT,↓reduceIte,Nat.reduceEqDiff,reduceCtorEq,Wy.lS,bne,ds,q4,q5,O.l6,Kx T n .i64 cur cR,ld];refine tn f [(5,.pointer (some ⟨l,0,none⟩)),(6,.pointer (some ⟨m,0,none⟩)),(12,.int .i64 (D:Nat)),(13,Z)] (Dj _) fD ⟨D,Z,L++[cur],rfl,O,K,a5,m5,?_,bZ,?_⟩
   .grind
   grind
 |false=>
  rw[aH]at C;have cZ:XG (Zh n es) on start (SL n start p.zp) i=false:=by grind [XG]
  have b0:bfsM (Zh n es) start (SL n start p.zp) (i+1)=abl start (bfsM (Zh n es) start (SL n start p.zp) i) v ((Zh n es).getD v []):=by rw[bfsM,s]
  have aT:v<(Zh n es).length:=by grind [Xq]
  have b1:=hb.NS v aT;obtain⟨uv,c0,z⟩:=hb.Wm v aT;have b2:(Zh n es).getD v []=(Zh n es)[v]:=D4 aT;generalize (Zh n es)[v]=row at z b2;have lr:=fun g=>z.Uc g;have dj:row.length<=3000:=by
   have:=bV n es row pw;omega
  rw[b2]at b0;simp only[HO,Nat.reduceLT,↓reduceIte,Nat.reduceEqDiff,reduceCtorEq,W.lM,aD,I,sf1,sf2,Ip,BS,sz.l1,sz.l2,aF,C,b1,c0 hz W.le,lr];clear ay lm aD I sz aF C b1;generalize bfsM (Zh n es) start (SL n start p.zp) i=st at*;refine aaa.intro (fun k fr hy=>∃(q:Nat) (y:Value),k=row.length-q/\q<=row.length/\fr=mkF [(0,.pointer (some ⟨B,0,none⟩)),(5,.pointer (some ⟨l,0,none⟩)),(6,.pointer (some ⟨m,0,none⟩)),(7,.pointer (some ⟨r,0,none⟩)),(8,.func (.func 140) #[] #[.pointer (some ⟨l,0,none⟩),.pointer (some ⟨m,0,none⟩),.pointer (some ⟨r,0,none⟩)]),(11,.int .i64 (i:Nat)),(12,.int .i64 (v:Nat)),(98,uv),(99,.int .i64 (row.length:Nat)),(100,.int .i64 (q:Nat))]/\
    LL h hy l m r T n start y (abl start st v (row.take q))/\BF n start TT1 TT2 (abl start st v (row.take q))/\i<(abl start st v (row.take q)).2.length/\(abl start st v (row.take q)).2[i]?=some v)
   row.length [(0,.pointer (some ⟨B,0,none⟩)),(5,.pointer (some ⟨l,0,none⟩)),(6,.pointer (some ⟨m,0,none⟩)),(7,.pointer (some ⟨r,0,none⟩)),(8,.func (.func 140) #[] #[.pointer (some ⟨l,0,none⟩),.pointer (some ⟨m,0,none⟩),.pointer (some ⟨r,0,none⟩)]),(11,.int .i64 (i:Nat)),(12,.int .i64 (v:Nat)),(98,uv),(99,.int .i64 (row.length:Nat)),(100,.int .i64 (0:Nat))] fD
   ⟨0,y,rfl,AE _,rfl,W,F,d,s⟩ ?_
  clear cx W F d s Y hlen cz;clear y;rintro k fr hy aJ ⟨q,y,rfl,hq,rfl,W,F,d,s⟩;refine Uy ?_;refine Kl.intro (fun ht=>?_) (fun hf=>?_)
  .have M : q < row.length := CC ht
   clear ht;have c4:=z.TA q M;have c5:=(z.le Nn.RP W.le).DH q M;have ck:row.take (q+1)=row.take q++[row[q]]:=EL M;have c6:row[q]∈(Zh n es).getD v []:=pw;generalize row[q]=x at*;obtain⟨w,rfl,b3⟩:=Ru hR c6;have N:abl start st v (row.take (q+1))=dt start (abl start st v (row.take q)) w v:=by grind [abl]
   have hm:=F.jI;have hlen:=F.len;obtain⟨F1,⟨t,et⟩,-⟩:=F.meet (v:=w) (by_:=v) b3 (.inr ⟨i,s,trivial⟩);rw[<-N]at F1 et;have aw:=Tw q NH;refine Sk (XC c4 c5) ?_;refine TC.intro PJ ⟨qS37,rfl,WY⟩ (K8 W0 W hlen (v:=w) (by_:=v) b3 NH) ?_;rintro x g5 v5 ⟨H,O⟩;rw[<-N]at O;simp only[HO,Nat.reduceLT,↓reduceIte,Nat.reduceEqDiff,reduceCtorEq,aw];exact tn (row.length-(q+1)) [(0,.pointer (some ⟨B,0,none⟩)),(5,.pointer (some ⟨l,0,none⟩)),(6,.pointer (some ⟨m,0,none⟩)),(7,.pointer (some ⟨r,0,none⟩)),(8,.func (.func 140) #[] #[.pointer (some ⟨l,0,none⟩),.pointer (some ⟨m,0,none⟩),.pointer (some ⟨r,0,none⟩)]),(11,.int .i64 (i:Nat)),(12,.int .i64 (v:Nat)),(98,uv),(99,.int .i64 (row.length:Nat)),(100,.int .i64 (q+1:Nat))] (JS M) fD
    ⟨q+1,H,rfl,M,rfl,O,F1,pw,Z5 et s⟩
  .have A : row.length <= q := vp hf
   rw[vZ A,<-b0]at W F d;have aw:=Tw i NH;simp only[HO,Nat.reduceLT,↓reduceIte,Nat.reduceEqDiff,reduceCtorEq,aw];refine tn (n+1-(i+1)) [(0,.pointer (some ⟨B,0,none⟩)),(5,.pointer (some ⟨l,0,none⟩)),(6,.pointer (some ⟨m,0,none⟩)),(7,.pointer (some ⟨r,0,none⟩)),(8,.func (.func 140) #[] #[.pointer (some ⟨l,0,none⟩),.pointer (some ⟨m,0,none⟩),.pointer (some ⟨r,0,none⟩)]),(11,.int .i64 (i+1:Nat))] (sub_lt1 bH) fD
    ⟨i+1,y,rfl,rfl,W,F,d,fun j hj=>?_⟩
   grind
end
end Go.Fw
namespace Go.Fw
open Go.Proofs
attribute [local irreducible] Kp MQ lU rS KO KN KX KE VK Kl ZJ TC aaa
attribute [local instance] Classical.propDecidable
structure wi (n:Nat) (L:RZ) (ρ d:Nat->Nat):Prop where
 len:L.length=n
 up:∀v,v<n->∃w,w<n/\L[v]?=some (w:Int)/\ρ w=ρ v/\((w=v/\ρ v=v)\/(w≠v/\d w<d v))
 rt:∀v,v<n->ρ v<n/\ρ (ρ v)=ρ v
section
variable {n : Nat} {L : List Int} {ρ d : Nat → Nat}
theorem wi.zero (n:Nat):wi n ((List.range n).map fun(v:Nat)=>(v:Int)) id (fun _=>0):=
 ⟨Ma,fun v a=>⟨v,a,by simp[a],rfl,.inl ⟨rfl,rfl⟩⟩,fun v a=>⟨a,rfl⟩⟩
theorem wi.halve (F:wi n L ρ d) {v w u:Nat} (f:v<n) (hw:L[v]?=some (w:Int)) (a:w≠v) (g:L[w]?=some (u:Int)):wi n (L.set v (u:Int)) ρ d/\d u<d v/\u<n/\ρ u=ρ v:=by
 obtain⟨w',h,h2,h3,c⟩:=F.up v f;rw[hw]at h2;injection h2 with h2;obtain rfl:w=w':=NH;have c:=c.resolve_left fun q=>a q.1;obtain⟨u',i,b,j,l⟩:=F.up w h;rw[g]at b;injection b with b;obtain rfl:u=u':=NH;have hd:d u<d v:=pw;refine⟨⟨by grind [wi.len],fun x k=>?_,F.rt⟩,hd,i,j.trans h3⟩;by_cases e:v=x
 .grind
 .rw[K4,if_neg e];exact F.up x k
noncomputable def mW (ρ:Nat->Nat) (a b:Nat):Nat->Nat:=fun x=>if ρ x=a then b else ρ x
noncomputable def cO (ρ d:Nat->Nat) (a b:Nat):Nat->Nat:=fun x=>if ρ x=a/\a≠b then d x+d b+1 else d x
theorem wi.join (F:wi n L ρ d) {a b:Nat} (ha:a<n) (hb:b<n) (ra:ρ a=a) (rb:ρ b=b):wi n (L.set a (b:Int)) (mW ρ a b) (cO ρ d a b):=by
 by_cases e:a=b
 .subst e
  have h:mW ρ a a=ρ:=by grind [mW]
  have i:cO ρ d a a=d:=by grind [cO]
  rw[h,i];refine⟨by grind [wi.len],fun x f=>?_,F.rt⟩;by_cases e:a=x
  .grind [wi.len]
  .rw[K4,if_neg e];exact F.up x f
 .have k : mW ρ a b b = b := by grind [mW]
  have g:∀x,x<n->mW ρ a b x<n:=fun x f=>by grind [mW,wi.rt]
  refine⟨by grind [wi.len],fun x f=>?_,fun x f=>⟨g x f,?_⟩⟩
  .by_cases ex : a = x
   .grind [wi.len,mW,cO]
   .rw [K4, if_neg ex]
    obtain⟨w,j,h2,h3,l⟩:=F.up x f;refine⟨w,j,h2,by grind [mW],?_⟩
    grind [mW,cO]
  .unfold mW
   by_cases c:ρ x=a
   all_goals grind [wi.rt]
end
theorem Y9 (K:LA) (g T n:Nat) (L:RZ) (ρ d:Nat->Nat) (v:Nat) (h:AHeap) (G:h.own g=some (.cells [.slice (some ⟨T,0,none⟩) n n])) (oT:h.own T=some (.cells (Bp L))) (j:T≠g) (F:wi n L ρ d) (M:v<n):
  AC Tryz.prog K 143 [.int .i64 (v:Int),.pointer (some ⟨g,0,none⟩)] h fun x h'=>x=.int .i64 (ρ v:Int)/\∃a,wi n a ρ d/\h'.own T=some (.cells (Bp a))/\(∀f,Le f h->f.own T=none->Le f h')/\∀b o,b≠T->h.own b=some o->h'.own b=some o:=by
 refine AC.vE ⟨KT,rfl,WY⟩ Tryz.ntmps143 Tryz.results143 fun N=>?_;simp only[Br,Nat.reduceAdd];refine Uy ?_;refine aaa.intro (fun k fr i=>∃(c:Nat) (a:RZ),k=d c/\c<n/\fr=mkF [(0,.int .i64 (c:Nat)),(1,.pointer (some ⟨g,0,none⟩))]/\ρ c=ρ v/\wi n a ρ d/\i.own T=some (.cells (Bp a))/\(∀f,Le f h->f.own T=none->Le f i)/\∀b o,b≠T->h.own b=some o->i.own b=some o)
  (d v) [(0,.int .i64 (v:Nat)),(1,.pointer (some ⟨g,0,none⟩))] fD ⟨v,L,rfl,M,rfl,rfl,F,oT,fun f s _=>s,fun b o _ H=>H⟩ ?_
 clear oT F;rintro k fr i O ⟨c,a,rfl,l,rfl,P,F,oT,s,Q⟩;have t:=Q g _ (Hs j) G;have l5:aload Tryz.prog i 49 ⟨g,0,none⟩=some (.slice (some ⟨T,0,none⟩) n n):=by rw[Fq Ac rfl t];rfl
 obtain⟨w,hw,I,R,y⟩:=F.up c l;have ld:=XP oT I;by_cases e:w=c
 .subst e
  have d1:decide ((w:Int)=(w:Int))=true:=decide_eq_true rfl;have S:ρ w=w:=pw;simp only[HO,Nat.reduceLT,↓reduceIte,Nat.reduceEqDiff,reduceCtorEq,l5,Kx T n .i64 w l,ld,bne,d1]
  grind
 .have d1 : decide ((w : Int) = (c : Int)) = false := decide_eq_false NH
  obtain⟨u,V,m,_,_⟩:=F.up w hw;have z:=XP oT m;obtain⟨U,hd,A,B⟩:=F.halve l I e m;have p:c<a.length:=pw;have st:=stI oT p (u:Int);have q:(i.put T (.cells (Bp (a.set c (u:Int))))).own T=some (.cells (Bp (a.set c (u:Int)))):=AHeap.Y3 _ _ _;have r:∀b o,b≠T->h.own b=some o->(i.put T (.cells (Bp (a.set c (u:Int))))).own b=some o:=fun b o hb H=>by grind [AHeap.By]
  have C:aload Tryz.prog (i.put T (.cells (Bp (a.set c (u:Int))))) 49 ⟨g,0,none⟩=some (.slice (some ⟨T,0,none⟩) n n):=by rw[Fq Ac rfl (r g _ (Hs j) G)];rfl
  have D:aload Tryz.prog (i.put T (.cells (Bp (a.set c (u:Int))))) 3 ⟨T,c,none⟩=some (.int .i64 (u:Int)):=XP q (by rw[K4,if_pos rfl,if_pos p]);simp only[HO,Nat.reduceLT,↓reduceIte,Nat.reduceEqDiff,reduceCtorEq,l5,Kx T n .i64 c l,ld,bne,d1];refine gh (tA [0,1,2,3,4,5,6,7,8,9] (JQ 10 [0,1,2,3,4,5,6,7,8,9] .done)) ?_;simp only[HO,Nat.reduceLT,↓reduceIte,Nat.reduceEqDiff,reduceCtorEq,Nat.reduceBEq,Qg,l5,Kx T n .i64 c l,Kx T n .i64 w hw,ld,z,st,C,D];exact tn (d u) [(0,.int .i64 (u:Nat)),(1,.pointer (some ⟨g,0,none⟩))] hd fD ⟨u,_,rfl,A,rfl,B.trans P,U,q,fun f E J=>(s f E J).put _ J,r⟩
end Go.Fw
namespace Go.Fw
open Go.Proofs
attribute [local instance] Classical.propDecidable
structure Sep (b0 h:AHeap) (vs:List Value):Prop where
 TE:∀(i j:Nat) u w b,i≠j->vs[i]?=some u->vs[j]?=some w->blk u=some b->blk w≠some b
 own:∀(i:Nat) u b,vs[i]?=some u->blk u=some b->h.own b≠none
 ap:∀(i:Nat) u,vs[i]?=some u->Z2 b0 u
 le:Le b0 h
section
variable {b0 h h' : AHeap} {vs : List Value}
theorem Sep.kept (S:Sep b0 h vs) (l:Le b0 h') (c:∀b o,h.own b=some o->h'.own b≠none):Sep b0 h' vs:=
 ⟨S.TE,fun i u b a hb=>by
  obtain⟨o,d⟩:=Tn.1 (S.own i u b a hb)
  grind,S.ap,l⟩
theorem Sep.up (S:Sep b0 h vs) (l:Le h h'):Sep b0 h' vs:=S.kept (S.le.trans l) fun b o a=>by grind [Le.own]
theorem Sep.app (S:Sep b0 h vs) {i:Nat} {u u':Value} (c:vs[i]?=some u) (hf:∀f,Le f h->Z2 f u->Le f h'/\Z2 f u') (n:∀b o,h.own b=some o->blk u≠some b->h'.own b=some o/\blk u'≠some b) (d:∀b,blk u'=some b->h'.own b≠none):Sep b0 h' (vs.set i u'):=by
 have e:=(qL0.1 c).1;have key:∀(j:Nat) w,(vs.set i u')[j]?=some w->(j=i/\w=u')\/(j≠i/\vs[j]?=some w):=fun j w hw=>by grind
 obtain⟨l1,a1⟩:=hf b0 S.le (S.ap i u c);have fresh:∀(j:Nat) w b,j≠i->vs[j]?=some w->blk w=some b->h'.own b≠none/\blk u'≠some b:=fun j w b p hw hb=>by
  obtain⟨o,d⟩:=Tn.1 (S.own j w b hw hb)
  grind [Sep.TE]
 refine⟨fun j k a w b g ha hw hb q=>?_,fun j a b ha hb=>?_,fun j a ha=>?_,l1⟩
 .rcases key j a ha with ⟨l, rfl⟩ | ⟨l, r⟩
  .grind
  .rcases key k w hw with ⟨m, rfl⟩ | ⟨m, h2⟩
   .grind
   grind [Sep.TE]
 all_goals grind [Sep.ap]
theorem Sep.snoc (S:Sep b0 h vs) {v:Value} (e:blk v=none):Sep b0 h (vs++[v]):=by
 have key:∀(j:Nat) w,(vs++[v])[j]?=some w->vs[j]?=some w\/w=v:=fun j w hw=>by grind
 refine⟨fun i j u w b c a hw hb q=>?_,fun i u b a hb=>?_,fun i u a b hb=>?_,S.le⟩
 .grind [Sep.TE]
 .grind [Sep.own]
 .rcases key i u a with d | rfl
  .exact S.ap i u d b hb
  grind
end
abbrev rW:Value:=.slice none 0 0
def cellsO (vs:List Value):Nat->List Value
 |0=>[]
 |m+1=>cellsO vs m++[vs.getD (2*m) rW,vs.getD (2*m+1) rW,rW]
theorem Iy (vs:List Value):∀m,(cellsO vs m).length=m*3
 |0=>rfl
 |m+1=>by rw[cellsO,kc,Iy vs m];simp;omega
theorem aY (vs:List Value) {k:Nat}:∀m,k<m->(cellsO vs m)[k*3]?=some (vs.getD (2*k) rW)/\(cellsO vs m)[k*3+1]?=some (vs.getD (2*k+1) rW)/\(cellsO vs m)[k*3+2]?=some rW
 |0,h=>absurd h (To _)
 |m+1,h=>by
  rw[cellsO];by_cases e:k=m
  .subst e
   refine⟨?_,?_,?_⟩
   .grind [Iy]
   .grind [Iy]
   grind [Iy]
  .obtain ⟨a, h2, h3⟩ := aY vs (k := k) m NH
   grind
theorem aA {vs ws:List Value}:∀m,(∀i,i<2*m->vs.getD i rW=ws.getD i rW)->cellsO vs m=cellsO ws m
 |0,_=>rfl
 |m+1,h=>by rw[cellsO,cellsO,aA m fun i hi=>h i NH,h (2*m) NH,h (2*m+1) NH]
theorem Yv {vs:List Value} {k r:Nat} (b:r<2) {a:Value}:∀m,k<m->2*m<=vs.length->cellsO (vs.set (2*k+r) a) m=(cellsO vs m).set (k*3+r) a
 |0,h,_=>absurd h (To _)
 |m+1,h,c=>by
  rw[cellsO,cellsO];by_cases e:k=m
  .subst e
   rw[aA (ws:=vs) k fun i hi=>by grind]
   grind [Iy,Nat.add_sub_cancel_left]
  .rw [Yv b m NH NH, List.set_append_left _ _ (by grind [Iy])]
   grind
structure Wq (b0 h:AHeap) (xv:Value) (vs:List Value) (ps:List (List Pr×RZ)):Prop where
 sep:Sep b0 h (xv::vs)
 len:vs.length=2*ps.length
 sl:GS 3 h xv ps.length (cellsO vs ps.length)
 ge:∀(i:Nat) p,ps[i]?=some p->GP h (vs.getD (2*i) rW) p.1/\GI h (vs.getD (2*i+1) rW) p.2
 cu:cu xv
section
variable {b0 h h' : AHeap} {xv : Value} {vs : List Value} {ps : List (List Pr × List Int)}
theorem Wq.nil (b0:AHeap):Wq b0 b0 rW [] []:=by
 refine⟨⟨fun i j u w b d a hw hb=>?_,fun i u b a hb=>?_,fun i u a b hb=>?_,Le.refl _⟩,rfl,GS.nil 3 b0,fun i p e=>by simp at e,.inl rfl⟩
 all_goals
  have c:=Gc a;rw[Eh]at c;subst c;cases hb
theorem Wq.kept (P:Wq b0 h xv vs ps) (l:Le b0 h') (d:∀b o,(∃u∈xv::vs,blk u=some b)->h.own b=some o->h'.own b=some o):Wq b0 h' xv vs ps:=by
 have a:∀i,i<vs.length->vs.getD i rW∈xv::vs:=fun i hi=>by grind
 refine⟨⟨P.sep.TE,fun i u b f hb=>?_,P.sep.ap,l⟩,P.len,GS.kept P.sl fun b o hb c=>d b o ⟨xv,Ma,hb⟩ c,fun i p e=>?_,P.cu⟩
 .obtain ⟨o, c⟩ := Tn.1 (P.sep.own i u b f hb)
  grind
 .have hi := (qL0.1 e).1
  have:=P.len;obtain⟨g,j⟩:=P.ge i p e;exact⟨GS.kept g fun b o hb c=>d b o ⟨_,a _ NH,hb⟩ c,GS.kept j fun b o hb c=>d b o ⟨_,a _ NH,hb⟩ c⟩
theorem Wq.up (P:Wq b0 h xv vs ps) (l:Le h h'):Wq b0 h' xv vs ps:=P.kept (P.sep.le.trans l) fun b o _ a=>l.own b o a
theorem u6 (P:Wq b0 h xv vs ps) {i:Nat} (hi:i<vs.length):(xv::vs)[i+1]?=some (vs.getD i rW):=pw
theorem dD:UA Tryz.prog 125=3:=Ji
def bld0:aBuild Tryz.prog 125 []=some (.agg #[rW,rW,rW]):=Ji
def mkPc (h:AHeap):aBuildSlice Tryz.prog h 75 1 [(0,.agg #[rW,rW,rW])]=some (.slice (some ⟨h.next,0,none⟩) 1 1,h.alloc (.cells [rW,rW,rW])):=Ji
theorem one3 (vs:List Value) (a:∀u∈vs,u.oneCell'=true):∀m,(cellsO vs m).all (·.oneCell')=true
 |0=>rfl
 |m+1=>by
  have g:∀i,(vs.getD i rW).oneCell'=true:=fun i=>by
   by_cases c:i<vs.length
   .grind
   .rw[fj,qk NH];rfl
  rw[cellsO,dJ,one3 vs a m,adV,adV,adV,g,g];rfl
theorem Wq.one (P:Wq b0 h xv vs ps):(cellsO vs ps.length).all (·.oneCell')=true:=by
 refine one3 vs (fun u a=>?_) _;obtain⟨i,hi,rfl⟩:=ack.1 a;have f:=P.len;have b:=XJ (l:=ps) (i:=i / 2) NH;obtain⟨c,d⟩:=P.ge _ _ b;have:i=2*(i / 2)\/i=2*(i / 2)+1:=NH;rcases this with e|e
 .have := c.pr.sl.one
  grind
 .have := d.rl.one
  grind
theorem Wq.push (P:Wq b0 h xv vs ps) (w:WF h) (L:ps.length<=100000):
  ∃a l d,aBuildSlice Tryz.prog h 75 1 [(0,.agg #[rW,rW,rW])]=some (.slice (some ⟨h.next,0,none⟩) 1 1,l)/\aAppend Tryz.prog l 75 75 xv (.slice (some ⟨h.next,0,none⟩) 1 1)=some (a,d)/\
   Wq b0 d a (vs++[rW,rW]) (ps++[([],[])])/\WF d/\Le h l/\(∀f,Le f h->Z2 f xv->Le f d)/\∀b o,h.own b=some o->blk xv≠some b->d.own b=some o/\blk a≠some b:=by
 obtain⟨l,e4,l4,r,C⟩:=Tt w [rW,rW,rW]
 have hs:∀e,UA Tryz.prog e=3->srcCells Tryz.prog l e (.slice (some ⟨h.next,0,none⟩) 1 1)=some (1,[rW,rW,rW]):=fun e D=>
  CS.src D (CS.own (k:=3) (off:=0) (n:=1) (cap:=1) C Ma)
 obtain⟨a,d,x,E,g⟩:=GS.append (P:=Tryz.prog) (t:=75) (xt:=75) (k:=3) Ji (P.sl.le l4) hs P.one rfl rfl NH;have F:=xr r x;have s:∀b o,h.own b=some o->blk xv≠some b->d.own b=some o/\blk a≠some b:=fun b o q hb=>aG g r (l4.own _ _ q) hb;refine⟨a,l,d,by rw[mkPc,e4],x,?_,F,l4,fun f y af=>(g f r (y.trans l4) af).1,s⟩;have G:=P.sep.app (h':=d) (i:=0) (u:=xv) (u':=a) rfl (fun f y af=>g f r (y.trans l4) af) s (fun b hb=>GS.Sy E hb);have H:Sep b0 d (a::(vs++[rW,rW])):=by
  have:=(Sep.snoc G (v:=rW) rfl).snoc (v:=rW) rfl
  grind
 have A:cellsO (vs++[rW,rW]) (ps++[([],[])]).length=cellsO vs ps.length++[rW,rW,rW]:=by
  rw[kc,QD,cellsO];congr 1
  .grind [aA]
  .rw[<-P.len,fj,fj,qy (Ny _),qy NH];simp
 refine⟨H,by grind [Wq.len],pw,fun i p m=>?_,uZ x P.cu⟩;by_cases c:i<ps.length
 .rw [fR c] at m
  have M:=P.len;obtain⟨I,J⟩:=P.ge i p m;have z:∀j,j<vs.length->(vs++[rW,rW]).getD j rW=vs.getD j rW:=fun j B=>by grind
  rw[z _ NH,z _ NH];have nb:∀j,j<vs.length->∀b,blk (vs.getD j rW)=some b->blk xv≠some b:=fun j B b hb=>P.sep.TE (j+1) 0 _ _ b NH (u6 P B) rfl hb;exact⟨GS.kept I fun b o hb q=>(s b o q (nb _ NH b hb)).1,GS.kept J fun b o hb q=>(s b o q (nb _ NH b hb)).1⟩
 .have hi := (qL0.1 m).1
  rw[kc,QD]at hi;have K:i=ps.length:=NH;subst K;rw[qy (Ny _),uu]at m;simp at m;subst m;have N:(vs++[rW,rW]).getD (2*ps.length) rW=rW:=by grind [Wq.len]
  have z:(vs++[rW,rW]).getD (2*ps.length+1) rW=rW:=by rw[<-P.len,fj,qy NH,GK];rfl
  grind [GP.nil,GI.nil]
end
end Go.Fw
namespace Go.Fw
open Go.Proofs
attribute [local instance] Classical.propDecidable
theorem GS.stor {P:Program} {h:AHeap} {k m:Nat} {v x:Value} {cs:List Value} {t:TypeId} {d:TypeDesc} (g:GS k h v m cs) (a:WF h) (r:P.underlying t=some d) (hs:UA P t=1) {i:Nat} (hi:i<m*k) (s:x.cells=#[x]) (u:x.oneCell'=true):
  ∃h',aStore P h t (.pointer (some (elemAddr v i))) x=some h'/\GS k h' v m (cs.set i x)/\WF h'/\(∀f,Le f h->Z2 f v->Le f h')/\∀b o,h.own b=some o->blk v≠some b->h'.own b=some o:=by
 obtain⟨w,⟨rfl,rfl⟩|⟨id,c,cap,rfl,j,y,l⟩⟩:=g
 .omega
 .have n : m * k <= c.length := pw
  refine⟨h.put id (.cells (c.set i x)),?_,⟨pw,.inr ⟨id,c.set i x,cap,rfl,AHeap.Y3 _ _ _,?_,l⟩⟩,a.put _ (a.lt j),fun f p af=>p.put _ (af id rfl),fun b o hb q=>?_⟩
  .grind [fA,Ip.eq_1,QB]
  .grind [List.take_set]
  .rw[AHeap.By _ _ _ _ (fun e=>q (by rw[e];rfl))];exact hb
def xO.cell {v:Value} {n:Nat} (h:xO v n):v.cells=#[v]:=by obtain⟨_,_,rfl,_⟩:=h;rfl
def GS.ad3 {h:AHeap} {v:Value} {cs:List Value} {m:Nat} (g:GS 3 h v m cs) {k:Nat} (d:k<m):aIndexAddr Tryz.prog 75 v (.int .i64 (k:Int))=some (.pointer (some (elemAddr v (k*3)))):=by
 obtain⟨a,c,rfl,hs⟩:=g.cs.sl;obtain⟨a,rfl⟩:=eR.1 (hs NH);have b:(k:Int)<(m:Int):=NH;simp[aIndexAddr,yo,zC,b,dD,elemAddr]
theorem eA3 {h:AHeap} {v:Value} {cs:List Value} {m:Nat} (g:GS 3 h v m cs) {k r:Nat} (b:k<m):Ip (elemAddr v (k*3)) r=elemAddr v (k*3+r):=by
 obtain⟨a,c,rfl,hs⟩:=g.cs.sl
 grind [Option.isSome_iff_exists,fA,Ub]
section
variable {b0 h h2 : AHeap} {xv : Value} {vs : List Value} {ps : List (List Pr × List Int)}
def Wq.ldE (P:Wq b0 h xv vs ps) {k:Nat} (a:k<ps.length):aload Tryz.prog h 22 (elemAddr xv (k*3))=some (vs.getD (2*k) rW):=by rw[Bj AV rfl];exact P.sl.cs.get _ _ (aY vs ps.length a).1
def Wq.ldF (P:Wq b0 h xv vs ps) {k:Nat} (a:k<ps.length):aload Tryz.prog h 49 (elemAddr xv (k*3+1))=some (vs.getD (2*k+1) rW):=by rw[Bj Ac rfl];exact P.sl.cs.get _ _ (aY vs ps.length a).2.1
def Wq.len_ (P:Wq b0 h xv vs ps) (g:AHeap):aLen Tryz.prog g 75 xv=some (.int .i64 (ps.length:Nat)):=by
 obtain⟨a,c,rfl,_⟩:=P.sl.cs.sl;exact Jg yo g
theorem Wq.setR (P:Wq b0 h xv vs ps) {t:TypeId} {d:TypeDesc} (K:Tryz.prog.underlying t=some d) (D:UA Tryz.prog t=1) {k r:Nat} (L:k<ps.length) (S:r<2) {u':Value} {pk:List Pr×RZ} (E:WF h2)
  (hf:∀f,Le f h->Z2 f (vs.getD (2*k+r) rW)->Le f h2/\Z2 f u') (n:∀b o,h.own b=some o->blk (vs.getD (2*k+r) rW)≠some b->h2.own b=some o/\blk u'≠some b)
  (c:(r=0/\GP h2 u' pk.1/\∃l,ps[k]?=some (l,pk.2))\/(r=1/\GI h2 u' pk.2/\∃f,ps[k]?=some (pk.1,f))):
  ∃h3,aStore Tryz.prog h2 t (.pointer (some (elemAddr xv (k*3+r)))) u'=some h3/\Wq b0 h3 xv (vs.set (2*k+r) u') (ps.set k pk)/\WF h3/\(∀f,Le f h->Z2 f (vs.getD (2*k+r) rW)->Z2 f xv->Le f h3)/\∀b o,h.own b=some o->(∀u∈xv::vs,blk u≠some b)->h3.own b=some o:=by
 have T:=P.len;have w:2*k+r<vs.length:=NH
 have z:xO u' (if r=0 then pk.1.length else pk.2.length):=by
  rcases c with⟨e,g,_⟩|⟨e,g,_⟩
  .rw[if_pos e];exact g.pr.sl
  .rw[if_neg NH];exact g.rl.sl
 have M:∀b,blk u'=some b->h2.own b≠none:=fun b hb=>by
  rcases c with⟨_,g,_⟩|⟨_,g,_⟩
  .exact GS.Sy g hb
  .exact GS.Sy g hb
 have dx:∀b,blk xv=some b->blk (vs.getD (2*k+r) rW)≠some b:=fun b hb=>P.sep.TE 0 _ _ _ b NH rfl (u6 P w) hb;have F:GS 3 h2 xv ps.length (cellsO vs ps.length):=GS.kept P.sl fun b o hb a=>(n b o a (dx b hb)).1;obtain⟨h3,e3,U,N,J,G⟩:=GS.stor F E (x:=u') K D (i:=k*3+r) NH z.cell z.one;have H:∀b,blk xv=some b->blk u'≠some b:=fun b hb=>by
  obtain⟨o,a⟩:=Tn.1 (P.sep.own 0 xv b rfl hb)
  grind
 refine⟨h3,e3,?_,N,fun f O af ax=>J f (hf f O af).1 ax,fun b o a hb=>G b o (n b o a (hb _ pw)).1 (hb xv Ma)⟩;have A:=P.sep.app (u6 P w) hf n M;have es:(xv::vs).set (2*k+r+1) u'=xv::vs.set (2*k+r) u':=pw;rw[es]at A;have Q:Sep b0 h3 (xv::vs.set (2*k+r) u'):=A.kept (J b0 A.le (A.ap 0 xv rfl)) fun b o a=>by grind [GS.Sy]
 refine⟨Q,pw,by grind [Yv],fun i p s=>?_,P.cu⟩;have keep:∀j,j<vs.length->j≠2*k+r->∀b o,blk (vs.getD j rW)=some b->h.own b=some o->h3.own b=some o:=fun j I R b o hb a=>
  G b o (n b o a (P.sep.TE (j+1) (2*k+r+1) _ _ b NH (u6 P I) (u6 P w) hb)).1 (P.sep.TE (j+1) 0 _ _ b NH (u6 P I) rfl hb)
 have same:∀j,j≠2*k+r->(vs.set (2*k+r) u').getD j rW=vs.getD j rW:=fun j I=>by grind
 have v:(vs.set (2*k+r) u').getD (2*k+r) rW=u':=pw;have m:∀b o,blk u'=some b->h2.own b=some o->h3.own b=some o:=fun b o hb a=>G b o a fun q=>H b q hb;rw[K4]at s;by_cases e:k=i
 .subst e
  simp only[if_true,L]at s;injection s with s;subst s;rcases c with⟨e,g,l,y⟩|⟨e,g,l,y⟩
  .subst e
   obtain⟨B,C⟩:=P.ge k _ y;have n0:=v;rw[pz]at n0;rw[pz,n0];have s1:=same (2*k+1) NH;rw[pz]at s1;rw[s1];exact⟨GS.kept g fun b o hb a=>m b o hb a,GS.kept C fun b o hb a=>keep _ NH NH b o hb a⟩
  .subst e
   obtain⟨B,C⟩:=P.ge k _ y;rw[v,same (2*k) NH];exact⟨GS.kept B fun b o hb a=>keep _ NH NH b o hb a,GS.kept g fun b o hb a=>m b o hb a⟩
 .rw [if_neg e] at s
  have hi:=(qL0.1 s).1;obtain⟨B,C⟩:=P.ge i p s;rw[same (2*i) NH,same (2*i+1) NH];exact⟨GS.kept B fun b o hb a=>keep _ NH NH b o hb a,GS.kept C fun b o hb a=>keep _ NH NH b o hb a⟩
end
end Go.Fw
namespace Go.Fw
open Go.Proofs
attribute [local instance] Classical.propDecidable
def Cls (n:Nat) (on:Nat->Bool) (es:List Pr) (ρ:Nat->Nat):Prop:=∀u w,u<n->w<n->on u=false->on w=false->(ρ u=ρ w↔Cn on es u w)
section
variable {n : Nat} {on : Nat → Bool} {es : List Pr} {ρ d : Nat → Nat}
theorem Cn.mono {es b:List Pr} (h:∀e∈es,e∈b) {u w:Nat} (c:Cn on es u w):Cn on b u w:=by
 induction c with
 |refl o=>exact .refl o
 |step _ a o f=>exact .step f (a.imp (h _) (h _)) o
def cls_nil:Cls n on [] id:=fun u w _ _ b _=>by
 constructor
 .intro h;have h:u=w:=h;subst h;exact .refl b
 .intro h
  cases h with
  |refl=>rfl
  |step _ a _=>rcases a with a|a<;>cases a
theorem bD {p:Pr} (C:Cls n on es ρ) (hR:0<=p.1/\0<=p.2) (h:on p.1.toNat=true\/on p.2.toNat=true):Cls n on (es++[p]) ρ:=fun u w f hw g b=>by
 rw[C u w f hw g b];refine⟨fun c=>c.mono fun e i=>mJ _ i,fun c=>?_⟩;clear hw b
 induction c with
 |refl o=>exact .refl o
 |@step x y c1 a o j=>
  refine .step j ?_ o;have ox:=c1.AB;rcases a with a|a
  .rcases WA.1 a with a | a
   .exact .inl a
   grind
  .rcases WA.1 a with a | a
   .exact .inr a
   grind
theorem qO {a b:Nat} (C:Cls n on es ρ) (hR:aV n (es++[((a:Int),(b:Int))])) (k:on a=false) (l:on b=false):Cls n on (es++[((a:Int),(b:Int))]) (mW ρ (ρ a) (ρ b)):=fun u w r hw s m=>by
 have o:=hR _ (Ki _ (Eh.2 rfl));simp only at o;have ha:a<n:=NH;have hb:b<n:=NH;have sub:∀{x y},Cn on es x y->Cn on (es++[((a:Int),(b:Int))]) x y:=fun c=>c.mono fun e p=>mJ _ p;have q:Cn on (es++[((a:Int),(b:Int))]) a b:=.step (.refl k) (.inl (Ki _ (Eh.2 rfl))) l;have up:∀x,x<n->on x=false->∀y,y<n->on y=false->ρ x=ρ y->Cn on (es++[((a:Int),(b:Int))]) x y:=fun x f ox y i g e=>sub ((C x y f i ox g).1 e);have j:∀x,x<n->on x=false->∃y,y<n/\on y=false/\Cn on (es++[((a:Int),(b:Int))]) x y/\mW ρ (ρ a) (ρ b) x=ρ y:=fun x f ox=>by grind [mW,Cn.trans]
 constructor
 .grind [Cn.trans,Cn.symm]
 .intro c
  have key:∀{x y},x<n->y<n->on x=false->on y=false->Jp (es++[((a:Int),(b:Int))]) x y->mW ρ (ρ a) (ρ b) x=mW ρ (ρ a) (ρ b) y:=fun{x y} f i ox g h=>by
   have qi:Jp es x y->mW ρ (ρ a) (ρ b) x=mW ρ (ρ a) (ρ b) y:=fun h=>by
    have:=(C x y f i ox g).2 (.step (.refl ox) h g);unfold mW;rw[this]
   have new:∀{x y:Nat},(((x:Int),(y:Int)):Pr)=((a:Int),(b:Int))->mW ρ (ρ a) (ρ b) x=mW ρ (ρ a) (ρ b) y:=fun{x y} e=>by
    injection e with t v;obtain rfl:x=a:=NH;obtain rfl:y=b:=NH;unfold mW;grind
   rcases h with h|h
   .rcases WA.1 h with h | h
    .exact qi (.inl h)
    grind
   .rcases WA.1 h with h | h
    .exact qi (.inr h)
    grind
  clear hw m;have lt:∀{x y},Jp (es++[((a:Int),(b:Int))]) x y->x<n/\y<n:=fun h=>h.lt hR
  induction c<;>grind [Cn.AB]
end
def WJ (n i:Nat):RZ:=(List.range n).map fun v=>if v<i then(v:Int)else 0
theorem hdL_len (n i:Nat):(WJ n i).length=n:=by simp[WJ]
theorem Xt (n:Nat):WJ n 0=List.replicate n 0:=by
 apply EH
 grind [WJ]
theorem hdL_set {n i:Nat} (hi:i<n):(WJ n i).set i (i:Int)=WJ n (i+1):=by
 apply EH
 grind [WJ]
theorem hdL_all (n:Nat):WJ n n=(List.range n).map fun(v:Nat)=>(v:Int):=by grind [WJ,List.map_congr_left]
noncomputable abbrev Gu (n:Nat) (on:Nat->Bool) (es:List Pr) (v:Nat):Int:=(MF n on es).getD v 0
noncomputable abbrev frL (n:Nat) (on:Nat->Bool) (es:List Pr):Pr->Nat->Int:=Zo n on (MF n on es)
def qT (on:Nat->Bool) (gs:List Gr):List (List Pr×RZ):=gs.map fun g=>(g.2,kZ (BY on g.2))
structure fu (n:Nat) (on:Nat->Bool) (es:List Pr) (ρ:Nat->Nat) (gs:List Gr) (A:RZ):Prop where
 len:A.length=n
 val:∀v,v<n->on v=false->(∃(k:Nat) (l:List Pr),A[ρ v]?=some (k:Int)/\gs[k]?=some (Gu n on es v,l))\/(A[ρ v]?=some (-1)/\Gu n on es v∉Ea gs)
section
variable {n : Nat} {on : Nat → Bool} {es : List Pr} {ρ : Nat → Nat} {A : List Int}
theorem pH {v:Nat} (a:v<n) (b:on v=false):∃k:Nat,k<n/\Gu n on es v=(k:Int):=by grind [uY,wx.off]
def TB {u w:Nat} (a:u<n) (hw:w<n) (b:on u=false) (c:on w=false):Gu n on es u=Gu n on es w↔Cn on es u w:=M9 uY a hw b c
theorem fu.zero (F:∀v,v<n->ρ v<n):fu n on es ρ [] (List.replicate n (-1)):=
 ⟨Ma,fun v a _=>.inr ⟨pw,by simp[Ea]⟩⟩
theorem fu.qi {gs:List Gr} (T:fu n on es ρ gs A) (c:(Ea gs).Nodup) {v k:Nat} {l:List Pr} (b:gs[k]?=some (Gu n on es v,l)) (p:Pr):addG gs (Gu n on es v) p=gs.set k (Gu n on es v,l++[p])/\fu n on es ρ (gs.set k (Gu n on es v,l++[p])) A:=by
 have f:=(qL0.1 b).1;have e:addG gs (Gu n on es v) p=gs.set k (Gu n on es v,l++[p]):=by
  rcases Ga (Gu n on es v) gs (gs.map fun _=>rW) 0 Ma with⟨a,_⟩|⟨j,l',u,a,_,_,_,i⟩
  .exact absurd (aae.2 ⟨_,Gc b,rfl⟩) a
  .have m:j=k:=by
    refine QN c (x:=Gu n on es v) ?_ ?_
    all_goals grind [Ea]
   grind
 refine⟨e,T.len,fun w hw g=>?_⟩;have h:Ea (gs.set k (Gu n on es v,l++[p]))=Ea gs:=by
  unfold Ea;rw[wV];apply EH
  grind
 rcases T.val w hw g with⟨j,l',a,h2⟩|⟨a,h2⟩
 .refine .inl ⟨j, ?_⟩
  grind
 grind
def V4 {gs:List Gr} {f:Int} (h:f∉Ea gs) (p:Pr):addG gs f p=gs++[(f,[p])]:=by
 rcases Ga f gs (gs.map fun _=>rW) 0 Ma with⟨_,_,_,a⟩|⟨j,l',u,b,_⟩
 .exact a p
 .exact absurd (aae.2 ⟨_,Gc b,rfl⟩) h
theorem fu.new {gs:List Gr} (C:Cls n on es ρ) (F:∀v,v<n->ρ v<n) (T:fu n on es ρ gs A) {v:Nat} (b:v<n) (e:on v=false) (h:Gu n on es v∉Ea gs) (p:Pr):fu n on es ρ (gs++[(Gu n on es v,[p])]) (A.set (ρ v) (gs.length:Int)):=by
 refine⟨by grind [fu.len],fun w hw a=>?_⟩;have hA:ρ v<A.length:=by grind [fu.len]
 by_cases c:ρ v=ρ w
 .have el : Gu n on es v = Gu n on es w := (TB b hw e a).2 ((C v w b hw e a).1 c)
  grind
 .rw [K4, if_neg c]
  rcases T.val w hw a with⟨j,l',f,h2⟩|⟨f,h2⟩
  .grind
  .refine .inr ⟨f, ?_⟩
   have:Ea (gs++[(Gu n on es v,[p])])=Ea gs++[Gu n on es v]:=by simp[Ea]
   rw[this,WA,Eh];rintro(q|q)
   .exact h2 q
   .exact c ((C v w b hw e a).2 ((TB b hw e a).1 q.symm))
theorem fu.lone {gs:List Gr} (T:fu n on es ρ gs A) {f:Int} (hf:(n:Int)<=f) (p:Pr):fu n on es ρ (gs++[(f,[p])]) A:=by
 refine⟨T.len,fun w hw a=>?_⟩;rcases T.val w hw a with⟨j,l',b,h2⟩|⟨b,h2⟩
 .grind
 .refine .inr ⟨b, ?_⟩
  have:Ea (gs++[(f,[p])])=Ea gs++[f]:=by simp[Ea]
  rw[this,WA,Eh];rintro(q|q)
  .exact h2 q
  .obtain ⟨k, c, e⟩ := pH (es := es) hw a
   omega
theorem JA (hR:aV n es) {i:Nat}:((n:Int)+i)∉Ea (grpsM (frL n on es) es [] i):=fun c=>by
 obtain⟨j,q,p,f,_,e⟩:=(ae4 _ _ _ _ _).1 c;obtain⟨a,b,rfl,g,hb⟩:=jB hR (Gc f);unfold frL Zo at e;simp only[yY]at e;split at e
 .rename_i h
  obtain⟨k,l,m⟩:=pH (n:=n) (es:=es) (show a<n by omega) h
  grind
 .split at e
  .rename_i o
   obtain⟨k,l,m⟩:=pH (n:=n) (es:=es) hb o
   grind
  .omega
def Xe (gs:List Gr) (f:Int) (p:Pr):qT on (gs++[(f,[p])])=qT on gs++[([p],kZ (AL on p))]:=by simp[qT,BY]
def ZF (gs:List Gr) (k:Nat) (f:Int) (l:List Pr):qT on (gs.set k (f,l))=(qT on gs).set k (l,kZ (BY on l)):=by simp[qT,wV]
theorem KS (l:List Pr) (p:Pr):kZ (BY on (l++[p]))=(AL on p).foldl Uo (kZ (BY on l)):=by grind [kZ,BY]
end
end Go.Fw
