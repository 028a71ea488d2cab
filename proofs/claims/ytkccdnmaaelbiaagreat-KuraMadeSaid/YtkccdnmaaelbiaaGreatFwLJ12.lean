/- A text. -/
import Derived.Test.YtkccdnmaaelbiaaGreatFwLJ8
set_option linter.all false
set_option maxRecDepth 99999
set_option maxHeartbeats 9999999
namespace Go.Fw
section
attribute [local instance] Classical.propDecidable
attribute [local irreducible] Kp MQ lU rS KO KN KX KE VK Kl ZJ TC aab
open Go.Proofs
variable {P:Program} {W0:LA} {h:AHeap} {i n:Nat} {on:Nat->Bool}
def NB (X:II) (vs:List Value):Prop:=∀u∈vs,∀b∈X,blk u≠some b
def ZJ.UJ {N:Nat} {ops:Array Oper} {ks:List Kt} {R:Exit->lC->AHeap->Prop} {fr:lC} (q:∀fr' h',fr'=fr->h'=h->ZJ P W0 N i ops ks R fr' h'):ZJ P W0 N i ops ks R fr h:=q fr h rfl rfl
theorem Qr {es l:List Pr} (hR:aV n es) (c:∀e∈l,e∈es):(kZ (BY on l)).length<=n:=by
 obtain⟨d,h2⟩:=VW (BY on l);have:=tf d (B:=aaa (List.range n)) fun x f=>by
  obtain⟨_,e,g,h⟩:=zS.1 ((h2 x).1 f);obtain⟨a,b,rfl,i,hb⟩:=jB hR (c e g);refine HV.2 ?_
  grind
 grind [aaa]
theorem Xr (W0:LA) (B n:Nat) (bv ov fv iv lv ev:Value) (on:List Bool) (es:List Pr) (h:AHeap) (hs:Sr h B n bv ov fv iv lv) (ho:RL sJ h ov on) (ey:on.length=n) (he:PR h ev es) (hR:aV n es) (hn:n<=300) (dw:es.length<=1000):
  AC Tryz.prog W0 102 [.pointer (some ⟨B,0,none⟩),ev] h fun x h'=>∃vs,Wq h h' x vs (qT (Wg on) (grpsM (frL n (Wg on) es) es [] es.length)):=by
 refine AC.vE ⟨Tryz.func102,rfl,WY⟩ Tryz.ntmps102 Tryz.results102 fun dz=>?_;simp only[Br,Nat.reduceAdd];obtain⟨h1,e1,l1,w1,o1⟩:=Tt dz (List.replicate n (.int .i64 0));have mk:=mk35 h n NH;rw[e1]at mk
 have nT:h.own h.next=none:=(Le.refl h).next dz (qL0 _)
 obtain⟨h2,e2,l2,w2,o2⟩:=Tt w1 [rW]
 have n5:h.own h1.next=none:=by grind [Le.next]
 have d5:h.next≠h1.next:=fun e=>by have:=w1.lt o1;omega
 have dB:=QB (P:=Tryz.prog) (t:=49) (x:=.slice (some ⟨h.next,0,none⟩) n n) Ac Ji o2 (off:=0) Ma rfl rfl
 simp only[HO,Nat.reduceLT,↓reduceIte,Nat.reduceEqDiff,reduceCtorEq,sf0,Ip,BS,hs.l0,mk,Hj,e2,dB]
 have l3:Le h (h2.put h1.next (.cells (([rW]:List Value).set 0 (.slice (some ⟨h.next,0,none⟩) n n)))):=(l1.trans l2).put _ n5
 have w3:WF (h2.put h1.next (.cells (([rW]:List Value).set 0 (.slice (some ⟨h.next,0,none⟩) n n)))):=w2.put _ (w2.lt o2)
 have cC:(h2.put h1.next (.cells (([rW]:List Value).set 0 (.slice (some ⟨h.next,0,none⟩) n n)))).own h1.next=some (.cells [.slice (some ⟨h.next,0,none⟩) n n]):=AHeap.Y3 _ _ _
 have dE:(h2.put h1.next (.cells (([rW]:List Value).set 0 (.slice (some ⟨h.next,0,none⟩) n n)))).own h.next=some (.cells (Bp (hdL n 0))):=by rw[AHeap.By _ _ _ _ d5,agC,l2.own _ _ o1];simp[Bp]
 generalize h2.put h1.next (.cells (([rW]:List Value).set 0 (.slice (some ⟨h.next,0,none⟩) n n)))=h3 at*
 generalize h1.next=s at*
 generalize h.next=T at*
 clear dB o2 w2 l2 e2 o1 w1 l1 e1 mk;have br:∀g,g.own s=some (.cells [.slice (some ⟨T,0,none⟩) n n])->aload Tryz.prog g 49 ⟨s,0,none⟩=some (.slice (some ⟨T,0,none⟩) n n):=fun g o=>by rw[Fq Ac rfl o];rfl
 have ep:=fun g=>Jg (P:=Tryz.prog) (t:=49) (a:=some ⟨T,0,none⟩) (n:=n) (cap:=n) Ac g;refine Sk (XC (br h3 cC) ep) ?_;refine aab.intro (fun k fr hq=>∃i:Nat,k=n-i/\i<=n/\fr=mkF [(0,.pointer (some ⟨B,0,none⟩)),(1,ev),(5,.pointer (some ⟨s,0,none⟩)),(24,.int .i64 (n:Nat)),(25,.int .i64 (i:Nat))]/\hq.own s=some (.cells [.slice (some ⟨T,0,none⟩) n n])/\hq.own T=some (.cells (Bp (hdL n i)))/\Le h hq)
  n [(0,.pointer (some ⟨B,0,none⟩)),(1,ev),(5,.pointer (some ⟨s,0,none⟩)),(24,.int .i64 (n:Nat)),(25,.int .i64 (0:Nat))] fD ⟨0,rfl,aal _,rfl,cC,dE,l3⟩ ?_
 clear cC dE l3 w3;rintro k fr hq cE ⟨i,rfl,hi,rfl,o5,oT,lq⟩;refine Uy ?_;refine Kl.intro (fun ht=>?_) (fun hf=>?_)
 .have b9 : i < n := CC ht
  clear ht;have st:=stI oT (i:=i) (by grind [hdL_len]) (i:Int);rw[hdL_set b9]at st;simp only[HO,Nat.reduceLT,↓reduceIte,Nat.reduceEqDiff,reduceCtorEq,br hq o5,Kx T n .i64 i b9,st,Tw i NH];exact tn (n-(i+1)) [(0,.pointer (some ⟨B,0,none⟩)),(1,ev),(5,.pointer (some ⟨s,0,none⟩)),(24,.int .i64 (n:Nat)),(25,.int .i64 (i+1:Nat))] (JS b9) fD ⟨i+1,rfl,b9,rfl,by rw[AHeap.By _ _ _ _ (fj d5)];exact o5,AHeap.Y3 _ _ _,lq.put _ nT⟩
 have bN:n<=i:=vp hf;obtain rfl:i=n:=NH;rw[hdL_all]at oT;have dF:=fun g=>he.len g;have F0:=wi.zero i;refine Sk dF ?_;clear hf hi bN;generalize eA:Wg on=m at*;have I:∀g,Le h g->∀v,v<i->aload Tryz.prog g 4 (elemAddr ov v)=some (.bool (m v)):=fun g lg v hv=>by grind [RL.le,Nn.sJ,RL.W7]
 have H:∀v,v<i->aIndexAddr Tryz.prog 59 ov (.int .i64 (v:Int))=some (.pointer (some (elemAddr ov v))):=fun v hv=>ho.LB v NH;refine aab.intro (fun k fr hz=>∃(j:Nat) (L:RZ) (ρ d:Nat->Nat),k=es.length-j/\j<=es.length/\fr=mkF [(0,.pointer (some ⟨B,0,none⟩)),(1,ev),(5,.pointer (some ⟨s,0,none⟩)),(7,.func (.func 143) #[] #[.pointer (some ⟨s,0,none⟩)]),(34,ev),(35,.int .i64 (es.length:Nat)),(36,.int .i64 (j:Nat))]/\
   hz.own s=some (.cells [.slice (some ⟨T,0,none⟩) i i])/\hz.own T=some (.cells (Bp L))/\Le h hz/\wi i L ρ d/\Cls i m (es.take j) ρ)
  es.length [(0,.pointer (some ⟨B,0,none⟩)),(1,ev),(5,.pointer (some ⟨s,0,none⟩)),(7,.func (.func 143) #[] #[.pointer (some ⟨s,0,none⟩)]),(34,ev),(35,.int .i64 (es.length:Nat)),(36,.int .i64 (0:Nat))] fD
  ⟨0,_,_,_,rfl,aal _,rfl,o5,oT,lq,F0,cls_nil⟩ ?_
 clear F0 oT o5 lq cE;rintro k fr hz aJ ⟨j,L,ρ,d,rfl,hj,rfl,o5,oT,lz,F,C⟩;refine Uy ?_;refine Kl.intro (fun ht=>?_) (fun hf=>?_)
 .have K : j < es.length := CC ht
  clear ht;have cc:=CA K;have cM:es.take (j+1)=es.take j++[es[j]]:=EL K;have dH:aV i (es.take (j+1)):=fun p hp=>hR p (IK hp);obtain⟨a,b,cN,er,hb⟩:=jB hR (Og K);have ad:=he.addr (k:=.i64) j K;have ld:=(he.le lz).load cc;generalize es[j]=p at*;subst cN;rw[cM]at dH;obtain⟨h4,h5,e4,e5,l5,w5,oE⟩:=Ut aJ ((a:Int),(b:Int));have N:=lz.trans l5;have aj:=l5.own _ _ o5;have bk:=l5.own _ _ oT;have L0:=lK oE;have L1:=HY oE;simp only at L0 L1
  have nE:∀{x o},hz.own x=some o->x≠hz.next:=fun{x o} hx e=>by have:=aJ.lt hx;omega
  have av:=nE oT
  generalize hz.next=E at*
  have D:a<i:=NH;have s5:=hs.le N;have aw:=Tw j (Lb K (QJ dw));by_cases ca:m a=true
  .have C' : Cls i m (es.take (j + 1)) ρ := by rw [cM]; exact bD C pw (.inl (by simpa using ca))
   have lo:=I h5 N a D;rw[ca]at lo;simp only[HO,Nat.reduceLT,↓reduceIte,Nat.reduceEqDiff,reduceCtorEq,ad,ld,e4,e5];refine gh (tA [0,1,2,3,4,5,6,7,8,9,10,11,12,13,14,15,16,17,18,19] .done) ?_;simp only[HO,Nat.reduceLT,↓reduceIte,Nat.reduceEqDiff,reduceCtorEq,Nat.reduceBEq,Qg,sf2,Ip,BS,s5.l2,Dh,L0,H a D,lo,aw];exact tn (es.length-(j+1)) [(0,.pointer (some ⟨B,0,none⟩)),(1,ev),(5,.pointer (some ⟨s,0,none⟩)),(7,.func (.func 143) #[] #[.pointer (some ⟨s,0,none⟩)]),(34,ev),(35,.int .i64 (es.length:Nat)),(36,.int .i64 (j+1:Nat))] (JS K) fD
    ⟨j+1,L,ρ,d,rfl,K,rfl,aj,bk,N,F,C'⟩
  rw[af3]at ca;have lo:=I h5 N a D;rw[ca]at lo;by_cases cb:m b=true
  .have C' : Cls i m (es.take (j + 1)) ρ := by grind [bD]
   have bQ:=I h5 N b hb;rw[cb]at bQ;simp only[HO,Nat.reduceLT,↓reduceIte,Nat.reduceEqDiff,reduceCtorEq,ad,ld,e4,e5];refine gh (tA [0,1,2,3,4,5,6,7,8,9,10,11,12,13,14,15,16,17,18,19] .done) ?_;simp only[HO,Nat.reduceLT,↓reduceIte,Nat.reduceEqDiff,reduceCtorEq,Nat.reduceBEq,Qg,sf2,Ip,BS,s5.l2,Dh,Z0,L0,L1,H a D,H b hb,lo,bQ,aw];exact tn (es.length-(j+1)) [(0,.pointer (some ⟨B,0,none⟩)),(1,ev),(5,.pointer (some ⟨s,0,none⟩)),(7,.func (.func 143) #[] #[.pointer (some ⟨s,0,none⟩)]),(34,ev),(35,.int .i64 (es.length:Nat)),(36,.int .i64 (j+1:Nat))] (JS K) fD
    ⟨j+1,L,ρ,d,rfl,K,rfl,aj,bk,N,F,C'⟩
  rw[af3]at cb;have bQ:=I h5 N b hb;rw[cb]at bQ;have C':=agA C dH ca cb;rw[<-cM]at C';simp only[HO,Nat.reduceLT,↓reduceIte,Nat.reduceEqDiff,reduceCtorEq,ad,ld,e4,e5];refine gh (tA [0,1,2,3,4,5,6,7,8,9,10,11,12,13,14,15,16,17,18,19] .done) ?_;simp only[HO,Nat.reduceLT,↓reduceIte,Nat.reduceEqDiff,reduceCtorEq,Nat.reduceBEq,Qg,sf2,Ip,BS,s5.l2,Dh,Z0,L0,L1,H a D,H b hb,lo,bQ];refine gh (tA [0,1,2,3,5,6,7] (JQ 4 [1,3] (JQ 8 [4,5,7] (tA [9] (JQ 10 [0,1,2,3,4,5,6,7,8,9] .done))))) ?_;refine CO (rE (br h5 aj) @Ip.eq_1 @BS @Dh @Z0 L0 L1) ?_;refine VA.intro PJ ⟨adW,rfl,WY⟩ (Y9 W0 s T i L ρ d a h5 aj bk d5 F D) ?_;rintro x h6 w6 ⟨rfl,L',F6,bm,bW,Z⟩;have ae:=Z s _ (fj d5) aj;have ay:=Z E _ (fj av) oE;have dI:=lK ay;have dK:=HY ay;simp only at dI dK;have ra:=F.rt a D;have rb:=F.rt b hb;refine CO (rE (br h6 ae) @Ip.eq_1 @BS @Dh @Z0 dI dK) ?_;refine VA.intro PJ ⟨adW,rfl,WY⟩ (Y9 W0 s T i L' ρ d b h6 ae bm d5 F6 hb) ?_;rintro x h7 w7 ⟨rfl,eB,F7,O,bZ,ag⟩;have M:=ag s _ (fj d5) ae;have R:=ag E _ (fj av) ay;have dL:=lK R;have dM:=HY R;simp only at dL dM;have st:=stI O (i:=ρ a) (by grind [wi.len]) (ρ b:Int);simp only[HO,Nat.reduceLT,↓reduceIte,Nat.reduceEqDiff,reduceCtorEq,Nat.reduceBEq,Qg,br h6 ae,br h7 M,Ip,BS,Dh,Z0,dL,dM,Kx T i .i64 (ρ a) ra.1,st,aw];exact tn (es.length-(j+1)) [(0,.pointer (some ⟨B,0,none⟩)),(1,ev),(5,.pointer (some ⟨s,0,none⟩)),(7,.func (.func 143) #[] #[.pointer (some ⟨s,0,none⟩)]),(34,ev),(35,.int .i64 (es.length:Nat)),(36,.int .i64 (j+1:Nat))] (JS K) fD
   ⟨j+1,_,_,_,rfl,K,rfl,by grind [AHeap.By],AHeap.Y3 _ _ _,(bZ h (bW h N nT) nT).put _ nT,F7.join ra.1 rb.1 ra.2 rb.2,C'⟩
 have bN:es.length<=j:=vp hf;rw[IE bN]at C;have Y:=fun v hv=>(F.rt v hv).1;clear bN hf hj;obtain⟨h4,e4,l4,w4,o4⟩:=Tt aJ [.int .i64 (-1)];have s4:=hs.le (lz.trans l4);refine Sk (bG @DQ e4 @sf0 @Ip.eq_1 @BS s4.l0) ?_;refine TC.intro PJ ⟨Xv,rfl,WY⟩ (rN W0 _ i NH h4 (RL.Wh (RS.whole o4 rfl))) ?_;rintro x h8 w8 ⟨A,rfl,hA,o8,l8⟩;have cd:=l4.trans l8;have aK:=lz.trans cd;have aP:h8.own A=some (.cells (Bp (List.replicate i (-1)))):=by rw[o8];simp[Bp]
 have bx:=cd.own _ _ o5;have bB:=cd.own _ _ oT
 have nA:h.own A=none:=(lz.trans l4).next w4 hA
 have dA:∀{b o},hz.own b=some o->A≠b:=fun{b o} ob e=>by have:=w4.lt (l4.own _ _ ob);omega
 have aT:=dA oT;have dO:=dA o5;have A0:fu i m es ρ (grpsM (frL i m es) es [] 0) (List.replicate i (-1)):=fu.zero Y;have P0:Wq h h8 rW [] (qT m (grpsM (frL i m es) es [] 0)):=(Wq.nil h).up aK;refine Sk dF ?_;refine aab.intro (fun k fr hz=>∃(j:Nat) (L at_:RZ) (J:Value) (vs:List Value),k=es.length-j/\j<=es.length/\fr=mkF [(0,.pointer (some ⟨B,0,none⟩)),(7,.func (.func 143) #[] #[.pointer (some ⟨s,0,none⟩)]),(10,J),(11,.slice (some ⟨A,0,none⟩) i i),(77,ev),(78,.int .i64 (es.length:Nat)),(79,.int .i64 (j:Nat))]/\
   hz.own s=some (.cells [.slice (some ⟨T,0,none⟩) i i])/\hz.own T=some (.cells (Bp L))/\hz.own A=some (.cells (Bp at_))/\wi i L ρ d/\fu i m es ρ (grpsM (frL i m es) es [] j) at_/\Wq h hz J vs (qT m (grpsM (frL i m es) es [] j))/\NB [T,s,A] (J::vs))
  es.length [(0,.pointer (some ⟨B,0,none⟩)),(7,.func (.func 143) #[] #[.pointer (some ⟨s,0,none⟩)]),(10,rW),(11,.slice (some ⟨A,0,none⟩) i i),(77,ev),(78,.int .i64 (es.length:Nat)),(79,.int .i64 (0:Nat))] fD
  ⟨0,L,_,rW,[],rfl,aal _,rfl,bx,bB,aP,F,A0,P0,fun u w b _ q=>by rw[jf.1 w]at q;cases q⟩ ?_
 clear A0 P0 bB bx aP o8 l8 w8 o4 e4 F oT o5 aJ s4 lz aK cd l4 w4 hA dA;clear h8 h4 hz L j;rintro k fr hz aJ ⟨j,L,at_,J,vs,rfl,hj,rfl,o5,oT,oA,F,AT,P,nb⟩;have lz:=P.sep.le;refine Uy ?_;refine Kl.intro (fun ht=>?_) (fun hf=>?_)
 rotate_left
 .have bN : es.length <= j := vp hf
  obtain rfl:j=es.length:=NH;refine Uy ?_
  grind
 have K:j<es.length:=CC ht;clear ht;have cc:=CA K;obtain⟨a,b,cN,er,hb⟩:=jB hR (Og K);have ad:=he.addr (k:=.i64) j K;have ld:=(he.le lz).load cc;generalize es[j]=p at*;subst cN;have eG:=dh (fr:=frL i m es) cc (show(((a:Int),(b:Int)):Pr)∉([]:List Pr) by simp);obtain⟨nk,-,dQ,eC,et⟩:=Pt (frL i m es) es [] j;obtain⟨h4,h5,e4,e5,l5,w5,oE⟩:=Ut aJ ((a:Int),(b:Int));have N:=lz.trans l5;have aj:=l5.own _ _ o5;have bk:=l5.own _ _ oT;have cP:=l5.own _ _ oA;have P5:=P.up l5
 have nE:∀{x o},hz.own x=some o->x≠hz.next:=fun{x o} hx e=>by have:=aJ.lt hx;omega
 have av:=nE oT;have dS:=nE oA
 have eE:h.own hz.next=none:=by grind [Le.next]
 have aW:∀u∈J::vs,blk u≠some hz.next:=fun u w q=>by
  obtain⟨t,ht⟩:=yM.1 w;have:=P.sep.own t u _ ht q
  exact this ((Le.refl hz).next aJ (qL0 _))
 generalize hz.next=E at*
 have D:a<i:=NH;have aw:=Tw j (Lb K (QJ dw));have cR:∀g,g.own E=some (.cells (xM ((a:Int),(b:Int))))->aload Tryz.prog g 3 ⟨E,0,none⟩=some (.int .i64 (a:Int)):=fun g o=>lK o;have dT:∀g,g.own E=some (.cells (xM ((a:Int),(b:Int))))->aload Tryz.prog g 3 ⟨E,1,none⟩=some (.int .i64 (b:Int)):=fun g o=>HY o;have aX:=fun v hv=>Kx A i .i64 v hv;have S:(qT m (grpsM (frL i m es) es [] j)).length=(grpsM (frL i m es) es [] j).length:=by simp[qT]
 apply Ya (F:=fun(fr:lC) (h6:AHeap)=>∃(k:Nat) (L at_:RZ) (J:Value) (vs:List Value) (ps:List (List Pr×RZ)) (l:List Pr) (ft:RZ),Fj fr [(0,.pointer (some ⟨B,0,none⟩)),(7,.func (.func 143) #[] #[.pointer (some ⟨s,0,none⟩)]),(10,J),(11,.slice (some ⟨A,0,none⟩) i i),(13,.pointer (some ⟨E,0,none⟩)),(15,.int .i64 (k:Int)),(77,ev),(78,.int .i64 (es.length:Nat)),(79,.int .i64 (j:Nat))]/\
   WF h6/\h6.own s=some (.cells [.slice (some ⟨T,0,none⟩) i i])/\h6.own T=some (.cells (Bp L))/\h6.own A=some (.cells (Bp at_))/\h6.own E=some (.cells (xM ((a:Int),(b:Int))))/\wi i L ρ d/\fu i m es ρ (grpsM (frL i m es) es [] (j+1)) at_/\Wq h h6 J vs ps/\NB [T,s,A] (J::vs)/\(∀u∈J::vs,blk u≠some E)/\
   ps[k]?=some (l,ft)/\l.length<=j/\ft.length<=i/\qT m (grpsM (frL i m es) es [] (j+1))=ps.set k (l++[((a:Int),(b:Int))],(ftP m ((a:Int),(b:Int))).foldl Uo ft))
 .intro cont
  have s5:=hs.le N;have a6:∀{k:Nat} {f:Int} {l:List Pr},(grpsM (frL i m es) es [] j)[k]?=some (f,l)->∀e∈l,e∈es:=fun{k f l} hk e eu=>et _ (Gc hk) e eu;cases ca:m a with
  |false=>
   have hf:frL i m es ((a:Int),(b:Int)) j=Gu i m es a:=by unfold frL Zo;simp only[Z6];grind
   have b0:=I h5 N a D;rw[ca]at b0;rw[hf]at eG;simp only[HO,Nat.reduceLT,↓reduceIte,Nat.reduceEqDiff,reduceCtorEq,ad,ld,e4,e5,Dh,sf2,Ip,BS,s5.l2,cR h5 oE,H a D,b0,P5.len_,H a D];refine TC.intro PJ ⟨adW,rfl,WY⟩ (Y9 W0 s T i L ρ d a h5 aj bk d5 F D) ?_;rintro y h6 w6 ⟨rfl,L6,F6,bm,bW,Z⟩;have az:=bW h N nT;have s6:=hs.le az;have cU:=I h6 az a D;rw[ca]at cU;have ae:=Z s _ (fj d5) aj;have aC:=Z A _ aT cP;have ay:=Z E _ (fj av) oE;have P6:=P5.kept az fun c o G ho=>Z c o (fun e=>by obtain⟨u,w,hb⟩:=G;exact nb u w T Ma (by rw[<-e];exact hb)) ho;rcases AT.val a D ca with⟨k,l,aD,U⟩|⟨aD,U⟩
   .have bo := XP aC aD
    have kp:decide ((k:Int)>=0)=true:=decide_eq_true NH;obtain⟨q1,q2⟩:=AT.qi nk U ((a:Int),(b:Int));refine Sk (Yb (aX (ρ a) (Y a D)) bo kp) ?_;refine TC.intro PJ ⟨adW,rfl,WY⟩ (Y9 W0 s T i L6 ρ d a h6 ae bm d5 F6 D) ?_;rintro y h7 w7 ⟨rfl,L7,F7,O,bZ,ag⟩;have M:=ag s _ (fj d5) ae;have Q:=ag A _ aT aC;have R:=ag E _ (fj av) ay;have V:=bZ h az nT;have P7:=P6.kept V fun c o G ho=>ag c o (fun e=>by obtain⟨u,w,hb⟩:=G;exact nb u w T Ma (by rw[<-e];exact hb)) ho;have b1:=XP Q aD;refine Sk (XC (aX (ρ a) (Y a D)) b1) ?_;refine ZJ.UJ fun fr' h' x y=>cont fr' h' ?_;subst x y;have cZ:=dQ _ (Gc U);refine⟨k,L7,at_,J,vs,_,l,kZ (BY m l),fD,w7,M,O,Q,R,F7,by rw[eG,q1];exact q2,P7,nb,aW,?_,cZ,Qr hR (a6 U),?_⟩
    .unfold qT;rw[PN,U];rfl
    .rw[eG,q1,agE,KS]
   .have bo := XP aC aD
    have kp:decide ((-1:Int)>=0)=false:=by decide
    have q1:=V4 U ((a:Int),(b:Int));have q2:=AT.new C Y D ca U ((a:Int),(b:Int));obtain⟨al,g4,g5,q4,q5,P7,w7,dV,dZ,W⟩:=P6.push w6 (by rw[S];omega);have aq:∀c,c∈[T,s,A]->blk J≠some c:=fun c G=>nb J Ma c G;obtain⟨M,b2⟩:=W s _ ae (aq s Ma);obtain⟨O,b3⟩:=W T _ bm (aq T Ma);obtain⟨Q,b4⟩:=W A _ aC (aq A Ma);obtain⟨R,a7⟩:=W E _ ay (aW J Ma);have V:=P7.sep.le;have s7:=hs.le V;have a8:=I g5 V a D;rw[ca]at a8;have X:NB [T,s,A] (al::(vs++[rW,rW])):=fun u w c G=>by
     simp only[WA,Sb,vY,or_false]at w;rcases w with rfl|w|rfl|rfl
     .simp only [WA, vY, or_false] at G
      rcases G with rfl|rfl|rfl
      .exact b3
      .exact b2
      .exact b4
     .exact nb u (by simp[w]) c G
     .simp[blk]
     .simp[blk]
    have bb:∀u∈al::(vs++[rW,rW]),blk u≠some E:=fun u w=>by
     simp only[WA,Sb,vY,or_false]at w;rcases w with rfl|w|rfl|rfl
     .exact a7
     .exact aW u (by simp[w])
     .simp[blk]
     .simp[blk]
    refine Sk (aga (aX (ρ a) (Y a D)) bo kp @bld0 q4 q5 @sf2 @Ip.eq_1 @BS s7.l2 (H a D) a8) ?_;refine TC.intro PJ ⟨adW,rfl,WY⟩ (Y9 W0 s T i L6 ρ d a g5 M O d5 F6 D) ?_;rintro y h8 w8 ⟨rfl,L8,F8,bB,c0,aH⟩;have bx:=aH s _ (fj d5) M;have aP:=aH A _ aT Q;have c3:=aH E _ (fj av) R;have aK:=c0 h V nT;have P8:=P7.kept aK fun c o G ho=>aH c o (fun e=>by obtain⟨u,w,hb⟩:=G;exact X u w T Ma (by rw[<-e];exact hb)) ho;have c4:=stI aP (i:=ρ a) (by rw[AT.len];exact Y a D) ((grpsM (frL i m es) es [] j).length:Int);have c5:=aK.put (.cells (Bp (at_.set (ρ a) ((grpsM (frL i m es) es [] j).length:Int)))) nA;have P9:=P8.kept c5 fun c o G ho=>by
     obtain⟨u,w,hb⟩:=G;rw[AHeap.By _ _ _ _ (fun e=>X u w A Ma (by rw[<-e];exact hb))];exact ho
    have bg:((qT m (grpsM (frL i m es) es [] j)).length:Int)=((grpsM (frL i m es) es [] j).length:Int):=by rw[S]
    refine Sk (Yb (aX (ρ a) (Y a D)) bg c4) ?_;refine ZJ.UJ fun fr' h' x y=>cont fr' h' ?_;subst x y;refine⟨(grpsM (frL i m es) es [] j).length,L8,_,al,_,_,[],[],fD,w8.put _ (w8.lt aP),by rw[AHeap.By _ _ _ _ (fj dO)];exact bx,by rw[AHeap.By _ _ _ _ (fj aT)];exact bB,AHeap.Y3 _ _ _,by rw[AHeap.By _ _ _ _ (fj dS)];exact c3,F8,by rw[eG,q1];exact q2,P9,X,bb,?_,aal _,aal _,?_⟩
    .rw[AE (by rw[S];exact qL0 _),S,ab5];rfl
    .rw[eG,q1,Xe,<-S,MA _ _ (qL0 _),ab5];rfl
  |true=>
   have c6:=I h5 N a D;rw[ca]at c6;cases cb:m b with
   |false=>
    have hf:frL i m es ((a:Int),(b:Int)) j=Gu i m es b:=by unfold frL Zo;simp only[Z6];rw[if_neg (by rw[ca];simp),if_pos cb]
    have b0:=I h5 N b hb;rw[cb]at b0;rw[hf]at eG;simp only[HO,Nat.reduceLT,↓reduceIte,Nat.reduceEqDiff,reduceCtorEq,ad,ld,e4,e5,Dh,Z0,sf2,Ip,BS,s5.l2,cR h5 oE,dT h5 oE,H a D,c6,b0,P5.len_,H b hb];refine TC.intro PJ ⟨adW,rfl,WY⟩ (Y9 W0 s T i L ρ d b h5 aj bk d5 F hb) ?_;rintro y h6 w6 ⟨rfl,L6,F6,bm,bW,Z⟩;have az:=bW h N nT;have s6:=hs.le az;have cU:=I h6 az b hb;rw[cb]at cU;have ae:=Z s _ (fj d5) aj;have aC:=Z A _ aT cP;have ay:=Z E _ (fj av) oE;have P6:=P5.kept az fun c o G ho=>Z c o (fun e=>by obtain⟨u,w,hb⟩:=G;exact nb u w T Ma (by rw[<-e];exact hb)) ho;rcases AT.val b hb cb with⟨k,l,aD,U⟩|⟨aD,U⟩
    .have bo := XP aC aD
     have kp:decide ((k:Int)>=0)=true:=decide_eq_true NH;obtain⟨q1,q2⟩:=AT.qi nk U ((a:Int),(b:Int));refine Sk (Yb (aX (ρ b) (Y b hb)) bo kp) ?_;refine TC.intro PJ ⟨adW,rfl,WY⟩ (Y9 W0 s T i L6 ρ d b h6 ae bm d5 F6 hb) ?_;rintro y h7 w7 ⟨rfl,L7,F7,O,bZ,ag⟩;have M:=ag s _ (fj d5) ae;have Q:=ag A _ aT aC;have R:=ag E _ (fj av) ay;have V:=bZ h az nT;have P7:=P6.kept V fun c o G ho=>ag c o (fun e=>by obtain⟨u,w,hb⟩:=G;exact nb u w T Ma (by rw[<-e];exact hb)) ho;have b1:=XP Q aD;refine Sk (XC (aX (ρ b) (Y b hb)) b1) ?_;refine ZJ.UJ fun fr' h' x y=>cont fr' h' ?_;subst x y;have cZ:=dQ _ (Gc U);refine⟨k,L7,at_,J,vs,_,l,kZ (BY m l),fD,w7,M,O,Q,R,F7,by rw[eG,q1];exact q2,P7,nb,aW,?_,cZ,Qr hR (a6 U),?_⟩
     .unfold qT;rw[PN,U];rfl
     .rw[eG,q1,agE,KS]
    .have bo := XP aC aD
     have kp:decide ((-1:Int)>=0)=false:=by decide
     have q1:=V4 U ((a:Int),(b:Int));have q2:=AT.new C Y hb cb U ((a:Int),(b:Int));obtain⟨al,g4,g5,q4,q5,P7,w7,dV,dZ,W⟩:=P6.push w6 (by rw[S];omega);have aq:∀c,c∈[T,s,A]->blk J≠some c:=fun c G=>nb J Ma c G;obtain⟨M,b2⟩:=W s _ ae (aq s Ma);obtain⟨O,b3⟩:=W T _ bm (aq T Ma);obtain⟨Q,b4⟩:=W A _ aC (aq A Ma);obtain⟨R,a7⟩:=W E _ ay (aW J Ma);have V:=P7.sep.le;have s7:=hs.le V;have a8:=I g5 V b hb;rw[cb]at a8;have X:NB [T,s,A] (al::(vs++[rW,rW])):=fun u w c G=>by
      simp only[WA,Sb,vY,or_false]at w;rcases w with rfl|w|rfl|rfl
      .simp only [WA, vY, or_false] at G
       rcases G with rfl|rfl|rfl
       .exact b3
       .exact b2
       .exact b4
      .exact nb u (by simp[w]) c G
      .simp[blk]
      .simp[blk]
     have bb:∀u∈al::(vs++[rW,rW]),blk u≠some E:=fun u w=>by
      simp only[WA,Sb,vY,or_false]at w;rcases w with rfl|w|rfl|rfl
      .exact a7
      .exact aW u (by simp[w])
      .simp[blk]
      .simp[blk]
     refine Sk (aga (aX (ρ b) (Y b hb)) bo kp @bld0 q4 q5 @sf2 @Ip.eq_1 @BS s7.l2 (H b hb) a8) ?_;refine TC.intro PJ ⟨adW,rfl,WY⟩ (Y9 W0 s T i L6 ρ d b g5 M O d5 F6 hb) ?_;rintro y h8 w8 ⟨rfl,L8,F8,bB,c0,aH⟩;have bx:=aH s _ (fj d5) M;have aP:=aH A _ aT Q;have c3:=aH E _ (fj av) R;have aK:=c0 h V nT;have P8:=P7.kept aK fun c o G ho=>aH c o (fun e=>by obtain⟨u,w,hb⟩:=G;exact X u w T Ma (by rw[<-e];exact hb)) ho;have c4:=stI aP (i:=ρ b) (by rw[AT.len];exact Y b hb) ((grpsM (frL i m es) es [] j).length:Int);have c5:=aK.put (.cells (Bp (at_.set (ρ b) ((grpsM (frL i m es) es [] j).length:Int)))) nA;have P9:=P8.kept c5 fun c o G ho=>by
      obtain⟨u,w,hb⟩:=G;rw[AHeap.By _ _ _ _ (fun e=>X u w A Ma (by rw[<-e];exact hb))];exact ho
     have bg:((qT m (grpsM (frL i m es) es [] j)).length:Int)=((grpsM (frL i m es) es [] j).length:Int):=by rw[S]
     refine Sk (Yb (aX (ρ b) (Y b hb)) bg c4) ?_;refine ZJ.UJ fun fr' h' x y=>cont fr' h' ?_;subst x y;refine⟨(grpsM (frL i m es) es [] j).length,L8,_,al,_,_,[],[],fD,w8.put _ (w8.lt aP),by rw[AHeap.By _ _ _ _ (fj dO)];exact bx,by rw[AHeap.By _ _ _ _ (fj aT)];exact bB,AHeap.Y3 _ _ _,by rw[AHeap.By _ _ _ _ (fj dS)];exact c3,F8,by rw[eG,q1];exact q2,P9,X,bb,?_,aal _,aal _,?_⟩
     .rw[AE (by rw[S];exact qL0 _),S,ab5];rfl
     .rw[eG,q1,Xe,<-S,MA _ _ (qL0 _),ab5];rfl
   |true=>
    have hf:frL i m es ((a:Int),(b:Int)) j=(i:Int)+j:=by unfold frL Zo;simp only[Z6];rw[if_neg (by rw[ca];simp),if_neg (by rw[cb];simp)]
    have ec:=I h5 N b hb;rw[cb]at ec;rw[hf]at eG;have q1:=V4 (agD (on:=m) hR (i:=j)) ((a:Int),(b:Int));have q2:=AT.lone (f:=(i:Int)+j) NH ((a:Int),(b:Int));obtain⟨al,g4,g5,q4,q5,P7,w7,dV,dZ,W⟩:=P5.push w5 (by rw[S];omega);have aq:∀c,c∈[T,s,A]->blk J≠some c:=fun c G=>nb J Ma c G;obtain⟨M,b2⟩:=W s _ aj (aq s Ma);obtain⟨O,b3⟩:=W T _ bk (aq T Ma);obtain⟨Q,b4⟩:=W A _ cP (aq A Ma);obtain⟨R,a7⟩:=W E _ oE (aW J Ma);have V:=P7.sep.le;have s7:=hs.le V;have a8:=I g5 V b hb;rw[cb]at a8;have X:NB [T,s,A] (al::(vs++[rW,rW])):=fun u w c G=>by
     simp only[WA,Sb,vY,or_false]at w;rcases w with rfl|w|rfl|rfl
     .simp only [WA, vY, or_false] at G
      rcases G with rfl|rfl|rfl
      .exact b3
      .exact b2
      .exact b4
     .exact nb u (by simp[w]) c G
     .simp[blk]
     .simp[blk]
    have bb:∀u∈al::(vs++[rW,rW]),blk u≠some E:=fun u w=>by
     simp only[WA,Sb,vY,or_false]at w;rcases w with rfl|w|rfl|rfl
     .exact a7
     .exact aW u (by simp[w])
     .simp[blk]
     .simp[blk]
    have bg:((qT m (grpsM (frL i m es) es [] j)).length:Int)=((grpsM (frL i m es) es [] j).length:Int):=by rw[S]
    simp only[HO,Nat.reduceLT,↓reduceIte,Nat.reduceEqDiff,reduceCtorEq,ad,ld,e4,e5,Dh,Z0,sf2,Ip,BS,s5.l2,cR h5 oE,dT h5 oE,H a D,c6,ec,P5.len_,H b hb,bld0,q4,q5,s7.l2,a8,bg];refine ZJ.UJ fun fr' h' x y=>cont fr' h' ?_;subst x y;refine⟨(grpsM (frL i m es) es [] j).length,L,at_,al,_,_,[],[],fD,w7,M,O,Q,R,F,by rw[eG,q1];exact q2,P7,X,bb,?_,aal _,aal _,?_⟩
    .rw[AE (by rw[S];exact qL0 _),S,ab5];rfl
    .rw[eG,q1,Xe,<-S,MA _ _ (qL0 _),ab5];rfl
 rintro fr h6 ⟨k,L,at_,J,vs,ps,l,ft,ed,w6,o5,oT,oA,oE,F,AT,P,nb,a7,c9,eH,eI,ee⟩;simp only[Fj]at ed;obtain⟨f0,f7,da,db,dc,dd,de,dj,dk,-⟩:=ed;have bF:=(Ny.1 c9).1;have vl:=P.len;have dm:2*k<vs.length:=NH;obtain⟨gE,gF⟩:=P.ge k _ c9;simp only at gE gF;have a3:=P.sl.ad3 bF;have r0:=eA3 P.sl bF (r:=0);rw[bC]at r0;have ldE:=P.ldE bF;obtain⟨u',g4,g5,q4,q5,ef,cf,m4,cg,bH⟩:=gE.push w6 ((a:Int),(b:Int)) NH;have Lp:=uM oE;obtain⟨h7,b5,P7,w7,eg,bI⟩:=P.setR (t:=22) (r:=0) (u':=u') (pk:=(l++[((a:Int),(b:Int))],ft)) eY Ji bF NH cf cg bH (.inl ⟨rfl,ef,l,c9⟩);rw[bC]at b5;have b6:∀c,(∀u∈J::vs,blk u≠some c)->∀o,h6.own c=some o->h7.own c=some o:=fun c G o ho=>bI c o ho G;have ar:∀c∈[T,s,A],∀u∈J::vs,blk u≠some c:=fun c G u w=>nb u w c G;have M:=b6 s (ar s Ma) _ o5;have O:=b6 T (ar T Ma) _ oT;have Q:=b6 A (ar A Ma) _ oA;have R:=b6 E a7 _ oE;have u0:vs.getD (2*k) rW∈J::vs:=by rw[D4 dm];exact j9 _ (Og dm)
 have bh:∀c∈[T,s,A],∀o,h6.own c=some o->blk u'≠some c:=fun c G o ho=>(bH c o ho (ar c G _ u0)).2;have X:NB [T,s,A] (J::vs.set (2*k) u'):=fun u w c G=>by
  rcases WA.1 w with rfl|w
  .exact nb u Ma c G
  .rcases xP w with w | rfl
   .exact nb u (by simp[w]) c G
   .simp only [WA, vY, or_false] at G
    rcases G with rfl|rfl|rfl
    .exact bh _ Ma _ oT
    .exact bh _ Ma _ o5
    .exact bh _ Ma _ oA
 rw[bC]at P7;have eh:=uM R;have dp:Le h6 g4:=m4;have ei:=uM (dp.own _ _ oE);have cq:aload Tryz.prog g4 22 (elemAddr J (k*3))=some (vs.getD (2*k) rW):=(P.up dp).ldE bF;refine gh (tA [0,1,2,3,4,5,6,7] (JQ 8 [7] (JQ 9 [6,8] (tA [10,11] (JQ 12 [0,1,2,3,4,5,6,7,8,9,11] .done))))) ?_;simp only[HO,Nat.reduceLT,↓reduceIte,Nat.reduceEqDiff,reduceCtorEq,Nat.reduceBEq,Qg,f0,f7,da,db,dc,dd,de,dj,dk,a3,pf0,r0,ldE,cq,Lp,ei,q4,q5,b5,eh];have ej:Wq h h7 J (vs.set (2*k) u') (ps.set k (l++[((a:Int),(b:Int))],(YB m ((a:Int),(b:Int)) 0).foldl Uo ft)):=by
  have:YB m ((a:Int),(b:Int)) 0=[]:=by simp[YB]
  rw[this];exact P7
 refine aab.intro (fun kk fr hq=>∃(q:Nat) (vs:List Value),kk=2-q/\q<=2/\fr=mkF [(0,.pointer (some ⟨B,0,none⟩)),(7,.func (.func 143) #[] #[.pointer (some ⟨s,0,none⟩)]),(10,J),(11,.slice (some ⟨A,0,none⟩) i i),(15,.int .i64 (k:Int)),(77,ev),(78,.int .i64 (es.length:Nat)),(79,.int .i64 (j:Nat)),(149,UI ((a:Int),(b:Int))),(150,.int .i64 (q:Nat))]/\
   hq.own s=some (.cells [.slice (some ⟨T,0,none⟩) i i])/\hq.own T=some (.cells (Bp L))/\hq.own A=some (.cells (Bp at_))/\Wq h hq J vs (ps.set k (l++[((a:Int),(b:Int))],(YB m ((a:Int),(b:Int)) q).foldl Uo ft))/\NB [T,s,A] (J::vs))
  2 [(0,.pointer (some ⟨B,0,none⟩)),(7,.func (.func 143) #[] #[.pointer (some ⟨s,0,none⟩)]),(10,J),(11,.slice (some ⟨A,0,none⟩) i i),(15,.int .i64 (k:Int)),(77,ev),(78,.int .i64 (es.length:Nat)),(79,.int .i64 (j:Nat)),(149,UI ((a:Int),(b:Int))),(150,.int .i64 (0:Nat))] (by simp only[Fj,HO,Nat.reduceLT,↓reduceIte,Nat.reduceEqDiff,reduceCtorEq,f0,f7,da,db,dc,dd,de,dj,dk];simp)
  ⟨0,_,rfl,aal _,rfl,M,O,Q,ej,X⟩ ?_
 clear ej cq ei dp eh X bh u0 R Q O M ar b6 P7 b5 bI eg w7 Lp bH cg m4 cf ef q5 q4 ldE r0 a3 gE gF vl dm a7 nb P oE oA oT o5 w6 f0 f7 da db dc dd de dj dk;rintro kk fr hq cE ⟨q,vs,rfl,eL,rfl,o5,oT,oA,P,nb⟩;have lq:=P.sep.le;by_cases c:q<2
 rotate_left
 .have z : ((q : Int) < 2) = False := pw
  obtain rfl:q=2:=NH;have e2:YB m ((a:Int),(b:Int)) 2=ftP m ((a:Int),(b:Int)):=by simp[YB,ftP]
  rw[e2,<-ee]at P;simp only[HO,Nat.reduceLT,↓reduceIte,Nat.reduceEqDiff,reduceCtorEq,z,aw];exact tn (es.length-(j+1)) [(0,.pointer (some ⟨B,0,none⟩)),(7,.func (.func 143) #[] #[.pointer (some ⟨s,0,none⟩)]),(10,J),(11,.slice (some ⟨A,0,none⟩) i i),(77,ev),(78,.int .i64 (es.length:Nat)),(79,.int .i64 (j+1:Nat))] (JS K) fD ⟨j+1,L,at_,J,vs,rfl,K,rfl,o5,oT,oA,F,AT,P,nb⟩
 have z:((q:Int)<2)=True:=eq_true NH;have ix:=ix42 ((a:Int),(b:Int)) q c;have b8:=BM m ((a:Int),(b:Int)) q c;have ek:∃v:Nat,zR ((a:Int),(b:Int)) q=(v:Int)/\v<i:=by
  unfold zR;split
  all_goals grind
 obtain⟨v,hv,dq⟩:=ek;rw[hv]at ix b8;rw[Z6]at b8;have sq:=hs.le lq;have ck:=I hq lq v dq;have en:aField Tryz.prog 77 (.pointer (some ⟨B,0,none⟩)) 2=some (.pointer (some ⟨B,2,none⟩)):=rfl;have dv:=Tw q NH;have cp:k<(ps.set k (l++[((a:Int),(b:Int))],(YB m ((a:Int),(b:Int)) q).foldl Uo ft)).length:=pw;have cx:(ps.set k (l++[((a:Int),(b:Int))],(YB m ((a:Int),(b:Int)) q).foldl Uo ft))[k]?=some (l++[((a:Int),(b:Int))],(YB m ((a:Int),(b:Int)) q).foldl Uo ft):=by rw[K4,if_pos rfl,if_pos bF]
 cases co:m v with
 |false=>
  rw[co]at ck b8;have e2:YB m ((a:Int),(b:Int)) q=YB m ((a:Int),(b:Int)) (q+1):=pw;rw[e2]at P;refine Sk (rE z ix en sq.l2 (H v dq) ck dv) ?_;exact tn (2-(q+1)) [(0,.pointer (some ⟨B,0,none⟩)),(7,.func (.func 143) #[] #[.pointer (some ⟨s,0,none⟩)]),(10,J),(11,.slice (some ⟨A,0,none⟩) i i),(15,.int .i64 (k:Int)),(77,ev),(78,.int .i64 (es.length:Nat)),(79,.int .i64 (j:Nat)),(149,UI ((a:Int),(b:Int))),(150,.int .i64 (q+1:Nat))] (JS c) fD ⟨q+1,vs,rfl,c,rfl,o5,oT,oA,P,nb⟩
 |true=>
  rw[co,if_pos rfl]at b8;rw[co]at ck;have eF:(YB m ((a:Int),(b:Int)) (q+1)).foldl Uo ft=Uo ((YB m ((a:Int),(b:Int)) q).foldl Uo ft) (v:Int):=by rw[b8,aeG];rfl
  have cz:((YB m ((a:Int),(b:Int)) q).foldl Uo ft).length<=100000:=by
   have h1:∀(xs acc:RZ),(xs.foldl Uo acc).length<=acc.length+xs.length:=fun xs=>by
    induction xs with
    |nil=>grind
    |cons x xs ih=>
     intro acc;have:=ih (Uo acc x);have h2:(Uo acc x).length<=acc.length+1:=by unfold Uo;split<;>simp
     rw[V9,vg];omega
   have h2:(YB m ((a:Int),(b:Int)) q).length<=2:=jz (zx _ _) (by rw[Cg];exact Nat.min_le_right _ _);have:=h1 (YB m ((a:Int),(b:Int)) q) ft;omega
  generalize (YB m ((a:Int),(b:Int)) q).foldl Uo ft=fq at*;have vl:=P.len;have eo:2*k+1<vs.length:=pw;obtain⟨gE,gF⟩:=P.ge k _ cx;simp only at gE gF;have a3:=P.sl.ad3 cp;have r1:=eA3 P.sl cp (r:=1);have ldF:=P.ldF cp;simp only[HO,Nat.reduceLT,↓reduceIte,Nat.reduceEqDiff,reduceCtorEq,z,ix,en,sq.l2,H v dq,ck,a3,pf1,r1,ldF];refine TC.intro PJ ⟨qS39,rfl,WY⟩ (W3 W0 _ fq (v:Int) hq gF.rl cz) ?_;rintro y h9 w9 ⟨rfl,rfl⟩;by_cases cm:(v:Int)∈fq
  .have e3 : Uo fq (v : Int) = fq := by unfold Uo; grind
   rw[e3]at eF;rw[<-eF]at P;simp only[HO,Nat.reduceLT,↓reduceIte,Nat.reduceEqDiff,reduceCtorEq,decide_eq_true cm,dv];exact tn (2-(q+1)) [(0,.pointer (some ⟨B,0,none⟩)),(7,.func (.func 143) #[] #[.pointer (some ⟨s,0,none⟩)]),(10,J),(11,.slice (some ⟨A,0,none⟩) i i),(15,.int .i64 (k:Int)),(77,ev),(78,.int .i64 (es.length:Nat)),(79,.int .i64 (j:Nat)),(149,UI ((a:Int),(b:Int))),(150,.int .i64 (q+1:Nat))] (JS c) fD ⟨q+1,vs,rfl,c,rfl,o5,oT,oA,P,nb⟩
  .have e3 : Uo fq (v : Int) = fq ++ [(v : Int)] := by unfold Uo; grind
   rw[e3]at eF;obtain⟨u',g4,g5,q4,q5,ew,cf,m4,cg,bH⟩:=gF.push cE (v:Int) cz;obtain⟨h7,b5,P7,w7,eg,bI⟩:=P.setR (t:=49) (r:=1) (u':=u') (pk:=(l++[((a:Int),(b:Int))],fq++[(v:Int)])) Ac Ji cp NH cf cg bH (.inr ⟨rfl,ew,fq,cx⟩);rw[List.set_set,<-eF]at P7;have ar:∀c∈[T,s,A],∀u∈J::vs,blk u≠some c:=fun c G u w=>nb u w c G;have M:=bI s _ o5 (ar s Ma);have O:=bI T _ oT (ar T Ma);have Q:=bI A _ oA (ar A Ma);have u0:vs.getD (2*k+1) rW∈J::vs:=by rw[D4 eo];exact j9 _ (Og eo)
   have bh:∀c∈[T,s,A],∀o,h9.own c=some o->blk u'≠some c:=fun c G o ho=>(bH c o ho (ar c G _ u0)).2;have X:NB [T,s,A] (J::vs.set (2*k+1) u'):=fun u w c G=>by
    rcases WA.1 w with rfl|w
    .exact nb u Ma c G
    .rcases xP w with w | rfl
     .exact nb u (by simp[w]) c G
     .simp only [WA, vY, or_false] at G
      rcases G with rfl|rfl|rfl
      .exact bh _ Ma _ oT
      .exact bh _ Ma _ o5
      .exact bh _ Ma _ oA
   simp only[HO,Nat.reduceLT,↓reduceIte,Nat.reduceEqDiff,reduceCtorEq,decide_eq_false cm,a3,pf1,r1,ldF,q4,q5,b5,dv];exact tn (2-(q+1)) [(0,.pointer (some ⟨B,0,none⟩)),(7,.func (.func 143) #[] #[.pointer (some ⟨s,0,none⟩)]),(10,J),(11,.slice (some ⟨A,0,none⟩) i i),(15,.int .i64 (k:Int)),(77,ev),(78,.int .i64 (es.length:Nat)),(79,.int .i64 (j:Nat)),(149,UI ((a:Int),(b:Int))),(150,.int .i64 (q+1:Nat))] (JS c) fD ⟨q+1,_,rfl,c,rfl,M,O,Q,P7,X⟩
end
end Go.Fw
