/- A text. -/
import Derived.Test.YtkccdnmaaelbiaaGreatFwLJ7
set_option linter.all false
set_option maxRecDepth 99999
set_option maxHeartbeats 9999999
namespace Go.Fw
section
attribute [local instance] Classical.propDecidable
attribute [local irreducible] Kp MQ lU rS KO KN KX KE VK Kl ZJ TC gU
open Go.Proofs
variable {P:Program} {W0:LA} {h:AHeap} {i n:Nat} {on:Nat->Bool}
def NB (X:II) (vs:List Value):Prop:=∀u∈vs,∀b∈X,blk u≠some b
def ZJ.UJ {N:Nat} {ops:Array Oper} {ks:List Kt} {R:Exit->aaa->AHeap->Prop} {fr:aaa} (q:∀fr' h',fr'=fr->h'=h->ZJ P W0 N i ops ks R fr' h'):ZJ P W0 N i ops ks R fr h:=q fr h rfl rfl
theorem Qr {es l:List Pr} (hR:aV n es) (c:∀e∈l,e∈es):(kZ (BY on l)).length<=n:=by
 obtain⟨d,h2⟩:=VW (BY on l);have:=tf d (B:=aab (List.range n)) fun x f=>by
  obtain⟨_,e,g,h⟩:=zS.1 ((h2 x).1 f);obtain⟨a,b,rfl,i,hb⟩:=jB hR (c e g);simp only at h;refine eR.2 ?_
  grind
 grind [aab]
theorem Xr (W0:LA) (B n:Nat) (bv ov fv iv lv ev:Value) (on:List Bool) (es:List Pr) (h:AHeap) (hs:Sr h B n bv ov fv iv lv) (ho:RL sJ h ov on) (eS:on.length=n) (he:PR h ev es) (hR:aV n es) (hn:n<=300) (dM:es.length<=1000):
  AC Tryz.prog W0 102 [.pointer (some ⟨B,0,none⟩),ev] h fun x h'=>∃vs,Wq h h' x vs (qT (Wg on) (grpsM (kJ n (Wg on) es) es [] es.length)):=by
 refine AC.vE ⟨Tryz.func102,rfl,WY⟩ Tryz.ntmps102 Tryz.results102 fun dQ=>?_;simp only[Br,Nat.reduceAdd];obtain⟨h1,e1,l1,w1,o1⟩:=Tt dQ (List.replicate n (.int .i64 0));have mk:=mk35 h n NH;rw[e1]at mk
 have nT:h.own h.next=none:=(Le.refl h).next dQ (vT _)
 obtain⟨h2,e2,l2,w2,o2⟩:=Tt w1 [rW]
 have n5:h.own h1.next=none:=l1.next w1 (vT _)
 have d5:h.next≠h1.next:=fun e=>by have:=w1.lt o1;omega
 have dS:=QB (P:=Tryz.prog) (t:=49) (x:=.slice (some ⟨h.next,0,none⟩) n n) Mb Ji o2 (off:=0) Ma rfl rfl
 simp only[HO,Nat.reduceLT,↓reduceIte,Nat.reduceEqDiff,reduceCtorEq,sf0,Ip,BS,hs.l0,mk,Hj,e2,dS]
 have l3:Le h (h2.put h1.next (.cells (([rW]:List Value).set 0 (.slice (some ⟨h.next,0,none⟩) n n)))):=(l1.trans l2).put _ n5
 have w3:WF (h2.put h1.next (.cells (([rW]:List Value).set 0 (.slice (some ⟨h.next,0,none⟩) n n)))):=w2.put _ (w2.lt o2)
 have cU:(h2.put h1.next (.cells (([rW]:List Value).set 0 (.slice (some ⟨h.next,0,none⟩) n n)))).own h1.next=some (.cells [.slice (some ⟨h.next,0,none⟩) n n]):=AHeap.Y3 _ _ _
 have dT:(h2.put h1.next (.cells (([rW]:List Value).set 0 (.slice (some ⟨h.next,0,none⟩) n n)))).own h.next=some (.cells (Bp (WJ n 0))):=by rw[AHeap.By _ _ _ _ d5,Xt,l2.own _ _ o1];simp[Bp]
 generalize h2.put h1.next (.cells (([rW]:List Value).set 0 (.slice (some ⟨h.next,0,none⟩) n n)))=h3 at*
 generalize h1.next=s at*
 generalize h.next=T at*
 clear dS o2 w2 l2 e2 o1 w1 l1 e1 mk;have bB:∀g,g.own s=some (.cells [.slice (some ⟨T,0,none⟩) n n])->aload Tryz.prog g 49 ⟨s,0,none⟩=some (.slice (some ⟨T,0,none⟩) n n):=fun g o=>by rw[Fq Mb rfl o];rfl
 have eI:=fun g=>Jg (P:=Tryz.prog) (t:=49) (a:=some ⟨T,0,none⟩) (n:=n) (cap:=n) Mb g;refine Sk (XC (bB h3 cU) eI) ?_;refine gU.intro (fun k fr hq=>∃i:Nat,k=n-i/\i<=n/\fr=mkF [(0,.pointer (some ⟨B,0,none⟩)),(1,ev),(5,.pointer (some ⟨s,0,none⟩)),(24,.int .i64 (n:Nat)),(25,.int .i64 (i:Nat))]/\hq.own s=some (.cells [.slice (some ⟨T,0,none⟩) n n])/\hq.own T=some (.cells (Bp (WJ n i)))/\Le h hq)
  n [(0,.pointer (some ⟨B,0,none⟩)),(1,ev),(5,.pointer (some ⟨s,0,none⟩)),(24,.int .i64 (n:Nat)),(25,.int .i64 (0:Nat))] fD ⟨0,rfl,qy _,rfl,cU,dT,l3⟩ ?_
 clear cU dT l3 w3;rintro k fr hq c0 ⟨i,rfl,hi,rfl,o5,oT,lq⟩;refine Uy ?_;refine Kl.intro (fun ht=>?_) (fun hf=>?_)
 .have cp : i < n := CC ht
  clear ht;have st:=M0 oT (i:=i) (by grind [hdL_len]) (i:Int);rw[hdL_set cp]at st;simp only[HO,Nat.reduceLT,↓reduceIte,Nat.reduceEqDiff,reduceCtorEq,bB hq o5,Kx T n .i64 i cp,st,Tw i NH];exact tn (n-(i+1)) [(0,.pointer (some ⟨B,0,none⟩)),(1,ev),(5,.pointer (some ⟨s,0,none⟩)),(24,.int .i64 (n:Nat)),(25,.int .i64 (i+1:Nat))] (JS cp) fD ⟨i+1,rfl,cp,rfl,by rw[AHeap.By _ _ _ _ (uV d5)];exact o5,AHeap.Y3 _ _ _,lq.put _ nT⟩
 have b1:n<=i:=vp hf;obtain rfl:i=n:=NH;rw[hdL_all]at oT;have dV:=fun g=>he.len g;have F0:=wi.zero i;refine Sk dV ?_;clear hf hi b1;generalize eT:Wg on=m at*;have I:∀g,Le h g->∀v,v<i->aload Tryz.prog g 4 (elemAddr ov v)=some (.bool (m v)):=fun g lg v hv=>by grind [RL.le,Nn.sJ,RL.W7]
 have H:∀v,v<i->aIndexAddr Tryz.prog 59 ov (.int .i64 (v:Int))=some (.pointer (some (elemAddr ov v))):=fun v hv=>ho.LB v NH;refine gU.intro (fun k fr hz=>∃(j:Nat) (L:RZ) (ρ d:Nat->Nat),k=es.length-j/\j<=es.length/\fr=mkF [(0,.pointer (some ⟨B,0,none⟩)),(1,ev),(5,.pointer (some ⟨s,0,none⟩)),(7,.func (.func 143) #[] #[.pointer (some ⟨s,0,none⟩)]),(34,ev),(35,.int .i64 (es.length:Nat)),(36,.int .i64 (j:Nat))]/\
   hz.own s=some (.cells [.slice (some ⟨T,0,none⟩) i i])/\hz.own T=some (.cells (Bp L))/\Le h hz/\wi i L ρ d/\Cls i m (es.take j) ρ)
  es.length [(0,.pointer (some ⟨B,0,none⟩)),(1,ev),(5,.pointer (some ⟨s,0,none⟩)),(7,.func (.func 143) #[] #[.pointer (some ⟨s,0,none⟩)]),(34,ev),(35,.int .i64 (es.length:Nat)),(36,.int .i64 (0:Nat))] fD
  ⟨0,_,_,_,rfl,qy _,rfl,o5,oT,lq,F0,cls_nil⟩ ?_
 clear F0 oT o5 lq c0;rintro k fr hz ay ⟨j,L,ρ,d,rfl,hj,rfl,o5,oT,lz,F,C⟩;refine Uy ?_;refine Kl.intro (fun ht=>?_) (fun hf=>?_)
 .have K : j < es.length := CC ht
  clear ht;have cq:=CA K;have c3:es.take (j+1)=es.take j++[es[j]]:=EL K;have ec:aV i (es.take (j+1)):=fun p hp=>hR p (pC hp);obtain⟨a,b,c4,eL,hb⟩:=jB hR (VU K);have ad:=he.addr (k:=.i64) j K;have ld:=(he.le lz).load cq;generalize es[j]=p at*;subst c4;rw[c3]at ec;obtain⟨h4,h5,e4,e5,l5,w5,oE⟩:=Ut ay ((a:Int),(b:Int));have N:=lz.trans l5;have al:=l5.own _ _ o5;have bo:=l5.own _ _ oT;have L0:=lK oE;have L1:=HY oE;simp only at L0 L1
  have nE:∀{x o},hz.own x=some o->x≠hz.next:=fun{x o} hx e=>by have:=ay.lt hx;omega
  have aC:=nE oT
  generalize hz.next=E at*
  have D:a<i:=NH;have s5:=hs.le N;have aw:=Tw j (Lb K (QJ dM));by_cases ca:m a=true
  .have C' : Cls i m (es.take (j + 1)) ρ := by rw [c3]; exact bD C ⟨Ma, Ma⟩ (.inl (by simpa using ca))
   have lo:=I h5 N a D;rw[ca]at lo;simp only[HO,Nat.reduceLT,↓reduceIte,Nat.reduceEqDiff,reduceCtorEq,ad,ld,e4,e5];refine gh (tA [0,1,2,3,4,5,6,7,8,9,10,11,12,13,14,15,16,17,18,19] .done) ?_;simp only[HO,Nat.reduceLT,↓reduceIte,Nat.reduceEqDiff,reduceCtorEq,Nat.reduceBEq,Qg,QL,Ip,BS,s5.l2,Dh,L0,H a D,lo,aw];exact tn (es.length-(j+1)) [(0,.pointer (some ⟨B,0,none⟩)),(1,ev),(5,.pointer (some ⟨s,0,none⟩)),(7,.func (.func 143) #[] #[.pointer (some ⟨s,0,none⟩)]),(34,ev),(35,.int .i64 (es.length:Nat)),(36,.int .i64 (j+1:Nat))] (JS K) fD
    ⟨j+1,L,ρ,d,rfl,K,rfl,al,bo,N,F,C'⟩
  rw[ur]at ca;have lo:=I h5 N a D;rw[ca]at lo;by_cases cb:m b=true
  .have C' : Cls i m (es.take (j + 1)) ρ := by grind [bD]
   have b2:=I h5 N b hb;rw[cb]at b2;simp only[HO,Nat.reduceLT,↓reduceIte,Nat.reduceEqDiff,reduceCtorEq,ad,ld,e4,e5];refine gh (tA [0,1,2,3,4,5,6,7,8,9,10,11,12,13,14,15,16,17,18,19] .done) ?_;simp only[HO,Nat.reduceLT,↓reduceIte,Nat.reduceEqDiff,reduceCtorEq,Nat.reduceBEq,Qg,QL,Ip,BS,s5.l2,Dh,Z0,L0,L1,H a D,H b hb,lo,b2,aw];exact tn (es.length-(j+1)) [(0,.pointer (some ⟨B,0,none⟩)),(1,ev),(5,.pointer (some ⟨s,0,none⟩)),(7,.func (.func 143) #[] #[.pointer (some ⟨s,0,none⟩)]),(34,ev),(35,.int .i64 (es.length:Nat)),(36,.int .i64 (j+1:Nat))] (JS K) fD
    ⟨j+1,L,ρ,d,rfl,K,rfl,al,bo,N,F,C'⟩
  rw[ur]at cb;have b2:=I h5 N b hb;rw[cb]at b2;have C':=qO C ec ca cb;rw[<-c3]at C';simp only[HO,Nat.reduceLT,↓reduceIte,Nat.reduceEqDiff,reduceCtorEq,ad,ld,e4,e5];refine gh (tA [0,1,2,3,4,5,6,7,8,9,10,11,12,13,14,15,16,17,18,19] .done) ?_;simp only[HO,Nat.reduceLT,↓reduceIte,Nat.reduceEqDiff,reduceCtorEq,Nat.reduceBEq,Qg,QL,Ip,BS,s5.l2,Dh,Z0,L0,L1,H a D,H b hb,lo,b2];refine gh (tA [0,1,2,3,5,6,7] (JQ 4 [1,3] (JQ 8 [4,5,7] (tA [9] (JQ 10 [0,1,2,3,4,5,6,7,8,9] .done))))) ?_;refine CO (rE (bB h5 al) @Ip.eq_1 @BS @Dh @Z0 L0 L1) ?_;refine VA.intro PJ ⟨yo,rfl,WY⟩ (Y9 W0 s T i L ρ d a h5 al bo d5 F D) ?_;rintro x h6 w6 ⟨rfl,L',F6,br,b3,Z⟩;have ag:=Z s _ (uV d5) al;have aD:=Z E _ (uV aC) oE;have ed:=lK aD;have ee:=HY aD;simp only at ed ee;have ra:=F.rt a D;have rb:=F.rt b hb;refine CO (rE (bB h6 ag) @Ip.eq_1 @BS @Dh @Z0 ed ee) ?_;refine VA.intro PJ ⟨yo,rfl,WY⟩ (Y9 W0 s T i L' ρ d b h6 ag br d5 F6 hb) ?_;rintro x h7 w7 ⟨rfl,eU,F7,O,b4,aj⟩;have M:=aj s _ (uV d5) ag;have R:=aj E _ (uV aC) aD;have ef:=lK R;have eg:=HY R;simp only at ef eg;have st:=M0 O (i:=ρ a) (by grind [wi.len]) (ρ b:Int);simp only[HO,Nat.reduceLT,↓reduceIte,Nat.reduceEqDiff,reduceCtorEq,Nat.reduceBEq,Qg,bB h6 ag,bB h7 M,Ip,BS,Dh,Z0,ef,eg,Kx T i .i64 (ρ a) ra.1,st,aw];exact tn (es.length-(j+1)) [(0,.pointer (some ⟨B,0,none⟩)),(1,ev),(5,.pointer (some ⟨s,0,none⟩)),(7,.func (.func 143) #[] #[.pointer (some ⟨s,0,none⟩)]),(34,ev),(35,.int .i64 (es.length:Nat)),(36,.int .i64 (j+1:Nat))] (JS K) fD
   ⟨j+1,_,_,_,rfl,K,rfl,by grind [AHeap.By],AHeap.Y3 _ _ _,(b4 h (b3 h N nT) nT).put _ nT,F7.join ra.1 rb.1 ra.2 rb.2,C'⟩
 have b1:es.length<=j:=vp hf;rw[AE b1]at C;have Y:=fun v hv=>(F.rt v hv).1;clear b1 hf hj;obtain⟨h4,e4,l4,w4,o4⟩:=Tt ay [.int .i64 (-1)];have s4:=hs.le (lz.trans l4);refine Sk (bG @DQ e4 @sf0 @Ip.eq_1 @BS s4.l0) ?_;refine TC.intro PJ ⟨zL,rfl,WY⟩ (rN W0 _ i NH h4 (RL.Wh (RS.whole o4 rfl))) ?_;rintro x h8 w8 ⟨A,rfl,hA,o8,l8⟩;have cr:=l4.trans l8;have aN:=lz.trans cr;have aP:h8.own A=some (.cells (Bp (List.replicate i (-1)))):=by rw[o8];simp[Bp]
 have bF:=cr.own _ _ o5;have bH:=cr.own _ _ oT
 have nA:h.own A=none:=(lz.trans l4).next w4 hA
 have dA:∀{b o},hz.own b=some o->A≠b:=fun{b o} ob e=>by have:=w4.lt (l4.own _ _ ob);omega
 have aT:=dA oT;have eh:=dA o5;have A0:fu i m es ρ (grpsM (kJ i m es) es [] 0) (List.replicate i (-1)):=fu.zero Y;have P0:Wq h h8 rW [] (qT m (grpsM (kJ i m es) es [] 0)):=(Wq.nil h).up aN;refine Sk dV ?_;refine gU.intro (fun k fr hz=>∃(j:Nat) (L at_:RZ) (J:Value) (vs:List Value),k=es.length-j/\j<=es.length/\fr=mkF [(0,.pointer (some ⟨B,0,none⟩)),(7,.func (.func 143) #[] #[.pointer (some ⟨s,0,none⟩)]),(10,J),(11,.slice (some ⟨A,0,none⟩) i i),(77,ev),(78,.int .i64 (es.length:Nat)),(79,.int .i64 (j:Nat))]/\
   hz.own s=some (.cells [.slice (some ⟨T,0,none⟩) i i])/\hz.own T=some (.cells (Bp L))/\hz.own A=some (.cells (Bp at_))/\wi i L ρ d/\fu i m es ρ (grpsM (kJ i m es) es [] j) at_/\Wq h hz J vs (qT m (grpsM (kJ i m es) es [] j))/\NB [T,s,A] (J::vs))
  es.length [(0,.pointer (some ⟨B,0,none⟩)),(7,.func (.func 143) #[] #[.pointer (some ⟨s,0,none⟩)]),(10,rW),(11,.slice (some ⟨A,0,none⟩) i i),(77,ev),(78,.int .i64 (es.length:Nat)),(79,.int .i64 (0:Nat))] fD
  ⟨0,L,_,rW,[],rfl,qy _,rfl,bF,bH,aP,F,A0,P0,fun u w b _ q=>by rw[ZT.1 w]at q;cases q⟩ ?_
 clear A0 P0 bH bF aP o8 l8 w8 o4 e4 F oT o5 ay s4 lz aN cr l4 w4 hA dA;clear h8 h4 hz L j;rintro k fr hz ay ⟨j,L,at_,J,vs,rfl,hj,rfl,o5,oT,oA,F,AT,P,nb⟩;have lz:=P.sep.le;refine Uy ?_;refine Kl.intro (fun ht=>?_) (fun hf=>?_)
 rotate_left
 .have b1 : es.length <= j := vp hf
  obtain rfl:j=es.length:=NH;refine Uy ?_
  grind
 have K:j<es.length:=CC ht;clear ht;have cq:=CA K;obtain⟨a,b,c4,eL,hb⟩:=jB hR (VU K);have ad:=he.addr (k:=.i64) j K;have ld:=(he.le lz).load cq;generalize es[j]=p at*;subst c4;have eG:=dh (fr:=kJ i m es) cq (show(((a:Int),(b:Int)):Pr)∉([]:List Pr) by simp);obtain⟨nk,-,ei,eV,eM⟩:=Pt (kJ i m es) es [] j;obtain⟨h4,h5,e4,e5,l5,w5,oE⟩:=Ut ay ((a:Int),(b:Int));have N:=lz.trans l5;have al:=l5.own _ _ o5;have bo:=l5.own _ _ oT;have c5:=l5.own _ _ oA;have P5:=P.up l5
 have nE:∀{x o},hz.own x=some o->x≠hz.next:=fun{x o} hx e=>by have:=ay.lt hx;omega
 have aC:=nE oT;have ej:=nE oA
 have eW:h.own hz.next=none:=lz.next ay (vT _)
 have aW:∀u∈J::vs,blk u≠some hz.next:=fun u w q=>by
  obtain⟨t,ht⟩:=yM.1 w;have:=P.sep.own t u _ ht q
  exact this ((Le.refl hz).next ay (vT _))
 generalize hz.next=E at*
 have D:a<i:=NH;have aw:=Tw j (Lb K (QJ dM));have c6:∀g,g.own E=some (.cells (xM ((a:Int),(b:Int))))->aload Tryz.prog g 3 ⟨E,0,none⟩=some (.int .i64 (a:Int)):=fun g o=>lK o;have ek:∀g,g.own E=some (.cells (xM ((a:Int),(b:Int))))->aload Tryz.prog g 3 ⟨E,1,none⟩=some (.int .i64 (b:Int)):=fun g o=>HY o;have aX:=fun v hv=>Kx A i .i64 v hv;have S:(qT m (grpsM (kJ i m es) es [] j)).length=(grpsM (kJ i m es) es [] j).length:=by simp[qT]
 apply Ya (F:=fun(fr:aaa) (h6:AHeap)=>∃(k:Nat) (L at_:RZ) (J:Value) (vs:List Value) (ps:List (List Pr×RZ)) (l:List Pr) (ft:RZ),Fj fr [(0,.pointer (some ⟨B,0,none⟩)),(7,.func (.func 143) #[] #[.pointer (some ⟨s,0,none⟩)]),(10,J),(11,.slice (some ⟨A,0,none⟩) i i),(13,.pointer (some ⟨E,0,none⟩)),(15,.int .i64 (k:Int)),(77,ev),(78,.int .i64 (es.length:Nat)),(79,.int .i64 (j:Nat))]/\
   WF h6/\h6.own s=some (.cells [.slice (some ⟨T,0,none⟩) i i])/\h6.own T=some (.cells (Bp L))/\h6.own A=some (.cells (Bp at_))/\h6.own E=some (.cells (xM ((a:Int),(b:Int))))/\wi i L ρ d/\fu i m es ρ (grpsM (kJ i m es) es [] (j+1)) at_/\Wq h h6 J vs ps/\NB [T,s,A] (J::vs)/\(∀u∈J::vs,blk u≠some E)/\
   ps[k]?=some (l,ft)/\l.length<=j/\ft.length<=i/\qT m (grpsM (kJ i m es) es [] (j+1))=ps.set k (l++[((a:Int),(b:Int))],(AL m ((a:Int),(b:Int))).foldl Uo ft))
 .intro cont
  have s5:=hs.le N;have a1:∀{k:Nat} {f:Int} {l:List Pr},(grpsM (kJ i m es) es [] j)[k]?=some (f,l)->∀e∈l,e∈es:=fun{k f l} hk e eO=>eM _ (Gc hk) e eO;cases ca:m a with
  |false=>
   have hf:kJ i m es ((a:Int),(b:Int)) j=Gu i m es a:=by unfold kJ Zo;simp only[yY];grind
   have b6:=I h5 N a D;rw[ca]at b6;rw[hf]at eG;simp only[HO,Nat.reduceLT,↓reduceIte,Nat.reduceEqDiff,reduceCtorEq,ad,ld,e4,e5,Dh,QL,Ip,BS,s5.l2,c6 h5 oE,H a D,b6,P5.len_,H a D];refine TC.intro PJ ⟨yo,rfl,WY⟩ (Y9 W0 s T i L ρ d a h5 al bo d5 F D) ?_;rintro y h6 w6 ⟨rfl,L6,F6,br,b3,Z⟩;have aH:=b3 h N nT;have s6:=hs.le aH;have c9:=I h6 aH a D;rw[ca]at c9;have ag:=Z s _ (uV d5) al;have aJ:=Z A _ aT c5;have aD:=Z E _ (uV aC) oE;have P6:=P5.kept aH fun c o G ho=>Z c o (fun e=>by obtain⟨u,w,hb⟩:=G;exact nb u w T Ma (by rw[<-e];exact hb)) ho;rcases AT.val a D ca with⟨k,l,aK,U⟩|⟨aK,U⟩
   .have bx := XP aJ aK
    have kp:decide ((k:Int)>=0)=true:=decide_eq_true NH;obtain⟨q1,q2⟩:=AT.qi nk U ((a:Int),(b:Int));refine Sk (Yb (aX (ρ a) (Y a D)) bx kp) ?_;refine TC.intro PJ ⟨yo,rfl,WY⟩ (Y9 W0 s T i L6 ρ d a h6 ag br d5 F6 D) ?_;rintro y h7 w7 ⟨rfl,L7,F7,O,b4,aj⟩;have M:=aj s _ (uV d5) ag;have Q:=aj A _ aT aJ;have R:=aj E _ (uV aC) aD;have V:=b4 h aH nT;have P7:=P6.kept V fun c o G ho=>aj c o (fun e=>by obtain⟨u,w,hb⟩:=G;exact nb u w T Ma (by rw[<-e];exact hb)) ho;have b8:=XP Q aK;refine Sk (XC (aX (ρ a) (Y a D)) b8) ?_;refine ZJ.UJ fun fr' h' x y=>cont fr' h' ?_;subst x y;have da:=ei _ (Gc U);refine⟨k,L7,at_,J,vs,_,l,kZ (BY m l),fD,w7,M,O,Q,R,F7,by rw[eG,q1];exact q2,P7,nb,aW,?_,da,Qr hR (a1 U),?_⟩
    .unfold qT;rw[zm,U];rfl
    .rw[eG,q1,ZF,KS]
   .have bx := XP aJ aK
    have kp:decide ((-1:Int)>=0)=false:=by decide
    have q1:=V4 U ((a:Int),(b:Int));have q2:=AT.new C Y D ca U ((a:Int),(b:Int));obtain⟨aq,g4,g5,q4,q5,P7,w7,en,eo,W⟩:=P6.push w6 (by rw[S];omega);have ar:∀c,c∈[T,s,A]->blk J≠some c:=fun c G=>nb J Ma c G;obtain⟨M,b9⟩:=W s _ ag (ar s Ma);obtain⟨O,cc⟩:=W T _ br (ar T Ma);obtain⟨Q,cd⟩:=W A _ aJ (ar A Ma);obtain⟨R,a6⟩:=W E _ aD (aW J Ma);have V:=P7.sep.le;have s7:=hs.le V;have a7:=I g5 V a D;rw[ca]at a7;have X:NB [T,s,A] (aq::(vs++[rW,rW])):=fun u w c G=>by
     simp only[Z6,Sb,vg,or_false]at w;rcases w with rfl|w|rfl|rfl
     .simp only [Z6, vg, or_false] at G
      rcases G with rfl|rfl|rfl
      .exact cc
      .exact b9
      .exact cd
     .exact nb u (by simp[w]) c G
     .simp[blk]
     .simp[blk]
    have a8:∀u∈aq::(vs++[rW,rW]),blk u≠some E:=fun u w=>by
     simp only[Z6,Sb,vg,or_false]at w;rcases w with rfl|w|rfl|rfl
     .exact a6
     .exact aW u (by simp[w])
     .simp[blk]
     .simp[blk]
    refine Sk (xu (aX (ρ a) (Y a D)) bx kp @bld0 q4 q5 @QL @Ip.eq_1 @BS s7.l2 (H a D) a7) ?_;refine TC.intro PJ ⟨yo,rfl,WY⟩ (Y9 W0 s T i L6 ρ d a g5 M O d5 F6 D) ?_;rintro y h8 w8 ⟨rfl,L8,F8,bH,db,aL⟩;have bF:=aL s _ (uV d5) M;have aP:=aL A _ aT Q;have dc:=aL E _ (uV aC) R;have aN:=db h V nT;have P8:=P7.kept aN fun c o G ho=>aL c o (fun e=>by obtain⟨u,w,hb⟩:=G;exact X u w T Ma (by rw[<-e];exact hb)) ho;have dd:=M0 aP (i:=ρ a) (by rw[AT.len];exact Y a D) ((grpsM (kJ i m es) es [] j).length:Int);have de:=aN.put (.cells (Bp (at_.set (ρ a) ((grpsM (kJ i m es) es [] j).length:Int)))) nA;have P9:=P8.kept de fun c o G ho=>by
     obtain⟨u,w,hb⟩:=G;rw[AHeap.By _ _ _ _ (fun e=>X u w A Ma (by rw[<-e];exact hb))];exact ho
    have bb:((qT m (grpsM (kJ i m es) es [] j)).length:Int)=((grpsM (kJ i m es) es [] j).length:Int):=by rw[S]
    refine Sk (Yb (aX (ρ a) (Y a D)) bb dd) ?_;refine ZJ.UJ fun fr' h' x y=>cont fr' h' ?_;subst x y;refine⟨(grpsM (kJ i m es) es [] j).length,L8,_,aq,_,_,[],[],fD,w8.put _ (w8.lt aP),by rw[AHeap.By _ _ _ _ (uV eh)];exact bF,by rw[AHeap.By _ _ _ _ (uV aT)];exact bH,AHeap.Y3 _ _ _,by rw[AHeap.By _ _ _ _ (uV ej)];exact dc,F8,by rw[eG,q1];exact q2,P9,X,a8,?_,qy _,qy _,?_⟩
    .rw[WA (by rw[S];exact vT _),S,b5];rfl
    .rw[eG,q1,Xe,<-S,wV _ _ (vT _),b5];rfl
  |true=>
   have dj:=I h5 N a D;rw[ca]at dj;cases cb:m b with
   |false=>
    have hf:kJ i m es ((a:Int),(b:Int)) j=Gu i m es b:=by unfold kJ Zo;simp only[yY];rw[if_neg (by rw[ca];simp),if_pos cb]
    have b6:=I h5 N b hb;rw[cb]at b6;rw[hf]at eG;simp only[HO,Nat.reduceLT,↓reduceIte,Nat.reduceEqDiff,reduceCtorEq,ad,ld,e4,e5,Dh,Z0,QL,Ip,BS,s5.l2,c6 h5 oE,ek h5 oE,H a D,dj,b6,P5.len_,H b hb];refine TC.intro PJ ⟨yo,rfl,WY⟩ (Y9 W0 s T i L ρ d b h5 al bo d5 F hb) ?_;rintro y h6 w6 ⟨rfl,L6,F6,br,b3,Z⟩;have aH:=b3 h N nT;have s6:=hs.le aH;have c9:=I h6 aH b hb;rw[cb]at c9;have ag:=Z s _ (uV d5) al;have aJ:=Z A _ aT c5;have aD:=Z E _ (uV aC) oE;have P6:=P5.kept aH fun c o G ho=>Z c o (fun e=>by obtain⟨u,w,hb⟩:=G;exact nb u w T Ma (by rw[<-e];exact hb)) ho;rcases AT.val b hb cb with⟨k,l,aK,U⟩|⟨aK,U⟩
    .have bx := XP aJ aK
     have kp:decide ((k:Int)>=0)=true:=decide_eq_true NH;obtain⟨q1,q2⟩:=AT.qi nk U ((a:Int),(b:Int));refine Sk (Yb (aX (ρ b) (Y b hb)) bx kp) ?_;refine TC.intro PJ ⟨yo,rfl,WY⟩ (Y9 W0 s T i L6 ρ d b h6 ag br d5 F6 hb) ?_;rintro y h7 w7 ⟨rfl,L7,F7,O,b4,aj⟩;have M:=aj s _ (uV d5) ag;have Q:=aj A _ aT aJ;have R:=aj E _ (uV aC) aD;have V:=b4 h aH nT;have P7:=P6.kept V fun c o G ho=>aj c o (fun e=>by obtain⟨u,w,hb⟩:=G;exact nb u w T Ma (by rw[<-e];exact hb)) ho;have b8:=XP Q aK;refine Sk (XC (aX (ρ b) (Y b hb)) b8) ?_;refine ZJ.UJ fun fr' h' x y=>cont fr' h' ?_;subst x y;have da:=ei _ (Gc U);refine⟨k,L7,at_,J,vs,_,l,kZ (BY m l),fD,w7,M,O,Q,R,F7,by rw[eG,q1];exact q2,P7,nb,aW,?_,da,Qr hR (a1 U),?_⟩
     .unfold qT;rw[zm,U];rfl
     .rw[eG,q1,ZF,KS]
    .have bx := XP aJ aK
     have kp:decide ((-1:Int)>=0)=false:=by decide
     have q1:=V4 U ((a:Int),(b:Int));have q2:=AT.new C Y hb cb U ((a:Int),(b:Int));obtain⟨aq,g4,g5,q4,q5,P7,w7,en,eo,W⟩:=P6.push w6 (by rw[S];omega);have ar:∀c,c∈[T,s,A]->blk J≠some c:=fun c G=>nb J Ma c G;obtain⟨M,b9⟩:=W s _ ag (ar s Ma);obtain⟨O,cc⟩:=W T _ br (ar T Ma);obtain⟨Q,cd⟩:=W A _ aJ (ar A Ma);obtain⟨R,a6⟩:=W E _ aD (aW J Ma);have V:=P7.sep.le;have s7:=hs.le V;have a7:=I g5 V b hb;rw[cb]at a7;have X:NB [T,s,A] (aq::(vs++[rW,rW])):=fun u w c G=>by
      simp only[Z6,Sb,vg,or_false]at w;rcases w with rfl|w|rfl|rfl
      .simp only [Z6, vg, or_false] at G
       rcases G with rfl|rfl|rfl
       .exact cc
       .exact b9
       .exact cd
      .exact nb u (by simp[w]) c G
      .simp[blk]
      .simp[blk]
     have a8:∀u∈aq::(vs++[rW,rW]),blk u≠some E:=fun u w=>by
      simp only[Z6,Sb,vg,or_false]at w;rcases w with rfl|w|rfl|rfl
      .exact a6
      .exact aW u (by simp[w])
      .simp[blk]
      .simp[blk]
     refine Sk (xu (aX (ρ b) (Y b hb)) bx kp @bld0 q4 q5 @QL @Ip.eq_1 @BS s7.l2 (H b hb) a7) ?_;refine TC.intro PJ ⟨yo,rfl,WY⟩ (Y9 W0 s T i L6 ρ d b g5 M O d5 F6 hb) ?_;rintro y h8 w8 ⟨rfl,L8,F8,bH,db,aL⟩;have bF:=aL s _ (uV d5) M;have aP:=aL A _ aT Q;have dc:=aL E _ (uV aC) R;have aN:=db h V nT;have P8:=P7.kept aN fun c o G ho=>aL c o (fun e=>by obtain⟨u,w,hb⟩:=G;exact X u w T Ma (by rw[<-e];exact hb)) ho;have dd:=M0 aP (i:=ρ b) (by rw[AT.len];exact Y b hb) ((grpsM (kJ i m es) es [] j).length:Int);have de:=aN.put (.cells (Bp (at_.set (ρ b) ((grpsM (kJ i m es) es [] j).length:Int)))) nA;have P9:=P8.kept de fun c o G ho=>by
      obtain⟨u,w,hb⟩:=G;rw[AHeap.By _ _ _ _ (fun e=>X u w A Ma (by rw[<-e];exact hb))];exact ho
     have bb:((qT m (grpsM (kJ i m es) es [] j)).length:Int)=((grpsM (kJ i m es) es [] j).length:Int):=by rw[S]
     refine Sk (Yb (aX (ρ b) (Y b hb)) bb dd) ?_;refine ZJ.UJ fun fr' h' x y=>cont fr' h' ?_;subst x y;refine⟨(grpsM (kJ i m es) es [] j).length,L8,_,aq,_,_,[],[],fD,w8.put _ (w8.lt aP),by rw[AHeap.By _ _ _ _ (uV eh)];exact bF,by rw[AHeap.By _ _ _ _ (uV aT)];exact bH,AHeap.Y3 _ _ _,by rw[AHeap.By _ _ _ _ (uV ej)];exact dc,F8,by rw[eG,q1];exact q2,P9,X,a8,?_,qy _,qy _,?_⟩
     .rw[WA (by rw[S];exact vT _),S,b5];rfl
     .rw[eG,q1,Xe,<-S,wV _ _ (vT _),b5];rfl
   |true=>
    have hf:kJ i m es ((a:Int),(b:Int)) j=(i:Int)+j:=by unfold kJ Zo;simp only[yY];rw[if_neg (by rw[ca];simp),if_neg (by rw[cb];simp)]
    have ep:=I h5 N b hb;rw[cb]at ep;rw[hf]at eG;have q1:=V4 (JA (on:=m) hR (i:=j)) ((a:Int),(b:Int));have q2:=AT.lone (f:=(i:Int)+j) NH ((a:Int),(b:Int));obtain⟨aq,g4,g5,q4,q5,P7,w7,en,eo,W⟩:=P5.push w5 (by rw[S];omega);have ar:∀c,c∈[T,s,A]->blk J≠some c:=fun c G=>nb J Ma c G;obtain⟨M,b9⟩:=W s _ al (ar s Ma);obtain⟨O,cc⟩:=W T _ bo (ar T Ma);obtain⟨Q,cd⟩:=W A _ c5 (ar A Ma);obtain⟨R,a6⟩:=W E _ oE (aW J Ma);have V:=P7.sep.le;have s7:=hs.le V;have a7:=I g5 V b hb;rw[cb]at a7;have X:NB [T,s,A] (aq::(vs++[rW,rW])):=fun u w c G=>by
     simp only[Z6,Sb,vg,or_false]at w;rcases w with rfl|w|rfl|rfl
     .simp only [Z6, vg, or_false] at G
      rcases G with rfl|rfl|rfl
      .exact cc
      .exact b9
      .exact cd
     .exact nb u (by simp[w]) c G
     .simp[blk]
     .simp[blk]
    have a8:∀u∈aq::(vs++[rW,rW]),blk u≠some E:=fun u w=>by
     simp only[Z6,Sb,vg,or_false]at w;rcases w with rfl|w|rfl|rfl
     .exact a6
     .exact aW u (by simp[w])
     .simp[blk]
     .simp[blk]
    have bb:((qT m (grpsM (kJ i m es) es [] j)).length:Int)=((grpsM (kJ i m es) es [] j).length:Int):=by rw[S]
    simp only[HO,Nat.reduceLT,↓reduceIte,Nat.reduceEqDiff,reduceCtorEq,ad,ld,e4,e5,Dh,Z0,QL,Ip,BS,s5.l2,c6 h5 oE,ek h5 oE,H a D,dj,ep,P5.len_,H b hb,bld0,q4,q5,s7.l2,a7,bb];refine ZJ.UJ fun fr' h' x y=>cont fr' h' ?_;subst x y;refine⟨(grpsM (kJ i m es) es [] j).length,L,at_,aq,_,_,[],[],fD,w7,M,O,Q,R,F,by rw[eG,q1];exact q2,P7,X,a8,?_,qy _,qy _,?_⟩
    .rw[WA (by rw[S];exact vT _),S,b5];rfl
    .rw[eG,q1,Xe,<-S,wV _ _ (vT _),b5];rfl
 rintro fr h6 ⟨k,L,at_,J,vs,ps,l,ft,er,w6,o5,oT,oA,oE,F,AT,P,nb,a6,dk,eZ,e0,et⟩;simp only[Fj]at er;obtain⟨f0,f7,dm,dq,dw,dx,dz,dB,dE,-⟩:=er;have bI:=(Ny.1 dk).1;have vl:=P.len;have dF:2*k<vs.length:=NH;obtain⟨gE,gF⟩:=P.ge k _ dk;simp only at gE gF;have a3:=P.sl.ad3 bI;have r0:=eA3 P.sl bI (r:=0);rw[b7]at r0;have ldE:=P.ldE bI;obtain⟨u',g4,g5,q4,q5,eu,cx,m4,cz,bW⟩:=gE.push w6 ((a:Int),(b:Int)) NH;have Lp:=uM oE;obtain⟨h7,cf,P7,w7,ew,b0⟩:=P.setR (t:=22) (r:=0) (u':=u') (pk:=(l++[((a:Int),(b:Int))],ft)) Uh Ji bI NH cx cz bW (.inl ⟨rfl,eu,l,dk⟩);rw[b7]at cf;have cg:∀c,(∀u∈J::vs,blk u≠some c)->∀o,h6.own c=some o->h7.own c=some o:=fun c G o ho=>b0 c o ho G;have av:∀c∈[T,s,A],∀u∈J::vs,blk u≠some c:=fun c G u w=>nb u w c G;have M:=cg s (av s Ma) _ o5;have O:=cg T (av T Ma) _ oT;have Q:=cg A (av A Ma) _ oA;have R:=cg E a6 _ oE;have u0:vs.getD (2*k) rW∈J::vs:=by rw[D4 dF];exact Og _ (VU dF)
 have bh:∀c∈[T,s,A],∀o,h6.own c=some o->blk u'≠some c:=fun c G o ho=>(bW c o ho (av c G _ u0)).2;have X:NB [T,s,A] (J::vs.set (2*k) u'):=fun u w c G=>by
  rcases Z6.1 w with rfl|w
  .exact nb u Ma c G
  .rcases Yq w with w | rfl
   .exact nb u (by simp[w]) c G
   .simp only [Z6, vg, or_false] at G
    rcases G with rfl|rfl|rfl
    .exact bh _ Ma _ oT
    .exact bh _ Ma _ o5
    .exact bh _ Ma _ oA
 rw[b7]at P7;have ey:=uM R;have dI:Le h6 g4:=m4;have ez:=uM (dI.own _ _ oE);have cM:aload Tryz.prog g4 22 (elemAddr J (k*3))=some (vs.getD (2*k) rW):=(P.up dI).ldE bI;refine gh (tA [0,1,2,3,4,5,6,7] (JQ 8 [7] (JQ 9 [6,8] (tA [10,11] (JQ 12 [0,1,2,3,4,5,6,7,8,9,11] .done))))) ?_;simp only[HO,Nat.reduceLT,↓reduceIte,Nat.reduceEqDiff,reduceCtorEq,Nat.reduceBEq,Qg,f0,f7,dm,dq,dw,dx,dz,dB,dE,a3,pf0,r0,ldE,cM,Lp,ez,q4,q5,cf,ey];have eA:Wq h h7 J (vs.set (2*k) u') (ps.set k (l++[((a:Int),(b:Int))],(YB m ((a:Int),(b:Int)) 0).foldl Uo ft)):=by
  have:YB m ((a:Int),(b:Int)) 0=[]:=by simp[YB]
  rw[this];exact P7
 refine gU.intro (fun kk fr hq=>∃(q:Nat) (vs:List Value),kk=2-q/\q<=2/\fr=mkF [(0,.pointer (some ⟨B,0,none⟩)),(7,.func (.func 143) #[] #[.pointer (some ⟨s,0,none⟩)]),(10,J),(11,.slice (some ⟨A,0,none⟩) i i),(15,.int .i64 (k:Int)),(77,ev),(78,.int .i64 (es.length:Nat)),(79,.int .i64 (j:Nat)),(149,UI ((a:Int),(b:Int))),(150,.int .i64 (q:Nat))]/\
   hq.own s=some (.cells [.slice (some ⟨T,0,none⟩) i i])/\hq.own T=some (.cells (Bp L))/\hq.own A=some (.cells (Bp at_))/\Wq h hq J vs (ps.set k (l++[((a:Int),(b:Int))],(YB m ((a:Int),(b:Int)) q).foldl Uo ft))/\NB [T,s,A] (J::vs))
  2 [(0,.pointer (some ⟨B,0,none⟩)),(7,.func (.func 143) #[] #[.pointer (some ⟨s,0,none⟩)]),(10,J),(11,.slice (some ⟨A,0,none⟩) i i),(15,.int .i64 (k:Int)),(77,ev),(78,.int .i64 (es.length:Nat)),(79,.int .i64 (j:Nat)),(149,UI ((a:Int),(b:Int))),(150,.int .i64 (0:Nat))] (by simp only[Fj,HO,Nat.reduceLT,↓reduceIte,Nat.reduceEqDiff,reduceCtorEq,f0,f7,dm,dq,dw,dx,dz,dB,dE];simp)
  ⟨0,_,rfl,qy _,rfl,M,O,Q,eA,X⟩ ?_
 clear eA cM ez dI ey X bh u0 R Q O M av cg P7 cf b0 ew w7 Lp bW cz m4 cx eu q5 q4 ldE r0 a3 gE gF vl dF a6 nb P oE oA oT o5 w6 f0 f7 dm dq dw dx dz dB dE;rintro kk fr hq c0 ⟨q,vs,rfl,e6,rfl,o5,oT,oA,P,nb⟩;have lq:=P.sep.le;by_cases c:q<2
 rotate_left
 .have z : ((q : Int) < 2) = False := eq_false NH
  obtain rfl:q=2:=NH;have e2:YB m ((a:Int),(b:Int)) 2=AL m ((a:Int),(b:Int)):=by simp[YB,AL]
  rw[e2,<-et]at P;simp only[HO,Nat.reduceLT,↓reduceIte,Nat.reduceEqDiff,reduceCtorEq,z,aw];exact tn (es.length-(j+1)) [(0,.pointer (some ⟨B,0,none⟩)),(7,.func (.func 143) #[] #[.pointer (some ⟨s,0,none⟩)]),(10,J),(11,.slice (some ⟨A,0,none⟩) i i),(77,ev),(78,.int .i64 (es.length:Nat)),(79,.int .i64 (j+1:Nat))] (JS K) fD ⟨j+1,L,at_,J,vs,rfl,K,rfl,o5,oT,oA,F,AT,P,nb⟩
 have z:((q:Int)<2)=True:=eq_true NH;have ix:=ix42 ((a:Int),(b:Int)) q c;have ck:=BM m ((a:Int),(b:Int)) q c;have eB:∃v:Nat,zR ((a:Int),(b:Int)) q=(v:Int)/\v<i:=by
  unfold zR;split
  all_goals grind
 obtain⟨v,hv,dJ⟩:=eB;rw[hv]at ix ck;rw[yY]at ck;have sq:=hs.le lq;have cC:=I hq lq v dJ;have eC:aField Tryz.prog 77 (.pointer (some ⟨B,0,none⟩)) 2=some (.pointer (some ⟨B,2,none⟩)):=rfl;have dL:=Tw q NH;have cE:k<(ps.set k (l++[((a:Int),(b:Int))],(YB m ((a:Int),(b:Int)) q).foldl Uo ft)).length:=pw;have cN:(ps.set k (l++[((a:Int),(b:Int))],(YB m ((a:Int),(b:Int)) q).foldl Uo ft))[k]?=some (l++[((a:Int),(b:Int))],(YB m ((a:Int),(b:Int)) q).foldl Uo ft):=by rw[jz,if_pos rfl,if_pos bI]
 cases co:m v with
 |false=>
  rw[co]at cC ck;have e2:YB m ((a:Int),(b:Int)) q=YB m ((a:Int),(b:Int)) (q+1):=pw;rw[e2]at P;refine Sk (rE z ix eC sq.l2 (H v dJ) cC dL) ?_;exact tn (2-(q+1)) [(0,.pointer (some ⟨B,0,none⟩)),(7,.func (.func 143) #[] #[.pointer (some ⟨s,0,none⟩)]),(10,J),(11,.slice (some ⟨A,0,none⟩) i i),(15,.int .i64 (k:Int)),(77,ev),(78,.int .i64 (es.length:Nat)),(79,.int .i64 (j:Nat)),(149,UI ((a:Int),(b:Int))),(150,.int .i64 (q+1:Nat))] (JS c) fD ⟨q+1,vs,rfl,c,rfl,o5,oT,oA,P,nb⟩
 |true=>
  rw[co,if_pos rfl]at ck;rw[co]at cC;have eF:(YB m ((a:Int),(b:Int)) (q+1)).foldl Uo ft=Uo ((YB m ((a:Int),(b:Int)) q).foldl Uo ft) (v:Int):=by rw[ck,abl];rfl
  have cR:((YB m ((a:Int),(b:Int)) q).foldl Uo ft).length<=100000:=by
   have h1:∀(xs acc:RZ),(xs.foldl Uo acc).length<=acc.length+xs.length:=fun xs=>by
    induction xs with
    |nil=>grind
    |cons x xs ih=>
     intro acc;have:=ih (Uo acc x);have h2:(Uo acc x).length<=acc.length+1:=by unfold Uo;split<;>simp
     rw[pM,BR];omega
   have h2:(YB m ((a:Int),(b:Int)) q).length<=2:=Db (IK _ _) (by rw[Po];exact Nat.min_le_right _ _);have:=h1 (YB m ((a:Int),(b:Int)) q) ft;omega
  generalize (YB m ((a:Int),(b:Int)) q).foldl Uo ft=fq at*;have vl:=P.len;have eE:2*k+1<vs.length:=pw;obtain⟨gE,gF⟩:=P.ge k _ cN;simp only at gE gF;have a3:=P.sl.ad3 cE;have r1:=eA3 P.sl cE (r:=1);have ldF:=P.ldF cE;simp only[HO,Nat.reduceLT,↓reduceIte,Nat.reduceEqDiff,reduceCtorEq,z,ix,eC,sq.l2,H v dJ,cC,a3,pf1,r1,ldF];refine TC.intro PJ ⟨Tryz.func101,rfl,WY⟩ (W3 W0 _ fq (v:Int) hq gF.rl cR) ?_;rintro y h9 w9 ⟨rfl,rfl⟩;by_cases cm:(v:Int)∈fq
  .have e3 : Uo fq (v : Int) = fq := by unfold Uo; grind
   rw[e3]at eF;rw[<-eF]at P;simp only[HO,Nat.reduceLT,↓reduceIte,Nat.reduceEqDiff,reduceCtorEq,decide_eq_true cm,dL];exact tn (2-(q+1)) [(0,.pointer (some ⟨B,0,none⟩)),(7,.func (.func 143) #[] #[.pointer (some ⟨s,0,none⟩)]),(10,J),(11,.slice (some ⟨A,0,none⟩) i i),(15,.int .i64 (k:Int)),(77,ev),(78,.int .i64 (es.length:Nat)),(79,.int .i64 (j:Nat)),(149,UI ((a:Int),(b:Int))),(150,.int .i64 (q+1:Nat))] (JS c) fD ⟨q+1,vs,rfl,c,rfl,o5,oT,oA,P,nb⟩
  .have e3 : Uo fq (v : Int) = fq ++ [(v : Int)] := by unfold Uo; grind
   rw[e3]at eF;obtain⟨u',g4,g5,q4,q5,eQ,cx,m4,cz,bW⟩:=gF.push c0 (v:Int) cR;obtain⟨h7,cf,P7,w7,ew,b0⟩:=P.setR (t:=49) (r:=1) (u':=u') (pk:=(l++[((a:Int),(b:Int))],fq++[(v:Int)])) Mb Ji cE NH cx cz bW (.inr ⟨rfl,eQ,fq,cN⟩);rw[List.set_set,<-eF]at P7;have av:∀c∈[T,s,A],∀u∈J::vs,blk u≠some c:=fun c G u w=>nb u w c G;have M:=b0 s _ o5 (av s Ma);have O:=b0 T _ oT (av T Ma);have Q:=b0 A _ oA (av A Ma);have u0:vs.getD (2*k+1) rW∈J::vs:=by rw[D4 eE];exact Og _ (VU eE)
   have bh:∀c∈[T,s,A],∀o,h9.own c=some o->blk u'≠some c:=fun c G o ho=>(bW c o ho (av c G _ u0)).2;have X:NB [T,s,A] (J::vs.set (2*k+1) u'):=fun u w c G=>by
    rcases Z6.1 w with rfl|w
    .exact nb u Ma c G
    .rcases Yq w with w | rfl
     .exact nb u (by simp[w]) c G
     .simp only [Z6, vg, or_false] at G
      rcases G with rfl|rfl|rfl
      .exact bh _ Ma _ oT
      .exact bh _ Ma _ o5
      .exact bh _ Ma _ oA
   simp only[HO,Nat.reduceLT,↓reduceIte,Nat.reduceEqDiff,reduceCtorEq,decide_eq_false cm,a3,pf1,r1,ldF,q4,q5,cf,dL];exact tn (2-(q+1)) [(0,.pointer (some ⟨B,0,none⟩)),(7,.func (.func 143) #[] #[.pointer (some ⟨s,0,none⟩)]),(10,J),(11,.slice (some ⟨A,0,none⟩) i i),(15,.int .i64 (k:Int)),(77,ev),(78,.int .i64 (es.length:Nat)),(79,.int .i64 (j:Nat)),(149,UI ((a:Int),(b:Int))),(150,.int .i64 (q+1:Nat))] (JS c) fD ⟨q+1,_,rfl,c,rfl,M,O,Q,P7,X⟩
end
end Go.Fw
