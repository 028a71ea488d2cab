/- A text. -/
import Derived.Test.YtkccdnmaaelbiaaGreatFwLJ5
set_option linter.all false
set_option maxRecDepth 99999
set_option maxHeartbeats 9999999
open Go.Proofs
namespace Go.Fw
section
attribute [local instance] Classical.propDecidable
attribute [local irreducible] Kp MQ lU rS KO KN KX KE VK Kl ZJ TC aab
variable {P:Program} {W0:LA} {h:aae} {i n:Nat} {on:Nat->Bool}
def NB(X:II)(vs:List Value):Prop:=∀u∈vs,∀b∈X,blk u≠some b
def ZJ.UJ{N:Nat}{ops:Array Oper}{ks:List Kt}{R:Exit->aap->aae->Prop}{fr:aap}(q:∀fr' h',fr'=fr->h'=h->ZJ P W0 N i ops ks R fr' h'):ZJ P W0 N i ops ks R fr h:=q fr h rfl rfl
theorem Qr{es l:List Pr}(hR:InR n es)(c:∀e∈l,e∈es):(kZ (BY on l)).length<=n:=by
 obtain⟨d,h2⟩:=VW (BY on l);have:=agO d (B:=aaa (List.range n)) fun x f=>by obtain⟨_,e,g,h⟩:=zS.1 ((h2 x).1 f);obtain⟨a,b,rfl,i,hb⟩:=jB hR (c e g);refine N8.2 ?_;grind
 grind[aaa]
theorem Xr(W0:LA)(B n:Nat)(bv ov fv iv lv ev:Value)(on:List Bool)(es:List Pr)(h:aae)(hs:Sr h B n bv ov fv iv lv)(ho:RL sJ h ov on)(eg:on.length=n)(he:PR h ev es)(hR:InR n es)(hn:n<=300)(db:es.length<=1000):
  AC Tryz.prog W0 102 [.pointer (some ⟨B,0,none⟩),ev] h fun x h'=>∃vs,Wq h h' x vs (qT (Wg on) (ac3 (frL n (Wg on) es) es [] es.length)):=by
 refine AC.vE ⟨Tryz.func102,rfl,WY⟩ Tryz.ntmps102 Tryz.results102 fun dc=>?_;simp only[Br,seval];obtain⟨h1,e1,l1,w1,o1⟩:=Tt dc (List.replicate n (.int .i64 0));have mk:=mk35 h n NH;rw[e1]at mk
 have nT:h.own h.next=none:=(Le.refl h).next dc (qL0 _)
 obtain⟨h2,e2,l2,w2,o2⟩:=Tt w1 [rW]
 have n5:h.own h1.next=none:=by grind[Le.next]
 have d5:h.next≠h1.next:=fun e=>by have:=w1.lt o1;omega
 have dd:=QB (P:=Tryz.prog) (t:=49) (x:=.slice (some ⟨h.next,0,none⟩) n n) Mb Ji o2 (off:=0) Ma rfl rfl
 simp only[HO,seval,sf0,Ip,Gc,hs.l0,mk,Hj,e2,dd]
 have l3:Le h (h2.put h1.next (.cells (([rW]:List Value).set 0 (.slice (some ⟨h.next,0,none⟩) n n)))):=(l1.trans l2).put _ n5
 have w3:WF (h2.put h1.next (.cells (([rW]:List Value).set 0 (.slice (some ⟨h.next,0,none⟩) n n)))):=w2.put _ (w2.lt o2)
 have cd:(h2.put h1.next (.cells (([rW]:List Value).set 0 (.slice (some ⟨h.next,0,none⟩) n n)))).own h1.next=some (.cells [.slice (some ⟨h.next,0,none⟩) n n]):=aae.Y3 _ _ _
 have de:(h2.put h1.next (.cells (([rW]:List Value).set 0 (.slice (some ⟨h.next,0,none⟩) n n)))).own h.next=some (.cells (Bp (hdL n 0))):=by rw[aae.By _ _ _ _ d5,hdL_zero,l2.own _ _ o1];simp[Bp]
 generalize h2.put h1.next (.cells (([rW]:List Value).set 0 (.slice (some ⟨h.next,0,none⟩) n n)))=h3 at*
 generalize h1.next=s at*
 generalize h.next=T at*
 clear dd o2 w2 l2 e2 o1 w1 l1 e1 mk;have bg:∀g,g.own s=some (.cells [.slice (some ⟨T,0,none⟩) n n])->acd Tryz.prog g 49 ⟨s,0,none⟩=some (.slice (some ⟨T,0,none⟩) n n):=fun g o=>by rw[Fq Mb rfl o];rfl
 have dZ:=fun g=>Jg (P:=Tryz.prog) (t:=49) (a:=some ⟨T,0,none⟩) (n:=n) (cap:=n) Mb g;refine Sk (XC (bg h3 cd) dZ) ?_;refine aab.intro (fun k fr hq=>∃i:Nat,k=n-i/\i<=n/\fr=mkF [(0,.pointer (some ⟨B,0,none⟩)),(1,ev),(5,.pointer (some ⟨s,0,none⟩)),(24,.int .i64 (n:Nat)),(25,.int .i64 (i:Nat))]/\hq.own s=some (.cells [.slice (some ⟨T,0,none⟩) n n])/\hq.own T=some (.cells (Bp (hdL n i)))/\Le h hq)
  n [(0,.pointer (some ⟨B,0,none⟩)),(1,ev),(5,.pointer (some ⟨s,0,none⟩)),(24,.int .i64 (n:Nat)),(25,.int .i64 (0:Nat))] hAs ⟨0,rfl,WA _,rfl,cd,de,l3⟩ ?_
 clear cd de l3 w3;rintro k fr hq cf ⟨i,rfl,hi,rfl,o5,oT,lq⟩;refine Uy ?_;refine Kl.intro (fun ht=>?_) (fun hf=>?_)
 .have b0:i<n:=CC ht;clear ht;have st:=stI oT (i:=i) (by grind[hdL_len]) (i:Int);rw[hdL_set b0]at st;simp only[HO,seval,bg hq o5,Kx T n .i64 i b0,st,Tw i NH];exact tn (n-(i+1)) [(0,.pointer (some ⟨B,0,none⟩)),(1,ev),(5,.pointer (some ⟨s,0,none⟩)),(24,.int .i64 (n:Nat)),(25,.int .i64 (i+1:Nat))] (JS b0) hAs ⟨i+1,rfl,b0,rfl,by rw[aae.By _ _ _ _ (Hs d5)];exact o5,aae.Y3 _ _ _,lq.put _ nT⟩
 have br:n<=i:=vp hf;obtain rfl:i=n:=NH;rw[hdL_all]at oT;have df:=fun g=>he.len g;have F0:=Fst.zero i;refine Sk df ?_;clear hf hi br;generalize eh:Wg on=m at*;have I:∀g,Le h g->∀v,v<i->acd Tryz.prog g 4 (abv ov v)=some (.bool (m v)):=fun g lg v hv=>by grind[RL.le,Nn.sJ,RL.W7]
 have H:∀v,v<i->abX Tryz.prog 59 ov (.int .i64 (v:Int))=some (.pointer (some (abv ov v))):=fun v hv=>ho.LB v NH;refine aab.intro (fun k fr hz=>∃(j:Nat)(L:RZ)(ρ d:Nat->Nat),k=es.length-j/\j<=es.length/\fr=mkF [(0,.pointer (some ⟨B,0,none⟩)),(1,ev),(5,.pointer (some ⟨s,0,none⟩)),(7,.func (.func 143) #[] #[.pointer (some ⟨s,0,none⟩)]),(34,ev),(35,.int .i64 (es.length:Nat)),(36,.int .i64 (j:Nat))]/\
   hz.own s=some (.cells [.slice (some ⟨T,0,none⟩) i i])/\hz.own T=some (.cells (Bp L))/\Le h hz/\Fst i L ρ d/\Cls i m (es.take j) ρ)
  es.length [(0,.pointer (some ⟨B,0,none⟩)),(1,ev),(5,.pointer (some ⟨s,0,none⟩)),(7,.func (.func 143) #[] #[.pointer (some ⟨s,0,none⟩)]),(34,ev),(35,.int .i64 (es.length:Nat)),(36,.int .i64 (0:Nat))] hAs
  ⟨0,_,_,_,rfl,WA _,rfl,o5,oT,lq,F0,cls_nil⟩ ?_
 clear F0 oT o5 lq cf;rintro k fr hz aF ⟨j,L,ρ,d,rfl,hj,rfl,o5,oT,lz,F,C⟩;refine Uy ?_;refine Kl.intro (fun ht=>?_) (fun hf=>?_)
 .have K:j<es.length:=CC ht;clear ht;have b1:=CA K;have cg:es.take (j+1)=es.take j++[es[j]]:=EL K;have dj:InR i (es.take (j+1)):=fun p hp=>hR p (aez hp);obtain⟨a,b,ck,ec,hb⟩:=jB hR (j9 K);have ad:=he.addr (k:=.i64) j K;have ld:=(he.le lz).load b1;generalize es[j]=p at*;subst ck;rw[cg]at dj;obtain⟨h4,h5,e4,e5,l5,w5,oE⟩:=Ut aF ((a:Int),(b:Int));have N:=lz.trans l5;have al:=l5.own _ _ o5;have a8:=l5.own _ _ oT;have L0:=lK oE;have L1:=HY oE;simp only at L0 L1
  have nE:∀{x o},hz.own x=some o->x≠hz.next:=fun{x o} hx e=>by have:=aF.lt hx;omega
  have ay:=nE oT
  generalize hz.next=E at*
  have D:a<i:=NH;have s5:=hs.le N;have aw:=Tw j (Lb K (QJ db));by_cases ca:m a=true
  .have C':Cls i m (es.take (j+1)) ρ:=by rw[cg];exact bD C pw (.inl (by simpa using ca))
   have lo:=I h5 N a D;rw[ca]at lo;simp only[HO,seval,ad,ld,e4,e5];refine gh (tA [0,1,2,3,4,5,6,7,8,9,10,11,12,13,14,15,16,17,18,19] .done) ?_;simp only[HO,seval,Qg,sf2,Ip,Gc,s5.l2,Dh,L0,H a D,lo,aw];exact tn (es.length-(j+1)) [(0,.pointer (some ⟨B,0,none⟩)),(1,ev),(5,.pointer (some ⟨s,0,none⟩)),(7,.func (.func 143) #[] #[.pointer (some ⟨s,0,none⟩)]),(34,ev),(35,.int .i64 (es.length:Nat)),(36,.int .i64 (j+1:Nat))] (JS K) hAs
    ⟨j+1,L,ρ,d,rfl,K,rfl,al,a8,N,F,C'⟩
  rw[SR]at ca;have lo:=I h5 N a D;rw[ca]at lo;by_cases cb:m b=true
  .have C':Cls i m (es.take (j+1)) ρ:=by grind[bD]
   have bx:=I h5 N b hb;rw[cb]at bx;simp only[HO,seval,ad,ld,e4,e5];refine gh (tA [0,1,2,3,4,5,6,7,8,9,10,11,12,13,14,15,16,17,18,19] .done) ?_;simp only[HO,seval,Qg,sf2,Ip,Gc,s5.l2,Dh,Z0,L0,L1,H a D,H b hb,lo,bx,aw];exact tn (es.length-(j+1)) [(0,.pointer (some ⟨B,0,none⟩)),(1,ev),(5,.pointer (some ⟨s,0,none⟩)),(7,.func (.func 143) #[] #[.pointer (some ⟨s,0,none⟩)]),(34,ev),(35,.int .i64 (es.length:Nat)),(36,.int .i64 (j+1:Nat))] (JS K) hAs
    ⟨j+1,L,ρ,d,rfl,K,rfl,al,a8,N,F,C'⟩
  rw[SR]at cb;have bx:=I h5 N b hb;rw[cb]at bx;have C':=cls_join C dj ca cb;rw[<-cg]at C';simp only[HO,seval,ad,ld,e4,e5];refine gh (tA [0,1,2,3,4,5,6,7,8,9,10,11,12,13,14,15,16,17,18,19] .done) ?_;simp only[HO,seval,Qg,sf2,Ip,Gc,s5.l2,Dh,Z0,L0,L1,H a D,H b hb,lo,bx];refine gh (tA [0,1,2,3,5,6,7] (JQ 4 [1,3] (JQ 8 [4,5,7] (tA [9] (JQ 10 [0,1,2,3,4,5,6,7,8,9] .done))))) ?_;refine CO (rE (bg h5 al) @Ip.eq_1 @Gc @Dh @Z0 L0 L1) ?_;refine kGi UP (Y9 W0 s T i L ρ d a h5 al a8 d5 F D) ?_;rintro x h6 w6 ⟨rfl,L',F6,ba,bB,ae⟩;have ag:=ae s _ (Hs d5) al;have az:=ae E _ (Hs ay) oE;have dk:=lK az;have dm:=HY az;simp only at dk dm;have ra:=F.rt a D;have rb:=F.rt b hb;refine CO (rE (bg h6 ag) @Ip.eq_1 @Gc @Dh @Z0 dk dm) ?_;refine kGi UP (Y9 W0 s T i L' ρ d b h6 ag ba d5 F6 hb) ?_;rintro x h7 w7 ⟨rfl,ei,F7,O,bF,aj⟩;have M:=aj s _ (Hs d5) ag;have R:=aj E _ (Hs ay) az;have dp:=lK R;have dq:=HY R;simp only at dp dq;have st:=stI O (i:=ρ a) (by grind[Fst.len]) (ρ b:Int);simp only[HO,seval,Qg,bg h6 ag,bg h7 M,Ip,Gc,Dh,Z0,dp,dq,Kx T i .i64 (ρ a) ra.1,st,aw];exact tn (es.length-(j+1)) [(0,.pointer (some ⟨B,0,none⟩)),(1,ev),(5,.pointer (some ⟨s,0,none⟩)),(7,.func (.func 143) #[] #[.pointer (some ⟨s,0,none⟩)]),(34,ev),(35,.int .i64 (es.length:Nat)),(36,.int .i64 (j+1:Nat))] (JS K) hAs
   ⟨j+1,_,_,_,rfl,K,rfl,by grind[aae.By],aae.Y3 _ _ _,(bF h (bB h N nT) nT).put _ nT,F7.join ra.1 rb.1 ra.2 rb.2,C'⟩
 have br:es.length<=j:=vp hf;rw[HV br]at C;have aa:=fun v hv=>(F.rt v hv).1;clear br hf hj;obtain⟨h4,e4,l4,w4,o4⟩:=Tt aF [.int .i64 (-1)];have s4:=hs.le (lz.trans l4);refine Sk (bG @DQ e4 @sf0 @Ip.eq_1 @Gc s4.l0) ?_;refine kCi NQ (rN W0 _ i NH h4 (RL.Wh (RS.whole o4 rfl))) ?_;rintro x h8 w8 ⟨A,rfl,hA,o8,l8⟩;have b2:=l4.trans l8;have aH:=lz.trans b2;have aJ:h8.own A=some (.cells (Bp (List.replicate i (-1)))):=by rw[o8];simp[Bp]
 have bh:=b2.own _ _ o5;have bj:=b2.own _ _ oT
 have nA:h.own A=none:=(lz.trans l4).next w4 hA
 have dA:∀{b o},hz.own b=some o->A≠b:=fun{b o} ob e=>by have:=w4.lt (l4.own _ _ ob);omega
 have aK:=dA oT;have dv:=dA o5;have A0:AtP i m es ρ (ac3 (frL i m es) es [] 0) (List.replicate i (-1)):=AtP.zero aa;have P0:Wq h h8 rW [] (qT m (ac3 (frL i m es) es [] 0)):=(Wq.nil h).up aH;refine Sk df ?_;refine aab.intro (fun k fr hz=>∃(j:Nat)(L at_:RZ)(J:Value)(vs:List Value),k=es.length-j/\j<=es.length/\fr=mkF [(0,.pointer (some ⟨B,0,none⟩)),(7,.func (.func 143) #[] #[.pointer (some ⟨s,0,none⟩)]),(10,J),(11,.slice (some ⟨A,0,none⟩) i i),(77,ev),(78,.int .i64 (es.length:Nat)),(79,.int .i64 (j:Nat))]/\
   hz.own s=some (.cells [.slice (some ⟨T,0,none⟩) i i])/\hz.own T=some (.cells (Bp L))/\hz.own A=some (.cells (Bp at_))/\Fst i L ρ d/\AtP i m es ρ (ac3 (frL i m es) es [] j) at_/\Wq h hz J vs (qT m (ac3 (frL i m es) es [] j))/\NB [T,s,A] (J::vs))
  es.length [(0,.pointer (some ⟨B,0,none⟩)),(7,.func (.func 143) #[] #[.pointer (some ⟨s,0,none⟩)]),(10,rW),(11,.slice (some ⟨A,0,none⟩) i i),(77,ev),(78,.int .i64 (es.length:Nat)),(79,.int .i64 (0:Nat))] hAs
  ⟨0,L,_,rW,[],rfl,WA _,rfl,bh,bj,aJ,F,A0,P0,fun u w b _ q=>by rw[jf.1 w]at q;cases q⟩ ?_
 clear A0 P0 bj bh aJ o8 l8 w8 o4 e4 F oT o5 aF s4 lz aH b2 l4 w4 hA dA;clear h8 h4 hz L j;rintro k fr hz aF ⟨j,L,at_,J,vs,rfl,hj,rfl,o5,oT,oA,F,AT,P,nb⟩;have lz:=P.sep.le;refine Uy ?_;refine Kl.intro (fun ht=>?_) (fun hf=>?_)
 rotate_left
 .have br:es.length<=j:=vp hf;obtain rfl:j=es.length:=NH;refine Uy ?_;grind
 have K:j<es.length:=CC ht;clear ht;have b1:=CA K;obtain⟨a,b,ck,ec,hb⟩:=jB hR (j9 K);have ad:=he.addr (k:=.i64) j K;have ld:=(he.le lz).load b1;generalize es[j]=p at*;subst ck;have eG:=dh (fr:=frL i m es) b1 (show(((a:Int),(b:Int)):Pr)∉([]:List Pr) by simp);obtain⟨nk,-,dw,ej,ed⟩:=Pt (frL i m es) es [] j;obtain⟨h4,h5,e4,e5,l5,w5,oE⟩:=Ut aF ((a:Int),(b:Int));have N:=lz.trans l5;have al:=l5.own _ _ o5;have a8:=l5.own _ _ oT;have cp:=l5.own _ _ oA;have P5:=P.up l5
 have nE:∀{x o},hz.own x=some o->x≠hz.next:=fun{x o} hx e=>by have:=aF.lt hx;omega
 have ay:=nE oT;have dz:=nE oA
 have ek:h.own hz.next=none:=by grind[Le.next]
 have aP:∀u∈J::vs,blk u≠some hz.next:=fun u w q=>by
  obtain⟨t,ht⟩:=qy.1 w;have:=P.sep.own t u _ ht q
  exact this ((Le.refl hz).next aF (qL0 _))
 generalize hz.next=E at*
 have D:a<i:=NH;have aw:=Tw j (Lb K (QJ db));have cq:∀g,g.own E=some (.cells (xM ((a:Int),(b:Int))))->acd Tryz.prog g 3 ⟨E,0,none⟩=some (.int .i64 (a:Int)):=fun g o=>lK o;have dB:∀g,g.own E=some (.cells (xM ((a:Int),(b:Int))))->acd Tryz.prog g 3 ⟨E,1,none⟩=some (.int .i64 (b:Int)):=fun g o=>HY o;have aT:=fun v hv=>Kx A i .i64 v hv;have S:(qT m (ac3 (frL i m es) es [] j)).length=(ac3 (frL i m es) es [] j).length:=by simp[qT]
 apply Ya (F:=fun(fr:aap)(h6:aae)=>∃(k:Nat)(L at_:RZ)(J:Value)(vs:List Value)(ps:List (List Pr×RZ))(l:List Pr)(ft:RZ),Fj fr [(0,.pointer (some ⟨B,0,none⟩)),(7,.func (.func 143) #[] #[.pointer (some ⟨s,0,none⟩)]),(10,J),(11,.slice (some ⟨A,0,none⟩) i i),(13,.pointer (some ⟨E,0,none⟩)),(15,.int .i64 (k:Int)),(77,ev),(78,.int .i64 (es.length:Nat)),(79,.int .i64 (j:Nat))]/\
   WF h6/\h6.own s=some (.cells [.slice (some ⟨T,0,none⟩) i i])/\h6.own T=some (.cells (Bp L))/\h6.own A=some (.cells (Bp at_))/\h6.own E=some (.cells (xM ((a:Int),(b:Int))))/\Fst i L ρ d/\AtP i m es ρ (ac3 (frL i m es) es [] (j+1)) at_/\Wq h h6 J vs ps/\NB [T,s,A] (J::vs)/\(∀u∈J::vs,blk u≠some E)/\
   ps[k]?=some (l,ft)/\l.length<=j/\ft.length<=i/\qT m (ac3 (frL i m es) es [] (j+1))=ps.set k (l++[((a:Int),(b:Int))],(ftP m ((a:Int),(b:Int))).foldl Uo ft))
 .intro cont;have s5:=hs.le N;have aV:∀{k:Nat}{f:Int}{l:List Pr},(ac3 (frL i m es) es [] j)[k]?=some (f,l)->∀e∈l,e∈es:=fun{k f l} hk e ee=>ed _ (BS hk) e ee;cases ca:m a with
  |false=>
   have hf:frL i m es ((a:Int),(b:Int)) j=Gu i m es a:=by unfold frL Zo;simp only[af8];grind
   have bH:=I h5 N a D;rw[ca]at bH;rw[hf]at eG;simp only[HO,seval,ad,ld,e4,e5,Dh,sf2,Ip,Gc,s5.l2,cq h5 oE,H a D,bH,P5.len_,H a D];refine kCi UP (Y9 W0 s T i L ρ d a h5 al a8 d5 F D) ?_;rintro y h6 w6 ⟨rfl,L6,F6,ba,bB,ae⟩;have aB:=bB h N nT;have s6:=hs.le aB;have cr:=I h6 aB a D;rw[ca]at cr;have ag:=ae s _ (Hs d5) al;have aC:=ae A _ aK cp;have az:=ae E _ (Hs ay) oE;have P6:=P5.kept aB fun c o G ho=>ae c o (fun e=>by obtain⟨u,w,hb⟩:=G;exact nb u w T Ma (by rw[<-e];exact hb)) ho;rcases AT.val a D ca with⟨k,l,aD,U⟩|⟨aD,U⟩
   .have bb:=XP aC aD;have kp:decide ((k:Int)>=0)=true:=XJ NH;obtain⟨q1,q2⟩:=AT.qi nk U ((a:Int),(b:Int));refine Sk (Yb (aT (ρ a) (aa a D)) bb kp) ?_;refine kCi UP (Y9 W0 s T i L6 ρ d a h6 ag ba d5 F6 D) ?_;rintro y h7 w7 ⟨rfl,L7,F7,O,bF,aj⟩;have M:=aj s _ (Hs d5) ag;have Q:=aj A _ aK aC;have R:=aj E _ (Hs ay) az;have V:=bF h aB nT;have P7:=P6.kept V fun c o G ho=>aj c o (fun e=>by obtain⟨u,w,hb⟩:=G;exact nb u w T Ma (by rw[<-e];exact hb)) ho;have bI:=XP Q aD;refine Sk (XC (aT (ρ a) (aa a D)) bI) ?_;refine ZJ.UJ fun fr' h' x y=>cont fr' h' ?_;subst x y;have cx:=dw _ (BS U);refine⟨k,L7,at_,J,vs,_,l,kZ (BY m l),hAs,w7,M,O,Q,R,F7,by rw[eG,q1];exact q2,P7,nb,aP,?_,cx,Qr hR (aV U),?_⟩
    .unfold qT;rw[F3,U];rfl
    .rw[eG,q1,ps_old,KS]
   .have bb:=XP aC aD;have kp:decide ((-1:Int)>=0)=false:=by decide
    have q1:=V4 U ((a:Int),(b:Int));have q2:=AT.new C aa D ca U ((a:Int),(b:Int));obtain⟨aq,g4,g5,q4,q5,P7,w7,dE,dF,W⟩:=P6.push w6 (by rw[S];omega);have ar:∀c,c∈[T,s,A]->blk J≠some c:=fun c G=>nb J Ma c G;obtain⟨M,bN⟩:=W s _ ag (ar s Ma);obtain⟨O,bQ⟩:=W T _ ba (ar T Ma);obtain⟨Q,bT⟩:=W A _ aC (ar A Ma);obtain⟨R,aW⟩:=W E _ az (aP J Ma);have V:=P7.sep.le;have s7:=hs.le V;have aX:=I g5 V a D;rw[ca]at aX;have X:NB [T,s,A] (aq::(vs++[rW,rW])):=fun u w c G=>by
     simp only[vZ,yM,Bx,or_false]at w;rcases w with rfl|w|rfl|rfl
     .simp only[vZ,Bx,or_false]at G;rcases G with rfl|rfl|rfl
      .exact bQ
      .exact bN
      .exact bT
     .exact nb u (by simp[w]) c G
     .simp[blk]
     .simp[blk]
    have a1:∀u∈aq::(vs++[rW,rW]),blk u≠some E:=fun u w=>by
     simp only[vZ,yM,Bx,or_false]at w;rcases w with rfl|w|rfl|rfl
     .exact aW
     .exact aP u (by simp[w])
     .simp[blk]
     .simp[blk]
    refine Sk (aga (aT (ρ a) (aa a D)) bb kp @bld0 q4 q5 @sf2 @Ip.eq_1 @Gc s7.l2 (H a D) aX) ?_;refine kCi UP (Y9 W0 s T i L6 ρ d a g5 M O d5 F6 D) ?_;rintro y h8 w8 ⟨rfl,L8,F8,bj,cz,aE⟩;have bh:=aE s _ (Hs d5) M;have aJ:=aE A _ aK Q;have cC:=aE E _ (Hs ay) R;have aH:=cz h V nT;have P8:=P7.kept aH fun c o G ho=>aE c o (fun e=>by obtain⟨u,w,hb⟩:=G;exact X u w T Ma (by rw[<-e];exact hb)) ho;have cE:=stI aJ (i:=ρ a) (by rw[AT.len];exact aa a D) ((ac3 (frL i m es) es [] j).length:Int);have cM:=aH.put (.cells (Bp (at_.set (ρ a) ((ac3 (frL i m es) es [] j).length:Int)))) nA;have P9:=P8.kept cM fun c o G ho=>by obtain⟨u,w,hb⟩:=G;rw[aae.By _ _ _ _ (fun e=>X u w A Ma (by rw[<-e];exact hb))];exact ho
    have a6:((qT m (ac3 (frL i m es) es [] j)).length:Int)=((ac3 (frL i m es) es [] j).length:Int):=by rw[S]
    refine Sk (Yb (aT (ρ a) (aa a D)) a6 cE) ?_;refine ZJ.UJ fun fr' h' x y=>cont fr' h' ?_;subst x y;refine⟨(ac3 (frL i m es) es [] j).length,L8,_,aq,_,_,[],[],hAs,w8.put _ (w8.lt aJ),by rw[aae.By _ _ _ _ (Hs dv)];exact bh,by rw[aae.By _ _ _ _ (Hs aK)];exact bj,aae.Y3 _ _ _,by rw[aae.By _ _ _ _ (Hs dz)];exact cC,F8,by rw[eG,q1];exact q2,P9,X,a1,?_,WA _,WA _,?_⟩
    .rw[Og (by rw[S];exact qL0 _),S,Q4];rfl
    .rw[eG,q1,Xe,<-S,acw _ _ (qL0 _),Q4];rfl
  |true=>
   have cN:=I h5 N a D;rw[ca]at cN;cases cb:m b with
   |false=>
    have hf:frL i m es ((a:Int),(b:Int)) j=Gu i m es b:=by unfold frL Zo;simp only[af8];rw[aal (by rw[ca];simp),AE cb]
    have bH:=I h5 N b hb;rw[cb]at bH;rw[hf]at eG;simp only[HO,seval,ad,ld,e4,e5,Dh,Z0,sf2,Ip,Gc,s5.l2,cq h5 oE,dB h5 oE,H a D,cN,bH,P5.len_,H b hb];refine kCi UP (Y9 W0 s T i L ρ d b h5 al a8 d5 F hb) ?_;rintro y h6 w6 ⟨rfl,L6,F6,ba,bB,ae⟩;have aB:=bB h N nT;have s6:=hs.le aB;have cr:=I h6 aB b hb;rw[cb]at cr;have ag:=ae s _ (Hs d5) al;have aC:=ae A _ aK cp;have az:=ae E _ (Hs ay) oE;have P6:=P5.kept aB fun c o G ho=>ae c o (fun e=>by obtain⟨u,w,hb⟩:=G;exact nb u w T Ma (by rw[<-e];exact hb)) ho;rcases AT.val b hb cb with⟨k,l,aD,U⟩|⟨aD,U⟩
    .have bb:=XP aC aD;have kp:decide ((k:Int)>=0)=true:=XJ NH;obtain⟨q1,q2⟩:=AT.qi nk U ((a:Int),(b:Int));refine Sk (Yb (aT (ρ b) (aa b hb)) bb kp) ?_;refine kCi UP (Y9 W0 s T i L6 ρ d b h6 ag ba d5 F6 hb) ?_;rintro y h7 w7 ⟨rfl,L7,F7,O,bF,aj⟩;have M:=aj s _ (Hs d5) ag;have Q:=aj A _ aK aC;have R:=aj E _ (Hs ay) az;have V:=bF h aB nT;have P7:=P6.kept V fun c o G ho=>aj c o (fun e=>by obtain⟨u,w,hb⟩:=G;exact nb u w T Ma (by rw[<-e];exact hb)) ho;have bI:=XP Q aD;refine Sk (XC (aT (ρ b) (aa b hb)) bI) ?_;refine ZJ.UJ fun fr' h' x y=>cont fr' h' ?_;subst x y;have cx:=dw _ (BS U);refine⟨k,L7,at_,J,vs,_,l,kZ (BY m l),hAs,w7,M,O,Q,R,F7,by rw[eG,q1];exact q2,P7,nb,aP,?_,cx,Qr hR (aV U),?_⟩
     .unfold qT;rw[F3,U];rfl
     .rw[eG,q1,ps_old,KS]
    .have bb:=XP aC aD;have kp:decide ((-1:Int)>=0)=false:=by decide
     have q1:=V4 U ((a:Int),(b:Int));have q2:=AT.new C aa hb cb U ((a:Int),(b:Int));obtain⟨aq,g4,g5,q4,q5,P7,w7,dE,dF,W⟩:=P6.push w6 (by rw[S];omega);have ar:∀c,c∈[T,s,A]->blk J≠some c:=fun c G=>nb J Ma c G;obtain⟨M,bN⟩:=W s _ ag (ar s Ma);obtain⟨O,bQ⟩:=W T _ ba (ar T Ma);obtain⟨Q,bT⟩:=W A _ aC (ar A Ma);obtain⟨R,aW⟩:=W E _ az (aP J Ma);have V:=P7.sep.le;have s7:=hs.le V;have aX:=I g5 V b hb;rw[cb]at aX;have X:NB [T,s,A] (aq::(vs++[rW,rW])):=fun u w c G=>by
      simp only[vZ,yM,Bx,or_false]at w;rcases w with rfl|w|rfl|rfl
      .simp only[vZ,Bx,or_false]at G;rcases G with rfl|rfl|rfl
       .exact bQ
       .exact bN
       .exact bT
      .exact nb u (by simp[w]) c G
      .simp[blk]
      .simp[blk]
     have a1:∀u∈aq::(vs++[rW,rW]),blk u≠some E:=fun u w=>by
      simp only[vZ,yM,Bx,or_false]at w;rcases w with rfl|w|rfl|rfl
      .exact aW
      .exact aP u (by simp[w])
      .simp[blk]
      .simp[blk]
     refine Sk (aga (aT (ρ b) (aa b hb)) bb kp @bld0 q4 q5 @sf2 @Ip.eq_1 @Gc s7.l2 (H b hb) aX) ?_;refine kCi UP (Y9 W0 s T i L6 ρ d b g5 M O d5 F6 hb) ?_;rintro y h8 w8 ⟨rfl,L8,F8,bj,cz,aE⟩;have bh:=aE s _ (Hs d5) M;have aJ:=aE A _ aK Q;have cC:=aE E _ (Hs ay) R;have aH:=cz h V nT;have P8:=P7.kept aH fun c o G ho=>aE c o (fun e=>by obtain⟨u,w,hb⟩:=G;exact X u w T Ma (by rw[<-e];exact hb)) ho;have cE:=stI aJ (i:=ρ b) (by rw[AT.len];exact aa b hb) ((ac3 (frL i m es) es [] j).length:Int);have cM:=aH.put (.cells (Bp (at_.set (ρ b) ((ac3 (frL i m es) es [] j).length:Int)))) nA;have P9:=P8.kept cM fun c o G ho=>by obtain⟨u,w,hb⟩:=G;rw[aae.By _ _ _ _ (fun e=>X u w A Ma (by rw[<-e];exact hb))];exact ho
     have a6:((qT m (ac3 (frL i m es) es [] j)).length:Int)=((ac3 (frL i m es) es [] j).length:Int):=by rw[S]
     refine Sk (Yb (aT (ρ b) (aa b hb)) a6 cE) ?_;refine ZJ.UJ fun fr' h' x y=>cont fr' h' ?_;subst x y;refine⟨(ac3 (frL i m es) es [] j).length,L8,_,aq,_,_,[],[],hAs,w8.put _ (w8.lt aJ),by rw[aae.By _ _ _ _ (Hs dv)];exact bh,by rw[aae.By _ _ _ _ (Hs aK)];exact bj,aae.Y3 _ _ _,by rw[aae.By _ _ _ _ (Hs dz)];exact cC,F8,by rw[eG,q1];exact q2,P9,X,a1,?_,WA _,WA _,?_⟩
     .rw[Og (by rw[S];exact qL0 _),S,Q4];rfl
     .rw[eG,q1,Xe,<-S,acw _ _ (qL0 _),Q4];rfl
   |true=>
    have hf:frL i m es ((a:Int),(b:Int)) j=(i:Int)+j:=by unfold frL Zo;simp only[af8];rw[aal (by rw[ca];simp),aal (by rw[cb];simp)]
    have dG:=I h5 N b hb;rw[cb]at dG;rw[hf]at eG;have q1:=V4 (lone_new (on:=m) hR (i:=j)) ((a:Int),(b:Int));have q2:=AT.lone (f:=(i:Int)+j) NH ((a:Int),(b:Int));obtain⟨aq,g4,g5,q4,q5,P7,w7,dE,dF,W⟩:=P5.push w5 (by rw[S];omega);have ar:∀c,c∈[T,s,A]->blk J≠some c:=fun c G=>nb J Ma c G;obtain⟨M,bN⟩:=W s _ al (ar s Ma);obtain⟨O,bQ⟩:=W T _ a8 (ar T Ma);obtain⟨Q,bT⟩:=W A _ cp (ar A Ma);obtain⟨R,aW⟩:=W E _ oE (aP J Ma);have V:=P7.sep.le;have s7:=hs.le V;have aX:=I g5 V b hb;rw[cb]at aX;have X:NB [T,s,A] (aq::(vs++[rW,rW])):=fun u w c G=>by
     simp only[vZ,yM,Bx,or_false]at w;rcases w with rfl|w|rfl|rfl
     .simp only[vZ,Bx,or_false]at G;rcases G with rfl|rfl|rfl
      .exact bQ
      .exact bN
      .exact bT
     .exact nb u (by simp[w]) c G
     .simp[blk]
     .simp[blk]
    have a1:∀u∈aq::(vs++[rW,rW]),blk u≠some E:=fun u w=>by
     simp only[vZ,yM,Bx,or_false]at w;rcases w with rfl|w|rfl|rfl
     .exact aW
     .exact aP u (by simp[w])
     .simp[blk]
     .simp[blk]
    have a6:((qT m (ac3 (frL i m es) es [] j)).length:Int)=((ac3 (frL i m es) es [] j).length:Int):=by rw[S]
    simp only[HO,seval,ad,ld,e4,e5,Dh,Z0,sf2,Ip,Gc,s5.l2,cq h5 oE,dB h5 oE,H a D,cN,dG,P5.len_,H b hb,bld0,q4,q5,s7.l2,aX,a6];refine ZJ.UJ fun fr' h' x y=>cont fr' h' ?_;subst x y;refine⟨(ac3 (frL i m es) es [] j).length,L,at_,aq,_,_,[],[],hAs,w7,M,O,Q,R,F,by rw[eG,q1];exact q2,P7,X,a1,?_,WA _,WA _,?_⟩
    .rw[Og (by rw[S];exact qL0 _),S,Q4];rfl
    .rw[eG,q1,Xe,<-S,acw _ _ (qL0 _),Q4];rfl
 rintro fr h6 ⟨k,L,at_,J,vs,ps,l,ft,dH,w6,o5,oT,oA,oE,F,AT,P,nb,aW,cP,en,eo,dI⟩;simp only[Fj]at dH;obtain⟨f0,f7,cR,cU,cW,cZ,c0,c3,c4,-⟩:=dH;have bk:=(Ny.1 cP).1;have vl:=P.len;have c5:2*k<vs.length:=NH;obtain⟨gE,gF⟩:=P.ge k _ cP;simp only at gE gF;have a3:=P.sl.ad3 bk;have r0:=eA3 P.sl bk (r:=0);rw[Qn]at r0;have ldE:=P.ldE bk;obtain⟨u',g4,g5,q4,q5,dK,b3,m4,b4,bm⟩:=gE.push w6 ((a:Int),(b:Int)) NH;have Lp:=uM oE;obtain⟨h7,bW,P7,w7,dL,bo⟩:=P.setR (t:=22) (r:=0) (u':=u') (pk:=(l++[((a:Int),(b:Int))],ft)) eY Ji bk NH b3 b4 bm (.inl ⟨rfl,dK,l,cP⟩);rw[Qn]at bW;have bY:∀c,(∀u∈J::vs,blk u≠some c)->∀o,h6.own c=some o->h7.own c=some o:=fun c G o ho=>bo c o ho G;have av:∀c∈[T,s,A],∀u∈J::vs,blk u≠some c:=fun c G u w=>nb u w c G;have M:=bY s (av s Ma) _ o5;have O:=bY T (av T Ma) _ oT;have Q:=bY A (av A Ma) _ oA;have R:=bY E aW _ oE;have u0:vs.getD (2*k) rW∈J::vs:=by rw[D4 c5];exact Eh _ (j9 c5)
 have a7:∀c∈[T,s,A],∀o,h6.own c=some o->blk u'≠some c:=fun c G o ho=>(bm c o ho (av c G _ u0)).2;have X:NB [T,s,A] (J::vs.set (2*k) u'):=fun u w c G=>by
  rcases vZ.1 w with rfl|w
  .exact nb u Ma c G
  .rcases zx w with w|rfl
   .exact nb u (by simp[w]) c G
   .simp only[vZ,Bx,or_false]at G;rcases G with rfl|rfl|rfl
    .exact a7 _ Ma _ oT
    .exact a7 _ Ma _ o5
    .exact a7 _ Ma _ oA
 rw[Qn]at P7;have dM:=uM R;have c6:Le h6 g4:=m4;have dO:=uM (c6.own _ _ oE);have b8:acd Tryz.prog g4 22 (abv J (k*3))=some (vs.getD (2*k) rW):=(P.up c6).ldE bk;refine gh (tA [0,1,2,3,4,5,6,7] (JQ 8 [7] (JQ 9 [6,8] (tA [10,11] (JQ 12 [0,1,2,3,4,5,6,7,8,9,11] .done))))) ?_;simp only[HO,seval,Qg,f0,f7,cR,cU,cW,cZ,c0,c3,c4,a3,pf0,r0,ldE,b8,Lp,dO,q4,q5,bW,dM];have dQ:Wq h h7 J (vs.set (2*k) u') (ps.set k (l++[((a:Int),(b:Int))],(YB m ((a:Int),(b:Int)) 0).foldl Uo ft)):=by
  have:YB m ((a:Int),(b:Int)) 0=[]:=by simp[YB]
  rw[this];exact P7
 refine aab.intro (fun kk fr hq=>∃(q:Nat)(vs:List Value),kk=2-q/\q<=2/\fr=mkF [(0,.pointer (some ⟨B,0,none⟩)),(7,.func (.func 143) #[] #[.pointer (some ⟨s,0,none⟩)]),(10,J),(11,.slice (some ⟨A,0,none⟩) i i),(15,.int .i64 (k:Int)),(77,ev),(78,.int .i64 (es.length:Nat)),(79,.int .i64 (j:Nat)),(149,UI ((a:Int),(b:Int))),(150,.int .i64 (q:Nat))]/\
   hq.own s=some (.cells [.slice (some ⟨T,0,none⟩) i i])/\hq.own T=some (.cells (Bp L))/\hq.own A=some (.cells (Bp at_))/\Wq h hq J vs (ps.set k (l++[((a:Int),(b:Int))],(YB m ((a:Int),(b:Int)) q).foldl Uo ft))/\NB [T,s,A] (J::vs))
  2 [(0,.pointer (some ⟨B,0,none⟩)),(7,.func (.func 143) #[] #[.pointer (some ⟨s,0,none⟩)]),(10,J),(11,.slice (some ⟨A,0,none⟩) i i),(15,.int .i64 (k:Int)),(77,ev),(78,.int .i64 (es.length:Nat)),(79,.int .i64 (j:Nat)),(149,UI ((a:Int),(b:Int))),(150,.int .i64 (0:Nat))] (by simp only[Fj,HO,seval,f0,f7,cR,cU,cW,cZ,c0,c3,c4];simp)
  ⟨0,_,rfl,WA _,rfl,M,O,Q,dQ,X⟩ ?_
 clear dQ b8 dO c6 dM X a7 u0 R Q O M av bY P7 bW bo dL w7 Lp bm b4 m4 b3 dK q5 q4 ldE r0 a3 gE gF vl c5 aW nb P oE oA oT o5 w6 f0 f7 cR cU cW cZ c0 c3 c4;rintro kk fr hq cf ⟨q,vs,rfl,ep,rfl,o5,oT,oA,P,nb⟩;have lq:=P.sep.le;by_cases c:q<2
 rotate_left
 .have z:((q:Int)<2)=False:=pw;obtain rfl:q=2:=NH;have e2:YB m ((a:Int),(b:Int)) 2=ftP m ((a:Int),(b:Int)):=by simp[YB,ftP]
  rw[e2,<-dI]at P;simp only[HO,seval,z,aw];exact tn (es.length-(j+1)) [(0,.pointer (some ⟨B,0,none⟩)),(7,.func (.func 143) #[] #[.pointer (some ⟨s,0,none⟩)]),(10,J),(11,.slice (some ⟨A,0,none⟩) i i),(77,ev),(78,.int .i64 (es.length:Nat)),(79,.int .i64 (j+1:Nat))] (JS K) hAs ⟨j+1,L,at_,J,vs,rfl,K,rfl,o5,oT,oA,F,AT,P,nb⟩
 have z:((q:Int)<2)=True:=eq_true NH;have ix:=ix42 ((a:Int),(b:Int)) q c;have bZ:=BM m ((a:Int),(b:Int)) q c;have dS:∃v:Nat,zR ((a:Int),(b:Int)) q=(v:Int)/\v<i:=by
  unfold zR;split
  all_goals grind
 obtain⟨v,hv,c9⟩:=dS;rw[hv]at ix bZ;rw[af8]at bZ;have sq:=hs.le lq;have b5:=I hq lq v c9;have dT:agQ Tryz.prog 77 (.pointer (some ⟨B,0,none⟩)) 2=some (.pointer (some ⟨B,2,none⟩)):=rfl;have da:=Tw q NH;have b6:k<(ps.set k (l++[((a:Int),(b:Int))],(YB m ((a:Int),(b:Int)) q).foldl Uo ft)).length:=pw;have b9:(ps.set k (l++[((a:Int),(b:Int))],(YB m ((a:Int),(b:Int)) q).foldl Uo ft))[k]?=some (l++[((a:Int),(b:Int))],(YB m ((a:Int),(b:Int)) q).foldl Uo ft):=by rw[VU,AE rfl,AE bk]
 cases co:m v with
 |false=>rw[co]at b5 bZ;have e2:YB m ((a:Int),(b:Int)) q=YB m ((a:Int),(b:Int)) (q+1):=pw;rw[e2]at P;refine Sk (rE z ix dT sq.l2 (H v c9) b5 da) ?_;exact tn (2-(q+1)) [(0,.pointer (some ⟨B,0,none⟩)),(7,.func (.func 143) #[] #[.pointer (some ⟨s,0,none⟩)]),(10,J),(11,.slice (some ⟨A,0,none⟩) i i),(15,.int .i64 (k:Int)),(77,ev),(78,.int .i64 (es.length:Nat)),(79,.int .i64 (j:Nat)),(149,UI ((a:Int),(b:Int))),(150,.int .i64 (q+1:Nat))] (JS c) hAs ⟨q+1,vs,rfl,c,rfl,o5,oT,oA,P,nb⟩
 |true=>
  rw[co,AE rfl]at bZ;rw[co]at b5;have eF:(YB m ((a:Int),(b:Int)) (q+1)).foldl Uo ft=Uo ((YB m ((a:Int),(b:Int)) q).foldl Uo ft) (v:Int):=by rw[bZ,amq];rfl
  have cc:((YB m ((a:Int),(b:Int)) q).foldl Uo ft).length<=100000:=by
   have h1:∀(xs acc:RZ),(xs.foldl Uo acc).length<=acc.length+xs.length:=fun xs=>by
    induction xs with
    |nil=>grind
    |cons x xs ih=>
     intro acc;have:=ih (Uo acc x);have h2:(Uo acc x).length<=acc.length+1:=by unfold Uo;split<;>simp
     rw[Dj,cJ];omega
   have h2:(YB m ((a:Int),(b:Int)) q).length<=2:=Tn (ajF _ _) (by rw[iB];exact Nat.min_le_right _ _);have:=h1 (YB m ((a:Int),(b:Int)) q) ft;omega
  generalize (YB m ((a:Int),(b:Int)) q).foldl Uo ft=fq at*;have vl:=P.len;have dV:2*k+1<vs.length:=pw;obtain⟨gE,gF⟩:=P.ge k _ b9;simp only at gE gF;have a3:=P.sl.ad3 b6;have r1:=eA3 P.sl b6 (r:=1);have ldF:=P.ldF b6;simp only[HO,seval,z,ix,dT,sq.l2,H v c9,b5,a3,pf1,r1,ldF];refine kCi Tryz.func101 (W3 W0 _ fq (v:Int) hq gF.rl cc) ?_;rintro y h9 w9 ⟨rfl,rfl⟩;by_cases cm:(v:Int)∈fq
  .have e3:Uo fq (v:Int)=fq:=by unfold Uo;grind
   rw[e3]at eF;rw[<-eF]at P;simp only[HO,seval,XJ cm,da];exact tn (2-(q+1)) [(0,.pointer (some ⟨B,0,none⟩)),(7,.func (.func 143) #[] #[.pointer (some ⟨s,0,none⟩)]),(10,J),(11,.slice (some ⟨A,0,none⟩) i i),(15,.int .i64 (k:Int)),(77,ev),(78,.int .i64 (es.length:Nat)),(79,.int .i64 (j:Nat)),(149,UI ((a:Int),(b:Int))),(150,.int .i64 (q+1:Nat))] (JS c) hAs ⟨q+1,vs,rfl,c,rfl,o5,oT,oA,P,nb⟩
  .have e3:Uo fq (v:Int)=fq++[(v:Int)]:=by unfold Uo;grind
   rw[e3]at eF;obtain⟨u',g4,g5,q4,q5,ef,b3,m4,b4,bm⟩:=gF.push cf (v:Int) cc;obtain⟨h7,bW,P7,w7,dL,bo⟩:=P.setR (t:=49) (r:=1) (u':=u') (pk:=(l++[((a:Int),(b:Int))],fq++[(v:Int)])) Mb Ji b6 NH b3 b4 bm (.inr ⟨rfl,ef,fq,b9⟩);rw[List.set_set,<-eF]at P7;have av:∀c∈[T,s,A],∀u∈J::vs,blk u≠some c:=fun c G u w=>nb u w c G;have M:=bo s _ o5 (av s Ma);have O:=bo T _ oT (av T Ma);have Q:=bo A _ oA (av A Ma);have u0:vs.getD (2*k+1) rW∈J::vs:=by rw[D4 dV];exact Eh _ (j9 dV)
   have a7:∀c∈[T,s,A],∀o,h9.own c=some o->blk u'≠some c:=fun c G o ho=>(bm c o ho (av c G _ u0)).2;have X:NB [T,s,A] (J::vs.set (2*k+1) u'):=fun u w c G=>by
    rcases vZ.1 w with rfl|w
    .exact nb u Ma c G
    .rcases zx w with w|rfl
     .exact nb u (by simp[w]) c G
     .simp only[vZ,Bx,or_false]at G;rcases G with rfl|rfl|rfl
      .exact a7 _ Ma _ oT
      .exact a7 _ Ma _ o5
      .exact a7 _ Ma _ oA
   simp only[HO,seval,Sb cm,a3,pf1,r1,ldF,q4,q5,bW,da];exact tn (2-(q+1)) [(0,.pointer (some ⟨B,0,none⟩)),(7,.func (.func 143) #[] #[.pointer (some ⟨s,0,none⟩)]),(10,J),(11,.slice (some ⟨A,0,none⟩) i i),(15,.int .i64 (k:Int)),(77,ev),(78,.int .i64 (es.length:Nat)),(79,.int .i64 (j:Nat)),(149,UI ((a:Int),(b:Int))),(150,.int .i64 (q+1:Nat))] (JS c) hAs ⟨q+1,_,rfl,c,rfl,M,O,Q,P7,X⟩
end
end Go.Fw
