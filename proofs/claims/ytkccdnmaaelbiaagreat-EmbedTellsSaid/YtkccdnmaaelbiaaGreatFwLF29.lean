/- A text. -/
import Derived.Test.YtkccdnmaaelbiaaGreatFwLF8
set_option linter.all false
set_option maxRecDepth 99999
set_option maxHeartbeats 9999999
open Go.Proofs
namespace Go.Fw
section
attribute [local instance] Classical.propDecidable
section
variable{n:Nat}{es:List Pr}{rs:AM}
theorem Tk(d:InR n es)(G:Av n es rs){a b:Nat}:Cr (Xl rs) a b↔Pu es a b:=by
 constructor
 .intro h
  induction h with
  |refl=>grind[Pu.refl]
  |step _ e c=>exact c.step ((G.mem d).1 e) rfl
 .intro h
  induction h with
  |refl _=>exact .refl _
  |step _ h2 _ c=>exact c.step ((G.mem d).2 h2)
theorem IL(c:InR n es)(ha:D3 es)(G:Av n es rs):iJ n (Xl rs)=(Es n es).length:=by
 have R:=G.jD c ha;rw[iJ,Yy (IC _).symm (Cr.eqv R _),zE (lt:=fun a b=>a<b) (by grind[Nat.lt_asymm]) _ _ rfl (uA n),Es];congr 1;refine EH fun v d=>?_;rw[Gq];rw[j3]at d;constructor
 .intro h u e f;exact h u pw ((Tk c G).2 f.symm) e
 grind[Tk,Cn.symm]
theorem pL(d:InR n es)(ha:D3 es)(G:Av n es rs):((List.range n).filter fun v=>decide (Xl rs v=[])).length=((Es n es).filter fun a=>decide (Gn es es a=0)).length:=by
 refine(yR (by grind[List.filter_sublist]) (by grind[qD]) fun v=>?_).length_eq;rw[uV,uV,j3,QO,vg,vg];constructor
 .rintro⟨c,i⟩;have j:∀w,¬Jp es v w:=fun w hw=>by
   have:=(G.mem d).2 hw;grind
  have k:∀u,Pu es v u->u=v:=fun u g=>ff fun f=>by obtain⟨w,hw⟩:=(FV g (Hs f)).1;grind
  refine⟨⟨c,fun u g l=>?_⟩,?_⟩
  .grind[Cn.symm]
  .refine qL205 fun m=>?_;have p:=(ed_pos d c).1 m;have h2:(Ic n es v).length=1:=Cq (by grind[Ic,List.filter_sublist]) (x:=v) (by grind[mY,Pu.refl]) (by grind[mY]);omega
 .rintro⟨⟨c,_⟩,i⟩;refine⟨c,Uz.2 fun w hw=>?_⟩;have b:=(G.mem d).1 hw;have:∃e∈es,Pu es v e.1.toNat:=by
   rcases b with h|h
   .exact⟨_,h,by simpa using Pu.refl es v⟩
   .exact⟨_,h,by simpa using abp (.inr h)⟩
  obtain⟨e,o,k⟩:=this;have:0<Gn es es v:=by unfold Gn VF;exact aaL (uV.2 ⟨o,pw⟩)
  omega
theorem U3{l:II}(h:l.length=1){x y:Nat}(a:x∈l)(b:y∈l):x=y:=by
 match l,h with
 |[z],_=>grind
theorem sumz:∀(l:II)(f:Nat->Nat),(l.map f).sum=0↔∀a∈l,f a=0
 |[],f=>by simp
 |a::l,f=>by have b:=sumz l f;grind
theorem Va(f g:Nat->Nat):∀l:II,(∀a∈l,f a=g a)->(l.map f).sum=(l.map g).sum
 |[],_=>rfl
 |a::l,h=>by rw[U9,U9,Cj,Cj,h a LH,Va f g l (by grind[List.mem_cons_of_mem])]
theorem En(i:InR n es)(ha:D3 es)(G:Av n es rs):z8 n es rs↔Flat n (Xl rs):=by
 have R:=G.jD i ha
 have key:∀a,a∈Es n es->∃g,(Ic n es a).length+(sA es (IN n rs) a+if Gn es es a=0 then 1 else 0)+2*g=Gn es es a+2/\(g=0↔(0<Gn es es a->(Ic n es a).length+sA es (IN n rs) a=Gn es es a+2)):=fun a j=>by
  by_cases c:0<Gn es es a
  .grind[T8]
  .refine⟨0,?_,pw⟩;have p:Gn es es a=0:=NH;rw[AE p,p];have u:¬1<(Ic n es a).length:=by grind[ed_pos,QO]
   have h2:0<(Ic n es a).length:=aaL (mY.2 ⟨(QO.1 j).1,Pu.refl es a⟩);have h3:sA es (IN n rs) a=0:=by
    refine qL205 fun q=>?_;obtain⟨f,hf⟩:=WL q;rw[uV,vg]at hf;obtain⟨o,h⟩:=hf;obtain⟨v,k,rfl⟩:=N8.1 o;rw[vf,N8]at k;obtain⟨d,hd,rfl⟩:=k;have m:=((gQ R).1 hd).1;rw[(JE R ((IP R).2 m)).1,af8]at h;have b:=(G.mem i).1 m;have:d.2=d.1:=by have e:(Ic n es a).length=1:=NH;exact U3 e (mY.2 ⟨Pu.lt i (show Pu es a d.2 from h.step b rfl) (QO.1 j).1,h.step b rfl⟩) (by grind[mY,Pu.lt,QO])
    grind[V7.ir]
   omega
 obtain⟨g,hg⟩:=ajE (r:=fun a g=>a∈Es n es->(Ic n es a).length+(sA es (IN n rs) a+if Gn es es a=0 then 1 else 0)+2*g=Gn es es a+2/\(g=0↔(0<Gn es es a->(Ic n es a).length+sA es (IN n rs) a=Gn es es a+2))) fun a=>by
  by_cases j:a∈Es n es
  .grind
  .exact⟨0,pw⟩
 have S:=Va _ _ (Es n es) fun a j=>(hg a j).1
 rw[aS (fun a=>(Ic n es a).length+(sA es (IN n rs) a+if Gn es es a=0 then 1 else 0)),aS (fun a=>(Ic n es a).length),aS (fun a=>sA es (IN n rs) a),aS (fun a=>Gn es es a) (fun _=>2),yr i,Rr i,lJ i ha G,Qs]at S
 have w:((Es n es).map fun _=>2).sum=2*(Es n es).length:=by
  have:∀l:II,(l.map fun _=>2).sum=2*l.length:=fun l=>by
   induction l<;>grind
  exact this _
 have s:mj n (Xl rs)=(IN n rs).length+((Es n es).filter fun a=>decide (Gn es es a=0)).length:=by grind[mj.eq_1,yp,pL,IN.eq_1,vf.eq_1]
 have t:(dl n (Xl rs)).length=2*es.length:=by grind[Ud,D3.nodup,Av.mem]
 grind[z8,sumz,Flat.eq_1,IL]
end
attribute [local irreducible] Kp MQ lU rS KO KN KX KE VK Kl ZJ TC aab
variable {l:II} {x:Nat}
noncomputable def ak9(es:List Pr)(i j:Nat):II:=(List.range j).filter fun w=>decide (Pu es i w)
theorem ajS(es:List Pr)(i j:Nat):ak9 es i (j+1)=ak9 es i j++if Pu es i j then[j]else[]:=by grind[ak9,List.range_succ]
theorem akH(es:List Pr)(i j:Nat):(ak9 es i j).length<=j:=by grind[ak9]
theorem aiR:(x:Int)∈aaa l↔x∈l:=by grind[aaa]
theorem akI(W0:LA)(v:Value)(n:Nat)(es:List Pr)(h:aae)(hg:GR h v ⟨(n:Int),es⟩)(hr:bX ⟨(n:Int),es⟩):
  AC Tryz.prog W0 61 [v] h fun x h'=>RL (RL RP) h' x ((Gx n es n).map aaa)/\Le h h':=by
 have J:=hg
 obtain⟨ev,rfl,hp⟩:=hg.open
 have aP:(n:Int)<=200:=hr.n1;have hR:=hr.GD;refine AC.vE ⟨iZ,rfl,WY⟩ Tryz.ntmps61 Tryz.results61 fun aa=>?_;simp only[Br,seval];obtain⟨r,b1,E,aT,-,lA⟩:=r8 (n:=(n:Int)) aa hp
 generalize h.next=B at*
 have ae:=lA r (Le.refl _);refine Sk (XC b1 ae.1) ?_;refine kCi Xv (agX W0 _ _ r (J.le E)) ?_;rintro x h2 w2 ⟨⟨bb,rfl,ag⟩,l2⟩;obtain rfl:bb=true:=ag.2 hr;have K:Z2 r (.slice none 0 0):=fun b hb=>by cases hb
 refine Uy ?_;refine lIn (fun k fr I=>∃(i:Nat)(l a:Value)(seen:RZ),k=n-i/\i<=n/\fr=mkF [(1,.pointer (some ⟨B,0,none⟩)),(3,l),(4,a),(5,.int .i64 i)]/\Lj (RL RP) (rem (bl a) I) l ((Gx n es i).map aaa)/\GI I a seen/\seen.length<=i*n/\(∀b,blk l=some b->blk a≠some b)/\
   (∀x:Nat,x<n->((x:Int)∈seen↔∃u,u<i/\Pu es u x))/\Le r I/\Z2 r l/\Z2 r a) ⟨0,_,_,[],rfl,WA _,rfl,by have:(Gx n es 0).map aaa=[]:=(by simp[Gx,Es]);grind[Lj.nil],GI.nil _,Ma,fun b hb=>(by cases hb),fun x hx=>Ma,l2,K,K⟩ ?_
 rintro k fr I aV ⟨i,l,a,seen,rfl,hi,rfl,go,gs,aW,dj,m,leq,ao,M⟩;have aX:=vH i es;have a1:i*n<=40000:=Tn (aiD (show i<=200 by omega) (show n<=200 by omega)) WY;have N:=lA I leq;refine Sk (xU @Ii @Ip.eq_1 @Gc N.2.1) ?_;refine Kl.intro (fun O=>?_) (fun hf=>?_)
 rotate_left
 .have aj:n<=i:=vp hf;obtain rfl:i=n:=NH;refine Uy ?_;exact⟨(go.rl (Nn.RL Nn.RP)).le (Nn.RL Nn.RP) (Sa _ _),E.trans leq⟩
 have p:i<n:=CC O;clear O;refine Uy ?_;refine kCi Tryz.func111 (aks W0 a seen (i:Int) I gs.rl NH) ?_;rintro x h3 w3 ⟨rfl,rfl⟩;by_cases c:(i:Int)∈seen
 .have d:decide ((i:Int)∈seen)=true:=XJ c;refine Sk (XC d (Tw i NH)) ?_;have hx:=(m i p).1 c;have hh:Es (i+1) es=Es i es:=by grind[yP]
  exact lgA NH ⟨i+1,l,a,seen,rfl,p,rfl,by grind[Gx],gs,pw,dj,fun x al=>by grind[Cn.trans],leq,ao,M⟩
 have d:decide ((i:Int)∈seen)=false:=Sb c;have hx:∀u,u<i->¬Pu es u i:=fun u hu hc=>c ((m i p).2 ⟨u,hu,hc⟩);refine Sk (XC d N.1) ?_;refine kCi qS36 (ajJ W0 (.agg #[.int .i64 (n:Int),ev]) n i es h3 (J.le (E.trans leq)) hr p) ?_;rintro x h4 w4 ⟨dv,L,rfl,gl,a8,hL,l4,ad⟩;have s:=leq.trans l4;refine Uy ?_;refine lIn (fun k fr w=>∃(j:Nat)(pv:Value),k=n-j/\j<=n/\fr=mkF [(1,.pointer (some ⟨B,0,none⟩)),(3,l),(4,a),(5,.int .i64 i),(6,dv),(8,pv),(9,.int .i64 j)]/\GI w pv (aaa (ak9 es i j))/\Le h4 w/\Z2 h4 pv) ⟨0,_,rfl,WA _,rfl,GI.nil _,Le.refl _,fun b hb=>(by cases hb)⟩ ?_;rintro k fr w Q ⟨j,pv,rfl,hj,rfl,gp,g,ap⟩;have aq:=lA w (s.trans g);refine Sk (xU @Ii @Ip.eq_1 @Gc aq.2.1) ?_;refine Kl.intro (fun O=>?_) (fun hf=>?_)
 .have R:j<n:=CC O;clear O;have F:j<L.length:=NH;have ar:=CA F;have z:=gl.rl.TA j F;have S:=(gl.le g).rl.Uc j F;have A:=hL j _ ar;generalize L[j]=y at*;by_cases c2:y>=0
  .have d2:decide (y>=0)=true:=XJ c2;have G:=ajS es i j;have av:=akH es i j;rw[AE (A.1 c2)]at G;obtain⟨v',H,h6,e5,e6,g6,w6,l5,f6,k6⟩:=gp.push Q (j:Int) (by grind[y6]);obtain⟨l6,a6⟩:=f6 h4 g ap;refine Sk (bG z S @d2 e5 e6 (Tw j NH)) ?_;exact lgA NH ⟨j+1,v',rfl,R,rfl,by grind[aaa.eq_1],l6,a6⟩
  .have d2:decide (y>=0)=false:=Sb c2;have G:=ajS es i j;rw[aal (fun q=>c2 (A.2 q)),Ua]at G;refine Sk (xU z S @d2 (Tw j NH)) ?_;exact lgA NH ⟨j+1,pv,rfl,R,rfl,pw,g,ap⟩
 have aj:n<=j:=vp hf;obtain rfl:j=n:=NH;have C:=l4.trans g;have av:=akH es i j;have ay:ak9 es i j=Ic j es i:=rfl;have az:∀b,blk pv=some b->h3.own b=none:=fun b hb=>l4.none (ap b hb);obtain⟨f,H,e5,T,w5,f5,k5⟩:=(gs.le C).join Q gp.rl (by grind[y6]);obtain⟨l5,a5⟩:=f5 r (s.trans g) M;have aB:Z2 (rem (bl a) w) a:=fun b hb=>by grind[DC,Zr]
 obtain⟨aC,aD⟩:=f5 (rem (bl a) w) (Sa _ _) aB;have U:Le (rem (bl a) w) (rem (bl f) H):=aC.iV fun b hb=>aD b (Zr.1 hb);have V:Le (rem (bl a) h3) (rem (bl f) H):=(Le.Xm C).trans U;have aE:=go.le (Nn.RL Nn.RP) V;have ba:∀b,blk l=some b->(rem (bl a) h3).own b≠none:=fun b hb=>by obtain⟨us,g1,_⟩:=go;grind[GS.Sy]
 have D:∀b,blk l=some b->b∉bl f:=fun b hb hm=>by
  cases ho:(rem (bl a) h3).own b with
  |none=>grind
  |some o=>have:=V.own _ _ ho;grind[DC]
 have aF:RL RP (rem (bl f) (rem (bl l) H)) pv (aaa (Ic j es i)):=by
  have q1:GI (rem (bl l) (rem (bl a) w)) pv (aaa (Ic j es i)):=by
   rw[<-ay];refine GS.Fi (GS.Fi gp fun b hb hm=>?_) fun b hb hm=>?_
   .exact GS.Sy gs (Zr.1 hm) (az b hb)
   grind[Zr,Sa,Le.none]
  exact(q1.rl.le Nn.RP U.Xm).le Nn.RP (xk _ _ _)
 have aH:∀b∈bl f,H.own b≠none:=fun b hb=>GS.Sy T (Zr.1 hb);have bg:=vH i es;obtain⟨h6,W,h7,e6,e7,bh,l6,w6,f7,k7⟩:=Lj.mG (P:=Tryz.prog) (t:=27) (Nn.RL Nn.RP) Ji aE w5 aF gp.rl.sl.one (by unfold Gx;rw[vY,vY];omega) D aH;have X:=alw H gp.rl.sl;rw[e6]at X;obtain⟨l7,a7⟩:=f7 r l5 ao;have aJ:GI h7 f (seen++aaa (Ic j es i)):=GS.kept T fun b o hb h=>(k7 b o h (fun e=>D b e (Zr.2 hb))).1;have w7:WF h7:=xr w6 e7;have aK:∀b,blk W=some b->blk f≠some b:=fun b hb e=>by
  cases ho:H.own b with
  |none=>grind[Zr]
  |some o=>grind[Zr]
 have hh:Es (i+1) es=Es i es++[i]:=by grind[yP]
 refine Sk (xU e5 X e7 (Tw i NH)) ?_;exact lgA NH ⟨i+1,W,f,seen++aaa (Ic j es i),rfl,p,rfl,by grind[Gx],aJ,by grind[y6],aK,fun x al=>by grind[aiR,mY],l7,a7,a5⟩
section
variable{n:Nat}{es:List Pr}{rs:AM}{a:Nat}
def dgS(rs:AM)(l:II):Nat:=(l.map fun v=>(rs.getD v []).length).sum
theorem dl_sum(n:Nat)(s:Nat->II):(dl n s).length=((List.range n).map fun v=>(s v).length).sum:=by grind[dl.eq_1,List.map_congr_left]
theorem sum_if(P:Nat->Prop)(f:Nat->Nat):∀l:II,(l.map fun v=>if P v then f v else 0).sum=((l.filter fun v=>decide (P v)).map f).sum
 |[]=>rfl
 |v::l=>by rw[U9,Cj,sum_if P f l,Tj];grind
theorem deg_sum(e:InR n es)(ha:D3 es)(G:Av n es rs)(a:Nat):dgS rs (Ic n es a)=2*Gn es es a:=by
 have R:=G.jD e ha;have S:V7 n (Om (fun v w=>Pu es a v/\Pu es a w) (Xl rs)):=OG R fun v w h=>⟨h.2,h.1⟩;have d:∀v w,w∈Om (fun v w=>Pu es a v/\Pu es a w) (Xl rs) v↔Jp es v w/\Pu es a v:=fun v w=>by rw[EM,G.mem e];exact⟨fun h=>⟨h.1,h.2.1⟩,fun h=>⟨h.1,h.2,h.2.step h.1 rfl⟩⟩
 have f:(dl n (Om (fun v w=>Pu es a v/\Pu es a w) (Xl rs))).length=2*Gn es es a:=by
  unfold Gn VF;refine Ud S (ha.nodup.sublist fR) (fun p g=>e p (uV.1 g).1) fun v w=>?_;rw[d];simp only[Jp,uV,vg,af8];constructor
  .rintro⟨b|b,h2⟩
   .grind
   .exact .inr ⟨b,h2.step (.inr b) rfl⟩
  .rintro(⟨b,h2⟩|⟨b,h2⟩)
   .grind
   .exact⟨.inr b,h2.step (.inl b) rfl⟩
 rw[<-f,dl_sum,dgS,Ic,<-sum_if];congr 1;refine Vn fun v _=>?_;by_cases c:Pu es a v
 .rw[AE c,FP fun w hw=>⟨c,c.step ((G.mem e).1 hw) rfl⟩,Xl,vY]
 .rw[aal c];have:Om (fun v w=>Pu es a v/\Pu es a w) (Xl rs) v=[]:=Uz.2 fun w hw=>c ((d v w).1 hw).2;grind
theorem dgS_next(rs:AM){l:II}{k:Nat}(b:k<l.length):dgS rs (l.take (k+1))=dgS rs (l.take k)+(rs.getD l[k] []).length:=by grind[dgS,List.take_succ_eq_append_getElem]
theorem dgS_le(rs:AM)(N:Nat)(h:∀v,(rs.getD v []).length<=N):∀l:II,dgS rs l<=l.length*N
 |[]=>by simp[dgS]
 |v::l=>by have:=dgS_le rs N h l;grind[dgS,Nat.add_mul]
def OKa(n:Nat)(es:List Pr)(rs:AM)(a:Nat):Prop:=0<Gn es es a->(Ic n es a).length+sA es (IN n rs) a=Gn es es a+2
def al6:z8 n es rs↔∀a∈Es n es,OKa n es rs a:=Iff.rfl
theorem once_nat{l:II}(nd:l.Nodup)(x:Nat):(∃i,aiP (aaa l) (x:Int) i)↔x∈l:=by
 constructor
 .rintro⟨i,hi⟩;exact aiR.1 (BS hi.1)
 .intro h;refine ahq ?_ (aiR.2 h);grind[aaa]
end
def nat_pos'(k:Nat):decide ((k:Int)>=0)=true:=XJ NH
theorem row_any{n:Nat}{es:List Pr}{rs:AM}(b:bX ⟨(n:Int),es⟩)(G:Av n es rs)(v:Nat):(rs.getD v []).length<=1000:=by
 have d:(n:Int)<=200:=b.n1;by_cases c:v<n
 .have:=aij b.GD b.q9 G c;omega
 grind[Av.len]
def dec_eqn{a b:Nat}(h:a=b):decide ((a:Int)=(b:Int))=true:=XJ NH
def dec_nen{a b:Nat}(h:a≠b):decide ((a:Int)=(b:Int))=false:=Sb NH
theorem quo2(a:Nat):((2*a:Nat):Int).tdiv 2=(a:Int):=pw
theorem ala(U:LA)(v A:Value)(G:GM)(rs:AM)(h:aae)(hg:GR h v G)(hv:RL (RL RP) h A rs)(hl:∀l∈rs,l.length<=100000):
  AC Tryz.prog U 23 [v,A] h fun x h'=>afK (bX G/\Av G.n.toNat G.es rs/\z8 G.n.toNat G.es rs) x/\Le h h':=by
 have V:=hg;obtain⟨gn,es⟩:=G
 obtain⟨ev,rfl,hp⟩:=hg.open
 refine AC.vE ⟨Tryz.func23,rfl,WY⟩ Tryz.ntmps23 Tryz.results23 fun I=>?_;simp only[Br,seval];obtain⟨h1,b1,o,bo,-,lA⟩:=r8 (n:=gn) I hp
 generalize h.next=B at*
 have aD:=lA h1 (Le.refl _);refine Sk (XC b1 aD.1) ?_;refine kCi Tryz.func59 (ajl U _ A _ rs h1 (V.le o) (hv.le (Nn.RL Nn.RP) o) hl) ?_;rintro x h2 w2 ⟨⟨b,rfl,W⟩,l2⟩;have br:=lA h2 l2;cases b with
 |false=>refine Uy ?_;grind[afK.f,Le.trans]
 |true=>
 obtain⟨J,G⟩:=W.1 rfl;clear W;have h0:0<=gn:=J.n0;obtain⟨n,rfl⟩:=Z6 h0;simp only[af8]at G ⊢;have hR:=J.GD;have hA:=J.q9;have bk:(n:Int)<=200:=J.n1;have bm:es.length<=594:=J.len;refine Uy ?_;refine kCi Tryz.func60 (ak8 U A rs h2 (hv.le (Nn.RL Nn.RP) (o.trans l2)) hl) ?_;rintro x h3 w3 ⟨l3,⟨rfl,X⟩|⟨bx,S,-,-,rfl,aa⟩⟩
 .exact absurd ⟨es,by grind[Av.len],by grind[Av.len]⟩ X
 rw[G.len]at aa;have fT:=lA h3 (l2.trans l3);simp only[HO,seval,fT.1];refine kCi iZ (akI U _ n es h3 (V.le (o.trans (l2.trans l3))) J) ?_;rintro pv h4 w4 ⟨rp,l4⟩;have L4:=(o.trans (l2.trans l3)).trans l4;have ae:=hv.le (Nn.RL Nn.RP) L4;have K:=aa.le (Nn.RL Nn.RP) l4;have lp:=fun g=>rp.qP5 g;have lf:=fun g=>K.qP5 g;have aE:((Gx n es n).map aaa).length=(Es n es).length:=by grind[Gx.eq_1]
 have bB:=vH n es;have aF:=ajp (n:=n) (es:=es) (rs:=rs) NH;rw[aE]at lp;have aH:=al6 (n:=n) (es:=es) (rs:=rs);have aJ:=fun a=>deg_sum hR hA G a;have aK:=fun{f}(hf:f∈IN n rs)=>Uj hR hA G hf;have aP:=fun v=>row_any J G v;have ag:∀{i:Nat}(hi:i<(Es n es).length)(aT:i<((Gx n es n).map aaa).length),((Gx n es n).map aaa)[i]=aaa (Ic n es (Es n es)[i]):=fun hi aT=>by simp[Gx]
 refine Uy ?_;refine aab.intro (fun k fr T=>∃(i:Nat),k=(Es n es).length-i/\i<=(Es n es).length/\fr=mkF [(1,A),(5,S),(7,pv),(8,.int .i64 i)]/\T=h4/\∀q (T:q<(Es n es).length),q<i->OKa n es rs (Es n es)[q])
  (Es n es).length [(1,A),(5,S),(7,pv),(8,.int .i64 (0:Nat))] hAs ⟨0,rfl,WA _,rfl,rfl,fun q _ h=>absurd h (Ki q)⟩ ?_
 rintro k fr T bF ⟨i,rfl,hi,rfl,rfl,bH⟩;refine Sk lp ?_;refine Kl.intro (fun H=>?_) (fun hf=>?_)
 rotate_left
 .have m:(Es n es).length<=i:=vp hf;refine Uy ?_;grind[afK.t,List.mem_iff_getElem]
 have e:i<(Es n es).length:=CC H;clear H;have r:i<((Gx n es n).map aaa).length:=pw;have L:=rp.NS i r;obtain⟨u,lu,hu⟩:=rp.load (P:=Tryz.prog) Mb rfl i r;rw[ag e r]at hu;have bI:=(QO.1 (j9 e)).1;have s:OKa n es rs (Es n es)[i]->∀q (T:q<(Es n es).length),q<i+1->OKa n es rs (Es n es)[q]:=fun h q T bN=>by grind
 have aj:¬OKa n es rs (Es n es)[i]->¬z8 n es rs:=fun h p=>h (aH.1 p _ (j9 e));have aV:=aJ (Es n es)[i];generalize (Es n es)[i]=a at*;have nd:(Ic n es a).Nodup:=by grind[Ic,List.nodup_range]
 have bQ:(Ic n es a).length<=n:=by grind[Ic]
 have aW:∀{k:Nat}(hk:k<(Ic n es a).length),(Ic n es a)[k]<n:=fun hk=>(mY.1 (j9 hk)).1;have bT:Gn es es a<=es.length:=aiH _ _ _;have ll:=fun g=>hu.DH g;rw[y6]at ll;refine Uy ?_;refine aab.intro (fun k fr hz=>∃(j:Nat),k=(Ic n es a).length-j/\j<=(Ic n es a).length/\fr=mkF [(1,A),(5,S),(7,pv),(8,.int .i64 i),(9,.int .i64 (dgS rs ((Ic n es a).take j))),(10,.int .i64 0),(11,.int .i64 j)]/\hz=T)
  (Ic n es a).length [(1,A),(5,S),(7,pv),(8,.int .i64 i),(9,.int .i64 (0:Nat)),(10,.int .i64 0),(11,.int .i64 (0:Nat))] hAs ⟨0,rfl,WA _,rfl,rfl⟩ ?_
 rintro k fr hz bW ⟨j,rfl,hj,rfl,rfl⟩;simp only[HO,seval,L,lu,ll];refine Kl.intro (fun H=>?_) (fun hf=>?_)
 .have c:j<(Ic n es a).length:=CC H;clear H;have al:j<(aaa (Ic n es a)).length:=by grind[y6]
  have ad:=hu.TA j al;have ld:=hu.Uc j al;rw[sY c]at ld;have bY:=aW c;have aX:=dgS_next rs c;have a1:=dgS_le rs 1000 aP ((Ic n es a).take (j+1));have a6:((Ic n es a).take (j+1)).length<=200:=pw;have hmul:((Ic n es a).take (j+1)).length*1000<=200*1000:=vu _ a6;have aq:dgS rs ((Ic n es a).take (j+1))<=200000:=Tn a1 hmul;generalize (Ic n es a)[j]=w at*;have M:w<rs.length:=by grind[Av.len]
  have arr:=ae.qP7 w M;obtain⟨ru,a7,av⟩:=ae.load (P:=Tryz.prog) Mb rfl w M;have a8:rs.getD w []=rs[w]:=D4 M;rw[<-a8]at av;have ba:=fun g=>av.DH g;have C:=Tw j NH;have bb:adA .i64 (((dgS rs ((Ic n es a).take j):Nat):Int)+((rs.getD w []).length:Int))=((dgS rs ((Ic n es a).take (j+1)):Nat):Int):=by rw[aX]at aq ⊢;grind[ie]
  simp only[HO,seval,L,lu,ad,ld,arr,a7,ba,bb,C];exact lgA (stq c) ⟨j+1,rfl,c,rfl,rfl⟩
 have m:(Ic n es a).length<=j:=vp hf;rw[HV m,aV];clear m hf hj;refine Uy ?_;refine aab.intro (fun k fr hy=>∃(j:Nat),k=(IN n rs).length-j/\j<=(IN n rs).length/\fr=mkF [(1,A),(5,S),(7,pv),(8,.int .i64 i),(9,.int .i64 (2*Gn es es a:Nat)),(10,.int .i64 (sA es ((IN n rs).take j) a)),(12,.int .i64 j)]/\hy=hz)
  (IN n rs).length [(1,A),(5,S),(7,pv),(8,.int .i64 i),(9,.int .i64 (2*Gn es es a:Nat)),(10,.int .i64 (0:Nat)),(12,.int .i64 (0:Nat))] hAs ⟨0,rfl,WA _,rfl,rfl⟩ ?_
 clear j;rintro k fr hy bZ ⟨j,rfl,hj,rfl,rfl⟩;refine Sk lf ?_;refine Kl.intro (fun H=>?_) (fun hf=>?_)
 .have c:j<(IN n rs).length:=CC H;clear H;have N:=K.NS j c;obtain⟨fu,O,ay⟩:=K.load (P:=Tryz.prog) Mb rfl j c;obtain⟨Q,w,hw,az⟩:=aK (j9 c)
  have D:sA es ((IN n rs).take (j+1)) a=sA es ((IN n rs).take j) a+if Pu es a w then 1 else 0:=by rw[EL c];have:=ajP (fun a (f:RZ)=>Pu es a (f.headD 0).toNat) ((IN n rs).take j) (IN n rs)[j] a;rw[az,af8]at this;exact this
  have bg:sA es ((IN n rs).take (j+1)) a<=40000:=by grind[aiH,sA]
  have bh:=once_nat nd w;generalize (IN n rs)[j]=f at*;have E:=ay.TA 0 Q;have F:=ay.Uc 0 Q;have aB:f[0]=(w:Int):=by
   cases f with
   |nil=>simp at Q
   |cons y l=>exact az
  rw[aB]at F;simp only[iu]at E;have C:=Tw j NH;refine Uy ?_;refine gh (tA [0,1,2,3,4,5,6,7,8,9] (JQ 10 [3,9] (tA [11] .done))) ?_;simp only[HO,seval,Qg,L,lu,N,O,E,F];refine kGi SV (ahT U u (aaa (Ic n es a)) (w:Int) hy hu (by rw[y6];omega)) ?_;rintro x h5 w5 ⟨⟨k,hk,bj,rfl⟩|⟨rfl,X⟩,rfl⟩
  .have d:decide ((k:Int)>=0)=true:=nat_pos' k;have R:=(mY.1 (bh.1 ⟨k,bj⟩)).2;rw[AE R]at D;have I:=Tw (sA es ((IN n rs).take j) a) NH;simp only[HO,seval,Qg,L,lu,N,O,E,F,d,I,C];exact lgA (stq c) ⟨j+1,rfl,c,by rw[D]<;>rfl,rfl⟩
  .have d:decide ((-1:Int)>=0)=false:=by decide
   have R:¬Pu es a w:=fun q=>by grind[mY]
   rw[aal R]at D;simp only[HO,seval,Qg,L,lu,N,O,E,F,d,C];exact lgA (stq c) ⟨j+1,rfl,c,by rw[D]<;>rfl,rfl⟩
 have m:(IN n rs).length<=j:=vp hf;rw[HV m];clear m hf hj;have bg:sA es (IN n rs) a<=40000:=Tn (aiH _ _ _) aF;have aC:=Tw i NH;by_cases c0:0<Gn es es a
 .have d0:decide (((2*Gn es es a:Nat):Int)>0)=true:=XJ NH;have q2:=quo2 (Gn es es a);have n2:((2:Int)=0)=False:=eq_false WY;have wq:adA .i64 ((Gn es es a:Nat):Int)=((Gn es es a:Nat):Int):=ie _ NH NH;have w1:adA .i64 (((Ic n es a).length:Int)+((sA es (IN n rs) a:Nat):Int))=(((Ic n es a).length+sA es (IN n rs) a:Nat):Int):=by grind[ie]
  have w2:adA .i64 (((Gn es es a:Nat):Int)+2)=((Gn es es a+2:Nat):Int):=by grind[ie]
  by_cases c1:(Ic n es a).length+sA es (IN n rs) a=Gn es es a+2
  .have d1:decide ((((Ic n es a).length+sA es (IN n rs) a:Nat):Int)=((Gn es es a+2:Nat):Int))=true:=dec_eqn c1;simp only[HO,seval,L,lu,ll,d0,q2,n2,wq,w1,w2,bne,d1,aC];exact lgA (stq e) ⟨i+1,rfl,e,rfl,rfl,s fun _=>c1⟩
  .have d1:decide ((((Ic n es a).length+sA es (IN n rs) a:Nat):Int)=((Gn es es a+2:Nat):Int))=false:=dec_nen c1;simp only[HO,seval,L,lu,ll,d0,q2,n2,wq,w1,w2,bne,d1];exact⟨afK.f fun q=>aj (fun z=>c1 (z c0)) q.2.2,L4⟩
 .have d0:decide (((2*Gn es es a:Nat):Int)>0)=false:=Sb NH;refine Sk (XC d0 aC) ?_;exact lgA (stq e) ⟨i+1,rfl,e,rfl,rfl,s fun q=>absurd q c0⟩
end
end Go.Fw
