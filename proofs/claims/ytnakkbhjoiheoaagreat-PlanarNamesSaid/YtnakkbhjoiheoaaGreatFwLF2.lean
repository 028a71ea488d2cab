/- A text. -/
import Derived.Test.YtnakkbhjoiheoaaGreatFwLZ10
set_option linter.all false
set_option maxRecDepth 99999
set_option maxHeartbeats 9999999
open Go.Proofs
open Option renaming some→Z,none→Y
open Bool renaming true→tT,false→fF
open List renaming replicate→rP,range→rG
open Go.Value renaming slice→sL,pointer→pT
open Go renaming Value→vV
open Go.Proofs.Tryz renaming prog→pG
open Go.Proofs.Tryz
open List
namespace Go.Fw
section
attribute [local irreducible] Kp MQ lU KO1 KO KN KX KE VK Kl ZJ TC aab
theorem ajx(b:LA)(v:vV)(xs:RZ)(h:aai)(c:RL RP h v xs):AC pG b 75 [v] h fun x h'=>∃B,x=.func (.func 100) #[] #[pT (Z ⟨B,0,Y⟩)]/\h.next<=B/\h'.own B=Z (.cells [v])/\Le h h':=by
 refine AC.vF func75 ntmps75 results75 fun a=>?_;have⟨d,e,l1,w1,g⟩:=Tt a [v]
 have f:zF h v=Z (pT (Z h.next),d):=by rw[<-e];obtain⟨_,_,rfl,_⟩:=c.sl;rfl
 refine Sk f ?_;grind
def aje(m:LA)(e B:Nat)(v:vV)(xs:RZ)(I:Nat->aai->Prop)(h:aai)(u:xs.length<1000000)(c:∀i g,I i g->g.own B=Z (.cells [v])/\RL RP g v xs)(f:I 0 h)(n:∀i g (hi:i<xs.length),WF g->h.next<=g.next->I i g->AY pG m e [.int .i64 xs[i]] g fun x j=>x=.bool tT/\h.next<=j.next/\I (i+1) j):
  AC pG m 100 [Yg e,pT (Z B)] h fun _ h'=>I xs.length h':=by
 have ld:∀i g,I i g->aaC pG g 28 ⟨B,0,Y⟩=Z v:=fun i g hi=>by rw[Fq Mb rfl (c i g hi).1];rfl
 refine AC.vF func100 ntmps100 results100 fun o=>?_;have p:=fun g=>(c _ _ f).2.TA g;simp only[HO,seval,ld _ _ f,p]
 refine lIn (fun k fr g=>∃i:Nat,k=xs.length-i/\i<=xs.length/\fr=mkF [(0,Yg e),(5,v),(6,xs.length),(7,.int .i64 i)]/\h.next<=g.next/\I i g) ⟨0,rfl,aax _,rfl,qL0 _,f⟩ ?_
 rintro k fr g q ⟨i,rfl,hi,rfl,hle,a⟩;refine Uy ?_;refine Kl.intro (fun r=>?_) (fun hf=>?_)
 .have d:i<xs.length:=acb r;have ad:=(c _ _ a).2.addr (k:=.i64) Mb Ac rfl i d;have le:=(c _ _ a).2.Uc i d;simp only[HO,seval,ad,le];refine TC.yield (by simp only[HO,seval,yieldOf]<;>rfl) (n i g d q hle a) ?_;rintro x j s ⟨rfl,b,l⟩;refine Sk (aaa i NH) ?_;exact lgA NH ⟨i+1,rfl,d,rfl,b,l⟩
 .have t:xs.length<=i:=vp hf;obtain rfl:i=xs.length:=NH;refine Uy ?_;exact a
theorem ajy(G:LA)(B:Nat)(v:vV)(xs:RZ)(h:aai)(hB:h.own B=Z (.cells [v]))(H:RL RP h v xs)(W:xs.length<=1000):
  AC pG G 146 [.slice Y 0 0,.func (.func 100) #[] #[pT (Z B)]] h fun x h'=>GI h' x xs/\Le h h'/\Z2 h x:=by
 refine AC.vF func146 ntmps146 results146 fun i=>?_;have⟨o,F,l1,w1,I⟩:=Tt i [.slice Y 0 0]
 have J:zF h (.slice Y 0 0)=Z (pT (Z h.next),o):=by rw[<-F];rfl
 have nS:h.own h.next=Y:=(Le.refl h).next i (qL0 _)
 have p:o.next=h.next+1:=by rw[<-F];rfl
 refine Sk J ?_
 generalize h.next=S at*
 refine VK.rangeFunc (gf:=100) (first:=#[]) (cap:=#[pT (Z B)]) (by simp only[HO,seval]) ⟨func100,rfl,WY⟩ WY fun K L M=>?_
 refine(aje K L B v xs (fun k g=>∃d,g.own S=Z (.cells [d])/\GI g d (xs.take k)/\Le h g/\Z2 h d/\blk d≠Z S) o NH (fun k g ⟨_,_,_,j,_⟩=>⟨j.own _ _ hB,H.le Nn.RP j⟩) ⟨_,I,GI.nil _,l1,(fun b hb=>by cases hb),by simp[blk]⟩ ?_).mono fun _ N q O=>?_
 .intro k g Q R hle r;have⟨d,oS,gx,j,ax,nx⟩:=r;refine M _ _ _ rfl hle ?_;have T:xs.take (k+1)=xs.take k++[xs[k]]:=XJ Q;have X:(xs.take k).length=k:=hGr;generalize xs[k]=y at*;have lS:aaC pG g 28 ⟨S,0,Y⟩=Z d:=by rw[Fq Mb rfl oS];rfl
  have⟨v',U,l,s,u,f,w,V,z,A⟩:=gx.push R y hGr;have⟨C,D⟩:=z h j ax;have⟨m,n⟩:=A S _ oS nx;have st:=QB (P:=pG) (t:=28) (x:=v') Mb Ji m (off:=0) Ma (by have⟨a,c,e,_⟩:=(GS.cs f).sl;rw[e];rfl) (GS.cs f).sl.one;have oo:=aai.Y3 l S (.cells [v']);simp only[HO,seval,aeJ,Array.toList,lS,s,u,st,qL216,aB]
  have E:o.next<=(l.put S (.cells [v'])).next:=by rw[p];exact w.lt m
  refine⟨trivial,E,v',oo,?_,C.put _ nS,D,n⟩;rw[T];exact GS.put f _ n
 .obtain⟨d,oS,gx,j,ax,nx⟩:=q;rw[ags]at gx;have lS:aaC pG N 28 ⟨S,0,Y⟩=Z d:=by rw[Fq Mb rfl oS];rfl
  simp only[HO,seval,lS];grind
theorem ajf(a:LA)(B:Nat)(v:vV)(xs:RZ)(h:aai)(hB:h.own B=Z (.cells [v]))(b:RL RP h v xs)(c:xs.length<=1000):
  AC pG a 99 [.func (.func 100) #[] #[pT (Z B)]] h fun x h'=>GI h' x xs/\Le h h'/\Z2 h x:=by
 refine AC.vF func99 ntmps99 results99 fun d=>?_;refine Uy ?_;refine kCi func146 (ajy a B v xs h hB b c) ?_;rintro x h2 w2 ⟨e,l2,a2⟩;refine Uy ?_;grind
theorem ajz(a:LA)(B:Nat)(v:vV)(xs:RZ)(h:aai)(hB:h.own B=Z (.cells [v]))(b:RL RP h v xs)(c:xs.length<=1000):
  AC pG a 74 [.func (.func 100) #[] #[pT (Z B)]] h fun x h'=>GI h' x (qC xs)/\Le h h'/\Z2 h x:=by
 refine AC.vF func74 ntmps74 results74 fun d=>?_;refine Uy ?_;refine kCi func99 (ajf a B v xs h hB b c) ?_;rintro x h2 w2 ⟨e,l2,a2⟩;refine Uy ?_;refine kCi qS22 (VQ a e NH) ?_;rintro y h3 f ⟨rfl,g,i⟩;refine Uy ?_;grind
theorem Equal_any(o:LA)(v w:vV)(xs ys:RZ)(h:aai)(j:RL RP h v xs)(hw:RL RP h w ys)(s:xs.length<=100000):
  AC pG o 73 [v,w] h fun x h'=>x=.bool (decide (xs=ys))/\h'=h:=by
 refine AC.vF func73 ntmps73 results73 fun p=>?_;have m:=fun g=>j.TA g;have lw:=fun g=>hw.TA g;by_cases c:(xs.length:Int)=ys.length
 rotate_left
 .have d:decide ((xs.length:Int)=ys.length)=fF:=IE c;simp only[HO,seval,m,lw,bne,d];exact⟨by rw[IE (fun e=>c (by rw[e]))],trivial⟩
 have c':xs.length=ys.length:=NH;have d:decide ((xs.length:Int)=ys.length)=tT:=Z6 c;simp only[HO,seval,m,lw,bne,d];refine lIn (fun k fr hh=>∃i:Nat,k=xs.length-i/\i<=xs.length/\hh=h/\fr=mkF [(0,v),(1,w),(12,xs.length),(13,i)]/\xs.take i=ys.take i) ⟨0,rfl,aax _,rfl,rfl,rfl⟩ ?_;rintro k fr hh-⟨i,rfl,hi,rfl,rfl,n⟩;refine Uy ?_;refine Kl.intro (fun q=>?_) (fun hf=>?_)
 .have a:i<xs.length:=acb q;have t1:xs.take (i+1)=xs.take i++[xs[i]]:=XJ a;have r:ys.take (i+1)=ys.take i++[ys[i]'(by omega)]:=XJ NH
  have ad:=j.DH i a;have ld:=j.Uc i a;have b:=hw.DH i NH;have f:=hw.Uc i NH;have t:=CA a;have u:=CA (show i<ys.length by omega);generalize xs[i]=x at*;generalize ys[i]'(by omega)=y at*
  refine Uy ?_;refine gh (fRn 0 9 .done) ?_;by_cases e:x=y
  .have d2:decide (x=y)=tT:=Z6 e;simp only[HO,seval,Qg,ad,ld,b,f,bne,d2,aaa i NH];exact lgA NH ⟨i+1,rfl,a,rfl,rfl,by rw[t1,r,n,e]⟩
  .have d2:decide (x=y)=fF:=IE e;simp only[HO,seval,Qg,ad,ld,b,f,bne,d2];exact by rw[IE (fun e'=>e hGr)]
 .have l:xs.length<=i:=vp hf;rw[abe l,abe NH]at n;refine Uy ?_;grind
theorem aix(q:LA)(v K:vV)(G:GM)(rs:AM)(h:aai)(hg:GR h v G)(r:RL (RL RP) h K rs):AC pG q 45 [v,K] h fun x h'=>RR (bX G/\Av G.n.toNat G.es rs) x/\Le h h':=by
 have s:=hg;have⟨V,es⟩:=G
 obtain⟨ev,rfl,hp⟩:=hg.open
 refine AC.vF func45 ntmps45 results45 fun L=>?_;obtain⟨W,b1,c,ai,-,X⟩:=r8 (n:=V) L hp
 generalize h.next=B at*
 have M:=X W (Le.refl _);have lr:=fun g=>r.qP6 g;refine Sk (XC b1 M.1) ?_;refine kCi qS6 (ak q _ _ W (s.le c)) ?_;rintro x h2 aj ⟨⟨bb,rfl,u⟩,j⟩;have l:=X h2 j;cases bb with
 |false=>refine Uy ?_;grind[RR.f,Le.trans]
 |true=>
 have m:=u.1 rfl;clear u;have h0:0<=V:=m.n0;obtain⟨n,rfl⟩:=qL7 h0;have hR:=m.GD;have N:(n:Int)<=200:=m.n1;have aa:es.length<=594:=m.len;have hA:=m.q9;simp only[yM];by_cases c1:(rs.length:Int)=n
 rotate_left
 .have d1:decide ((rs.length:Int)=n)=fF:=IE c1;simp only[HO,seval,lr,Ii,Ip,EL,l.2.1,bne,d1];grind[RR.f,Av.len,Le.trans]
 have d1:decide ((rs.length:Int)=n)=tT:=Z6 c1;have O:rs.length=n:=NH;simp only[HO,seval,lr,Ii,Ip,EL,l.2.1,bne,d1,l.1];refine kCi akP (oe q _ n es h2 (s.le (c.trans j)) m) ?_;rintro x h3 aq ⟨hb,Q⟩;have R:=Xq n es;have lb:=fun g=>hb.qP5 g;rw[R]at lb;have b:=(c.trans j).trans Q;have A:∀v,v<n->((Zh n es).getD v []).length<=1200:=fun v r=>by have:=bV n es _ (aev (show v<(Zh n es).length by omega));grind
 refine Sk lb ?_;refine lIn (fun k fr S=>∃(i:Nat),k=n-i/\i<=n/\fr=mkF [(1,K),(18,x),(19,n),(20,i)]/\Le h3 S/\∀v,v<i->(rs.getD v []).Perm ((Zh n es).getD v [])) ⟨0,rfl,aax _,rfl,Le.refl _,fun v r=>by omega⟩ ?_;rintro k fr S av ⟨i,rfl,hi,rfl,I,T⟩;refine Uy ?_;refine Kl.intro (fun ht=>?_) (fun hf=>?_)
 rotate_left
 .have ay:n<=i:=vp hf;refine Uy ?_;exact⟨.t ⟨m,O,fun v r=>T v NH⟩,b.trans I⟩
 have o:i<n:=acb ht;clear ht;have HB:=hb.le (Nn.RL Nn.RP) I;have ab:=HB.Wm i NH;have⟨bu,C,p⟩:=HB.load (P:=pG) Mb rfl i NH;have HR:=r.le (Nn.RL Nn.RP) (b.trans I);have ar:=HR.qP7 i NH;have⟨ru,D,a⟩:=HR.load (P:=pG) Mb rfl i NH;rw[<-D4 (d:=[]) NH]at p a;have E:=fun g=>p.TA g;have F:=fun g=>a.TA g;have J:=A i o;by_cases c2:((rs.getD i []).length:Int)=((Zh n es).getD i []).length
 rotate_left
 .have d2:decide (((rs.getD i []).length:Int)=((Zh n es).getD i []).length)=fF:=IE c2;simp only[HO,seval,ab,C,ar,D,E,F,bne,d2];grind[RR.f,Av.len_eq,Le.trans]
 have d2:decide (((rs.getD i []).length:Int)=((Zh n es).getD i []).length)=tT:=Z6 c2;have ae:((Zh n es).getD i []).length<=1000:=by
  have H:=KW es hR hA i;have nd:((Zh n es).getD i []).Nodup:=AE.2 (H.imp fun h e=>by omega);have:=tf nd (B:=(rG n).map fun(v:Nat)=>(v:Int)) fun y hy=>by obtain⟨w,rfl,hw⟩:=Ru hR hy;grind
  grind
 simp only[HO,seval,ab,C,ar,D,E,F,bne,d2];refine kCi func75 (ajx q ru _ S a) ?_;rintro y h5 w5 ⟨VB,rfl,-,oV,l5⟩;refine Uy ?_;refine kCi func74 (ajz q VB ru _ h5 oV (a.le Nn.RP l5) NH) ?_;rintro y h6 w6 ⟨g6,l6,-⟩;refine Uy ?_;refine kCi func73 (Equal_any q y bu _ _ h6 g6.rl (p.le Nn.RP (l5.trans l6)) (by rw[OX];omega)) ?_;rintro z h7 w7 ⟨rfl,rfl⟩;have U:=(I.trans l5).trans l6;by_cases c3:qC (rs.getD i [])=(Zh n es).getD i []
 .have d3:decide (qC (rs.getD i [])=(Zh n es).getD i [])=tT:=Z6 c3;refine Sk (XC d3 (aaa i NH)) ?_;exact lgA (JS o) ⟨i+1,rfl,o,rfl,U,fun v r=>by grind[ajd]⟩
 .have d3:decide (qC (rs.getD i [])=(Zh n es).getD i [])=fF:=IE c3;refine Sk d3 ?_;grind[RR.f,ajd,Av.perm,Le.trans]
attribute [local irreducible] Jz JL vq cQ
variable {es:List Pr} {n u v w:Nat}
def join_of(d:aV n es)(e:0<n)(c:es≠[])(h:∀v,v<n->Pu es 0 v):JoinG n es:=by refine⟨c,?_⟩;have⟨a,ha,f⟩:=B6 d 0 e;have:∀b∈Es n es,b=a:=fun b hb=>rf hb ha ((h b (QO.1 hb).1).symm.trans f.symm);exact Cq (qD n es) ha this
def tM(h:Pu es u v)(a:Jp es v w):Pu es u w:=h.step a rfl
attribute [local instance] Classical.propDecidable
variable {b:List Pr} {c i j k:Nat} {p:Pr} {α:Type}
theorem ah{bs:List xLP}{cs:II}:∀k,p∈Rb bs cs k↔∃i j:Nat,i<k/\j<cs.length/\atB ((cs.getD j 0:Nat):Int) (bs.getD i [])=tT/\p=((i:Int),(j:Int)):=by grind[Rb,lkU]
theorem FU(i:Nat)(b:xLP)(cs:II):∀k,k<=cs.length->(lkU i b cs k).length=((cs.take k).filter fun c=>atB ((c:Nat):Int) b).length
 |0,_=>by simp[lkU]
 |k+1,h=>by rw[lkU_succ,aaf,FU i b cs k NH,To,j3,aaf];grind
theorem Er(bs:List xLP)(cs:II):∀k,k<=bs.length->(Rb bs cs k).length=(cs.map fun c=>((bs.take k).filter (atB ((c:Nat):Int))).length).sum
 |0,_=>by
  rw[Rb]
  induction cs<;>grind
 |k+1,h=>by
  rw[DK,aaf,Er bs cs k NH,FU k _ cs cs.length (qL0 _),ags];have hb:bs[k]?=Z bs[k]:=Gc h;rw[To,hb,Option.toList_some,D4 h]
  induction cs<;>grind
theorem uh(h:(Es n es).length=1)(a:u<n)(b:v<n):Pu es u v:=by
 have g:0<n:=NH;have m0:0∈Es n es:=by grind[QO]
 have⟨x,i⟩:=ahI.1 h;have key:∀k v,v<=k->v<n->Pu es 0 v:=by
  intro k
  induction k with
  |zero=>grind[Pu.refl]
  |succ k c=>
   intro v j b;by_cases e:v=0
   .grind
   have d:v∉Es n es:=hGr;rw[QO]at d;have:∃u,u<v/\Pu es u v:=hGr;have⟨u,a,f⟩:=this;exact(c u NH NH).trans f
 exact(key _ u (qL0 _) a).symm.trans (key _ v (qL0 _) b)
theorem nodup_idx{l:List α}(nd:l.Nodup){x:α}(h:l[i]?=Z x)(g:l[j]?=Z x):i=j:=by grind[pairwise_iff_getElem]
theorem bK(h:(vq n es)[k]?=Z b):∃x,(CY (cQ n es) es)[k]?=Z x/\b=es.filter fun p=>decide (cQ n es p=x):=by grind[aaB]
theorem block_at(h:(vq n es)[k]?=Z b)(a:p∈b):p∈es:=by grind[bK]
theorem at_mem{v:Int}(a:p∈b)(h:AN v p=tT):atB v b=tT:=by grind[atB]
theorem tree_two(hR:bX ⟨(n:Int),es⟩)(f:v<n){b c:xLP}(h:(vq n es)[j]?=Z b)(g:(vq n es)[k]?=Z c)(hb:atB (v:Int) b=tT)(d:atB (v:Int) c=tT)(ne:j≠k):
  ∃m:Nat,(JL n es)[m]?=Z v:=by
 have a:=hR.GD;have h2:1<Sq n es v:=by rw[JW,aj5 (PS n es v)];obtain⟨x,i,rfl⟩:=bK h;obtain⟨y,l,rfl⟩:=bK g;rw[at_iff a]at hb d;refine⟨x,y,(dG a).2 hb,(dG a).2 d,fun e=>ne ?_⟩;have nd:=(ahE (cQ n es) _ es rfl).1;grind[nodup_idx]
 rw[YH a]at h2;exact Og.1 (by grind[OI])
theorem link_in(h:(vq n es)[i]?=Z b)(g:(JL n es)[j]?=Z c):((i:Int),(j:Int))∈(acF n es).ls↔atB (c:Int) b=tT:=by show _∈Rb _ _ _↔_;grind[ah]
theorem vC(h:(vq n es)[i]?=Z b)(g:(JL n es)[j]?=Z c)(ha:atB (c:Int) b=tT):Jp (bU (vq n es).length (acF n es).ls) i ((vq n es).length+j):=by left;refine si.2 ⟨_,(link_in h g).2 ha,?_⟩;grind
theorem tree_at(hR:bX ⟨(n:Int),es⟩)(e:v<n){b c:xLP}(h:(vq n es)[j]?=Z b)(g:(vq n es)[k]?=Z c)(hb:atB (v:Int) b=tT)(a:atB (v:Int) c=tT):Pu (bU (vq n es).length (acF n es).ls) j k:=by
 by_cases ne:j=k
 .grind[Pu.refl]
 have⟨m,d⟩:=tree_two hR e h g hb a ne;exact(abu (vC h d hb)).trans (abu (vC g d a)).symm
theorem tree_con(hR:bX ⟨(n:Int),es⟩)(q:u<n)(l:Pu es u v):∀{j k:Nat}{b c:xLP},(vq n es)[j]?=Z b->(vq n es)[k]?=Z c->atB (u:Int) b=tT->atB (v:Int) c=tT->Pu (bU (vq n es).length (acF n es).ls) j k:=by
 have f:=hR.GD
 induction l with
 |refl _=>grind[tree_at]
 |@step w x _ a _ o=>intro j k b c h g hb e;have⟨m,d,i,hd,_⟩:=Zg hR (H4 f a);have p:atB (w:Int) d=tT:=at_mem hd zo;have h2:atB (x:Int) d=tT:=at_mem hd (by rw[so];exact zo);exact(o h i hb p).trans (tree_at hR (a.lt f).2 i g h2 e)
theorem treeM_lk(hR:bX ⟨(n:Int),es⟩)(k:JoinG n es):Lk (vq n es).length ((vq n es).length+(JL n es).length) (acF n es).ls:=by
 have o:=hR.GD;have f:=u5 hR k.1;have y:=XF hR;have e:∀i b,(vq n es)[i]?=Z b->∃a c:Nat,((a:Int),(c:Int))∈b/\a<n/\atB (a:Int) b=tT:=fun i b hb=>by obtain⟨p,l,rfl⟩:=N8 (y.ne b (BS hb));obtain⟨a,c,rfl,z,q,_⟩:=ends o (block_at hb qH);grind[at_mem,AN]
 have blk:∀i,i<(vq n es).length->Pu (bU (vq n es).length (acF n es).ls) 0 i:=fun i hi=>by have r:(vq n es)[i]?=Z (vq n es)[i]:=Gc hi;have w:(vq n es)[0]?=Z (vq n es)[0]:=Gc f;have⟨a,_,_,ha,ea⟩:=e _ _ w;have⟨c,_,_,s,A⟩:=e _ _ r;exact tree_con hR ha (uh k.2 ha s) w r ea A
 refine⟨NH,?_,fun p B=>?_,fun v F=>?_⟩
 .have G:=tZ o;have H:(acF n es).ls.length=((JL n es).map (Sq n es)).sum:=by
   show(Rb _ _ _).length=_;rw[Er _ _ _ (qL0 _),ags];rfl
  have r:((Es n es).filter fun h=>decide (0<Sq n es h)).length=1:=by
   have⟨x,C⟩:=ahI.1 k.2;have t:x∈Es n es:=by rw[C];simp
   have D:=(QO.1 t).1;obtain⟨p,l,rfl⟩:=N8 k.1;grind[ends,mem_cons_self,HJ,FV,uh]
  omega
 .obtain⟨i,j,hi,E,_,rfl⟩:=(ah _).1 B;exact⟨Ma,hGr,Ma,hGr⟩
 .by_cases hb:v<(vq n es).length
  .grind
  obtain⟨j,rfl⟩:∃j,v=(vq n es).length+j:=⟨v-(vq n es).length,NH⟩;have u:j<(JL n es).length:=NH;have s:(JL n es)[j]?=Z (JL n es)[j]:=Gc u;have⟨q,g⟩:=(OI o _).1 (BS s);have⟨a,_,ha,_⟩:=g;have⟨m,d,I,hd,_⟩:=Zg hR (H4 o ha);grind[at_mem,zo,Cn.trans,abu,vC]
end
section
attribute [local irreducible] Kp MQ lU KO1 KO KN KX KE VK Kl ZJ TC aab
attribute [local irreducible] abT ahy
variable {es:List Pr} {h:aai} {j n v:Nat} {rs:AM}
theorem newE4(hw:WF h):∃a h2,abO pG h 24=Z (pT (Z h.next),a)/\aaK pG a 24 (pT (Z h.next)) agO=Z h2/\Le h h2/\WF h2:=by
 have⟨a,d,l1,w1,b⟩:=Tt hw [.int .i64 0,.slice Y 0 0]
 have c:h.own h.next=Y:=(Le.refl h).next hw (qL0 _)
 have st:=aib (n:=0) (ev:=.slice Y 0 0) b rfl rfl;exact⟨a,_,by grind[Lo],st,l1.put _ c,w1.put _ (w1.lt b)⟩
theorem ajA(v:Nat)(l:RZ)(h:j<l.length):ahy v (l.take (j+1))=ahy v (l.take j)++if(v:Int)<l[j]then[((v:Int),l[j])]else[]:=by grind[ahy,take_succ_eq_append_getElem]
theorem aiR(v:Nat)(l:RZ):(ahy v l).length<=l.length:=by grind[ahy]
def ajB(rs:AM)(k:Nat):abT rs (k+1)=abT rs k++ahy k (rs.getD k []):=by rw[abT]
def aiy(rs:AM):abT rs 0=[]:=by rw[abT]
theorem aiS(hR:aV n es)(hA:D3 es)(G:Av n es rs)(a:v<n):(rs.getD v []).length<n:=by
 have IR:=G.jD hR hA;have b:(Xl rs v).length=(rs.getD v []).length:=by grind[Xl.eq_1]
 have h2:=tf (IR.nd v) (B:=(rG n).erase v) fun w hw=>(Hs.mem_erase_iff).2 ⟨fun e=>IR.ir v hGr,Db.2 (IR.lt w v (IR.sy _ _ hw))⟩;grind
def len_bd{a i N:Nat}(h:a<=i*N)(hi:i<=200)(b:N<=200):a<=40000:=by have:i*N<=200*200:=af7 hi b;omega
theorem told_any(T:LA)(r:vV)(rs:AM)(h:aai)(N:RL (RL RP) h r rs):
  AC pG T 51 [r] h fun x h'=>Le h h'/\((x=.tuple #[agO,.bool fF]/\¬∃es,bX ⟨(rs.length:Int),es⟩/\Av rs.length es rs)\/
   ∃es ev,bX ⟨(rs.length:Int),es⟩/\Av rs.length es rs/\x=.tuple #[.agg #[rs.length,ev],.bool tT]/\GP h' ev es/\Z2 h ev):=by
 refine AC.vF func51 ntmps51 results51 fun B=>?_;have⟨a,e1,l1,w1,o1⟩:=Tt B [.int .i64 0,.slice Y 0 0];have al:=Lo h;rw[e1]at al
 have nR:h.own h.next=Y:=(Le.refl h).next B (qL0 _)
 generalize h.next=R at*
 have lr:=fun g=>N.qP6 g;have m:∀g:aai,Le a g->aaK pG g 24 (pT (Z R)) agO=Z (g.put R (.cells [.int .i64 0,.slice Y 0 0])):=fun g U=>aib (U.own _ _ o1) rfl rfl;have ldE:∀g:aai,aaC pG (g.put R (.cells [.int .i64 0,.slice Y 0 0])) 24 ⟨R,0,Y⟩=Z agO:=fun g=>ai2 (aai.Y3 _ _ _) ⟨_,_,_,rfl⟩;have fin:∀g:aai,Le a g->Le h (g.put R (.cells [.int .i64 0,.slice Y 0 0])):=fun g U=>(l1.trans U).put _ nR;by_cases c1:(rs.length:Int)>200
 .have d1:decide ((rs.length:Int)>200)=tT:=Z6 c1;simp only[HO,seval,al,lr,d1,aew,m a (Le.refl _),ldE];exact⟨fin a (Le.refl _),.inl ⟨trivial,fun⟨es,A,_⟩=>by have:=A.n1;grind⟩⟩
 have d1:decide ((rs.length:Int)>200)=fF:=IE c1;have c:rs.length<=200:=NH;have⟨h2,e2,l2,w2,o2⟩:=Tt w1 []
 have mk:aas pG a 22 0 []=Z (sL (Z a.next) 0 0,h2):=by rw[<-e2];rfl
 have nX:a.own a.next=Y:=(Le.refl a).next w1 (qL0 _)
 have g0:GP h2 (sL (Z a.next) 0 0) (abT rs 0):=by rw[aiy];exact GS.full (k:=2) (n:=0) o2 rfl WY
 have C:Z2 a (sL (Z a.next) 0 0):=fun b hb=>by injection hb with hb;grind
 simp only[HO,seval,al,lr,d1,mk]
 generalize vV.slice (Z a.next) 0 0=aK at*
 refine lIn (fun k fr o=>∃(i:Nat)(E:vV),k=rs.length-i/\i<=rs.length/\fr=mkF [(0,r),(2,pT (Z R)),(4,E),(16,r),(17,rs.length),(18,i)]/\GP o E (abT rs i)/\Le a o/\Z2 a E/\(abT rs i).length<=i*rs.length) ⟨0,_,rfl,aax _,rfl,g0,l2,C,by rw[aiy];exact aax _⟩ ?_;clear g0 C;rintro k fr o aL ⟨i,E,rfl,hi,rfl,gx,s,ax,hlen⟩;refine Uy ?_;refine Kl.intro (fun F=>?_) (fun hf=>?_)
 .have l:i<rs.length:=acb F;clear F;have ar:=N.qP7 i l;have⟨ru,H,t⟩:=N.NS i l;have I:=H o (l1.trans s);rw[<-D4 (d:=[]) l]at t;have hs:=ajB rs i;generalize aJ:rs.getD i []=row at*;have p:=fun g=>t.TA g;by_cases c2:(row.length:Int)>=rs.length
  .have d2:decide ((row.length:Int)>=rs.length)=tT:=Z6 c2;simp only[HO,seval,ar,I,p,lr,d2,aew,m o s,ldE];refine⟨fin o s,.inl ⟨trivial,fun⟨es,A,G⟩=>?_⟩⟩;have:=aiS A.GD A.q9 G l;grind
  have d2:decide ((row.length:Int)>=rs.length)=fF:=IE c2;have aN:row.length<=rs.length:=NH;simp only[HO,seval,ar,I,p,lr,d2];refine lIn (fun k fr O=>∃(j:Nat)(y:vV),k=row.length-j/\j<=row.length/\fr=mkF [(0,r),(2,pT (Z R)),(4,y),(5,i),(16,r),(17,rs.length),(18,i),(29,ru),(30,row.length),(31,j)]/\GP O y (abT rs i++ahy i (row.take j))/\Le a O/\Z2 a y/\Le o o) ⟨0,_,rfl,aax _,rfl,by grind[ahy],s,ax,Le.refl _⟩ ?_;rintro k fr O V ⟨j,y,rfl,hj,rfl,W,P,X,-⟩;have q:RL RP O ru row:=t.le Nn.RP (l1.trans P);refine Uy ?_;refine Kl.intro (fun F=>?_) (fun hf=>?_)
  .have f:j<row.length:=acb F;clear F;have ad:=q.DH j f;have ld:=q.Uc j f;have st:=ajA i row f;have aa:=aiR i (row.take j);rw[zx]at aa;have ae:=len_bd hlen NH c;have J:=aaa j NH;generalize row[j]=w at*;by_cases c3:(i:Int)<w
   .have d3:decide ((i:Int)<w)=tT:=Z6 c3;have⟨v',z,Q,e4,e5,g5,w5,l4,f5,k5⟩:=W.push V ((i:Int),w) hGr;have⟨l5,a5⟩:=f5 a P X;simp only[HO,seval,ad,ld,d3,xe,e4,e5,J];exact lgA (JS f) ⟨j+1,v',rfl,f,rfl,hGr,l5,a5,Le.refl _⟩
   .have d3:decide ((i:Int)<w)=fF:=IE c3;simp only[HO,seval,ad,ld,d3,J];exact lgA (JS f) ⟨j+1,y,rfl,f,rfl,hGr,P,X,Le.refl _⟩
  .have K:row.length<=j:=vp hf;rw[abe K,<-hs]at W;have ai:=aaa i NH;have aP:=aiR i row;refine Sk ai ?_;exact lgA (JS l) ⟨i+1,y,rfl,l,rfl,W,P,X,hGr⟩
 have K:rs.length<=i:=vp hf;obtain rfl:i=rs.length:=NH;have ae:=len_bd hlen c c;simp only[HO,seval,lr];refine kCi func26 (amk T (rs.length:Int) E (abT rs rs.length) o gx.pr NH) ?_;rintro x h3 w3 ⟨l3,⟨hn,kk,aj,rfl⟩|⟨aq,ev,rfl,L,a3⟩⟩
 .obtain⟨av,z,e4,u,l4,w4⟩:=newE4 w3;have d:decide (kk=0)=fF:=IE aj;have S:=(s.trans l3).trans l4;simp only[HO,seval,e4,u,bne,d,aew,m z S,ldE];grind[aiw]
 have⟨av,z,e4,u,l4,w4,L4⟩:=akX w3 (n:=(rs.length:Int)) L.pr;have d0:decide ((0:Int)=0)=tT:=by decide
 have az:=aq.right;have S:=(s.trans l3).trans l4;have gg:GR z (.agg #[rs.length,ev]) ⟨(rs.length:Int),aa5 ((abT rs rs.length).map lZ)⟩:=⟨ev,rfl,L.pr.le l4⟩;generalize aT:aa5 ((abT rs rs.length).map lZ)=fs at*;refine Sk (IX e4 u @bne.eq_1.{0} d0 ((L4 z (Le.refl _)).1)) ?_
 generalize h3.next=D at*
 refine kCi func45 (aix T _ r ⟨(rs.length:Int),fs⟩ rs z gg (N.le (Nn.RL Nn.RP) (l1.trans S))) ?_;rintro x Q w5 ⟨⟨bb,rfl,aC⟩,l5⟩;have v:=S.trans l5;cases bb with
 |false=>simp only[HO,seval,aew,m Q v,ldE];grind[aiw]
 |true=>
  obtain⟨-,hG⟩:=aC.1 rfl;simp only[yM]at hG;have one:=L.pr.sl.one;have⟨ea,ec,M,_⟩:=L.pr.sl;have aD:ev.cells=#[ev]:=by rw[M];rfl
  have oR:=v.own _ _ o1;have st:=aib (n:=(rs.length:Int)) (ev:=ev) oR one aD;have oo:=aai.Y3 Q R (.cells [rs.length,ev]);have aF:=ai2 (n:=(rs.length:Int)) (ev:=ev) oo ⟨ea,_,ec,M⟩;have aH:blk ev≠Z R:=fun e=>by have:=a3 R e;grind[Le.own]
  simp only[HO,seval,(L4 Q l5).1,st,aF];exact⟨(l1.trans v).put _ nR,.inr ⟨fs,ev,az,hG,rfl,(GS.le L (l4.trans l5)).put _ aH,fun b hb=>(l1.trans s).none (a3 b hb)⟩⟩
end
section
attribute [local instance] Classical.propDecidable
section
variable{α β:Type}[DecidableEq α]
def agG:List (α×β)->α->β->List (α×β)
 |[],k,v=>[(k,v)]
 |(a,b)::r,k,v=>if a=k then(k,v)::r else(a,b)::agG r k v
def aeB:List (α×β)->α->Option β
 |[],_=>Y
 |(a,b)::r,k=>if a=k then Z b else aeB r k
theorem aiT(l:List (α×β))(k a:α)(v:β):aeB (agG l k v) a=if k=a then Z v else aeB l a:=by
 induction l<;>grind[agG,aeB]
theorem setV_at(l:List (α×β))(k:α)(v:β):(aeB l k=Y/\agG l k v=l++[(k,v)])\/∃(j:Nat)(b:β),aeB l k=Z b/\l[j]?=Z (k,b)/\(∀i,i<j->∀x,l[i]?=Z x->x.1≠k)/\agG l k v=l.set j (k,v):=by
 induction l with
 |nil=>exact .inl ⟨rfl,rfl⟩
 |cons x r e=>
  have⟨a,b⟩:=x;simp only[agG,aeB];by_cases h:a=k
  .subst h;rw[Sb rfl,Sb rfl];exact .inr ⟨0,b,rfl,rfl,NH,rfl⟩
  .rw[WA h,WA h];rcases e with⟨d,h2⟩|⟨j,c,d,h2,h3,f⟩
   .grind
   .refine .inr ⟨j+1,c,d,hGr,fun i hi x g=>?_,by rw[f];rfl⟩;cases i<;>grind
end
def ahb(l:List (Pr×Pr)):List (vV×vV):=l.map fun x=>(UI x.1,UI x.2)
theorem aeF(k:Pr):∀(l:List (Pr×Pr))(i:Nat),(aeB l k=Y->adC pG 49 (UI k) (ahb l) i=Z Y)/\∀(j:Nat) b,l[j]?=Z (k,b)->(∀q,q<j->∀x,l[q]?=Z x->x.1≠k)->adC pG 49 (UI k) (ahb l) i=Z (Z (i+j,UI b))
 |[],i=>⟨fun _=>rfl,hGr⟩
 |(a,b)::r,i=>by
  have⟨g,h2⟩:=aeF k r (i+1)
  have un:adC pG 49 (UI k) (ahb ((a,b)::r)) i=match aEq pG 49 (UI k) (UI a)with|some tT=>Z (Z (i,UI b))|some fF=>adC pG 49 (UI k) (ahb r) (i+1)|none=>Y:=rfl
  rw[un,eqP];constructor
  .grind[aeB]
  .intro j c f d;cases j with
   |zero=>grind
   |succ j=>
    have e:a≠k:=d 0 NH (a,b) rfl;have:decide (k=a)=fF:=by simpa using Ne.symm e
    rw[this];show adC pG 49 (UI k) (ahb r) (i+1)=_;rw[h2 j c (by simpa using f) hGr];congr 3;omega
def ajg{h:aai}{x:vV}(p:Pr)(ok:Bool):acR pG h 84 x (UI p) ok=Y:=by simp only[acR,qS30,UI]
def ajC{h:aai}{x v:vV}(p:Pr):acM pG h 84 x (UI p) v=Y:=by simp only[acM,qS30,UI]
theorem ajD{h:aai}{M:Nat}{l:List (Pr×Pr)}(a:h.own M=Z (.map (ahb l))){k v:Pr}(e:aeB l k=Z v):
  adH pG h 84 (.map (Z M)) (UI k) fF=Z (UI v):=by
 have c:acd pG 49=Z (.agg #[.int .i64 0,.int .i64 0]):=Ji;simp only[adH,qS30,keyP,a,c,if_true];rcases setV_at l k v with⟨d,_⟩|⟨j,b,d,h2,h3,_⟩
 .grind
 grind[aeF]
theorem mapPP_set{h:aai}{M:Nat}{l:List (Pr×Pr)}(a:h.own M=Z (.map (ahb l)))(k v:Pr):aea pG h 84 (.map (Z M)) (UI k) (UI v)=Z (h.put M (.map (ahb (agG l k v)))):=by
 simp only[aea,qS30,keyP,a,if_true];rcases setV_at l k v with⟨c,d⟩|⟨j,b,c,h2,h3,d⟩
 .grind[aeF,ahb]
 grind[aeF,ahb,map_set]
def abA(d:H8):Pr:=((d.1:Int),(d.2:Int))
theorem aif{a b:H8}(h:abA a=abA b):a=b:=by grind[abA]
section
variable{n:Nat}{es:List Pr}{rs:AM}
theorem bes_row(a:aV n es)(ha:D3 es)(G:Av n es rs)(v:Nat):(Zh n es).getD v []=((rG n).filter fun w=>decide (w∈Xl rs v)).map fun(w:Nat)=>(w:Int):=by
 refine afY _ _ (KW es a ha v) ?_ fun x=>?_
 .grind[pairwise_lt_range,List.Pairwise.imp]
 grind[Ru,Av.mem,EW]
noncomputable def aih(n:Nat)(r:Nat->II)(v:Nat):List H8:=((rG n).filter fun w=>decide (w∈r v)).map fun w=>(v,w)
noncomputable def afd(n:Nat)(r:Nat->II)(k:Nat):List H8:=(rG k).flatMap (aih n r)
theorem ahC(n:Nat)(r:Nat->II)(k:Nat):afd n r (k+1)=afd n r k++aih n r k:=by grind[afd.eq_1,range_succ]
theorem ahX(n:Nat)(r:Nat->II):afd n r n=ddl n r:=rfl
theorem rowsD_pre{n:Nat}(r:Nat->II){k m:Nat}(h:k<=m):∃q,afd n r m=afd n r k++q:=by
 induction h with
 |refl=>exact⟨[],Ma⟩
 |step _ a=>grind[ahC]
theorem ddl_at{n:Nat}(r:Nat->II){v j:Nat}(a:v<n)(b:j<(aih n r v).length):∃q,ddl n r=(afd n r v++(aih n r v).take j)++(aih n r v)[j]::q:=by have⟨q,c⟩:=rowsD_pre (n:=n) r (show v+1<=n from a);grind[ahX,ahC,getElem_cons_drop,take_append_drop]
def ai3(r:Nat->II)(P:List H8)(d:H8):Prop:=∃e∈P,WD (Nv r) e d
theorem hd_met{r:Nat->II}(R:V7 n r){P Q:List H8}{d:H8}(h:ddl n r=P++d::Q):Hd r d↔¬ai3 r P d:=by
 have p:=aaG R;have hA:=pI n r;rw[h,aiL,afC]at hA;have⟨_,⟨h2,_⟩,h3⟩:=hA;have hd:d∈dl n r:=(IP R).2 ((Ks R).1 (by rw[h];simp));constructor
 .rintro hh ⟨e,g,o⟩;have a:e∈dl n r:=(IP R).2 ((Ks R).1 hGr);exact hh e (p.adK a o) hGr
 .intro c e o f;have a:=p.sP hd o;have:e∈ddl n r:=by grind[Ks,IP]
  rw[h,vZ,HV]at this;rcases this with b|b|b
  .exact c ⟨e,b,p.adK hd o⟩
  all_goals grind[JN,Nd]
noncomputable def adR(r:Nat->II)(P:List H8):AM:=(P.filter fun d=>decide (Hd r d)).map fun d=>kz (zu r d)
noncomputable def IN(n:Nat)(rs:AM):AM:=(vf n (Xl rs)).map kz
theorem aiz(n:Nat)(rs:AM):adR (Xl rs) (ddl n (Xl rs))=IN n rs:=by rw[IN,vf,ahN,adR,Lm];rfl
theorem ajh(r:Nat->II)(P:List H8)(d:H8):adR r (P++[d])=adR r P++if Hd r d then[kz (zu r d)]else[]:=by grind[adR.eq_1]
end
end
section
attribute [local irreducible] Kp MQ lU KO1 KO KN KX KE VK Kl ZJ TC aab
attribute [local irreducible] abT ahy IN adR afd aih
variable {M a c id j n:Nat} {P:List H8} {es:List Pr} {h:aai} {r:Nat->II} {rs:AM}
def tm_nat(a b:Nat):((a:Int)).tmod (b:Int)=((a%b:Nat):Int):=rfl
theorem Av.row(a:aV n es)(G:Av n es rs)(v:Nat)(b:j<(rs.getD v []).length):∃h:j<(Xl rs v).length,(rs.getD v [])[j]=(((Xl rs v)[j]:Nat):Int):=by grind[Av.back]
theorem rowD_len(a:aV n es)(ha:D3 es)(G:Av n es rs)(v:Nat):(aih n (Xl rs) v).length=((Zh n es).getD v []).length:=by grind[bes_row,aih]
theorem rowD_get(b:aV n es)(ha:D3 es)(G:Av n es rs)(v:Nat)(c:j<((Zh n es).getD v []).length)(a:j<(aih n (Xl rs) v).length):
  ∃w:Nat,((Zh n es).getD v [])[j]=(w:Int)/\(aih n (Xl rs) v)[j]=(v,w)/\w∈Xl rs v:=by grind[bes_row,aih]
def SA{l:List (Pr×Int)}(a:h.own M=Z (.map (wy l)))(k:Pr):adH pG h 74 (.map (Z M)) (UI k) fF=Z (.int .i64 ((abo l k).getD 0)):=Il a k fF
theorem apart_new(a:h.own id=Y):Z2 h (sL (Z id) n c):=fun b hb=>by injection hb with hb;grind
theorem aii(n:Nat)(r:Nat->II):∀k,(afd n r k).length<=k*n
 |0=>by grind[afd]
 |k+1=>by have a:=aii n r k;grind[aih,ahC]
theorem fac_len(a:n<=200){P Q:List H8}(h:ddl n r=P++Q):(adR r P).length+1<=40001:=by have b:=aii n r n;rw[ahX,h,aaf]at b;have h2:n*n<=200*200:=af7 a a;grind[adR]
theorem aji{d e:H8}:ai3 r (P++[d]) e↔ai3 r P e\/WD (Nv r) d e:=by grind[ai3]
theorem range_it(f:H8->H8)(d:H8)(k:Nat):((rG (k+1)).map fun i=>(((it f i d).1:Nat):Int))=((rG k).map fun i=>(((it f i d).1:Nat):Int))++[(((it f k d).1:Nat):Int)]:=by grind[range_succ]
def face_list(r:Nat->II)(d:H8):((rG (bt (Nv r) d)).map fun i=>(((it (Nv r) i d).1:Nat):Int))=kz (zu r d):=by rw[kz,zu,AA,Lm,Lm];rfl
def lt_next{k o:Nat}(h:k<=o)(a:k≠o):k<o:=NH
def aw_len(h:a+1<=40001):aaY .i64 ((a:Int)+1)=((a+1:Nat):Int):=aaa a NH
def dec_succ(a:Nat):(((a+1:Nat):Int))≠0:=NH
def le_big(h:a+1<=40001):a<=100000000:=NH
open Classical in
theorem Faces_any(W0:LA)(rv:vV)(rs:AM)(h:aai)(hv:RL (RL RP) h rv rs):
  AC pG W0 29 [rv] h fun x h'=>Le h h'/\((x=.tuple #[.slice Y 0 0,.int .i64 70]/\¬∃es,bX ⟨(rs.length:Int),es⟩/\Av rs.length es rs)\/
   ∃es r,bX ⟨(rs.length:Int),es⟩/\Av rs.length es rs/\x=.tuple #[r,.int .i64 0]/\RL (RL RP) h' r (IN rs.length rs)):=by
 refine AC.vF func29 ntmps29 results29 fun ek=>?_;refine Uy ?_;refine kCi func51 (told_any W0 rv rs h hv) ?_;rintro x h1 w1 ⟨l1,⟨rfl,en⟩|⟨es,ev,hr,G,rfl,bg,-⟩⟩
 .obtain⟨cN,h2,e2,aC,l2,w2⟩:=newE4 w1;refine Sk (XC e2 aC) ?_;grind[Le.trans]
 have⟨cN,h2,e2,aC,l2,w2,L2⟩:=akX w1 (n:=(rs.length:Int)) bg.pr
 generalize h1.next=P4 at*
 have hR:=hr.GD;have hA:=hr.q9;have IR:=G.jD hR hA;have p:=aaG IR;have eg:(rs.length:Int)<=200:=hr.n1;have eh:es.length<=594:=hr.len;have aD:=l1.trans l2
 obtain⟨h3,e3,l3,w3,o3⟩:∃h3,h2.alloc (.map [])=h3/\Le h2 h3/\WF h3/\h3.own h2.next=Z (.map []):=⟨_,rfl,(Le.refl h2).alloc w2 _,w2.alloc _,aai.zT _ _⟩
 have cP:h2.own h2.next=Y:=(Le.refl h2).next w2 (qL0 _)
 have lr:=fun g=>hv.qP6 g;have F:∀v,v<rs.length->(rs.getD v []).length<rs.length:=fun v hv=>aiS hR hA G hv;simp only[HO,seval,e2,aC,e3,lr]
 generalize h2.next=U at*
 refine lIn (fun k fr N=>∃(i:Nat)(l:List (Pr×Pr)),k=rs.length-i/\i<=rs.length/\fr=mkF [(4,pT (Z P4)),(6,.map (Z U)),(28,rv),(29,.int .i64 rs.length),(30,i)]/\
   N.own U=Z (.map (ahb l))/\Le h2 N/\∀d:H8,d.1∈Xl rs d.2->d.2<i->aeB l (abA d)=Z (abA (Nv (Xl rs) d))) ⟨0,[],rfl,aax _,rfl,o3,l3,fun d _ h=>by omega⟩ ?_
 clear o3 w3 l3 e3;clear h3;rintro k fr N bh ⟨i,l,rfl,hi,rfl,oB,lq,hl⟩;refine Uy ?_;refine Kl.intro (fun O=>?_) (fun hf=>?_)
 .have A:i<rs.length:=acb O;clear O;have ar:=hv.qP7 i A;have⟨ru,bk,aF⟩:=hv.NS i A;have bm:=bk N (aD.trans lq);rw[<-D4 (d:=[]) A]at aF;have eo:=F i A;have aq:=fun j (hj:j<(rs.getD i []).length)=>G.row hR i hj;have hlen:(Xl rs i).length=(rs.getD i []).length:=by grind[Xl.eq_1]
  generalize rs.getD i []=row at*;have av:=fun g=>aF.TA g;refine Sk (Yb ar bm av) ?_;refine lIn (fun k fr u=>∃(j:Nat)(l:List (Pr×Pr)),k=row.length-j/\j<=row.length/\fr=mkF [(4,pT (Z P4)),(6,.map (Z U)),(7,i),(8,ru),(28,rv),(29,.int .i64 rs.length),(30,i),(35,ru),(36,row.length),(37,.int .i64 j)]/\
    u.own U=Z (.map (ahb l))/\Le h2 u/\(∀d:H8,d.1∈Xl rs d.2->d.2<i->aeB l (abA d)=Z (abA (Nv (Xl rs) d)))/\∀(m:Nat)(V:m<(Xl rs i).length),m<j->aeB l (abA ((Xl rs i)[m],i))=Z (abA (Nv (Xl rs) ((Xl rs i)[m],i)))) ⟨0,l,rfl,aax _,rfl,oB,lq,hl,fun m _ h=>by omega⟩ ?_
  clear oB hl bm;rintro k fr u W ⟨j,l,rfl,hj,rfl,oB,lz,hl,ep⟩;refine Uy ?_;refine Kl.intro (fun O=>?_) (fun hf=>?_)
  .have f:j<row.length:=acb O;clear O;have HZ:=aF.le Nn.RP (aD.trans lz);have ad:=HZ.DH j f;have ld:=HZ.Uc j f;have R:(j+1)%row.length<row.length:=aj3 _ NH;have cR:=HZ.DH ((j+1)%row.length) R;have bo:=HZ.Uc ((j+1)%row.length) R;have⟨cU,ej⟩:=aq j f;have⟨er,em⟩:=aq _ R;rw[ej]at ld;rw[em]at bo;have cW:=ajw (IR.nd i) cU;simp only[hlen]at cW;have X:=aaa j NH;have tm:=tm_nat (j+1) row.length;have dz:((row.length:Int)=0)=False:=eq_false NH;have ay:Nv (Xl rs) ((Xl rs i)[j],i)=(i,(Xl rs i)[(j+1)%row.length]):=by grind[Nv.eq_1]
   have st:=mapPP_set oB (abA ((Xl rs i)[j],i)) (abA (Nv (Xl rs) ((Xl rs i)[j],i)));simp only[ay,abA]at st;simp only[HO,seval,ad,ld,xe,X,av,tm,dz,cR,bo,ajC,st];refine lgA (JS f) ⟨j+1,_,rfl,f,rfl,aai.Y3 _ _ _,lz.put _ cP,fun d hd cZ=>?_,fun m V et=>?_⟩
   .rw[aiT,WA]
    .grind
    .intro e;have:=aif (a:=((Xl rs i)[j],i)) (b:=d) e;grind
   .rw[aiT];by_cases e:m=j
    .subst e;exact(Sb rfl).trans (by rw[ay];rfl)
    .rw[WA]
     .grind
     .intro e2;have:=aif (a:=((Xl rs i)[j],i)) (b:=((Xl rs i)[m],i)) e2;simp only[Gw,and_true]at this;have nd:=IR.nd i;rw[AE,Yi]at nd;grind
  .have aa:row.length<=j:=vp hf;have aH:=aaa i NH;refine Sk aH ?_;refine lgA (JS A) ⟨i+1,l,rfl,A,rfl,oB,lz,fun d hd cZ=>?_⟩;by_cases e:d.2=i
   .obtain⟨a,b⟩:=d;simp only at e hd;subst e;have⟨m,V,em⟩:=Bx.1 hd;grind
   grind
 have aa:rs.length<=i:=vp hf;have br:∀d:H8,d∈dl rs.length (Xl rs)->aeB l (abA d)=Z (abA (Nv (Xl rs) d)):=fun d hd=>by grind[IP,V7.sy,V7.lt]
 clear hl hf aa hi;have⟨hb,eb,lb,wb,ob⟩:=Tt bh []
 obtain⟨L,ec,lc,wc,oc⟩:∃L,hb.alloc (.map [])=L/\Le hb L/\WF L/\L.own hb.next=Z (.map []):=⟨_,rfl,(Le.refl hb).alloc wb _,wb.alloc _,aai.zT _ _⟩
 have c0:N.own N.next=Y:=(Le.refl N).next bh (qL0 _)
 have c3:hb.own hb.next=Y:=(Le.refl hb).next wb (qL0 _)
 have c4:N.next≠hb.next:=fun e=>by grind
 have bx:aas pG N 25 0 []=Z (sL (Z ⟨N.next,0,Y⟩) 0 0,hb):=by rw[<-eb];exact mkL52e N
 have c5:=(L2 L ((lq.trans lb).trans lc)).1;refine Sk (Yb bx ec c5) ?_
 generalize N.next=F0 at*
 generalize hb.next=c at*
 have bB:(L.kill c).own F0=Z (.cells []):=by grind[aai.xJ,Le.own]
 have bF:Le N ((L.kill c).kill F0):=((lb.trans lc).aiY (lb.none c3)).aiY c0;refine kCi akP (AC.frame oc (AC.frame bB (oe W0 _ rs.length es ((L.kill c).kill F0) ⟨ev,rfl,(bg.pr.le l2).le (lq.trans bF)⟩ hr))) ?_;rintro bv h5 w5 ⟨g1,⟨g,⟨aJ,lg⟩,nF,rfl⟩,eu,rfl⟩;have nM:g.own c=Y:=by grind[aai.By]
 have bH:=bF.trans lg;have c6:g.own U=Z (.map (ahb l)):=bH.own _ _ oB;have ey:U≠c:=fun e=>by grind
 have c9:=Xq rs.length es;have bI:=fun g=>aJ.qP5 g;rw[c9]at bI;have bN:Le g ((g.put F0 (.cells [])).put c (.map [])):=((Le.refl g).put _ nF).put _ nM;have g0:Lj (RL RP) (rem [c] ((g.put F0 (.cells [])).put c (.map []))) (sL (Z F0) 0 0) (adR (Xl rs) (afd rs.length (Xl rs) 0)):=by
  have:adR (Xl rs) (afd rs.length (Xl rs) 0)=[]:=by grind[adR,afd]
  grind[Lj.empty,Th,aai.By,aai.Y3]
 have bQ:Z2 g (sL (Z F0) 0 0):=fun b hb=>by injection hb with hb;grind
 have bW:blk (sL (Z F0) 0 0)≠Z c:=fun e=>by injection e with e;exact c4 e
 generalize vV.slice (Z F0) 0 0=da at*;have J:rs.length<=200:=NH;refine Sk bI ?_;refine lIn (fun k fr z=>∃(i:Nat)(r:vV)(m:List (Pr×Int)),k=rs.length-i/\i<=rs.length/\fr=mkF [(6,.map (Z U)),(11,r),(12,.map (Z c)),(61,bv),(62,.int .i64 rs.length),(63,i)]/\
   z.own c=Z (.map (wy m))/\Lj (RL RP) (rem [c] z) r (adR (Xl rs) (afd rs.length (Xl rs) i))/\blk r≠Z c/\Le g z/\Z2 g r/\∀d∈dl rs.length (Xl rs),((abo m (abA d)).getD 0≠0↔ai3 (Xl rs) (afd rs.length (Xl rs) i) d)) ⟨0,da,[],rfl,aax _,rfl,aai.Y3 _ _ _,g0,bW,bN,bQ,fun d _=>by simp[abo,ai3,afd]⟩ ?_
 clear g0 bW bQ bN w5 bx;rintro k fr z M ⟨i,r,m,rfl,hi,rfl,oM,gf,bf,H,af,V⟩;refine Uy ?_;refine Kl.intro (fun O=>?_) (fun hf=>?_)
 rotate_left
 .have aa:rs.length<=i:=vp hf;obtain rfl:i=rs.length:=NH;rw[ahX,aiz]at gf;refine Uy ?_;exact⟨aD.trans (lq.trans (bH.trans H)),.inr ⟨es,r,hr,G,rfl,(gf.rl (Nn.RL Nn.RP)).le (Nn.RL Nn.RP) (Sa _ _)⟩⟩
 have A:i<rs.length:=acb O;clear O;have ab:=aJ.Wm i NH;have⟨bu,bY,aK⟩:=aJ.NS i NH;have bZ:=bY z H;rw[<-D4 (d:=[]) NH]at aK;have eA:=rowD_len hR hA G i;have db:=fun j hj dc=>rowD_get hR hA G i (j:=j) hj dc;have dd:=fun j hj=>ddl_at (n:=rs.length) (Xl rs) (v:=i) (j:=j) A hj;have aL:=ahC rs.length (Xl rs) i;have de:=bV rs.length es _ (aev (show i<(Zh rs.length es).length by omega));rw[<-D4 (d:=[]) NH]at de;generalize (Zh rs.length es).getD i []=Rw at*;generalize aih rs.length (Xl rs) i=D at*;have lR:=fun g=>aK.TA g;simp only[HO,seval,ab,bZ,lR];refine lIn (fun k fr u=>∃(j:Nat)(r:vV)(m:List (Pr×Int)),k=Rw.length-j/\j<=Rw.length/\fr=mkF [(6,.map (Z U)),(11,r),(12,.map (Z c)),(13,i),(61,bv),(62,.int .i64 rs.length),(63,i),(68,bu),(69,Rw.length),(70,.int .i64 j)]/\
   u.own c=Z (.map (wy m))/\Lj (RL RP) (rem [c] u) r (adR (Xl rs) (afd rs.length (Xl rs) i++D.take j))/\blk r≠Z c/\Le g u/\Z2 g r/\∀d∈dl rs.length (Xl rs),((abo m (abA d)).getD 0≠0↔ai3 (Xl rs) (afd rs.length (Xl rs) i++D.take j) d)) ⟨0,r,m,rfl,aax _,rfl,oM,hGr,bf,H,af,hGr⟩ ?_
 clear oM gf bf H af V bZ M;clear z r m;rintro k fr z M ⟨j,r,m,rfl,hj,rfl,oM,gf,bf,H,af,V⟩;refine Uy ?_;refine Kl.intro (fun O=>?_) (fun hf=>?_)
 rotate_left
 .have aa:Rw.length<=j:=vp hf;rw[abe NH,<-aL]at gf V;have aH:=aaa i NH;refine Sk aH ?_;exact lgA (JS A) ⟨i+1,r,m,rfl,A,rfl,oM,gf,bf,H,af,V⟩
 have f:j<Rw.length:=acb O;clear O;have aN:j<D.length:=NH;have⟨w,ew,ed,dg⟩:=db j f aN;have⟨Q,hQ⟩:=dd j aN;have tk:D.take (j+1)=D.take j++[D[j]]:=XJ aN;rw[ed]at hQ tk;have b0:afd rs.length (Xl rs) i++D.take (j+1)=(afd rs.length (Xl rs) i++D.take j)++[(i,w)]:=hGr;generalize afd rs.length (Xl rs) i++D.take j=P at*;have I:((i,w):H8)∈dl rs.length (Xl rs):=(IP IR).2 dg;have eB:=hd_met IR hQ;have b1:=fac_len J hQ;have eC:=ajh (Xl rs) P (i,w);have HB:=aK.le Nn.RP H;have aj:=HB.DH j f;have lj:=HB.Uc j f;rw[ew]at lj;have X:=aaa j NH;have⟨eD,C,eE,sE,lE,wE,oE⟩:=Ut M ((i:Int),(w:Int))
 have nE:z.own z.next=Y:=(Le.refl z).next M (qL0 _)
 generalize z.next=E0 at*
 have aP:=lE.own _ _ oM;have lk:=SA aP ((i:Int),(w:Int));have b2:=V _ I;have b3:=uM oE;have aT:=H.trans lE;have aW:=gf.le (Nn.RL Nn.RP) (lE.Xm (l:=[c]));by_cases cm:(abo m ((i:Int),(w:Int))).getD 0=0
 rotate_left
 .have dm:decide ((abo m ((i:Int),(w:Int))).getD 0=0)=fF:=IE cm;refine Sk (rk aj lj @xe eE sE b3 @acS lk @bne.eq_1.{0} dm X) ?_
  have S:=b2.1 cm;exact lgA (JS f) ⟨j+1,r,m,rfl,f,rfl,aP,hGr,bf,aT,af,fun e he=>by rw[b0,aji,V e he];exact⟨.inl,fun x=>x.elim id fun o=>by have⟨y,hy,o'⟩:=S;exact⟨y,hy,o'.trans o⟩⟩⟩
 have dm:decide ((abo m ((i:Int),(w:Int))).getD 0=0)=tT:=Z6 cm;have dj:¬ai3 (Xl rs) P (i,w):=fun h=>b2.2 h cm;have⟨o0,o1,o2⟩:=aaM p I;have ei:bt (Nv (Xl rs)) (i,w)<=40000:=by have h1:=tf (Ri p I) (B:=ddl rs.length (Xl rs)) fun y hy=>(Ks IR).2 ((IP IR).1 (p.sP I ((vA p I).1 hy)));rw[oN]at h1;have h2:=aii rs.length (Xl rs) rs.length;rw[ahX]at h2;have h3:rs.length*rs.length<=200*200:=af7 J J;omega
 have⟨hF,eF,lF,wF,oF⟩:=Tt wE []
 have nC:C.own C.next=Y:=(Le.refl C).next wE (qL0 _)
 have b4:aas pG C 28 0 []=Z (sL (Z C.next) 0 0,hF):=by rw[<-eF];exact mkI0 C
 generalize C.next=C0 at*
 have aX:GI hF (sL (Z C0) 0 0) []:=GS.full (k:=1) (n:=0) oF rfl WY;have a6:Z2 C (sL (Z C0) 0 0):=apart_new nC;generalize vV.slice (Z C0) 0 0=ae at*;have ldF:=uM (lF.own _ _ oE);have⟨dp,hG,eG,sG,lG,wG,oG⟩:=Ut wF ((i:Int),(w:Int))
 have nG:hF.own hF.next=Y:=(Le.refl hF).next wF (qL0 _)
 generalize hF.next=E1 at*
 have K0:Le (rem [c] C) hG:=(Sa _ _).trans (lF.trans lG);have kM:(rem [c] C).own c=Y:=by grind[DC]
 have kB:(rem [c] C).own U=Z (.map (ahb l)):=Th.2 ⟨aT.own _ _ c6,hGr⟩;have b5:Z2 (rem [c] C) ae:=fun b hb=>(Sa [c] C).none (a6 b hb);have b6:=lG.own _ _ (lF.own _ _ aP);have cM:blk ae≠Z c:=fun e=>by have:=a6 _ e;grind
 have cE:blk ae≠Z E1:=fun e=>GS.Sy aX e nG;have eM:E1≠c:=fun e=>by grind
 have kE:(rem [c] C).own E1=Y:=(Sa [c] C).none (lF.none nG);have dq:Le g (rem [c] C):=aT.iV (l:=[c]) fun b hb=>by grind
 have dr:=fun g=>(aW.rl (Nn.RL Nn.RP)).qP5 g;have b8:=aw_len b1;simp only[HO,seval,aj,lj,xe,eE,sE,b3,acS,lk,bne,dm,b4,ldF,eG,sG];refine lIn (fun kk fr u=>∃(k:Nat)(cv:vV)(E:Nat)(K:List (Pr×Int)),kk=bt (Nv (Xl rs)) (i,w)-k/\k<=bt (Nv (Xl rs)) (i,w)/\fr=mkF [(6,.map (Z U)),(11,r),(12,.map (Z c)),(13,i),(18,cv),(19,pT (Z E)),(61,bv),(62,.int .i64 rs.length),(63,i),(68,bu),(69,Rw.length),(70,.int .i64 j)]/\
   u.own E=Z (.cells (xM (abA (it (Nv (Xl rs)) k (i,w)))))/\u.own c=Z (.map (wy K))/\GI u cv ((rG k).map fun x=>(((it (Nv (Xl rs)) x (i,w)).1:Nat):Int))/\Le (rem [c] C) u/\Z2 (rem [c] C) cv/\blk cv≠Z c/\blk cv≠Z E/\E≠c/\
   ∀e∈dl rs.length (Xl rs),((abo K (abA e)).getD 0≠0↔ai3 (Xl rs) P e\/∃x,x<k/\it (Nv (Xl rs)) x (i,w)=e)) ⟨0,ae,E1,m,rfl,aax _,rfl,oG,b6,GI.le aX lG,K0,b5,cM,cE,eM,fun e he=>by grind⟩ ?_
 clear K0 b5 b6 cM cE eM kE aX a6 oG nG wG lG sG eG ldF b4 nC oF wF lF eF;clear hG dp hF;rintro kk fr u W ⟨k,cv,E,K,rfl,hk,rfl,dv,T,gc,lz,ac,cM,cE,eM,a7⟩;have b9:=p.uN I k;have cc:=a7 _ b9;have cd:=SA T (abA (it (Nv (Xl rs)) k (i,w)));have cf:=uM dv;by_cases ck:k=bt (Nv (Xl rs)) (i,w)
 .have S:(abo K (abA (it (Nv (Xl rs)) k (i,w)))).getD 0≠0:=cc.2 (.inr ⟨0,NH,by rw[ck,o1];rfl⟩);have dk:decide ((abo K (abA (it (Nv (Xl rs)) k (i,w)))).getD 0=0)=fF:=IE S;refine Sk (xU cf @acS cd dk) ?_;rw[ck,face_list]at gc;have dw:Le (rem [c] C) (rem [c] u):=lz.iV fun b hb=>by grind
  have dy:=aW.le (Nn.RL Nn.RP) dw;have hb:∀b,blk r=Z b->b∉[c]:=fun b hb V=>by grind
  have dA:∀b,blk r=Z b->blk cv≠Z b:=fun b hb L=>by have⟨us,g1,_⟩:=aW;exact GS.Sy g1 hb (ac b L)
  have gu:RL RP (rem [c] (rem (bl r) u)) cv (kz (zu (Xl rs) (i,w))):=by
   have q:GI (rem [c] (rem (bl r) u)) cv (kz (zu (Xl rs) (i,w))):=GS.Fi (GS.Fi gc (l:=bl r) fun b hb L=>dA b (Zr.1 L) hb) (l:=[c]) fun b sZ L=>by grind
   exact q.rl
  have⟨h7,dB,h8,e7,e8,eH,l7,w7,f8,k8⟩:=Lj.mG (P:=pG) (t:=25) (Nn.RL Nn.RP) Ji dy W gu gu.sl.one (le_big b1) hb (fun b hb=>by rw[iy]at hb;subst hb;rw[T];simp);have⟨dE,dF⟩:=k8 c _ T bf;have⟨l8,a8⟩:=f8 g (dq.trans lz) af;refine Sk (xU (mkL52 u gu.sl) e7 e8 X) ?_;refine lgA (JS f) ⟨j+1,dB,K,rfl,f,rfl,dE,hGr,dF,l8,a8,fun e he=>?_⟩;rw[b0,aji,a7 e he];constructor
  .rintro(h|⟨x,_,h⟩)
   .exact .inl h
   .exact .inr ⟨x,h⟩
  .rintro(h|⟨x,h⟩)
   .exact .inl h
   .refine .inr ⟨x%bt (Nv (Xl rs)) (i,w),by rw[ck];exact aj3 _ o0,?_⟩;rw[<-QF p I];exact h
 .have cg:=lt_next hk ck;have cp:¬((abo K (abA (it (Nv (Xl rs)) k (i,w)))).getD 0≠0):=fun h=>by
   rcases cc.1 h with⟨y,hy,o⟩|⟨x,hx,e⟩
   .have eI:y∈dl rs.length (Xl rs):=(IP IR).2 ((Ks IR).1 hGr);exact dj ⟨y,hy,o.trans (p.adK I ⟨k,rfl⟩)⟩
   grind[zk]
  have dk:decide ((abo K (abA (it (Nv (Xl rs)) k (i,w)))).getD 0=0)=tT:=Z6 (j9 cp);have az:=br _ b9;have bb:Nv (Xl rs) (it (Nv (Xl rs)) k (i,w))=it (Nv (Xl rs)) (k+1) (i,w):=rfl;rw[bb]at az;have ai:=range_it (Nv (Xl rs)) (i,w) k;have st1:=ajb T (abA (it (Nv (Xl rs)) k (i,w))) ((adR (Xl rs) P).length+1:Nat);generalize hD:it (Nv (Xl rs)) k (i,w)=s at*;have dH:=aai.Y3 u c (.map (wy (acs K (abA s) ((adR (Xl rs) P).length+1:Nat))));have dI:Le (rem [c] C) (u.put c (.map (wy (acs K (abA s) ((adR (Xl rs) P).length+1:Nat))))):=lz.put _ kM;have dJ:WF (u.put c (.map (wy (acs K (abA s) ((adR (Xl rs) P).length+1:Nat))))):=W.put _ (W.lt T);have cq:(u.put c (.map (wy (acs K (abA s) ((adR (Xl rs) P).length+1:Nat))))).own E=Z (.cells (xM (abA s))):=by grind[aai.By]
  have dL:GI (u.put c (.map (wy (acs K (abA s) ((adR (Xl rs) P).length+1:Nat))))) cv ((rG k).map fun x=>(((it (Nv (Xl rs)) x (i,w)).1:Nat):Int)):=GS.put gc _ cM;generalize u.put c (.map (wy (acs K (abA s) ((adR (Xl rs) P).length+1:Nat))))=dM at*;have m0:aaC pG dM 3 ⟨E,0,Y⟩=Z (.int .i64 (s.1:Int)):=lK cq;have⟨cx,h4,h5,e4,e5,g5,w5,l4,f5,k5⟩:=dL.push dJ ((s.1:Nat):Int) hGr;have⟨l5,a5⟩:=f5 _ dI ac;have⟨dO,dQ⟩:=k5 c _ dH cM;have⟨dS,eL⟩:=k5 E _ cq cE;have dT:=uM dS;have⟨eO,h6,e6,s6,l6,w6,o6⟩:=Ut w5 (abA s)
  have cz:h5.own h5.next=Y:=(Le.refl h5).next w5 (qL0 _)
  generalize h5.next=E' at*
  have dV:=uM o6;have cC:=l5.trans l6;have dW:=ajD (cC.own _ _ kB) az;have st2:=gD (p:=abA (it (Nv (Xl rs)) (k+1) (i,w))) o6;have cJ:E'≠c:=fun e=>by grind
  have cK:blk cx≠Z E':=fun e=>GS.Sy g5 e cz;have dZ:=aai.Y3 h6 E' (.cells (xM (abA (it (Nv (Xl rs)) (k+1) (i,w)))));have ef:(h6.put E' (.cells (xM (abA (it (Nv (Xl rs)) (k+1) (i,w)))))).own c=Z (.map (wy (acs K (abA s) ((adR (Xl rs) P).length+1:Nat)))):=by rw[aai.By _ _ _ _ (wI cJ)];exact l6.own _ _ dO
  simp only[HO,seval,cf,acS,cd,dk,dr,b8,aiP,st1,Dh,Ip,EL,m0,e4,e5,dT,e6,s6,ajg,dV,dW,st2];refine lgA (JS cg) ⟨k+1,cx,E',_,rfl,cg,rfl,dZ,ef,by rw[ai];exact GS.put (GI.le g5 l6) _ cK,cC.put _ (l5.none cz),a5,dQ,cK,cJ,fun e he=>?_⟩;rw[XR];by_cases ee:abA s=abA e
  .have:=aif ee;subst this;rw[Sb rfl,aj9];exact⟨fun _=>.inr ⟨k,agh k,hD⟩,fun _=>dec_succ _⟩
  .rw[WA ee,a7 e he];constructor
   .rintro(h|⟨x,hx,h⟩)
    .exact .inl h
    .exact .inr ⟨x,afJ hx,h⟩
   .rintro(h|⟨x,hx,h⟩)
    .exact .inl h
    .refine .inr ⟨x,qL217 (Nat.le_of_lt_succ hx) fun e2=>ee ?_,h⟩;grind
end
section
attribute [local instance] Classical.propDecidable
variable {A B C T a b i j n q v:Nat} {L:RZ} {es:List Pr} {h h' hh:aai} {r:Nat->II} {rs:AM} {x:List Value} {α:Type}
noncomputable def VF{α:Type}(P:Nat->α->Prop)(l:List α)(a:Nat):Nat:=(l.filter fun e=>decide (P a e)).length
theorem cntK_le(P:Nat->α->Prop)(l:List α)(a:Nat):VF P l a<=l.length:=OM _ _
theorem cntK_snoc(P:Nat->α->Prop)(l:List α)(e:α)(a:Nat):VF P (l++[e]) a=VF P l a+if P a e then 1 else 0:=by grind[VF]
theorem aiV{P:Nat->α->Prop}{l:List α}{e:α}{hs:II}(b:q<hs.length)(c:P hs[q] e)(h2:∀i (h:i<hs.length),P hs[i] e->i=q):
  (hs.map fun a=>((VF P (l++[e]) a:Nat):Int))=(hs.map fun a=>((VF P l a:Nat):Int)).set q (((VF P l hs[q]:Nat):Int)+1):=by
 apply TV
 all_goals grind[cntK_snoc]
noncomputable def Gn(es l:xLP)(a:Nat):Nat:=VF (fun a (e:Pr)=>Pu es a e.1.toNat) l a
noncomputable def sA(es:xLP)(l:AM)(a:Nat):Nat:=VF (fun a (f:RZ)=>Pu es a (f.headD 0).toNat) l a
def z8(n:Nat)(es:xLP)(rs:AM):Prop:=∀a∈Es n es,0<Gn es es a->(Ic n es a).length+sA es (IN n rs) a=Gn es es a+2
def ahA(n:Nat)(es:xLP)(i:Nat)(L:RZ):Prop:=L.length=n/\∀(j a v:Nat),j<i->(Es n es)[j]?=Z a->v<n->Pu es a v->L[v]?=Z (j:Int)
theorem ahA.zero:ahA n es 0 (rP n 0):=⟨Ma,hGr⟩
theorem ah3(e:aV n es)(hi:(Es n es)[i]?=Z a)(c:(Es n es)[j]?=Z b)(ha:Pu es a v)(hb:Pu es b v):i=j:=by have d:a=b:=rf (BS hi) (BS c) (ha.trans (hb.symm));grind[qD,pairwise_iff_getElem]
theorem ahA.put(f:aV n es)(H:ahA n es i L)(hi:(Es n es)[i]?=Z a)(g:Pu es a v):ahA n es i (L.set v (i:Int)):=by
 refine⟨by rw[WZ];exact H.1,fun j b w e hb hw c=>?_⟩;have d:v≠w:=by grind[ah3]
 rw[qL210 d];exact H.2 j b w e hb hw c
theorem ahA.next(H:ahA n es i L)(hi:(Es n es)[i]?=Z a)(h:∀v∈Ic n es a,L[v]?=Z (i:Int)):ahA n es (i+1) L:=by
 refine⟨H.1,fun j b w e hb hw d=>?_⟩;by_cases c:j=i
 .grind[mY]
 .exact H.2 j b w NH hb hw d
theorem ahA.get(e:aV n es)(H:ahA n es (Es n es).length L)(b:v<n):∃q,∃h:q<(Es n es).length,L[v]?=Z (q:Int)/\Pu es (Es n es)[q] v:=by have⟨a,ha,f⟩:=B6 e v b;have⟨q,c⟩:=Og.1 ha;have⟨d,h2⟩:=Ny.1 c;exact⟨q,d,H.2 q a v d c b f,hGr⟩
def aiW(b:aV n es)(h:q<(Es n es).length)(c:Pu es (Es n es)[q] v):∀i (h:i<(Es n es).length),Pu es (Es n es)[i] v->i=q:=fun i hi a=>ah3 b (Gc hi) (Gc h) a c
theorem JE(R:V7 n r){d:H8}(hd:d∈dl n r):(kz (zu r d)).headD 0=(d.1:Int)/\0<(kz (zu r d)).length:=by
 have:=(aaM (aaG R) hd).1;have e:rG (bt (Nv r) d)=0::(List.range' 1 (bt (Nv r) d-1)):=by rw[range_eq_range',show bt (Nv r) d=(bt (Nv r) d-1)+1 from by omega,qL227];simp
 refine⟨?_,by grind[kz,zu,AA]⟩;simp only[kz,zu,AA,e,AQ,qL209];rfl
theorem Uj(a:aV n es)(ha:D3 es)(G:Av n es rs){f:RZ}(hf:f∈IN n rs):0<f.length/\∃v:Nat,v<n/\f.headD 0=(v:Int):=by have R:=G.jD a ha;rw[IN,si]at hf;grind[vf.eq_1,gQ,dl,IP,JE]
theorem ajE{es:xLP}(a:n<=200):(IN n rs).length<=40000:=by have b:ddl n (Xl rs)=ddl n (Xl rs)++[]:=(ag1 _).symm;grind[fac_len,aiz]
def stI(o:hh.own T=Z (.cells (Bp L)))(hi:i<L.length)(x:Int):
  aaK pG hh 3 (pT (Z ⟨T,i,Y⟩)) x=Z (hh.put T (.cells (Bp (L.set i x)))):=by rw[QB (P:=pG) (t:=3) (x:=x) Ac Ji o (off:=i) (by rw[uE];exact hi) rfl rfl,yy]
def XP{l:Int}(o:hh.own T=Z (.cells (Bp L)))(a:L[i]?=Z l):aaC pG hh 3 ⟨T,i,Y⟩=Z (.int .i64 l):=by rw[Fq Ac rfl o];simp[Bp,a]
def Kx(T m:Nat)(k:IntKind)(j:Nat)(a:j<m):aao pG 28 (sL (Z T) m m) (.int k j)=Z (pT (Z ⟨T,j,Y⟩)):=by rw[Wc Mb Ac Ji j a];simp[Ip]
structure ahT (h h':aai) (A B C:Nat) (x:xLV):Prop where
 le:Le h h'
 wf:WF h'
 oA:h'.own A=Z (.cells x)
 oB:h'.own B=Z (.cells x)
 oC:h'.own C=Z (.cells x)
 nA:h.own A=Y
 nB:h.own B=Y
 nC:h.own C=Y
 ab:A≠B
 ac:A≠C
 bc:B≠C
theorem new3(hw:WF h)(x:xLV):ahT h (((h.alloc (.cells x)).alloc (.cells x)).alloc (.cells x)) h.next (h.next+1) (h.next+1+1) x:=by
 have a:∀x,h.next<=x->h.own x=Y:=fun x b=>(Le.refl h).next hw b
 exact⟨by grind[Le.refl,Le.alloc,WF.alloc],(by grind[WF.alloc]),by grind[Mh],by simp[Mh,om],by simp[Mh,om],hGr,a _ NH,a _ NH,NH,NH,NH⟩
def ahT.s12(N:ahT h h' A B C x):ahT h h' B A C x:=⟨N.le,N.wf,N.oB,N.oA,N.oC,N.nB,N.nA,N.nC,N.ab.symm,N.bc,N.ac⟩
def ahT.s23(N:ahT h h' A B C x):ahT h h' A C B x:=⟨N.le,N.wf,N.oA,N.oC,N.oB,N.nA,N.nC,N.nB,N.ac,N.ab,N.bc.symm⟩
attribute [local irreducible] Kp MQ lU KO1 KO KN KX KE VK Kl ZJ TC aab
attribute [local irreducible] IN Gn sA Es Ic Gx
variable {c:Nat} {l:II}
def cnt_ok(h:a<=40000):aaY .i64 ((a:Int)+1)=(a:Int)+1:=ie _ NH NH
def cnt_ok2(h:a<=40000):aaY .i64 ((a:Int)+2)=(a:Int)+2:=ie _ NH NH
def cnt_ok3(h:a<=40000)(g:b<=40000):aaY .i64 ((a:Int)+(b:Int))=(a:Int)+(b:Int):=ie _ NH NH
def pl_iff:((a:Int)+(b:Int)=(c:Int)+2)↔a+b=c+2:=NH
def pl_pos:((c:Int)>0)↔0<c:=NH
def rep_map(n:Nat):rP n (vV.int .i64 0)=Bp (rP n 0):=by simp[Bp]
theorem ah4(n:Nat)(es:xLP)(k:Nat):(Gx n es k).length=(Es k es).length:=by grind[Gx]
theorem partsN_at(n:Nat)(es:xLP)(k i:Nat)(h:i<(Es k es).length):(Gx n es k)[i]'(by grind[ah4])=Ic n es (Es k es)[i]:=by grind[Gx]
def edK_nil(n:Nat)(es b:xLP):(rP (Es n b).length (0:Int))=(Es n b).map fun a=>((Gn es ([]:xLP) a:Nat):Int):=by apply TV<;>simp[Gn,VF]
def faK_nil(n:Nat)(es b:xLP):(rP (Es n b).length (0:Int))=(Es n b).map fun a=>((sA es ([]:AM) a:Nat):Int):=by apply TV<;>simp[sA,VF]
def edK_step(d:aV n es){l:xLP}{e:Pr}(b:q<(Es n es).length)(c:Pu es (Es n es)[q] e.1.toNat):
  ((Es n es).map fun a=>((Gn es (l++[e]) a:Nat):Int))=((Es n es).map fun a=>((Gn es l a:Nat):Int)).set q (((Gn es l (Es n es)[q]:Nat):Int)+1):=by
 unfold Gn;exact aiV b c (aiW d b c)
def faK_step(d:aV n es){l:AM}{e:RZ}(b:q<(Es n es).length)(c:Pu es (Es n es)[q] (e.headD 0).toNat):
  ((Es n es).map fun a=>((sA es (l++[e]) a:Nat):Int))=((Es n es).map fun a=>((sA es l a:Nat):Int)).set q (((sA es l (Es n es)[q]:Nat):Int)+1):=by
 unfold sA;exact aiV b c (aiW d b c)
theorem edK_le(es l:xLP)(a:Nat):Gn es l a<=l.length:=by grind[Gn,cntK_le]
theorem faK_le(es:xLP)(l:AM)(a:Nat):sA es l a<=l.length:=by grind[sA,cntK_le]
theorem ajj(n:Nat)(es:xLP)(a:Nat):(Ic n es a).length<=n:=by grind[Ic]
def aip{f:Nat->Int}(h:i<l.length):(l.map f)[i]?=Z (f l[i]):=by simp[h]
theorem head_get{l:RZ}(h:0<l.length):l[0]=l.headD 0:=by
 cases l<;>grind
theorem z8.not(h:i<(Es n es).length)(a:0<Gn es es (Es n es)[i])(h2:¬(Ic n es (Es n es)[i]).length+sA es (IN n rs) (Es n es)[i]=Gn es es (Es n es)[i]+2):¬z8 n es rs:=fun H=>h2 (H _ (aev h) a)
theorem Plane_any(W0:LA)(v rv:vV)(G:GM)(rs:AM)(h:aai)(hg:GR h v G)(hv:RL (RL RP) h rv rs):
  AC pG W0 24 [v,rv] h fun x h'=>RR (bX G/\Av G.n.toNat G.es rs/\z8 G.n.toNat G.es rs) x/\Le h h':=by
 have bF:=hg;have⟨gn,es⟩:=G
 obtain⟨ev,rfl,hp⟩:=hg.open
 refine AC.vF func24 ntmps24 results24 fun cf=>?_;obtain⟨h1,b1,R,dd,-,lA⟩:=r8 (n:=gn) cf hp
 generalize h.next=B at*
 have cg:=lA h1 (Le.refl _);refine Sk (XC b1 cg.1) ?_;refine kCi func45 (aix W0 _ rv ⟨gn,es⟩ rs h1 (bF.le R) (hv.le (Nn.RL Nn.RP) R)) ?_;rintro x h2 w2 ⟨⟨b,rfl,hb⟩,l2⟩;cases b
 .refine Uy ?_;exact⟨⟨fF,rfl,hGr⟩,R.trans l2⟩
 have⟨hr,G⟩:=hb.1 rfl;have h0:0<=gn:=hr.n0;obtain⟨n,rfl⟩:=qL7 h0;simp only[yM]at G ⊢;have hR:=hr.GD;have hA:=hr.q9;have da:(n:Int)<=200:=hr.n1;have db:es.length<=594:=hr.len;have aL:n<=200:=NH;have fin:∀b,(b=tT↔z8 n es rs)->∀o,Le h o->RR (bX ⟨(n:Int),es⟩/\Av n es rs/\z8 n es rs) (.bool b)/\Le h o:=fun b hb o lz=>⟨⟨b,rfl,hb.trans ⟨fun p=>⟨hr,G,p⟩,fun p=>p.2.2⟩⟩,lz⟩;have de:=lA h2 l2;refine Uy ?_;refine kCi func29 (Faces_any W0 rv rs h2 (hv.le (Nn.RL Nn.RP) (R.trans l2))) ?_;rintro x h3 w3 ⟨l3,⟨rfl,ck⟩|⟨cm,fv,cp,G',rfl,hf⟩⟩
 .exact absurd ⟨es,by grind[Av.len],by grind[Av.len]⟩ ck
 clear cp G' cm;rw[G.len]at hf;have d0:decide ((0:Int)=0)=tT:=by decide
 have fT:=lA h3 (l2.trans l3);simp only[HO,seval,bne,d0,fT.1];refine kCi func30 (It W0 _ ⟨(n:Int),es⟩ h3 (bF.le ((R.trans l2).trans l3)) hr) ?_;rintro pv M w4 ⟨gp,l4,-⟩;simp only[yM]at gp;have rp:=gp.rl (Nn.RL Nn.RP);have lp:=fun g=>rp.qP5 g;have cq:((Gx n es n).map kz).length=(Es n es).length:=by grind[ah4]
 rw[cq]at lp;have dg:(Es n es).length<=n:=vH _ _;have aN:=hf.le (Nn.RL Nn.RP) l4;have aP:=(l2.trans l3).trans l4;have bH:=R.trans aP;have cx:=lA M aP;have cz:=fun g:aai=>Ye (P:=pG) (t:=28) (z:=.int .i64 0) g Mb rfl rfl rfl rfl Ji Ac Ji n NH;have cC:=fun g:aai=>Ye (P:=pG) (t:=28) (z:=.int .i64 0) g Mb rfl rfl rfl rfl Ji Ac Ji (Es n es).length NH;have⟨h5,e5,l5,w5,o5⟩:=Tt w4 (rP n (.int .i64 0))
 have nH:M.own M.next=Y:=(Le.refl M).next w4 (qL0 _)
 refine Sk (bG @Ii @Ip.eq_1 @EL cx.2.1 cz e5) ?_
 generalize M.next=H at*
 apply Ya (F:=fun(fr:aam)(h':aai)=>∃A C D,Fj fr [(2,pT (Z B)),(5,fv),(7,pv),(8,sL (Z H) n n),(9,sL (Z ⟨A,0,Y⟩) (Es n es).length (Es n es).length),(10,sL (Z ⟨C,0,Y⟩) (Es n es).length (Es n es).length),(11,sL (Z ⟨D,0,Y⟩) (Es n es).length (Es n es).length)]/\ahT h5 h' A C D (rP (Es n es).length (.int .i64 0)))
 .intro cont;refine gh (tA [0,1,3,4,6,7] (.ch 2 [1] (tA [9] (.ch 5 [4] (tA [10] (JQ 8 [7] (tA [11] .done))) (JQ 8 [7] (JQ 5 [4] (tA [10,11] .done))))) (.ch 5 [4] (.ch 2 [1] (tA [9,10] (JQ 8 [7] (tA [11] .done))) (JQ 8 [7] (JQ 2 [1] (tA [9,10,11] .done)))) (JQ 8 [7] (.ch 2 [1] (tA [9] (JQ 5 [4] (tA [10,11] .done))) (JQ 5 [4] (JQ 2 [1] (tA [9,10,11] .done)))))))) ?_;simp only[kJJ,seval,Qg,lp,cC,om];have N:=new3 w5 (rP (Es n es).length (.int .i64 0));refine⟨⟨?_,?_⟩,⟨?_,?_⟩,?_,?_⟩
  all_goals
   refine KN.UJ fun fr' h' e1 e2=>cont fr' h' ?_;subst e1 e2
   first
    |(refine⟨_,_,_,?_,N⟩;simp only[Fj,HO,seval];simp;done)
    |(refine⟨_,_,_,?_,N.s12⟩;simp only[Fj,HO,seval];simp;done)
    |(refine⟨_,_,_,?_,N.s23⟩;simp only[Fj,HO,seval];simp;done)
    |(refine⟨_,_,_,?_,N.s12.s23⟩;simp only[Fj,HO,seval];simp;done)
    |(refine⟨_,_,_,?_,N.s23.s12⟩;simp only[Fj,HO,seval];simp;done)
    |(refine⟨_,_,_,?_,N.s12.s23.s12⟩;simp only[Fj,HO,seval];simp;done)
 rintro fr h6 ⟨A,C,D,bI,N⟩;simp only[Fj]at bI;obtain⟨f2,f5,f7,f8,f9,bN,bQ,-⟩:=bI;refine Sk (XC f7 lp) ?_;have l6:=l5.trans N.le;have aT:=N.le.own _ _ o5;have aW:=N.oA;have aX:=N.oB;have a6:=N.oC;rw[rep_map]at aT aW aX a6;have dj:H≠A:=fun e=>by grind[ahT.nA]
 have dk:H≠C:=fun e=>by grind[ahT.nB]
 have dm:H≠D:=fun e=>by grind[ahT.nC]
 have dp:=N.ab;have dq:=N.ac;have dr:=N.bc;have nA:M.own A=Y:=l5.none N.nA;have nC:M.own C=Y:=l5.none N.nB;have nD:M.own D=Y:=l5.none N.nC;have w6:=N.wf;clear N o5 w5;refine aab.intro (fun k fr r=>∃(i:Nat)(L V:RZ),k=(Es n es).length-i/\i<=(Es n es).length/\fr=mkF [(2,pT (Z B)),(5,fv),(7,pv),(8,sL (Z H) n n),(9,sL (Z ⟨A,0,Y⟩) (Es n es).length (Es n es).length),(10,sL (Z ⟨C,0,Y⟩) (Es n es).length (Es n es).length),(11,sL (Z ⟨D,0,Y⟩) (Es n es).length (Es n es).length),(46,pv),(47,.int .i64 (Es n es).length),(48,i)]/\
   r.own H=Z (.cells (Bp L))/\ahA n es i L/\r.own A=Z (.cells (Bp V))/\V.length=(Es n es).length/\(∀j (T:j<(Es n es).length),j<i->V[j]?=Z (((Ic n es (Es n es)[j]).length:Nat):Int))/\r.own C=Z (.cells (Bp (rP (Es n es).length 0)))/\r.own D=Z (.cells (Bp (rP (Es n es).length 0)))/\Le M r)
  (Es n es).length [(2,pT (Z B)),(5,fv),(7,pv),(8,sL (Z H) n n),(9,sL (Z ⟨A,0,Y⟩) (Es n es).length (Es n es).length),(10,sL (Z ⟨C,0,Y⟩) (Es n es).length (Es n es).length),(11,sL (Z ⟨D,0,Y⟩) (Es n es).length (Es n es).length),(46,pv),(47,.int .i64 (Es n es).length),(48,(0:Nat))] (by simp only[Fj,HO,seval,f2,f5,f7,f8,f9,bN,bQ];simp)
  ⟨0,_,_,rfl,aax _,rfl,aT,ahA.zero,aW,Ma,fun j _ h=>absurd h (aeA _),aX,a6,l6⟩ ?_
 clear aT aW aX a6 w6 f2 f5 f7 f8 f9 bN bQ l6;clear l5 e5;clear h6;rintro k fr r y ⟨i,L,V,rfl,hi,rfl,U,HP,oA,hV,bW,oC,O,I⟩;refine Uy ?_;refine Kl.intro (fun Q=>?_) (fun hf=>?_)
 .have m:i<(Es n es).length:=acb Q;clear Q;have hm:i<((Gx n es n).map kz).length:=hGr;have a7:=rp.Wm i hm;have⟨u,W,az⟩:=rp.NS i hm;have aC:=W r I;have cE:((Gx n es n).map kz)[i]=kz (Ic n es (Es n es)[i]):=by grind[partsN_at]
  rw[cE]at az;have lu:=fun g=>az.TA g;rw[y6]at lu;have bY:=Gc m;have st:=stI oA (i:=i) hGr (((Ic n es (Es n es)[i]).length:Nat):Int);have cJ:=Kx A (Es n es).length .i64 i m;simp only[HO,seval,a7,aC,lu,cJ,st];have X:∀j,j<i+1->∀(T:j<(Es n es).length),(V.set i (((Ic n es (Es n es)[i]).length:Nat):Int))[j]?=Z (((Ic n es (Es n es)[j]).length:Nat):Int):=fun j aD T=>by grind
  have cK:(V.set i (((Ic n es (Es n es)[i]).length:Nat):Int)).length=(Es n es).length:=hGr;generalize V.set i (((Ic n es (Es n es)[i]).length:Nat):Int)=V2 at*;have w7:WF (r.put A (.cells (Bp V2))):=y.put _ (y.lt oA);have l7:Le M (r.put A (.cells (Bp V2))):=I.put _ nA;have a8:(r.put A (.cells (Bp V2))).own A=Z (.cells (Bp V2)):=aai.Y3 _ _ _;have aF:(r.put A (.cells (Bp V2))).own H=Z (.cells (Bp L)):=by grind[aai.By]
  have aa:(r.put A (.cells (Bp V2))).own C=Z (.cells (Bp (rP (Es n es).length 0))):=by grind[aai.By]
  have bb:(r.put A (.cells (Bp V2))).own D=Z (.cells (Bp (rP (Es n es).length 0))):=by grind[aai.By]
  generalize r.put A (.cells (Bp V2))=h7 at*;have cM:∀v∈Ic n es (Es n es)[i],v<n/\Pu es (Es n es)[i] v:=fun v hv=>mY.1 hv;generalize (Es n es)[i]=a at*;have dv:=ajj n es a;generalize cN:Ic n es a=cs at*;refine lIn (fun k fr o=>∃(j:Nat)(L:RZ),k=cs.length-j/\j<=cs.length/\fr=mkF [(2,pT (Z B)),(5,fv),(7,pv),(8,sL (Z H) n n),(9,sL (Z ⟨A,0,Y⟩) (Es n es).length (Es n es).length),(10,sL (Z ⟨C,0,Y⟩) (Es n es).length (Es n es).length),(11,sL (Z ⟨D,0,Y⟩) (Es n es).length (Es n es).length),(12,i),(46,pv),(47,.int .i64 (Es n es).length),(48,i),(58,u),(59,.int .i64 cs.length),(60,.int .i64 j)]/\
    o.own H=Z (.cells (Bp L))/\ahA n es i L/\(∀v∈cs.take j,L[v]?=Z (i:Int))/\o.own A=Z (.cells (Bp V2))/\o.own C=Z (.cells (Bp (rP (Es n es).length 0)))/\o.own D=Z (.cells (Bp (rP (Es n es).length 0)))/\Le M o) ⟨0,L,rfl,aax _,rfl,aF,HP,fun v hv=>absurd hv fj,a8,aa,bb,l7⟩ ?_
  clear aF HP a8 aa bb l7 w7 oA U oC O I bW st y aC;clear h7 r L;rintro k fr o dw ⟨j,L,rfl,T,rfl,U,HP,bZ,oA,oC,O,lz⟩;refine Uy ?_;refine Kl.intro (fun Q=>?_) (fun hf=>?_)
  .have d:j<cs.length:=acb Q;clear Q;have cP:=sY d;have b0:=az.DH j (by rw[y6];exact d);have b2:=(az.le Nn.RP lz).Uc j (by rw[y6];exact d);rw[cP]at b2;have aH:=cM cs[j] (aev d);have S:cs.take (j+1)=cs.take j++[cs[j]]:=XJ d;generalize cs[j]=v at*;have cR:=stI U (i:=v) (by rw[HP.1];exact aH.1) (i:Int);have ae:=Kx H n .i64 v aH.1;have b3:=aaa j NH;refine Sk (IX b0 b2 ae cR b3) ?_;refine lgA (JS d) ⟨j+1,L.set v (i:Int),rfl,d,rfl,aai.Y3 _ _ _,HP.put hR bY aH.2,fun w hw=>?_,by grind[aai.By],by grind[aai.By],by grind[aai.By],lz.put _ nH⟩;rw[S,vZ,iy]at hw;by_cases c:v=w
   .subst c;rw[List.getElem?_set_self (by rw[HP.1];exact aH.1)]
   grind
  .have s:cs.length<=j:=vp hf;rw[abe s,<-cN]at bZ;have aJ:=aaa i NH;refine Sk aJ ?_
   exact lgA (JS m) ⟨i+1,L,V2,rfl,m,rfl,U,HP.next bY bZ,oA,cK,fun j T aD=>X j aD T,oC,O,lz⟩
 have s:(Es n es).length<=i:=vp hf;obtain rfl:i=(Es n es).length:=NH;clear s hf hi;have b4:=lA r (aP.trans I);have cU:=fun g=>hp.len g;refine Sk (IX @Di @Ip.eq_1 @EL b4.2.2 cU) ?_;have bg:=oC;rw[edK_nil n es es]at bg;have b5:∀p∈es,0<=p.1/\p.1<p.2/\p.2<(n:Int):=fun p aK=>by have⟨i,hi⟩:=Og.1 aK;exact(hr.ok i (Ny.1 hi).1 p hi).1
 refine lIn (fun k fr o=>∃(j:Nat),k=es.length-j/\j<=es.length/\fr=mkF [(5,fv),(7,pv),(8,sL (Z H) n n),(9,sL (Z ⟨A,0,Y⟩) (Es n es).length (Es n es).length),(10,sL (Z ⟨C,0,Y⟩) (Es n es).length (Es n es).length),(11,sL (Z ⟨D,0,Y⟩) (Es n es).length (Es n es).length),(71,ev),(72,.int .i64 es.length),(73,.int .i64 j)]/\
   o.own H=Z (.cells (Bp L))/\o.own A=Z (.cells (Bp V))/\o.own C=Z (.cells (Bp ((Es n es).map fun a=>((Gn es (es.take j) a:Nat):Int))))/\o.own D=Z (.cells (Bp (rP (Es n es).length 0)))/\Le M o) ⟨0,rfl,aax _,rfl,U,oA,bg,O,I⟩ ?_
 clear bg oC O oA U I b4 y;clear r;rintro k fr r y ⟨j,rfl,T,rfl,U,oA,oC,O,I⟩;refine Uy ?_;refine Kl.intro (fun Q=>?_) (fun hf=>?_)
 .have d:j<es.length:=acb Q;clear Q;have aK:=CA d;have b6:=b5 es[j] (aev d);have S:es.take (j+1)=es.take j++[es[j]]:=XJ d;generalize es[j]=p at aK S b6;have a7:=hp.addr (k:=.i64) j d;have cW:=(hp.le (bH.trans I)).load aK;have⟨dy,h7,e7,cZ,l7,w7,o7⟩:=Ut y p
  have nE:M.own r.next=Y:=I.none ((Le.refl r).next y (qL0 _))
  generalize r.next=E at*
  have m0:=lK o7;have⟨x1,x2⟩:=p;obtain⟨v,rfl⟩:=qL7 b6.1;have ai:v<n:=hGr;have⟨q,J,bh,c0⟩:=HP.get hR ai;have aF:=l7.own _ _ U;have a8:=l7.own _ _ oA;have aa:=l7.own _ _ oC;have bb:=l7.own _ _ O;have ae:=Kx H n .i64 v ai;have bk:=XP aF bh;have aj:=Kx C (Es n es).length .i64 q J;have aq:=XP aa (aip (f:=fun a=>((Gn es (es.take j) a:Nat):Int)) J);have hle:Gn es (es.take j) (Es n es)[q]<=40000:=ff (edK_le _ _ _) hGr;have K:=cnt_ok hle;have b8:=stI aa (i:=q) hGr (((Gn es (es.take j) (Es n es)[q]:Nat):Int)+1);have ar:=edK_step hR (l:=es.take j) (e:=((v:Int),x2)) J hGr;rw[<-S]at ar;rw[<-ar]at b8;have X:=aaa j NH;refine Sk (aNd15 a7 cW e7 cZ @Dh @Ip.eq_1 @EL m0 ae bk aj aq K b8 X) ?_;exact lgA (JS d) ⟨j+1,rfl,d,rfl,by grind[aai.By],by grind[aai.By],aai.Y3 _ _ _,by grind[aai.By],(I.trans l7).put _ nC⟩
 have s:es.length<=j:=vp hf;rw[abe s]at oC;clear s hf T;have lF:=fun g=>aN.qP5 g;have dz:=ajE (n:=n) (es:=es) (rs:=rs) aL;have bm:=O;rw[faK_nil n es es]at bm;have c3:=fun f (hf:f∈IN n rs)=>Uj hR hA G hf;refine Sk lF ?_;refine lIn (fun k fr o=>∃(j:Nat),k=(IN n rs).length-j/\j<=(IN n rs).length/\fr=mkF [(7,pv),(8,sL (Z H) n n),(9,sL (Z ⟨A,0,Y⟩) (Es n es).length (Es n es).length),(10,sL (Z ⟨C,0,Y⟩) (Es n es).length (Es n es).length),(11,sL (Z ⟨D,0,Y⟩) (Es n es).length (Es n es).length),(88,fv),(89,.int .i64 (IN n rs).length),(90,.int .i64 j)]/\
   o.own H=Z (.cells (Bp L))/\o.own A=Z (.cells (Bp V))/\o.own C=Z (.cells (Bp ((Es n es).map fun a=>((Gn es es a:Nat):Int))))/\o.own D=Z (.cells (Bp ((Es n es).map fun a=>((sA es ((IN n rs).take j) a:Nat):Int))))/\Le M o) ⟨0,rfl,aax _,rfl,U,oA,oC,bm,I⟩ ?_
 clear bm oC O oA U I y;clear r j;rintro k fr r y ⟨j,rfl,T,rfl,U,oA,oC,O,I⟩;refine Uy ?_;refine Kl.intro (fun Q=>?_) (fun hf=>?_)
 .have d:j<(IN n rs).length:=acb Q;clear Q;have c4:=aN.Wm j d;have⟨u,W,hu⟩:=aN.NS j d;have aC:=W r I;have⟨bo,v,ai,c5⟩:=c3 (IN n rs)[j] (aev d);have S:(IN n rs).take (j+1)=(IN n rs).take j++[(IN n rs)[j]]:=XJ d;generalize (IN n rs)[j]=f at*;have b9:=hu.DH 0 bo;have cc:=(hu.le Nn.RP I).Uc 0 bo;rw[head_get bo,c5]at cc;simp only[ak6]at b9;have⟨q,J,bh,c0⟩:=HP.get hR ai;have ae:=Kx H n .i64 v ai;have bk:=XP U bh;have av:=Kx D (Es n es).length .i64 q J;have ay:=XP O (aip (f:=fun a=>((sA es ((IN n rs).take j) a:Nat):Int)) J);have hle:sA es ((IN n rs).take j) (Es n es)[q]<=40000:=ff (faK_le _ _ _) hGr;have K:=cnt_ok hle;have cd:=stI O (i:=q) hGr (((sA es ((IN n rs).take j) (Es n es)[q]:Nat):Int)+1);have ar:=faK_step hR (l:=(IN n rs).take j) (e:=f) J hGr;rw[<-S]at ar;rw[<-ar]at cd;have X:=aaa j NH;refine Sk (rk c4 aC b9 cc ae bk av ay K cd X) ?_;exact lgA (JS d) ⟨j+1,rfl,d,rfl,by grind[aai.By],by grind[aai.By],by grind[aai.By],aai.Y3 _ _ _,I.put _ nD⟩
 have s:(IN n rs).length<=j:=vp hf;rw[abe s]at O;clear s hf T;refine Sk lp ?_;refine lIn (fun k fr o=>∃(i:Nat),k=(Es n es).length-i/\i<=(Es n es).length/\fr=mkF [(9,sL (Z ⟨A,0,Y⟩) (Es n es).length (Es n es).length),(10,sL (Z ⟨C,0,Y⟩) (Es n es).length (Es n es).length),(11,sL (Z ⟨D,0,Y⟩) (Es n es).length (Es n es).length),(107,.int .i64 (Es n es).length),(108,i)]/\
   (∀j (T:j<(Es n es).length),j<i->0<Gn es es (Es n es)[j]->(Ic n es (Es n es)[j]).length+sA es (IN n rs) (Es n es)[j]=Gn es es (Es n es)[j]+2)/\o=r) ⟨0,rfl,aax _,rfl,fun j _ h=>absurd h (aeA _),rfl⟩ ?_
 rintro k fr o-⟨i,rfl,hi,rfl,dc,rfl⟩;refine Uy ?_;refine Kl.intro (fun Q=>?_) (fun hf=>?_)
 .have m:i<(Es n es).length:=acb Q;clear Q;have br:=Kx A (Es n es).length .i64 i m;have aj:=Kx C (Es n es).length .i64 i m;have av:=Kx D (Es n es).length .i64 i m;have bx:=XP oA (bW i m m);have aq:=XP oC (aip (f:=fun a=>((Gn es es a:Nat):Int)) m);have ay:=XP O (aip (f:=fun a=>((sA es (IN n rs) a:Nat):Int)) m);have hle:Gn es es (Es n es)[i]<=40000:=ff (edK_le _ _ _) NH;have c6:sA es (IN n rs) (Es n es)[i]<=40000:=ff (faK_le _ _ _) NH;have c9:(Ic n es (Es n es)[i]).length<=40000:=ff (ajj _ _ _) NH;have K:=cnt_ok2 hle;have bB:=cnt_ok3 c9 c6;have aJ:=aaa i NH;by_cases c1:0<Gn es es (Es n es)[i]
  .have d1:decide (((Gn es es (Es n es)[i]:Nat):Int)>0)=tT:=Z6 (pl_pos.2 c1);by_cases c2:(Ic n es (Es n es)[i]).length+sA es (IN n rs) (Es n es)[i]=Gn es es (Es n es)[i]+2
   .have d2:decide ((((Ic n es (Es n es)[i]).length:Nat):Int)+((sA es (IN n rs) (Es n es)[i]:Nat):Int)=((Gn es es (Es n es)[i]:Nat):Int)+2)=tT:=Z6 (pl_iff.2 c2);refine Uy ?_;refine gh (fRn 0 22 .done) ?_;refine CO (ahv br aj av bx aq ay K bB d1 @d2 @bne.eq_1.{0} aJ) ?_
    refine lgA (JS m) ⟨i+1,rfl,m,rfl,fun j T aD hp=>?_,rfl⟩;grind
   .have d2:decide ((((Ic n es (Es n es)[i]).length:Nat):Int)+((sA es (IN n rs) (Es n es)[i]:Nat):Int)=((Gn es es (Es n es)[i]:Nat):Int)+2)=fF:=IE (fun e=>c2 (pl_iff.1 e));refine Uy ?_;refine gh (fRn 0 22 .done) ?_;refine CO (rk br aj av bx aq ay K bB d1 @d2 @bne.eq_1.{0}) ?_
    grind[z8.not,Le.trans]
  .have d1:decide (((Gn es es (Es n es)[i]:Nat):Int)>0)=fF:=IE (fun e=>c1 (pl_pos.1 e));refine Uy ?_;refine gh (fRn 0 22 .done) ?_;refine CO (rk br aj av bx aq ay K bB d1 @bne.eq_1.{0} aJ) ?_
   refine lgA (JS m) ⟨i+1,rfl,m,rfl,fun j T aD hp=>?_,rfl⟩;grind
 have s:(Es n es).length<=i:=vp hf;refine Uy ?_;refine fin tT ⟨fun _ a ha hp=>?_,fun _=>rfl⟩ _ (bH.trans I);have⟨q,dA⟩:=Og.1 ha;grind
end
end Go.Fw
