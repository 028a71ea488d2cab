/- A text. -/
import Derived.Test.YtnakkbhjoiheoaaGreatFwLF9
set_option linter.all false
set_option maxRecDepth 99999
set_option maxHeartbeats 9999999
open Go.Proofs
open Option renaming some→Z,none→Y
open Bool renaming true→tT,false→fF
open List renaming replicate→rP,range→rG
open Go.Value renaming slice→sL,pointer→pT
open Go renaming Value→vV
open Go.Proofs.Tryz renaming prog→pG
open Go.Proofs.Tryz
open List
namespace Go.Fw
section
attribute [local irreducible] IN z8
def mkP6(h:aai)(a b c d e f:Pr):aas pG h 22 6 [(0,UI a),(1,UI b),(2,UI c),(3,UI d),(4,UI e),(5,UI f)]=Z (sL (Z h.next) 6 6,h.alloc (.cells (Iu [a,b,c,d,e,f]))):=Ji
end
section
attribute [local instance] Classical.propDecidable
theorem Td{α:Type}{p q:α->Bool}:∀(l:List α),(∀v∈l,p v=tT\/q v=tT)->(l.filter p).length+(l.filter q).length=l.length+(l.filter fun v=>p v&&q v).length
 |[],_=>rfl
 |x::l,h=>by have c:=Td l fun v b=>h v (VU _ b);grind
theorem keepE_row{P:Nat->Nat->Prop}{r:Nat->II}{v:Nat}(h:∀w∈r v,P v w):Om P r v=r v:=by grind[Om.eq_1,filter_eq_self]
theorem Ud{n:Nat}{s:Nat->II}(S:V7 n s){l:xLP}(nd:l.Nodup)(c:aV n l)(h:∀v w,w∈s v↔Jp l v w):(dl n s).length=2*l.length:=by
 have key:∀l:xLP,(l.flatMap fun p=>[(p.1.toNat,p.2.toNat),(p.2.toNat,p.1.toNat)]).length=2*l.length:=by
  intro l
  induction l<;>grind
 rw[<-key l];refine(yR (J8 S) ?_ fun d=>?_).length_eq
 .rw[AE,ahG];refine⟨fun p b=>?_,?_⟩
  .have:=c p b;grind
  .refine DF (fun{p q} b e f=>?_) nd;have g:=c p b;have h2:=c q e;grind
 .rw[IP S,h,KG];simp only[Jp,HV,fj,or_false,Gw];constructor
  .grind
  .rintro⟨p,b,⟨rfl,rfl⟩|⟨rfl,rfl⟩⟩
   .have:=c p b;grind
   .have:=c p b;grind
section
variable{n:Nat}{es:List Pr}{rs:AM}{a:Nat}
theorem T8(t:aV n es)(ha:D3 es)(G:Av n es rs)(E:a∈Es n es)(F:0<Gn es es a):∃g,(Ic n es a).length+sA es (IN n rs) a+2*g=Gn es es a+2:=by
 have⟨H,I⟩:=QO.1 E;have R:=G.jD t ha;generalize m:Xl rs=r at R;have i:∀v w,w∈r v↔Jp es v w:=fun v w=>by rw[<-m];exact G.mem t
 have S:V7 n (Om (fun v w=>Pu es a v/\Pu es a w) r):=by grind[OG]
 generalize hs:Om (fun v w=>Pu es a v/\Pu es a w) r=s at S;have j:∀v w,w∈s v↔Jp es v w/\Pu es a v:=fun v w=>by rw[<-hs,EM,i];exact⟨hGr,fun h=>⟨h.1,h.2,h.2.step h.1 rfl⟩⟩
 have row:∀v,Pu es a v->s v=r v:=fun v u=>by rw[<-hs];exact keepE_row fun w hw=>⟨u,u.step ((i v w).1 hw) rfl⟩
 have J:∀v y,Cr s v y->v=y\/(Pu es a v/\Pu es a y):=fun v y h=>by
  induction h with
  |refl=>grind
  |@step b c _ K z=>
   have⟨f,h2⟩:=(j _ _).1 K;right;rcases z with rfl|⟨h3,_⟩
   .exact⟨h2,h2.step f rfl⟩
   .exact⟨h3,h2.step f rfl⟩
 have L:∀y,Pu es a y->Cr s a y:=fun y h=>by
  induction h with
  |refl=>exact .refl _
  |step f h2 _ z=>exact z.step hGr
 have M:iJ n s+(Ic n es a).length=n+1:=by
  have C:iJ n s=((rG n).filter fun v=>decide (v=a\/¬Pu es a v)).length:=by rw[iJ,Yy (ajZ _).symm (Cr.eqv S _),zE (lt:=fun a b=>a<b) (by grind[Nat.lt_asymm]) _ _ rfl (uA n)];grind[Cr.symm,Cn.symm]
  have N:=Td (p:=fun v=>decide (v=a\/¬Pu es a v)) (q:=fun v=>decide (Pu es a v)) (rG n) hGr;have e3:((rG n).filter fun v=>decide (v=a\/¬Pu es a v)&&decide (Pu es a v)).length=1:=by
   refine Cq ?_ (x:=a) ?_ ?_
   all_goals grind[List.nodup_range,Pu.refl]
  grind[Ic]
 have nb:∀v,Pu es a v->∃w,Jp es v w:=fun v u=>by
  have⟨e,l⟩:=qL164 F;rw[xD,abV]at l;have O:=t e l.1;by_cases c:v=e.1.toNat
  .refine⟨e.2.toNat,.inl ?_⟩;grind
  .exact(FV (u.symm.trans l.2) c).1
 have D:((rG n).filter fun v=>decide (s v=[])).length+(Ic n es a).length=n:=by
  have N:=Td (p:=fun v=>decide (s v=[])) (q:=fun v=>decide (Pu es a v)) (rG n) fun v _=>by
   simp only[abV];by_cases c:Pu es a v
   .exact .inr c
   .rw[jz];grind
  have e3:((rG n).filter fun v=>decide (s v=[])&&decide (Pu es a v))=[]:=by rw[qL90];grind
  grind[Ic]
 have A:(dl n s).length=2*Gn es es a:=by
  refine Ud S (ha.nodup.sublist Tn) (fun p P=>t p (xD.1 P).1) fun v w=>?_;rw[j];simp only[Jp,xD,abV,yM];constructor
  .rintro⟨f|f,h2⟩
   .grind
   .exact .inr ⟨f,h2.step (.inr f) rfl⟩
  .rintro(⟨f,h2⟩|⟨f,h2⟩)
   .grind
   .exact⟨.inr f,h2.step (.inl f) rfl⟩
 have q:=aaG S;have Q:∀d:H8,Pu es a d.2->Nv s d=Nv r d:=fun d hd=>by show(d.2,nx (s d.2) d.1)=(d.2,nx (r d.2) d.1);rw[row _ hd]
 have T:∀d:H8,d.2∈s d.1->Pu es a d.2:=fun d hd=>by have⟨f,h2⟩:=(j _ _).1 hd;exact h2.step f rfl
 have o:∀(k:Nat)(d:H8),d.2∈s d.1->it (Nv s) k d=it (Nv r) k d:=fun k d hd=>by
  induction k with
  |zero=>rfl
  |succ k z=>show Nv s (it (Nv s) k d)=Nv r (it (Nv r) k d);have U:=q.uN ((IP S).2 hd) k;grind[IP]
 have B:sA es (IN n rs) a=(ahN n s).length:=by
  have C:ahN n s=(ahN n r).filter fun d=>decide (Pu es a d.1):=by
   refine afe JN (by grind[Nd]) _ _ ((pI n s).filter _) (((pI n r).filter _).filter _) fun d=>?_;rw[xD,abV];rw[gQ S,gQ R,j,i];constructor
   .rintro⟨⟨f,h2⟩,h3⟩;refine⟨⟨f,?_⟩,h2⟩;rintro e ⟨k,rfl⟩;rw[<-o k d hGr];exact h3 _ ⟨k,rfl⟩
   .rintro⟨⟨f,h3⟩,h2⟩;refine⟨⟨f,h2⟩,?_⟩;rintro e ⟨k,rfl⟩;rw[o k d hGr];exact h3 _ ⟨k,rfl⟩
  rw[C,sA,VF,IN,m,vf,Lm,amc,vg];grind[List.filter_congr,gQ,JE,IP,Int.toNat_natCast]
 have⟨g,hg⟩:=genus S;rw[mj,<-yp S,<-B,A]at hg;exact⟨g,NH⟩
end
theorem yB{P:Nat->Prop}:∀(hs:II),hs.Nodup->(∃a∈hs,P a)->(∀a∈hs,∀b∈hs,P a->P b->a=b)->(hs.map fun a=>if P a then 1 else 0).sum=1
 |[],_,h,_=>by have⟨a,ha,_⟩:=h;cases ha
 |x::hs,nd,h,u=>by
  rw[eR]at nd;rw[AQ,ahe];by_cases c:P x
  .have:∀l:II,(∀a∈l,¬P a)->(l.map fun a=>if P a then 1 else 0).sum=0:=by
    intro l
    induction l<;>grind
   grind
  .rw[WA c,yB hs nd.2 ?_ (by grind[List.mem_cons_of_mem])];grind
def aS(f g:Nat->Nat):∀l:II,(l.map fun a=>f a+g a).sum=(l.map f).sum+(l.map g).sum
 |[]=>rfl
 |x::l=>by simp only[AQ,ahe,aS f g l];omega
theorem fH{α:Type}{P:Nat->α->Prop}{hs:II}(nd:hs.Nodup):∀(l:List α),(∀e∈l,∃a∈hs,P a e)->(∀e∈l,∀a∈hs,∀b∈hs,P a e->P b e->a=b)->(hs.map fun a=>VF P l a).sum=l.length
 |[],_,_=>by
  have:∀l:II,(l.map fun a=>VF P ([]:List α) a).sum=0:=by
   intro l
   induction l with
   |nil=>rfl
   |cons x l c=>rw[AQ,ahe,c];rfl
  exact this hs
 |e::l,h,u=>by
  have c:=fH nd l (fun x d=>h x (VU _ d)) fun x d=>u x (VU _ d)
  have f:∀a,VF P (e::l) a=(if P a e then 1 else 0)+VF P l a:=by grind[VF]
  simp only[f];rw[aS,c,yB (P:=fun a=>P a e) hs nd (h e qH) (u e qH),Vn];omega
theorem Qs(l:II)(p:Nat->Prop)[DecidablePred p]:(l.map fun a=>if p a then 1 else 0).sum=(l.filter fun a=>decide (p a)).length:=by
 induction l<;>grind
section
variable{n:Nat}{es:List Pr}{rs:AM}
theorem acn(c:aV n es){v:Nat}(d:v<n):(∃a∈Es n es,Pu es a v)/\∀a∈Es n es,∀b∈Es n es,Pu es a v->Pu es b v->a=b:=(by grind[B6,rf,Cn.trans,Cn.symm])
theorem sum_verts(c:aV n es):((Es n es).map fun a=>(Ic n es a).length).sum=n:=by have:=fH (P:=fun a v=>Pu es a v) (qD n es) (rG n) (fun v b=>(acn c (Db.1 b)).1) fun v b=>(acn c (Db.1 b)).2;grind[VF,Ic]
theorem sum_edges(b:aV n es):((Es n es).map fun a=>Gn es es a).sum=es.length:=by
 have d:∀e∈es,e.1.toNat<n:=fun e c=>by have:=b e c;omega
 unfold Gn;grind[fH,qD,acn]
theorem sum_faces(b:aV n es)(ha:D3 es)(G:Av n es rs):((Es n es).map fun a=>sA es (IN n rs) a).sum=(IN n rs).length:=by
 have c:∀f∈IN n rs,(f.headD 0).toNat<n:=fun f hf=>by have⟨_,v,c,e⟩:=Uj b ha G hf;grind
 unfold sA;grind[fH,qD,acn]
theorem ed_pos(f:aV n es){a:Nat}(g:a<n):0<Gn es es a↔1<(Ic n es a).length:=by
 have nd:(Ic n es a).Nodup:=by grind[Ic,List.filter_sublist]
 constructor
 .intro h;have⟨e,b⟩:=qL164 h;rw[xD,abV]at b;have k:=f e b.1;have h2:Pu es a e.2.toNat:=b.2.step (.inl hGr) rfl;have:=tf (A:=[e.1.toNat,e.2.toNat]) (B:=Ic n es a) (by simp;omega) (by grind[mY]);grind
 .intro h;have:∃v∈Ic n es a,v≠a:=j9 fun i=>by
   have c:∀v∈Ic n es a,v=a:=hGr;have:=Cq nd (by grind[mY,Pu.refl]) c;omega
  have⟨v,j,d⟩:=this;have⟨w,hw⟩:=(FV (mY.1 j).2 (wI d)).1;have:∃e∈es,Pu es a e.1.toNat:=by
   rcases hw with hw|hw
   .exact⟨_,hw,by simpa using Pu.refl es a⟩
   .exact⟨_,hw,by simpa using abu (.inr hw)⟩
  have⟨e,b,i⟩:=this;exact Bc (xD.2 ⟨b,hGr⟩)
end
attribute [local irreducible] Kp MQ lU KO1 KO KN KX KE VK Kl ZJ TC aab
theorem QY(g:LA)(v:vV)(xs:RZ)(h:aai)(e:RL RP h v xs)(p:xs.length<=100000):AC pG g 127 [v] h fun x h'=>GI h' x xs/\Le h h'/\Z2 h x:=by
 obtain⟨a,c,rfl,hs⟩:=e.sl;refine AC.vF qS27 ntmps127 results127 fun d=>?_;cases a with
 |none=>
  have i:xs=[]:=by
   cases xs<;>grind
  subst i;simp only[HO,seval,aEq,Mb,Option.isNone_none];exact⟨GI.nil _,Le.refl _,fun b hb=>by grind[blk]⟩
 |some a=>
  have⟨f,j,l1,w1,k⟩:=Tt d []
  have mk:aas pG h 28 0 []=Z (sL (Z h.next) 0 0,f):=by rw[<-j];rfl
  have q:h.own h.next=Y:=(Le.refl h).next d (qL0 _)
  have l:GI f (sL (Z h.next) 0 0) []:=GS.full k rfl WY
  have m:Z2 h (sL (Z h.next) 0 0):=fun b hb=>by injection hb with hb;grind
  obtain⟨r,s,n,t,u,o,-⟩:=GI.join l w1 (e.le Nn.RP l1) (by simp;omega);have⟨l6,w⟩:=o h l1 m;simp only[HO,seval,aEq,Mb,akN,mk,n];grind
variable {i:Nat} {xs ys:RZ}
def aju(xs ys:RZ)(i:Nat):Prop:=ys.length=xs.length/\∀p,p<xs.length->ys[p]?=if p<i\/xs.length-i<=p then xs[xs.length-1-p]? else xs[p]?
theorem aju.zero(xs:RZ):aju xs xs 0:=⟨rfl,hGr⟩
theorem aju.fin(R:aju xs ys i)(h:xs.length<=2*i+1):ys=xs.reverse:=by
 apply EH;intro p;by_cases a:p<xs.length
 .rw[R.2 p a,ai7 a];grind
 .rw[Qn (by rw[R.1];omega),Qn hGr]
theorem aju.step{xs ys:RZ}{i:Nat}(R:aju xs ys i)(h:2*i+1<xs.length)(b:i<ys.length)(h2:xs.length-1-i<ys.length):
  aju xs ((ys.set i ys[xs.length-1-i]).set (xs.length-1-i) ys[i]) (i+1):=by
 refine⟨by simp[R.1],fun p a=>?_⟩;have c:ys[xs.length-1-i]?=xs[xs.length-1-i]?:=by rw[R.2 _ NH,WA NH]
 have d:ys[i]?=xs[i]?:=by rw[R.2 _ NH,WA NH]
 by_cases c1:p=xs.length-1-i
 .grind
 .rw[qL210 (wI c1)];by_cases c2:p=i
  .grind
  .rw[qL210 (wI c2),R.2 p a];grind
theorem Wk(w:LA)(u:vV)(xs:RZ)(h:aai)(g:GI h u xs)(L:xs.length<=100000):
  AC pG w 128 [u] h fun _ h'=>GI h' u xs.reverse/\(∀f,Le f h->Z2 f u->Le f h')/\∀b o,h.own b=Z o->blk u≠Z b->h'.own b=Z o:=by
 refine AC.vF qS28 ntmps128 results128 fun x=>?_;have lu:=fun y=>(GI.rl g).TA y;have z:aaY .i64 ((xs.length:Int)-1)=(xs.length:Int)-1-((0:Nat):Int):=by grind[ie]
 simp only[HO,seval,lu,z];refine lIn (fun k fr j=>∃(i:Nat)(ys:RZ),k=xs.length-i/\2*i<=xs.length/\fr=mkF [(0,u),(2,i),(3,.int .i64 ((xs.length:Int)-1-(i:Int)))]/\aju xs ys i/\GI j u ys/\(∀f,Le f h->Z2 f u->Le f j)/\∀b o,h.own b=Z o->blk u≠Z b->j.own b=Z o) ⟨0,xs,rfl,aax _,rfl,aju.zero xs,g,fun f n _=>n,fun b o hb _=>hb⟩ ?_;rintro k fr j p ⟨i,ys,rfl,hi,rfl,R,v,A,B⟩;by_cases c:2*i+1<xs.length
 .have d:decide ((i:Int)<(xs.length:Int)-1-(i:Int))=tT:=Z6 NH;have C:(xs.length:Int)-1-(i:Int)=((xs.length-1-i:Nat):Int):=NH;have l:i<ys.length:=by rw[R.1];omega
  have h2:xs.length-1-i<ys.length:=by rw[R.1];omega
  have m:=GI.rl v;have q:=m.DH i l;have e:=m.DH _ h2;have ld1:=m.Uc i l;have r:=m.Uc _ h2;have⟨M,D,E,F,l5,G⟩:=GI.store v p l ys[xs.length-1-i];have⟨N,H,I,O,l6,J⟩:=GI.store E F (i:=xs.length-1-i) hGr ys[i];have K:=R.step c l h2;have s:=aaa i NH;have t:aaY .i64 ((xs.length:Int)-1-(i:Int)-1)=(xs.length:Int)-1-((i+1:Nat):Int):=by grind[ie]
  rw[<-C]at e;refine Sk d ?_;refine gh (fRn 0 13 (JQ 13 [0,1,4,5,6,7,11,12] (tA [14] (JQ 15 [0,1,2,3,4,5,6,7,8,9,10,11,12,13,14] .done)))) ?_;simp only[HO,seval,Qg,q,e,ld1,r,D,H,s,t];exact lgA (JS NH) ⟨i+1,_,rfl,NH,rfl,K,I,fun f n af=>l6 f (l5 f (A f n af) af) af,fun b o hb a=>J b o (G b o (B b o hb a) a) a⟩
 .have d:decide ((i:Int)<(xs.length:Int)-1-(i:Int))=fF:=IE NH;refine Sk d ?_;grind[aju.fin]
section
variable{n:Nat}{es:List Pr}{rs:AM}
theorem Tk(d:aV n es)(G:Av n es rs){a b:Nat}:Cr (Xl rs) a b↔Pu es a b:=by
 constructor
 .intro h
  induction h with
  |refl=>grind[Pu.refl]
  |step _ e c=>exact c.step ((G.mem d).1 e) rfl
 .intro h
  induction h with
  |refl _=>exact .refl _
  |step _ h2 _ c=>exact c.step ((G.mem d).2 h2)
theorem IL(c:aV n es)(ha:D3 es)(G:Av n es rs):iJ n (Xl rs)=(Es n es).length:=by
 have R:=G.jD c ha;rw[iJ,Yy (ajZ _).symm (Cr.eqv R _),zE (lt:=fun a b=>a<b) (by grind[Nat.lt_asymm]) _ _ rfl (uA n),Es];congr 1;refine vY fun v d=>?_;rw[agN];rw[Db]at d;constructor
 .intro h u e f;exact h u hGr ((Tk c G).2 f.symm) e
 grind[Tk,Cn.symm]
theorem iso_heads(d:aV n es)(ha:D3 es)(G:Av n es rs):((rG n).filter fun v=>decide (Xl rs v=[])).length=((Es n es).filter fun a=>decide (Gn es es a=0)).length:=by
 refine(yR (by grind[List.filter_sublist]) (by grind[qD]) fun v=>?_).length_eq;rw[xD,xD,Db,QO,abV,abV];constructor
 .rintro⟨c,i⟩;have j:∀w,¬Jp es v w:=fun w hw=>by
   have:=(G.mem d).2 hw;grind
  have k:∀u,Pu es v u->u=v:=fun u g=>j9 fun f=>by have⟨w,hw⟩:=(FV g (wI f)).1;grind
  refine⟨⟨c,fun u g l=>?_⟩,?_⟩
  .grind[Cn.symm]
  .refine qL249 fun m=>?_;have p:=(ed_pos d c).1 m;have h2:(Ic n es v).length=1:=Cq (by grind[Ic,List.filter_sublist]) (x:=v) (by grind[mY,Pu.refl]) (by grind[mY]);omega
 .rintro⟨⟨c,_⟩,i⟩;refine⟨c,jz.2 fun w hw=>?_⟩;have b:=(G.mem d).1 hw;have:∃e∈es,Pu es v e.1.toNat:=by
   rcases b with h|h
   .exact⟨_,h,by simpa using Pu.refl es v⟩
   .exact⟨_,h,by simpa using abu (.inr h)⟩
  have⟨e,o,k⟩:=this;have:0<Gn es es v:=by unfold Gn VF;exact Bc (xD.2 ⟨o,hGr⟩)
  omega
theorem U3{l:II}(h:l.length=1){x y:Nat}(a:x∈l)(b:y∈l):x=y:=by
 match l,h with
 |[z],_=>grind
theorem sumz:∀(l:II)(f:Nat->Nat),(l.map f).sum=0↔∀a∈l,f a=0
 |[],f=>by simp
 |a::l,f=>by have b:=sumz l f;grind
theorem Va(f g:Nat->Nat):∀l:II,(∀a∈l,f a=g a)->(l.map f).sum=(l.map g).sum
 |[],_=>rfl
 |a::l,h=>by rw[AQ,AQ,ahe,ahe,h a qH,Va f g l (by grind[mem_cons_of_mem])]
theorem En(i:aV n es)(ha:D3 es)(G:Av n es rs):z8 n es rs↔Flat n (Xl rs):=by
 have R:=G.jD i ha
 have key:∀a,a∈Es n es->∃g,(Ic n es a).length+(sA es (IN n rs) a+if Gn es es a=0 then 1 else 0)+2*g=Gn es es a+2/\(g=0↔(0<Gn es es a->(Ic n es a).length+sA es (IN n rs) a=Gn es es a+2)):=fun a j=>by
  by_cases c:0<Gn es es a
  .grind[T8]
  .refine⟨0,?_,hGr⟩;have p:Gn es es a=0:=NH;rw[Sb p,p];have u:¬1<(Ic n es a).length:=by grind[ed_pos,QO]
   have h2:0<(Ic n es a).length:=Bc (mY.2 ⟨(QO.1 j).1,Pu.refl es a⟩);have h3:sA es (IN n rs) a=0:=by
    refine qL249 fun q=>?_;have⟨f,hf⟩:=qL164 q;rw[xD,abV]at hf;have⟨o,h⟩:=hf;obtain⟨v,k,rfl⟩:=si.1 o;rw[vf,si]at k;obtain⟨d,hd,rfl⟩:=k;have m:=((gQ R).1 hd).1;rw[(JE R ((IP R).2 m)).1,yM]at h;have b:=(G.mem i).1 m;have:d.2=d.1:=by have e:(Ic n es a).length=1:=NH;exact U3 e (mY.2 ⟨Pu.lt i (show Pu es a d.2 from h.step b rfl) (QO.1 j).1,h.step b rfl⟩) (by grind[mY,Pu.lt,QO])
    grind[V7.ir]
   omega
 have⟨g,hg⟩:=Q9 (r:=fun a g=>a∈Es n es->(Ic n es a).length+(sA es (IN n rs) a+if Gn es es a=0 then 1 else 0)+2*g=Gn es es a+2/\(g=0↔(0<Gn es es a->(Ic n es a).length+sA es (IN n rs) a=Gn es es a+2))) fun a=>by
  by_cases j:a∈Es n es
  .grind
  .exact⟨0,hGr⟩
 have S:=Va _ _ (Es n es) fun a j=>(hg a j).1
 rw[aS (fun a=>(Ic n es a).length+(sA es (IN n rs) a+if Gn es es a=0 then 1 else 0)),aS (fun a=>(Ic n es a).length),aS (fun a=>sA es (IN n rs) a),aS (fun a=>Gn es es a) (fun _=>2),sum_verts i,sum_edges i,sum_faces i ha G,Qs]at S
 have w:((Es n es).map fun _=>2).sum=2*(Es n es).length:=by
  have:∀l:II,(l.map fun _=>2).sum=2*l.length:=fun l=>by
   induction l<;>grind
  exact this _
 have s:mj n (Xl rs)=(IN n rs).length+((Es n es).filter fun a=>decide (Gn es es a=0)).length:=by grind[mj.eq_1,yp,iso_heads,IN.eq_1,vf.eq_1]
 have t:(dl n (Xl rs)).length=2*es.length:=by grind[Ud,D3.nodup,Av.mem]
 grind[z8,sumz,Flat.eq_1,IL]
end
structure zW (n:Nat) (es:xLP):Prop where
 n3:3<=n
 one:(Es n es).length=1
 nocut:∀v,¬Fo.Cut2 es v
section
variable{n:Nat}{es:List Pr}
theorem zW.bp(T:zW n es){u v:Nat}(a:u<n)(b:v<n):Pu es u v:=uh T.one a b
theorem nb_of(hR:aV n es){u v:Nat}(h:Pu es u v)(a:u≠v):∃w,Jp es v w:=by
 cases h<;>grind[Jp.symm]
theorem zW.ne(T:zW n es)(hR:aV n es){v:Nat}(a:v<n):∃w,Jp es v w:=by
 have h3:=T.n3;by_cases c:v=0
 .exact nb_of hR (T.bp (u:=1) NH a) NH
 .exact nb_of hR (T.bp (u:=0) NH a) NH
theorem cnW(hR:aV n es){c a b:Nat}(h:Cn (wo c) es a b):Cr (Om (fun x y=>x≠c/\y≠c) (eN n es)) a b:=by
 induction h with
 |refl=>exact .refl _
 |@step x y f h2 h3 d=>
  have g:x≠c:=by grind[Cn.AB]
  have i:y≠c:=fun e=>by grind
  exact d.step (by grind[EM,vD])
theorem aU(hR:aV n es){v:Nat}:eN n es v≠[]↔∃w,Jp es v w:=by
 constructor
 .intro h;have⟨w,l,e⟩:=N8 h;exact⟨w,(vD hR).1 (by rw[e];simp)⟩
 .rintro⟨w,h⟩ e;have:=(vD hR).2 h;grind
theorem zW.Z7(T:zW n es)(hR:aV n es):QG (eN n es):=by
 have lt:∀{v},eN n es v≠[]->v<n:=fun h=>by have⟨w,hw⟩:=(aU hR).1 h;exact(hw.lt hR).1
 refine⟨fun v w f hw=>(Tk hR (qG n es)).2 (by grind[zW.bp]),fun c v w g h2 f hw=>cnW hR ?_⟩;by_cases d:c<n
 .obtain⟨a,h3,l⟩:=KH (T.bp d (lt f)) g;have⟨b,i,m⟩:=KH (T.bp d (lt hw)) h2;have j:Cn (wo c) es a b:=j9 fun q=>T.nocut c ⟨a,b,h3,i,q⟩;grind[woV_con,Cn.symm,Cn.trans]
 .have:∀{a b},Pu es a b->a≠c->Cn (wo c) es a b:=fun h ha=>by
   induction h with
   |refl=>exact .refl (iO ha)
   |step _ a _ k=>exact .step k a (iO fun e=>d (by have:=(a.lt hR).2;omega))
  grind[zW.bp]
def zW.es_ne(T:zW n es)(hR:aV n es):es≠[]:=fun e=>by have⟨w,hw⟩:=T.ne hR (v:=0) (by have:=T.n3;omega);rw[e]at hw;rcases hw with h|h<;>cases h
theorem Uv(a:bX ⟨(n:Int),es⟩)(h3:3<=n)(b:(Es n es).length=1):(vq n es).length=1↔zW n es:=by
 have hR:=a.GD;constructor
 .intro d;refine⟨h3,b,fun v c=>?_⟩;have:=(YH hR v).2 c;grind[Sq]
 .intro T;have K:=treeM_lk a ⟨T.es_ne hR,b⟩;have e:JL n es=[]:=jz.2 (by grind[zW.nocut,OI]);grind[acF,Er,Lk.len]
theorem zW.less(T:zW n es)(hR:aV n es){a b:Nat}{rest:xLP}(ha:a<n)(hb:b<n)(d:a≠b)(e:∀x y,Jp es x y->¬((x=a/\y=b)\/(x=b/\y=a))->Jp rest x y):Pu rest b a:=by
 have D:=T.Z7 hR;have h3:=T.n3;obtain⟨t,i,f,g⟩:∃t,t<n/\t≠a/\t≠b:=by
  by_cases k:a≠0/\b≠0
  .exact⟨0,NH,NH,NH⟩
  by_cases c1:a≠1/\b≠1
  .exact⟨1,NH,NH,NH⟩
  .exact⟨2,NH,NH,NH⟩
 have key:∀{c x y:Nat},(c=a\/c=b)->Cr (Om (fun x y=>x≠c/\y≠c) (eN n es)) x y->Pu rest x y:=fun{c x y} l h=>by
  induction h with
  |refl=>grind[Pu.refl]
  |@step u w m h2 j=>have⟨k1,k2,o⟩:=EM.1 h2;refine .step j (e _ _ ((vD hR).1 k1) ?_) rfl;grind
 have ne:∀{v},v<n->eN n es v≠[]:=by grind[aU,zW.ne]
 have p:=key (.inl rfl) (D.Z7 a b t (wI d) f (ne hb) (ne i));have q:=key (.inr rfl) (D.Z7 b t a g d (ne i) (ne ha));grind[Cn.trans]
theorem pth_ok(hR:aV n es){b:Nat}{L:RZ}(F:Far n es b L):∀(k v:Nat),L[v]?=Z (k:Int)->∃l:II,agl (Zh n es) L k v=kz l/\l.length=k+1/\l[0]?=Z v/\l[k]?=Z b/\
  (∀(i x:Nat),l[i]?=Z x->L[x]?=Z ((k-i:Nat):Int))/\∀(i x y:Nat),l[i]?=Z x->l[i+1]?=Z y->Jp es x y
 |0,v,h=>by have hb:=F.zero v h;subst hb;refine⟨[v],rfl,rfl,rfl,rfl,fun i x m=>?_,hGr⟩;grind
 |k+1,v,h=>by
  have⟨w,ha,hw⟩:=F.pre v _ h NH;have a:L.getD v 0=((k+1:Nat):Int):=hGr;cases hf:((Zh n es).getD v []).find? (fun w=>decide (L.getD w.toNat 0=L.getD v 0-1))with
  |none=>grind[EW,Int.toNat_natCast]
  |some x=>
   have e:=mem_of_find?_eq_some hf;have h2:=List.find?_some hf;obtain⟨u,rfl,o⟩:=Ru hR e;have c:=CA (show u<L.length by grind[Far.len]);rw[abV,yM,Eh,c,a]at h2;have d:L[u]?=Z (k:Int):=hGr;have⟨l,f,g,e3,e4,p,q⟩:=pth_ok hR F k u d;refine⟨v::l,?_,by simp[g],rfl,hGr,fun i y j=>?_,fun i y z j r=>?_⟩
   .rw[agl,hf];simp only[yM];rw[f];rfl
   .cases i with
    |zero=>grind
    |succ i=>grind
   .cases i with
    |zero=>grind[EW]
    |succ i=>grind
theorem path_ring(w:bX ⟨(n:Int),es⟩){a b:Nat}{rest:xLP}(r:es=((a:Int),(b:Int))::rest)(F:Far n rest b (NY (Zh n rest) n b))(C:Pu rest b a):
  ∃l,DO n rest a b=kz l/\Ho n es l:=by
 have hR:=w.GD;have d:aV n rest:=fun p M=>hR p hGr;have s:(((a:Int),(b:Int)):Pr)∈es:=by rw[r];simp
 have t:=(hR _ s).2.1;simp only at t;have u:=(hR _ s).2.2;simp only at u;have nd:es.Nodup:=w.q9.nodup;have f:=CA (show a<(NY (Zh n rest) n b).length by grind[Far.len]);have g:=(F.pos a _ f).2 C;have⟨k,D⟩:=qL7 g;have m:(NY (Zh n rest) n b)[a]?=Z (k:Int):=by rw[f,D]
 have⟨l,E,N,e3,e4,z,A⟩:=pth_ok d F k a m;have G:k≠0:=hGr;have H:k≠1:=fun e=>by
  subst e;have:=A 0 a b e3 e4;rw[r,eR]at nd;rcases this with h|h
  .exact nd.1 h
  .have:=(d _ h).2.1;grind
 have o:l.Nodup:=by rw[AE,Yi];intro i j hi q I e;have B:=z i _ (Gc hi);have h2:=z j _ (Gc q);grind
 refine⟨l,?_,o,NH,fun v J=>?_⟩
 .unfold DO;rw[Eh,m];exact E
 .obtain⟨j,q,rfl⟩:=Bx.1 J;rw[ajw o q];have sub:∀{x y},Jp rest x y->Jp es x y:=fun h=>by rw[r];exact h.imp (VU _) (VU _)
  by_cases c:j+1<l.length
  .have e:l[(j+1)%l.length]'(aj3 _ NH)=l[j+1]:=by grind[Nat.mod_eq_of_lt]
   rw[e];exact sub (A j _ _ (Gc q) (Gc c))
  .have K:j=k:=NH;subst K;have e:l[(j+1)%l.length]'(aj3 _ NH)=l[0]:=by grind[Nat.mod_self]
   rw[e];have B:l[j]=b:=hGr;have L:l[0]=a:=hGr;rw[B,L];exact .inr s
end
noncomputable def runM(n:Nat)(rows:AM):Nat->ShM->Option ShM
  |0,S=>Z S
  |k+1,S=>if S.left=[]then Z S else match AU n rows S with
    |some a=>runM n rows k a
    |none=>Y
def ZO(f:II):List (Nat×Nat×Nat):=(rG f.length).map fun i=>(f.getD i 0,f.getD ((i+f.length-1)%f.length) 0,f.getD ((i+1)%f.length) 0)
def XN(T:AM)(t:Nat×Nat×Nat):AM:=T.set t.1 ((T.getD t.1 []).set t.2.1 (t.2.2:Int))
def N4(n:Nat)(Jv:Cs):AM:=(Jv.flatMap ZO).foldl XN (rP n (rP n (-1)))
def itI(T:RZ):Nat->Int->Int
 |0,u=>u
 |k+1,u=>T.getD (itI T k u).toNat 0
def lH(T:AM)(rows:AM)(v:Nat):RZ:=(rG (rows.getD v []).length).map fun k=>itI (T.getD v []) k ((rows.getD v []).getD 0 0)
def xY(n:Nat)(rows:AM)(Jv:Cs):AM:=(rG n).map (lH (N4 n Jv) rows)
def zl(n:Nat)(es:xLP):II:=(DO n (es.drop 1) (es.getD 0 (0,0)).1.toNat (es.getD 0 (0,0)).2.toNat).map Int.toNat
noncomputable def ahf(n:Nat)(es:xLP):ShM:=Mw n es (zl n es) (MF n (Qw n (aa5 (ZH (zl n es)))) es)
noncomputable def embM(n:Nat)(es:xLP):Option AM:=(runM n (Zh n es) es.length (ahf n es)).map fun S=>xY n (Zh n es) S.Jv
section
variable{n:Nat}{es:List Pr}{H:Nat->Nat->Prop}{S:ShM}
theorem run_ok(hR:aV n es)(hA:D3 es)(D:QG (eN n es)):∀(k:Nat)(H:Nat->Nat->Prop)(S:ShM),Z8 n es H S->OW es H<=k->
  (runM n (Zh n es) k S=Y/\¬XU n (eN n es))\/∃a b,runM n (Zh n es) k S=Z a/\Z8 n es b a/\a.left=[]
 |0,H,S,I,h=>by
  refine .inr ⟨S,H,rfl,I,?_⟩;refine j9 fun q=>?_;have⟨p,l,e⟩:=N8 q;have P:=I.Aa p (by rw[e];simp);have⟨x,t,i⟩:=N8 P.ne;have f:x∈p.zp:=by rw[i];simp
  have⟨v,w,e3,d,j⟩:=P.UQ hR f;have m:x∈es.filter fun e=>decide (¬H e.1.toNat e.2.toNat):=by rw[xD];refine⟨P.sub.subset f,?_⟩;rw[e3,Ix d];simpa using j.2
  have o:(es.filter fun e=>decide (¬H e.1.toNat e.2.toNat)).length=0:=Nat.le_zero.1 h;grind
 |k+1,H,S,I,h=>by
  rw[runM];by_cases c:S.left=[]
  .grind
  .rw[WA c];rcases I.lay hR hA D c with⟨g,h2⟩|⟨a,b,g,h2,h3⟩
   .grind
   .rw[g];exact run_ok hR hA D k b a h2 NH
def MC(T:AM)(v u:Nat):Int:=(T.getD v []).getD u 0
theorem sQ{T:AM}{t:Nat×Nat×Nat}(h:T.length=n/\∀v,v<n->(T.getD v []).length=n):(XN T t).length=n/\∀v,v<n->((XN T t).getD v []).length=n:=by grind[XN]
theorem tabS_get{T:AM}{t:Nat×Nat×Nat}(h:T.length=n/\∀v,v<n->(T.getD v []).length=n)(a:t.1<n)(h2:t.2.1<n)(v u:Nat):MC (XN T t) v u=if t.1=v/\t.2.1=u then(t.2.2:Int)else MC T v u:=by grind[MC,XN]
theorem Vx{G:Nat->Nat->Nat}:∀(a:List (Nat×Nat×Nat))(T:AM),(T.length=n/\∀v,v<n->(T.getD v []).length=n)->(∀t∈a,t.1<n/\t.2.1<n/\t.2.2=G t.1 t.2.1)->
  ((a.foldl XN T).length=n/\∀v,v<n->((a.foldl XN T).getD v []).length=n)/\∀v u,(MC T v u=(G v u:Int)\/∃t∈a,t.1=v/\t.2.1=u)->MC (a.foldl XN T) v u=(G v u:Int)
 |[],T,h,_=>by grind
 |t::a,T,h,hg=>by have⟨c,d,e⟩:=hg t Ma;have⟨k1,k2⟩:=Vx a (XN T t) (sQ h) fun t b=>hg t (by simp[b]);grind[tabS_get]
theorem getD_pv{f:II}(nd:f.Nodup){i:Nat}(hi:i<f.length):f.getD ((i+f.length-1)%f.length) 0=pv f (f.getD i 0):=by
 have a:(i+f.length-1)%f.length<f.length:=aj3 _ NH;have b:=dN nd a;have e:((i+f.length-1)%f.length+1)%f.length=i:=by rw[Nat.mod_add_mod,show i+f.length-1+1=i+f.length by omega,alv,PN hi]
 grind[c7]
theorem vh{f:II}(nd:f.Nodup){t:Nat×Nat×Nat}(h:t∈ZO f):t.1∈f/\t.2.1=pv f t.1/\t.2.2=nx f t.1:=by grind[ZO,getD_pv,dN]
theorem trip_of{f:II}(nd:f.Nodup){v:Nat}(h:v∈f):(v,pv f v,nx f v)∈ZO f:=by obtain⟨i,hi,rfl⟩:=Bx.1 h;refine si.2 ⟨i,Db.2 hi,?_⟩;grind[getD_pv,dN]
def HN{T:RZ}{g:Nat->Nat}{P:Nat->Prop}(a:∀u,P u->T.getD u 0=(g u:Int))(hP:∀u,P u->P (g u)){u:Nat}(b:P u):∀k,itI T k (u:Int)=((it g k u:Nat):Int)/\P (it g k u)
 |0=>⟨rfl,b⟩
 |k+1=>by have⟨e,p⟩:=HN a hP b k;refine⟨?_,hP _ p⟩;rw[itI,e,yM,a _ p];rfl
theorem circ_ok(q:bX ⟨(n:Int),es⟩)(A:zW n es){r:Nat->II}{F:Cs}(G:abK n r F)(fl:Flat n r)(B:∀x y,y∈r x↔y∈eN n es x):
  Av n es (xY n (Zh n es) F)/\Flat n (Xl (xY n (Zh n es) F)):=by
 have hR:=q.GD;have hA:=q.q9;have s:=MG hR hA;have z:∀f∈F,f.Nodup:=G.O.nd;let a:Nat->Nat->Nat:=fun v u=>nx (r v) u;have j:∀t∈F.flatMap ZO,t.1<n/\t.2.1<n/\t.2.2=a t.1 t.2.1:=fun t C=>by have⟨f,hf,h⟩:=KG.1 C;have⟨d,h2,h3⟩:=vh (z f hf) h;have⟨M,N,Q⟩:=G.O.pv hf d;have hi:=G.O.df G.Rl hf d;refine⟨G.Rl.lt _ _ hi,by rw[h2];exact G.Rl.lt _ _ (G.Rl.sy _ _ hi),?_⟩;grind
 have D:(rP n (rP n (-1:Int))).length=n/\∀v,v<n->((rP n (rP n (-1:Int))).getD v []).length=n:=hGr;obtain⟨-,E⟩:=Vx (F.flatMap ZO) _ D j;have m:∀v u,u∈r v->MC (N4 n F) v u=(a v u:Int):=fun v u i=>by
  refine E v u (.inr ?_);have⟨f,hf,I,e⟩:=G.O.cover u v (G.Rl.sy _ _ i);have b:v∈f:=by grind[ZP]
  refine⟨_,KG.2 ⟨f,hf,trip_of (z f hf) b⟩,rfl,?_⟩;grind[c7]
 have row:∀v,v<n->∃u c,eN n es v=u::c/\(Zh n es).getD v []=(u:Int)::kz c/\u∈r v:=fun v b=>by have⟨w,hw⟩:=A.ne hR b;have⟨u,c,e⟩:=N8 ((aU hR).2 ⟨w,hw⟩);have hb:=(qG n es).back hR v;refine⟨u,c,e,?_,hGr⟩;rw[<-hb];show(eN n es v).map _=_;rw[e];rfl
 have cyc:∀v,v<n->∃l:II,lH (N4 n F) (Zh n es) v=kz l/\Cyc (r v) l:=fun v b=>by
  have⟨u,c,J,K,i⟩:=row v b;have hlen:((Zh n es).getD v []).length=(r v).length:=by
   have d:(eN n es v).length=((Zh n es).getD v []).length:=by grind[kz]
   rw[<-d];exact(yR (s.nd v) (G.Rl.nd v) hGr).length_eq
  refine⟨(rG (r v).length).map fun k=>it (a v) k u,?_,nZ G.Rl G.O (next:=a) (fun f hf x o=>(G.O.pv hf o).2.2) i⟩
  unfold lH;rw[hlen,K];show _=((rG (r v).length).map fun k=>it (a v) k u).map fun(x:Nat)=>(x:Int);rw[Lm];refine Uz fun k _=>?_;exact(HN (g:=a v) (P:=fun x=>x∈r v) (fun x o=>m v x o) (by grind[ZP]) i k).1
 have get:∀v,v<n->(xY n (Zh n es) F).getD v []=lH (N4 n F) (Zh n es) v:=by grind[xY]
 have p:∀v,v<n->∃l:II,(xY n (Zh n es) F).getD v []=kz l/\Xl (xY n (Zh n es) F) v=l/\Cyc (r v) l:=fun v b=>by
  have⟨l,d,h2⟩:=cyc v b;refine⟨l,hGr,?_,h2⟩;unfold Xl;rw[get v b,d,kz,Lm]
  conv=>rhs;rw[<-alJ l]
  grind[map_congr_left]
 have len:(xY n (Zh n es) F).length=n:=by simp[xY]
 have R:Av n es (xY n (Zh n es) F):=⟨len,fun v b=>by have⟨l,d,h2,h3⟩:=p v b;rw[d];have L:l.Perm (eN n es v):=h3.perm.symm.trans (yR (G.Rl.nd v) (s.nd v) fun x=>B v x);have:=L.map fun(x:Nat)=>(x:Int);rw[(qG n es).back hR v]at this;exact this⟩;refine⟨R,?_⟩;have same:pP r (Xl (xY n (Zh n es) F)):=fun v=>by
  by_cases b:v<n
  .grind
  .have J:r v=[]:=jz.2 fun w hw=>b (G.Rl.lt _ _ hw);grind[Xl,xY,Cyc.refl]
 exact(same.flat G.Rl).1 fl
theorem Mz(l:II):(kz l).map Int.toNat=l:=by
 rw[kz,Lm]
 conv=>rhs;rw[<-alJ l]
 grind[map_congr_left]
theorem ringM_ok(c:bX ⟨(n:Int),es⟩){a b:Nat}{rest:xLP}(d:es=((a:Int),(b:Int))::rest)(F:Far n rest b (NY (Zh n rest) n b))(e:Pu rest b a):
  DO n rest a b=kz (zl n es)/\Ho n es (zl n es):=by grind[path_ring,zl,Mz]
theorem XU.eN_congr{E E':Nat->II}(h:∀v w,w∈E v↔w∈E' v):XU n E↔XU n E':=⟨fun⟨R,a,h2,h3⟩=>⟨R,a,h2,hGr⟩,fun⟨R,a,h2,h3⟩=>⟨R,a,h2,hGr⟩⟩
theorem Vg(hR:aV n es)(hA:D3 es){rs:AM}(G:Av n es rs)(fl:Flat n (Xl rs)):XU n (eN n es):=⟨Xl rs,G.jD hR hA,fl,(by grind[Av.mem,vD])⟩
theorem many_no(b:bX ⟨(n:Int),es⟩)(a:zW n es)(h:3*n<es.length+6):¬XU n (eN n es):=fun⟨R,c,h2,h3⟩=>by
 have hR:=b.GD;have D:=(a.Z7 hR).same h3;have ne:∀v,v<n->R v≠[]:=fun v d e=>by have⟨w,hw⟩:=a.ne hR d;have:=(h3 v w).2 ((vD hR).2 hw);grind
 have:=(UU c h2 D a.n3 ne).1;have hA:D3 es:=b.q9;grind[Ud,D3.nodup,vD]
end
variable {es fs:List Pr} {n:Nat} {π:Nat->Nat}
theorem heads_all(c:0<n)(h:∀u v,u<n->v<n->Pu es u v):(Es n es).length=1:=by
 have m0:0∈Es n es:=by grind[QO]
 have nd:=qD n es
 match hh:Es n es with
 |[]=>grind
 |[_]=>rfl
 |a::b::l=>
  have ha:a∈Es n es:=by rw[hh];simp
  have hb:b∈Es n es:=by rw[hh];simp
  grind[QO]
theorem H9.plan(I:H9 n es fs π)(h:XU n (eN n es)):XU n (eN n fs):=by
 have⟨σ,J,a,h2⟩:=I.inv;refine XU.ren (p:=π) (q:=σ) ⟨I.lt,J.lt,h2,a⟩ (fun v w=>?_) h;rw[vD I.r2,vD I.r1];constructor
 .intro k;have⟨b,hw⟩:=k.lt I.r2;grind[H9.Jp]
 grind[H9.Jp]
theorem H9.alx(I:H9 n es fs π):XU n (eN n fs)↔XU n (eN n es):=by grind[H9.inv,H9.plan]
inductive Rc (A:Nat->Nat->Prop) (c:Nat):Nat->Nat->Prop
 |refl {u:Nat}:Rc A c u u
 |step {u v w:Nat}:Rc A c u v->A v w->v≠c->w≠c->Rc A c u w
section
variable{A B:Nat->Nat->Prop}{c u v w a b n:Nat}
theorem Rc.trans(h:Rc A c u v)(k:Rc A c v w):Rc A c u w:=by induction k with|refl=>exact h|step _ a d h2 e=>exact e.step a d h2
theorem Rc.one(h:A u v)(d:u≠c)(h2:v≠c):Rc A c u v:=Rc.refl.step h d h2
theorem Rc.symm(sy:∀x y,A x y->A y x)(h:Rc A c u v):Rc A c v u:=by
 induction h with
 |refl=>exact .refl
 |step _ a d h2 e=>exact(Rc.one (sy _ _ a) h2 d).trans e
theorem Rc.sub(h:∀x y,A x y->x≠c->y≠c->Rc B c x y)(k:Rc A c u v):Rc B c u v:=by
 induction k with|refl=>exact .refl|step _ a d h2 e=>exact(by grind[Rc.trans])
def upA(A:Nat->Nat->Prop)(a b m x y:Nat):Prop:=(A x y/\¬(x=a/\y=b)/\¬(x=b/\y=a))\/(x=m/\(y=a\/y=b))\/(y=m/\(x=a\/x=b))
end
section
variable{n:Nat}{es:List Pr}
abbrev sg(L:xLP):xLP:=aa5 (L.map lZ)
theorem adj_sg(L:xLP)(x y:Nat):Jp (sg L) x y↔Jp L x y:=by
 have key:∀p:Pr,lZ p=((x:Int),(y:Int))->p=((x:Int),(y:Int))\/p=((y:Int),(x:Int)):=by grind[lZ]
 have d:∀p:Pr,lZ p=((y:Int),(x:Int))->p=((x:Int),(y:Int))\/p=((y:Int),(x:Int)):=by grind[lZ]
 have i:lZ ((x:Int),(y:Int))=((x:Int),(y:Int))\/lZ ((x:Int),(y:Int))=((y:Int),(x:Int)):=by simp only[lZ,Gw];omega
 have g:lZ ((y:Int),(x:Int))=lZ ((x:Int),(y:Int)):=by simp only[lZ,Gw];omega
 unfold Jp sg;simp only[Wb,si];constructor
 .rintro(⟨p,f,e⟩|⟨p,f,e⟩)
  .rcases key p e with rfl|rfl<;>simp[f]
  .rcases d p e with rfl|rfl<;>simp[f]
 .rintro(h|h)
  .exact hGr
  .exact hGr
theorem aV.up{m:Nat}(h:aV n es)(e:n<=m):aV m es:=fun p d=>by have:=h p d;omega
theorem ahM(hR:aV n es){m:Nat}(d:n<=m):XU m (eN m es)↔XU n (eN n es):=by obtain⟨k,rfl⟩:=qL197 d;have:=XU.mores (n:=n) (E:=eN n es) (fun v w h=>(((vD hR).1 h).lt hR).1) k;rw[<-this];exact(by grind[XU.congr,vD,aV.up])
end
end
section
attribute [local irreducible] Kp MQ lU KO1 KO KN KX KE VK Kl ZJ TC aab
variable {c i j m t:Nat}
def pair_any(d:LA)(a b:Nat)(h:aai):AC pG d 125 [a,b] h fun x h'=>x=UI (GW a b)/\Le h h':=by
 refine AC.vF func125 ntmps125 results125 fun c=>?_;have⟨e,f,l1,w1,g⟩:=Tt c [.int .i64 0,.int .i64 0]
 have i:h.own h.next=Y:=(Le.refl h).next c (qL0 _)
 have st:=gD (p:=(min (a:Int) (b:Int),max (a:Int) (b:Int))) g
 have oo:=aai.Y3 e h.next (.cells (xM (min (a:Int) (b:Int),max (a:Int) (b:Int))))
 have ld:=uM oo;simp only[HO,seval,alloc45',f,Dv,z6,xe,st,ld];exact⟨rfl,l1.put _ i⟩
theorem tmod_step(h:0<m):((c:Int)+1).tmod (m:Int)=(((c+1)%m:Nat):Int):=hGr
theorem ke(hi:i<m)(a:j<m)(b:t<=(j+m-i)%m):(i+t)%m=j↔t=(j+m-i)%m:=by
 have c:(j+m-i)%m<m:=aj3 _ NH;have e:(i+(j+m-i)%m)%m=j:=by grind[Nat.add_mod_mod,Nat.add_mod_right,Nat.mod_eq_of_lt]
 constructor
 .intro h;have:=aeQ hi (show t<m by omega);grind
 grind
theorem Ra(z:LA)(v:vV)(f:II)(i j:Nat)(h:aai)(o:RL RP h v (kz f))(hi:i<f.length)(A:j<f.length)(P:f.length<=1000):
  AC pG z 166 [v,i,j] h fun x h'=>GI h' x (kz (Qk f i j))/\Le h h'/\Z2 h x:=by
 refine AC.vF func166 ntmps166 results166 fun a=>?_;have B:(kz f).length=f.length:=y6 f;have y:=fun g=>o.TA g;rw[B]at y;have ad:∀c,c<f.length->aao pG 28 v (.int .i64 (c:Int))=Z (pT (Z (aaq v c))):=fun c p=>o.DH c NH;have ld:∀g,Le h g->∀c,c<f.length->aaC pG g 3 (aaq v c)=Z (.int .i64 ((f.getD c 0:Nat):Int)):=fun g C c p=>by rw[(o.le Nn.RP C).Uc c NH,sY p,D4 p]
 have⟨E,F,l1,w1,G⟩:=Tt a [((f.getD i 0:Nat):Int)];simp only[HO,seval,ad i hi,ld h (Le.refl _) i hi,DQ,F]
 have nB:h.own h.next=Y:=(Le.refl h).next a (qL0 _)
 have D:(j+f.length-i)%f.length<f.length:=aj3 _ NH;let L:Nat->II:=fun t=>(rG (t+1)).map fun t=>f.getD ((i+t)%f.length) 0;have H:L 0=[f.getD i 0]:=by grind[Nat.mod_eq_of_lt]
 have I:GI E (sL (Z h.next) 1 1) (kz (L 0)):=by rw[H];exact GS.full G rfl (show 1<1000000000000 by decide)
 refine lIn (fun k fr l=>∃(t:Nat)(n:vV),k=(j+f.length-i)%f.length-t/\t<=(j+f.length-i)%f.length/\fr=mkF [(0,v),(1,.int .i64 (((i+t)%f.length:Nat):Int)),(2,j),(7,n)]/\GI l n (kz (L t))/\Le h l/\Z2 h n) ⟨0,_,rfl,aax _,by rw[Yq,PN hi],I,l1,fun b hb=>by grind[blk]⟩ ?_;rintro k fr l q ⟨t,n,rfl,J,rfl,g,leq,ap⟩;have st:=ke hi A J;have Q:(i+t)%f.length<f.length:=aj3 _ NH;by_cases c:(i+t)%f.length=j
 .have d:decide ((((i+t)%f.length:Nat):Int)=(j:Int))=tT:=Z6 NH;refine Sk (XC @bne.eq_1.{0} d) ?_
  grind[Qk]
 .have d:decide ((((i+t)%f.length:Nat):Int)=(j:Int))=fF:=IE NH;have r:t<(j+f.length-i)%f.length:=hGr;have aw:=aaa ((i+t)%f.length) NH;have K:((i+t)%f.length+1)%f.length=(i+(t+1))%f.length:=by rw[Nat.mod_add_mod];rfl
  have e:(i+(t+1))%f.length<f.length:=aj3 _ NH;have nz:¬((f.length:Int)=0):=NH;have M:=tmod_step (c:=(i+t)%f.length) (m:=f.length) NH;rw[K]at M;have s:(((((i+t)%f.length+1:Nat):Int))).tmod (f.length:Int)=(((i+(t+1))%f.length:Nat):Int):=hGr;have u:aaY .i64 (((i+(t+1))%f.length:Nat):Int)=(((i+(t+1))%f.length:Nat):Int):=cT _ NH NH;obtain⟨w,R,S,e4,N,T,U,l4,hf,-⟩:=g.push q ((f.getD ((i+(t+1))%f.length) 0:Nat):Int) (by grind[y6]);have⟨l5,O⟩:=hf h leq ap;simp only[HO,seval,bne,d,aw,y,nz,s,u,ad _ e,ld l leq _ e,e4,N];refine lgA NH ⟨t+1,w,rfl,r,rfl,?_,l5,O⟩;have:L (t+1)=L t++[f.getD ((i+(t+1))%f.length) 0]:=by grind[range_succ]
  grind[kz]
variable {h:aai} {v:Value} {xs:RZ}
theorem GI.tail(g:GI h v xs)(hi:i<=xs.length):
  ∃u,abf pG 28 v (Z (.int .i64 (i:Int))) Y Y=Z u/\((i=xs.length/\xO u 0)\/(i<xs.length/\∃cap,u=sL (Z (aaq v i)) (xs.length-i) cap)):=by
 obtain⟨k,⟨rfl,d⟩|⟨id,c,cap,rfl,l,m,f⟩⟩:=g
 .have:i=0:=NH;subst this;refine⟨.slice Y 0 0,?_,.inl ⟨d.symm,⟨Y,0,rfl,Ma⟩⟩⟩;have:¬UNK<=0:=by decide
  simp[abf,Mb,Ac,this,abm,abL]
 .have h2:(0:Int)<=(i:Int):=NH;have h3:(i:Int)<=(xs.length:Int):=NH;have b:UA pG 3=1:=Ji;rcases f with rfl|⟨rfl,j⟩
  .refine⟨sL (Z (Ip ⟨id,0,Y⟩ i)) (xs.length-i) (UNK+1),by simp[abf,Mb,Ac,b,abm,abL,h2,h3],?_⟩;by_cases c:i=xs.length
   .exact .inl ⟨c,⟨_,_,by rw[c,aiq],Ma⟩⟩
   .exact .inr ⟨NH,_,rfl⟩
  .have a:¬UNK<=xs.length:=aku.2 (ahD j WY)
   refine⟨.slice (if xs.length=i then Z id else Z (Ip ⟨id,0,Y⟩ i)) (xs.length-i) (xs.length-i),by simp[abf,Mb,Ac,b,abm,abL,h2,h3,a],?_⟩
   by_cases c:i=xs.length
   .refine .inl ⟨c,⟨_,_,by rw[c,aiq],Ma⟩⟩
   .exact .inr ⟨NH,_,by rw[WA (fun e=>c e.symm)];rfl⟩
theorem elem_tail(g:GI h v xs)(hi:i<xs.length):aaq (sL (Z (aaq v i)) (xs.length-i) c) j=aaq v (i+j):=by
 obtain⟨a,⟨rfl,b⟩|⟨id,c,cap,rfl,d,e,f⟩⟩:=g
 all_goals grind[fA,Ub]
theorem rev_w(h:m<=100000)(a:2*j<=m):aaY .i64 ((m:Int)-1-(j:Int)-1)=(m:Int)-1-((j+1:Nat):Int):=by grind[ie]
def rev_2(h:2*j+1<m):2*(j+1)<=m:=NH
theorem xB(U:LA)(u v:vV)(xs:RZ)(i:Nat)(h:aai)(g:GI h v xs)(hn:xs.length<=100000)(L:(i=xs.length/\xO u 0)\/(i<xs.length/\∃cap,u=sL (Z (aaq v i)) (xs.length-i) cap)):
  AC pG U 128 [u] h fun _ h'=>GI h' v (xs.take i++(xs.drop i).reverse)/\(∀f,Le f h->Z2 f v->Le f h')/\∀b o,h.own b=Z o->blk v≠Z b->h'.own b=Z o:=by
 have V:i<=xs.length:=hGr;have n:(xs.drop i).length=xs.length-i:=qL233;have lu:∀w,aeh pG w 28 u=Z (.int .i64 ((xs.drop i).length:Int)):=fun w=>by
  rcases L with⟨e,a,c,rfl,_⟩|⟨_,cap,rfl⟩
  .rw[Jg Mb w,n,e,aiq]
  .rw[Jg Mb w,n]
 refine AC.vF qS28 ntmps128 results128 fun W=>?_;have X:aaY .i64 (((xs.drop i).length:Int)-1)=((xs.drop i).length:Int)-1-((0:Nat):Int):=by grind[ie]
 simp only[HO,seval,lu,X];refine lIn (fun k fr y=>∃(j:Nat)(ys:RZ),k=(xs.drop i).length-j/\2*j<=(xs.drop i).length/\fr=mkF [(0,u),(2,j),(3,.int .i64 (((xs.drop i).length:Int)-1-(j:Int)))]/\aju (xs.drop i) ys j/\GI y v (xs.take i++ys)/\(∀f,Le f h->Z2 f v->Le f y)/\∀b o,h.own b=Z o->blk v≠Z b->y.own b=Z o) ⟨0,xs.drop i,rfl,aax _,rfl,aju.zero _,by grind[take_append_drop],fun f z _=>z,fun b o hb _=>hb⟩ ?_;rintro k fr y A ⟨j,ys,rfl,hj,rfl,R,M,lq,kq⟩;have B:(xs.drop i).length<=100000:=NH;generalize aa:xs.drop i=ds at*;by_cases c:2*j+1<ds.length
 .have d:decide ((j:Int)<(ds.length:Int)-1-(j:Int))=tT:=Z6 NH;have C:(ds.length:Int)-1-(j:Int)=((ds.length-1-j:Nat):Int):=NH;have N:j<ys.length:=by rw[R.1];omega
  have h2:ds.length-1-j<ys.length:=by rw[R.1];omega
  have D:i<xs.length:=NH;obtain⟨_,cap,rfl⟩:=L.resolve_left fun q=>by omega
  have tl:(xs.take i).length=i:=hGr;have ll:(xs.take i++ys).length=xs.length:=by rw[aaf,tl,R.1];omega
  have E:i+j<(xs.take i++ys).length:=hGr;have O:i+(ds.length-1-j)<(xs.take i++ys).length:=hGr;have Q:=GI.rl M;have r:∀p:Nat,p<xs.length-i->aao pG 28 (sL (Z (aaq v i)) (xs.length-i) cap) (.int .i64 (p:Int))=Z (pT (Z (aaq v (i+p)))):=fun p F=>by rw[Wc (P:=pG) Mb Ac Ji p F,<-elem_tail g D (c:=cap)];rfl
  have G:=r j NH;have s:=r (ds.length-1-j) NH;have ld1:=Q.Uc _ E;have t:=Q.Uc _ O;have ge:∀p (F:i+p<(xs.take i++ys).length)(H:p<ys.length),(xs.take i++ys)[i+p]=ys[p]:=fun p F H=>by rw[qL191 NH];exact getElem_congr_idx NH
  rw[ge _ E N]at ld1;rw[ge _ O h2]at t;have st:∀(I:RZ) p x,(xs.take i++I).set (i+p) x=xs.take i++I.set p x:=fun I p x=>by grind[set_append_right,Nat.add_sub_cancel_left]
  have⟨h5,e5,S,w5,l5,k5⟩:=GI.store M A E ys[ds.length-1-j];rw[st]at S;have⟨h6,e6,T,w6,l6,k6⟩:=GI.store S w5 (i:=i+(ds.length-1-j)) hGr ys[j];rw[st]at T;have R6:=R.step c N h2;have J:=aaa j NH;have K:=rev_w (m:=ds.length) (j:=j) B hj;rw[<-C]at s;refine Sk d ?_;refine gh (fRn 0 13 (JQ 13 [0,1,4,5,6,7,11,12] (tA [14] (JQ 15 [0,1,2,3,4,5,6,7,8,9,10,11,12,13,14] .done)))) ?_;simp only[HO,seval,Qg,G,s,ld1,t,e5,e6,J,K];exact lgA NH ⟨j+1,_,rfl,rev_2 c,rfl,R6,T,fun f z af=>l6 f (l5 f (lq f z af) af) af,fun b o hb l=>k6 b o (k5 b o (kq b o hb l) l) l⟩
 .have d:decide ((j:Int)<(ds.length:Int)-1-(j:Int))=fF:=IE NH;refine Sk d ?_;grind[aju.fin]
def sf0(a:Addr):aca pG 129 (pT (Z a)) 0=Z (pT (Z (Ip a 0))):=rfl
def sf1(a:Addr):aca pG 129 (pT (Z a)) 1=Z (pT (Z (Ip a 1))):=rfl
def sf2(a:Addr):aca pG 129 (pT (Z a)) 2=Z (pT (Z (Ip a 2))):=rfl
def sf4(a:Addr):aca pG 129 (pT (Z a)) 4=Z (pT (Z (Ip a 4))):=rfl
structure Sr (h:aai) (B:Nat) (n:Nat) (bv ov fv iv lv:vV):Prop where
 o:h.own B=Z (.cells [n,bv,ov,fv,iv,lv])
section
variable{h:aai}{B n:Nat}{bv ov fv iv lv:vV}
theorem Sr.le{h':aai}(s:Sr h B n bv ov fv iv lv)(e:Le h h'):Sr h' B n bv ov fv iv lv:=⟨e.own _ _ s.o⟩
def Sr.l0(s:Sr h B n bv ov fv iv lv):aaC pG h 3 ⟨B,0,Y⟩=Z (.int .i64 n):=by rw[Fq Ac rfl s.o];rfl
def Sr.l1(s:Sr h B n bv ov fv iv lv):aaC pG h 25 ⟨B,1,Y⟩=Z bv:=by rw[Fq qS8 rfl s.o];rfl
def Sr.l2(s:Sr h B n bv ov fv iv lv):aaC pG h 41 ⟨B,2,Y⟩=Z ov:=by rw[Fq Uh rfl s.o];rfl
def Sr.l3(s:Sr h B n bv ov fv iv lv):aaC pG h 25 ⟨B,3,Y⟩=Z fv:=by rw[Fq qS8 rfl s.o];rfl
def Sr.l4(s:Sr h B n bv ov fv iv lv):aaC pG h 126 ⟨B,4,Y⟩=Z iv:=by rw[Fq qS25 rfl s.o];rfl
def Sr.l5(s:Sr h B n bv ov fv iv lv):aaC pG h 127 ⟨B,5,Y⟩=Z lv:=by rw[Fq afm rfl s.o];rfl
end
theorem qc(n:Nat)(f:II):(eJ n f).length=n:=by simp[eJ]
theorem NN{n v:Nat}(f:II)(a:v<n):(eJ n f)[v]?=Z (decide (v∈f)):=by grind[eJ]
theorem stand_nil(n:Nat):eJ n []=rP n fF:=by apply EH;grind[NN,qc]
theorem afr{n v:Nat}(f:II)(a:v<n):eJ n (f++[v])=(eJ n f).set v tT:=by apply EH;grind[NN,qc]
theorem bJ(q:LA)(B n:Nat)(bv ov fv iv lv v:vV)(f:II)(h:aai)(hs:Sr h B n bv ov fv iv lv)(e:RL RP h v (kz f))(hf:∀x∈f,x<n)(r:n<=1000)(A:f.length<=1000):
  AC pG q 158 [pT (Z B),v] h fun x h'=>GS 1 h' x n (Bo (eJ n f))/\Le h h'/\Z2 h x:=by
 refine AC.vF func158 ntmps158 results158 fun c=>?_;have⟨s,u,l1,w1,w⟩:=Tt c (rP n (.bool fF));have mk:=mk100 h n r;rw[u]at mk;have hlen:(kz f).length=f.length:=y6 f;have o:=fun g=>e.TA g;rw[hlen]at o;simp only[HO,seval,sf0,Ip,EL,hs.l0,mk,o]
 have nT:h.own h.next=Y:=(Le.refl h).next c (qL0 _)
 generalize h.next=T at*
 have y:s.own T=Z (.cells (Bo (eJ n (f.take 0)))):=by rw[w,ame,stand_nil];simp[Bo]
 refine lIn (fun k fr d=>∃i:Nat,k=f.length-i/\i<=f.length/\fr=mkF [(5,sL (Z T) n n),(13,v),(14,(f.length:Nat)),(15,(i:Nat))]/\d.own T=Z (.cells (Bo (eJ n (f.take i))))/\Le h d) ⟨0,rfl,aax _,rfl,y,l1⟩ ?_;rintro k fr d z ⟨i,rfl,hi,rfl,oT,leq⟩;refine Uy ?_;refine Kl.intro (fun p=>?_) (fun hf=>?_)
 .have a:i<f.length:=acb p;clear p;have ad:=e.DH i NH;have ld:=(e.le Nn.RP leq).Uc i NH;rw[sY a]at ld;have j:f.take (i+1)=f.take i++[f[i]]:=XJ a;have l:=hf f[i] (aev a);generalize f[i]=x at*;have ix:aao pG 41 (sL (Z T) n n) (.int .i64 (x:Int))=Z (pT (Z ⟨T,x,Y⟩)):=by rw[Wc Uh AV Ji x l];simp[Ip]
  have st:aaK pG d 4 (pT (Z ⟨T,x,Y⟩)) (.bool tT)=Z (d.put T (.cells (Bo (eJ n (f.take (i+1)))))):=by rw[QB (P:=pG) (t:=4) (x:=.bool tT) AV Ji oT (off:=x) (by rw[O2,qc];exact l) rfl rfl,Tr,j,afr _ l]
  simp only[HO,seval,ad,ld,ix,st,aaa i NH];exact lgA NH ⟨i+1,rfl,a,rfl,aai.Y3 _ _ _,leq.put _ nT⟩
 .have m:f.length<=i:=vp hf;rw[abe m]at oT;refine Uy ?_;refine⟨GS.full oT (by grind[O2,qc]) NH,leq,fun b hb=>by grind[blk]⟩
theorem QQ(j:LA)(lv:vV)(xs:RZ)(P:Int->Bool)(F:FuncId){fn:Func}{c:Code}(b:Good pG F fn c)(cap:xLV)(h:aai)(d:RL RP h lv xs)(u:xs.length<=100000)(hf:∀x∈xs,AC pG j F (.int .i64 x::cap) h fun y h'=>y=.bool (P x)/\h'=h):
  AC pG j 178 [lv,.func (.func F) #[] cap.toArray] h fun x h'=>((x=.int .i64 (-1)/\xs.any P=fF)\/∃i:Nat,x=(i:Nat)/\xs.any P=tT)/\h'=h:=by
 refine AC.vF func178 ntmps178 results178 fun o=>?_;have p:=fun g=>d.TA g;refine Sk p ?_;refine lIn (fun k fr l=>∃i:Nat,k=xs.length-i/\i<=xs.length/\fr=mkF [(0,lv),(1,.func (.func F) #[] cap.toArray),(7,(xs.length:Nat)),(8,(i:Nat))]/\l=h/\(xs.take i).any P=fF) ⟨0,rfl,aax _,rfl,rfl,rfl⟩ ?_;rintro k fr l q ⟨i,rfl,hi,rfl,rfl,e⟩;refine Uy ?_;refine Kl.intro (fun m=>?_) (fun hf=>?_)
 .have a:i<xs.length:=acb m;clear m;have ad:=d.DH i a;have ld:=d.Uc i a;have r:xs.take (i+1)=xs.take i++[xs[i]]:=XJ a;have s:=aev a;have t:=hf xs[i] s;generalize xs[i]=x at*;simp only[HO,seval,ad,ld];refine TC.intro PJ b (by simpa using t) ?_;rintro y h2 w2 ⟨rfl,rfl⟩;cases v:P x with
  |true=>refine Uy ?_;grind
  |false=>refine Sk (aaa i NH) ?_;refine lgA NH ⟨i+1,rfl,a,rfl,rfl,?_⟩;grind
 .have f:xs.length<=i:=vp hf;rw[abe f]at e;refine Uy ?_;grind
theorem xN(b:LA)(lv:vV)(xs:RZ)(P:Int->Bool)(F:FuncId){fn:Func}{c:Code}(a:Good pG F fn c)(cap:xLV)(h:aai)(f:RL RP h lv xs)(g:xs.length<=100000)(hf:∀x∈xs,AC pG b F (.int .i64 x::cap) h fun y h'=>y=.bool (P x)/\h'=h):
  AC pG b 164 [lv,.func (.func F) #[] cap.toArray] h fun x h'=>x=.bool (xs.any P)/\h'=h:=by
 refine AC.vF func164 ntmps164 results164 fun j=>?_;refine Uy ?_;refine kCi func178 (QQ b lv xs P F a cap h f g hf) ?_;rintro x h2 w2 ⟨⟨rfl,e⟩|⟨i,rfl,e⟩,rfl⟩
 .have d:decide ((-1:Int)>=0)=fF:=by decide
  refine Sk (XC d e) ?_;grind
 .have d:decide ((i:Int)>=0)=tT:=Z6 NH;refine Sk (XC d e) ?_;grind
attribute [local instance] Classical.propDecidable
theorem out_any(l:LA)(B n f d e v:Nat)(bv m o j p:vV)(F:Cs)(h:aai)(hs:Sr h B n bv m o j p)(hi:RL (RL sJ) h j (F.map (eJ n)))(hf:f<F.length)(q:v<n)(r:h.own e=Z (.cells [pT (Z B)]))(s:h.own d=Z (.cells [f])):
  AC pG l 163 [v,pT (Z e),pT (Z d)] h fun x h'=>x=.bool (!decide (v∈F.getD f []))/\h'=h:=by
 refine AC.vF func163 ntmps163 results163 fun t=>?_;have a:f<(F.map (eJ n)).length:=hGr;have l3:aaC pG h 124 ⟨e,0,Y⟩=Z (pT (Z B)):=by rw[Fq underlying124 rfl r];rfl
 have w:aaC pG h 3 ⟨d,0,Y⟩=Z (.int .i64 (f:Int)):=by rw[Fq Ac rfl s];rfl
 have ad:=hi.addr (P:=pG) qS25 Uh Ji (k:=.i64) f a;have⟨u,lu,g⟩:=hi.load (P:=pG) Uh rfl f a;have y:(F.map (eJ n))[f]=eJ n (F.getD f []):=hGr;rw[y]at g;have b:v<(eJ n (F.getD f [])).length:=by grind[qc]
 have i:=g.LB (k:=.i64) v b;have c:=g.W7 v b;have z:(eJ n (F.getD f []))[v]=decide (v∈F.getD f []):=by have:=NN (F.getD f []) q;grind
 rw[z]at c;refine Uy ?_;refine gh (fRn 0 12 .done) ?_;simp only[HO,seval,Qg,l3,w,sf4,Ip,EL,hs.l4,ad,lu,i,c]
 try exact⟨trivial,trivial⟩
theorem box72(x:vV)(a:x.oneCell'=tT)(b:x.cells=#[x]):zF h x=Z (pT (Z h.next),h.alloc (.cells [x])):=by grind[zF,IF]
theorem allocI(h:aai):abO pG h 3=Z (pT (Z h.next),h.alloc (.cells [.int .i64 0])):=rfl
theorem newI(hw:WF h)(x:Int):∃a h2,abO pG h 3=Z (pT (Z h.next),a)/\aaK pG a 3 (pT (Z h.next)) x=Z h2/\Le h h2/\WF h2/\h2.own h.next=Z (.cells [x]):=by
 have⟨a,c,l1,w1,b⟩:=Tt hw [.int .i64 0]
 have d:h.own h.next=Y:=(Le.refl h).next hw (qL0 _)
 have st:=QB (P:=pG) (t:=3) (x:=x) Ac Ji b (off:=0) Ma rfl rfl;grind[allocI,Le.put,WF.put,WF.lt,aai.Y3]
theorem NR(p:LA)(B n:Nat)(bv M N q O o r:vV)(F:Cs)(Fm:RZ)(a:II)(h:aai)(hs:Sr h B n bv M N q O)(hi:RL (RL sJ) h q (F.map (eJ n)))(U:RL RP h o Fm)(ha:RL RP h r (kz a))(s:∀x∈Fm,∃v:Nat,x=(v:Int)/\v<n)(t:∀f∈a,f<F.length)(V:Fm.length<=100000)(W:a.length<=100000):
  AC pG p 131 [pT (Z B),o,r] h fun x h'=>GI h' x (kz (zh F Fm a))/\Le h h'/\Z2 h x:=by
 refine AC.vF qS29 ntmps131 results131 fun u=>?_;have⟨w,X,l1,w1,o1⟩:=Tt u [pT (Z B)];have P:=box72 (h:=h) (pT (Z B)) rfl rfl;rw[X]at P;have z:(kz a).length=a.length:=y6 a;have Q:=fun g=>ha.TA g;rw[z]at Q
 generalize h.next=A at*
 refine Sk (XC P Q) ?_;refine lIn (fun k fr l=>∃(i:Nat)(m:vV),k=a.length-i/\i<=a.length/\fr=mkF [(1,o),(3,pT (Z A)),(7,m),(11,r),(12,(a.length:Nat)),(13,(i:Nat))]/\Le w l/\GI l m (kz (zh F Fm (a.take i)))/\Z2 w m) ⟨0,_,rfl,aax _,rfl,Le.refl _,GI.nil _,fun b hb=>by simp[blk]at hb⟩ ?_;rintro k fr l C ⟨i,m,rfl,aa,rfl,D,g,ap⟩;refine Uy ?_;refine Kl.intro (fun R=>?_) (fun hf=>?_)
 .have c:i<a.length:=acb R;clear R;have ad:=ha.DH i NH;have ld:=(ha.le Nn.RP (l1.trans D)).Uc i NH;rw[sY c]at ld;have ae:a.take (i+1)=a.take i++[a[i]]:=XJ c;have E:=t a[i] (aev c);generalize a[i]=f at*;have⟨h2,h3,e2,e3,l3,w3,S⟩:=newI C (f:Int);have e:=D.trans l3;have j:=l1.trans e
  have G:aaC pG h3 3 ⟨l.next,0,Y⟩=Z (.int .i64 (f:Int)):=by rw[Fq Ac rfl S];rfl
  have key:=xN p o Fm (fun x=>!decide (x.toNat∈F.getD f [])) 163 ⟨func163,rfl,WY⟩ [pT (Z A),pT (Z ⟨l.next,0,Y⟩)] h3 (U.le Nn.RP j) V fun x H=>by
   obtain⟨v,rfl,hv⟩:=s x H
   have:=out_any p B n f l.next A v bv M N q O F h3 (hs.le j) (hi.le (Nn.RL Nn.sJ) j) E hv (e.own _ _ o1) S
   rw[yM];exact this
  simp only[HO,seval,ad,ld,e2,e3];refine kCi func164 key ?_;rintro y h4 w4 ⟨rfl,rfl⟩
  have d:zh F Fm (a.take (i+1))=zh F Fm (a.take i)++if(Fm.any fun x=>!decide (x.toNat∈F.getD f []))=fF then[f]else[]:=by grind[zh,fitsB]
  cases hb:(Fm.any fun x=>!decide (x.toNat∈F.getD f []))with
  |true=>rw[hb]at d;refine Sk (aaa i NH) ?_;refine lgA NH ⟨i+1,m,rfl,c,rfl,e,?_,ap⟩;grind[GI.le]
  |false=>
   rw[hb,Sb rfl]at d;have g3:=g.le l3;have I:(kz (zh F Fm (a.take i))).length<=100000:=by grind[y6,zh]
   obtain⟨J,h5,h6,e5,e6,T,w6,l5,K,-⟩:=g3.push w3 (f:Int) I;have⟨l6,a6⟩:=K w e ap;have e7:kz (zh F Fm (a.take i))++[(f:Int)]=kz (zh F Fm (a.take (i+1))):=by grind[kz]
   rw[e7]at T;refine Sk (xU G e5 e6 (aaa i NH)) ?_;exact lgA NH ⟨i+1,J,rfl,c,rfl,l6,T,a6⟩
 .have L:a.length<=i:=vp hf;rw[abe L]at g;refine Uy ?_;exact⟨g,l1.trans D,fun b hb=>l1.none (ap b hb)⟩
variable {a b:Int} {p:Pr} {pl:RZ} {α:Type}
theorem Qc{n:Nat}{way:II}(a:way.length<=1000):∀i,i<=way.length->∀(v:Nat) x,(KI n way i)[v]?=Z x->-1<=x/\x<=1000
 |0,_,v,x,h=>by grind[KI.eq_1]
 |i+1,hi,v,x,h=>by
  rw[KI,K4]at h;split at h
  .grind
  .exact Qc a i NH v x h
theorem Zz(ha:pl.getD p.1.toNat 0=a)(hb:pl.getD p.2.toNat 0=b)(h:a<0\/b<0\/(a-b≠1/\b-a≠1)):aI pl p=tT:=by grind[aI]
theorem left_f1(ha:pl.getD p.1.toNat 0=a)(hb:pl.getD p.2.toNat 0=b)(c:¬a<0)(h2:¬b<0)(h3:a-b=1\/b-a=1):aI pl p=fF:=by grind[aI]
def ID{x y:Int}(a:-1<=x/\x<=1000)(b:-1<=y/\y<=1000):aaY .i64 (x-y)=x-y:=ie _ NH NH
theorem fil_b{l:List α}(q:α->Bool)(h:l.length<=1000)(j:Nat):((l.take j).filter q).length+1<=100000:=hGr
theorem QJ(h:m<=1000):m<=40000:=NH
def Lb(h:j<m)(h2:m<=40000):j<4611686018427387904:=NH
theorem Bs(W0:LA)(B n:Nat)(bv ov fv iv lv ev P:vV)(zp:xLP)(way:II)(h:aai)(hs:Sr h B n bv ov fv iv lv)(Q:PR h ev zp)(hw:RL RP h P (kz way))(hR:aV n zp)(R:∀x∈way,x<n)(hn:n<=300)(z:zp.length<=1000)(hl:way.length<=1000):
  AC pG W0 136 [pT (Z B),ev,P] h fun x h'=>GP h' x (V8 n zp way)/\Le h h'/\Z2 h x:=by
 refine AC.vF func136 ntmps136 results136 fun S=>?_;have⟨h1,e1,l1,w1,o1⟩:=Tt S [.int .i64 (-1)];have s1:=hs.le l1;refine Sk (bG @DQ e1 @sf0 @Ip.eq_1 @EL s1.l0) ?_;refine kCi YW (rN W0 _ n NH h1 (RL.Wh (RS.whole o1 rfl))) ?_;rintro x h2 w2 ⟨T,rfl,hT,o2,l2⟩
 have nT:h.own T=Y:=l1.next w1 hT
 have A:=l1.trans l2;have oT:h2.own T=Z (.cells (Bp (KI n way 0))):=by rw[o2];simp[Bp,KI]
 have hlen:(kz way).length=way.length:=y6 way;have ll:=fun g=>hw.TA g;rw[hlen]at ll;have r:=fun(k:IntKind) j hj=>Kx T n k j hj;refine Sk ll ?_;refine lIn (fun k fr U=>∃i:Nat,k=way.length-i/\i<=way.length/\fr=mkF [(1,ev),(7,sL (Z T) n n),(21,P),(22,(way.length:Nat)),(23,(i:Nat))]/\U.own T=Z (.cells (Bp (KI n way i)))/\Le h U) ⟨0,rfl,aax _,rfl,oT,A⟩ ?_;clear oT o2 l2 w2 A;rintro k fr U V ⟨i,rfl,hi,rfl,oT,M⟩;refine Uy ?_;refine Kl.intro (fun C=>?_) (fun hf=>?_)
 .have e:i<way.length:=acb C;clear C;have ad:=hw.DH i NH;have ld:=(hw.le Nn.RP M).Uc i NH;rw[sY e]at ld;have hx:=R way[i] (aev e);have W:way.getD i 0=way[i]:=D4 e;have st:=stI oT (i:=way[i]) (by grind[Ou]) (i:Int);simp only[HO,seval,ad,ld,r _ _ hx,st,aaa i (Lb e (QJ hl))];refine lgA (JS e) ⟨i+1,rfl,e,rfl,?_,M.put _ nT⟩;rw[aai.Y3,KI,W]
 have D:way.length<=i:=vp hf;obtain rfl:i=way.length:=NH;have rD:=Qc (n:=n) hl way.length (qL0 _);have av:=Ou n way way.length;have X:=fun g=>Q.len g;unfold V8;generalize KI n way way.length=pl at*;refine Sk X ?_;refine lIn (fun k fr l=>∃(j:Nat)(m:vV),k=zp.length-j/\j<=zp.length/\fr=mkF [(7,sL (Z T) n n),(10,m),(33,ev),(34,(zp.length:Nat)),(35,(j:Nat))]/\l.own T=Z (.cells (Bp pl))/\Le h l/\GP l m ((zp.take j).filter (aI pl))/\Z2 h m/\blk m≠Z T) ⟨0,_,rfl,aax _,rfl,oT,M,GP.nil _,fun b hb=>by simp[blk]at hb,by simp[blk]⟩ ?_;clear oT M V;rintro k fr l F ⟨j,m,rfl,hj,rfl,oT,lz,g,ap,nb⟩;refine Uy ?_;refine Kl.intro (fun C=>?_) (fun hf=>?_)
 rotate_left
 .have D:zp.length<=j:=vp hf;rw[abe D]at g;refine Uy ?_;grind
 have c:j<zp.length:=acb C;clear C;have aa:=CA c;have ay:zp.take (j+1)=zp.take j++[zp[j]]:=XJ c;have⟨p1,p2,p3⟩:=hR zp[j] (aev c);have ad:=Q.addr (k:=.i64) j c;have ld:=(Q.le lz).load aa;generalize zp[j]=p at*;have⟨h3,h4,e3,e4,l4,w4,o4⟩:=Ut F p
 have az:l.own l.next=Y:=(Le.refl l).next F (qL0 _)
 have G:=lz.trans l4;have f:=l4.own _ _ oT;have g4:=g.le l4;have Lp:=uM o4;have L0:=lK o4;have L1:=HY o4
 generalize l.next=E at*
 obtain⟨a,ea⟩:∃a:Nat,p.1=(a:Int):=⟨p.1.toNat,NH⟩;obtain⟨b,eb⟩:∃b:Nat,p.2=(b:Int):=⟨p.2.toNat,NH⟩;have ae:a<n:=NH;have ai:b<n:=NH;rw[ea]at L0;rw[eb]at L1;have aj:a<pl.length:=hGr;have aq:b<pl.length:=hGr;have hA:=CA aj;have hB:=CA aq;have rA:=rD a _ hA;have rB:=rD b _ hB;have H:pl.getD p.1.toNat 0=pl[a]:=hGr;have gB:pl.getD p.2.toNat 0=pl[b]:=hGr;have lA:=XP f hA;have lB:=XP f hB;generalize pl[a]=x at*;generalize pl[b]=y at*;have s:=ID rA rB;have I:=ID rB rA;have aw:=aaa j (Lb c (QJ z));have ar:=fil_b (aI pl) z j
 have yes:aI pl p=tT->∃d u o,aas pG h4 22 1 [(0,UI p)]=Z (sL (Z h4.next) 1 1,u)/\aaR pG u 22 22 m (sL (Z h4.next) 1 1)=Z (d,o)/\o.own T=Z (.cells (Bp pl))/\Le h o/\GP o d ((zp.take (j+1)).filter (aI pl))/\Z2 h d/\blk d≠Z T:=fun q=>by have⟨d,u,o,v,w,g7,w7,l6,aC,aD⟩:=g4.push w4 p ar;grind
 have no:aI pl p=fF->(zp.take (j+1)).filter (aI pl)=(zp.take j).filter (aI pl):=fun q=>by grind
 simp only[HO,seval,ad,ld,e3,e4];refine gh (fRn 0 12 .done) ?_;simp only[HO,seval,Qg,Dh,Z0,Ip,EL,L0,L1,r _ a ae,r _ b ai,lA,lB];by_cases c1:x<0
 .obtain⟨d,u,o,v,w,r1,r2,J,K,L⟩:=yes (Zz H gB (.inl c1));simp only[HO,seval,c1,Lp,v,w,aw];exact lgA (JS c) ⟨j+1,d,rfl,c,rfl,r1,r2,J,K,L⟩
 by_cases c2:y<0
 .obtain⟨d,u,o,v,w,r1,r2,J,K,L⟩:=yes (Zz H gB (.inr (.inl c2)));simp only[HO,seval,c1,c2,Lp,v,w,aw];exact lgA (JS c) ⟨j+1,d,rfl,c,rfl,r1,r2,J,K,L⟩
 by_cases N:x-y=1
 .have t:=no (left_f1 H gB c1 c2 (.inl N));have d3:decide (x-y=1)=tT:=Z6 N;simp only[HO,seval,c1,c2,s,bne,d3,aw];exact lgA (JS c) ⟨j+1,m,rfl,c,rfl,f,G,by rw[t];exact g4,ap,nb⟩
 have d3:decide (x-y=1)=fF:=IE N;by_cases O:y-x=1
 .have t:=no (left_f1 H gB c1 c2 (.inr O));have d4:decide (y-x=1)=tT:=Z6 O;simp only[HO,seval,c1,c2,s,I,bne,d3,d4,aw];exact lgA (JS c) ⟨j+1,m,rfl,c,rfl,f,G,by rw[t];exact g4,ap,nb⟩
 have d4:decide (y-x=1)=fF:=IE O;have⟨d,u,o,v,w,r1,r2,J,K,L⟩:=yes (Zz H gB (.inr (.inr ⟨N,O⟩)));simp only[HO,seval,c1,c2,s,I,bne,d3,d4,Lp,v,w,aw];exact lgA (JS c) ⟨j+1,d,rfl,c,rfl,r1,r2,J,K,L⟩
def Hj(h:aai):abO pG h 28=Z (pT (Z h.next),h.alloc (.cells [.slice Y 0 0])):=rfl
structure LL (b0 h:aai) (S5 T6 M7 T n start:Nat) (mv:vV) (st:RZ×II):Prop where
 oS:h.own S5=Z (.cells [start])
 o6:h.own T6=Z (.cells [sL (Z T) n n])
 oT:h.own T=Z (.cells (Bp st.1))
 oM:h.own M7=Z (.cells [mv])
 gm:GI h mv (kz st.2)
 nS:b0.own S5=Y
 n6:b0.own T6=Y
 nT:b0.own T=Y
 nM:b0.own M7=Y
 am:Z2 b0 mv
 d1:T≠T6
 d2:T≠M7
 d3:T≠S5
 d4:M7≠S5
 d5:M7≠T6
 m1:blk mv≠Z S5
 m2:blk mv≠Z T6
 m3:blk mv≠Z T
 m4:blk mv≠Z M7
 le:Le b0 h
section
variable{b0 h:aai}{S5 T6 M7 T n start:Nat}{mv:vV}{st:RZ×II}
theorem LL.up{h':aai}(W:LL b0 h S5 T6 M7 T n start mv st)(e:Le h h'):LL b0 h' S5 T6 M7 T n start mv st:={W with oS:=e.own _ _ W.oS,o6:=e.own _ _ W.o6,oT:=e.own _ _ W.oT,oM:=e.own _ _ W.oM,gm:=W.gm.le e,le:=W.le.trans e}
def LL.lS(W:LL b0 h S5 T6 M7 T n start mv st):aaC pG h 3 ⟨S5,0,Y⟩=Z (.int .i64 (start:Int)):=by rw[Fq Ac rfl W.oS];rfl
def LL.l6(W:LL b0 h S5 T6 M7 T n start mv st):aaC pG h 28 ⟨T6,0,Y⟩=Z (sL (Z T) n n):=by rw[Fq Mb rfl W.o6];rfl
def LL.lM(W:LL b0 h S5 T6 M7 T n start mv st):aaC pG h 28 ⟨M7,0,Y⟩=Z mv:=by rw[Fq Mb rfl W.oM];rfl
end
theorem meet_yes{start:Nat}{st:RZ×II}{v by_:Nat}(h:v≠start)(h2:st.1.getD v 0<0):dt start st v by_=(st.1.set v (by_:Int),st.2++[v]):=by grind[dt]
theorem meet_no{start:Nat}{st:RZ×II}{v by_:Nat}(h:v=start\/¬st.1.getD v 0<0):dt start st v by_=st:=by grind[dt]
theorem K8(k:LA){b0 h:aai}{S5 T6 M7 T n start:Nat}{mv:vV}{st:RZ×II}(W:LL b0 h S5 T6 M7 T n start mv st)(w:st.1.length=n){v by_:Nat}(l:v<n)(y:st.2.length<=1000):
  AC pG k 165 [v,by_,pT (Z S5),pT (Z T6),pT (Z M7)] h fun _ h'=>∃d,LL b0 h' S5 T6 M7 T n start d (dt start st v by_):=by
 refine AC.vF qS35 ntmps165 results165 fun e=>?_;have m:=CA (show v<st.1.length by omega);have gd:st.1.getD v 0=st.1[v]'(by omega):=D4 NH
 have ix:=Kx T n .i64 v l;have ld:=XP W.oT m;generalize st.1[v]'(by omega)=x at*
 by_cases c1:v=start
 .have d1:decide ((v:Int)=(start:Int))=tT:=Z6 NH;refine Sk (Yb W.lS @bne.eq_1.{0} d1) ?_
  grind[meet_no]
 have d1:decide ((v:Int)=(start:Int))=fF:=IE NH;by_cases c2:x<0
 rotate_left
 .simp only[HO,seval,W.lS,bne,d1,W.l6,ix,ld,c2];grind[meet_no]
 have st1:=stI W.oT (i:=v) NH (by_:Int);have b:LL b0 (h.put T (.cells (Bp (st.1.set v (by_:Int))))) S5 T6 M7 T n start mv (st.1.set v (by_:Int),st.2):=
  {W with
   oS:=by grind[aai.By,LL.d3,LL.oS]
   o6:=by grind[aai.By,LL.d1,LL.o6]
   oT:=aai.Y3 _ _ _
   oM:=by grind[aai.By,LL.d2,LL.oM]
   gm:=GS.put W.gm _ W.m3
   le:=W.le.put _ W.nT}
 have w1:WF (h.put T (.cells (Bp (st.1.set v (by_:Int))))):=e.put _ (e.lt W.oT);rw[meet_yes c1 hGr];simp only[HO,seval,W.lS,bne,d1,W.l6,ix,ld,c2,st1];generalize h.put T (.cells (Bp (st.1.set v (by_:Int))))=z at*;have⟨d,h2,h3,o,e3,f,A,l2,hf,g⟩:=b.gm.push w1 (v:Int) (by grind[y6]);have⟨l3,p⟩:=hf b0 b.le b.am;have⟨q,m1⟩:=g _ _ b.oS b.m1;have⟨r,m2⟩:=g _ _ b.o6 b.m2;have⟨s,m3⟩:=g _ _ b.oT b.m3;have⟨j,m4⟩:=g _ _ b.oM b.m4;have stM:=QB (P:=pG) (t:=28) (x:=d) Mb Ji j (off:=0) Ma (by obtain⟨a,c,rfl,_⟩:=f.rl.sl;rfl) f.rl.sl.one;simp only[HO,seval,b.lM,o,e3,stM];have u:kz st.2++[(v:Int)]=kz (st.2++[v]):=by simp[kz]
 rw[u]at f;exact⟨d,{b with
   oS:=by grind[aai.By,LL.d4]
   o6:=by grind[aai.By,LL.d5]
   oT:=by grind[aai.By,LL.d2]
   oM:=aai.Y3 _ _ _
   gm:=GS.put f _ m4
   am:=p,m1:=m1,m2:=m2,m3:=m3,m4:=m4
   le:=l3.put _ W.nM}⟩
variable {n:Nat} {rows:AM}
def pf0(a:Addr):aca pG 168 (pT (Z a)) 0=Z (pT (Z (Ip a 0))):=rfl
def pf1(a:Addr):aca pG 168 (pT (Z a)) 1=Z (pT (Z (Ip a 1))):=rfl
def pf2(a:Addr):aca pG 168 (pT (Z a)) 2=Z (pT (Z (Ip a 2))):=rfl
theorem way_at{on:List Bool}{p:wW}{start i:Nat}(h2:¬p.Fm.length<2)(a:(p.Fm.headD 0).toNat=start)(hi:i<n+1)(b:∀j,j<i->XG rows on start (SL n start p.zp) j=fF)(hs:XG rows on start (SL n start p.zp) i=tT):
  J6 n rows on p=match(acz rows start (SL n start p.zp) i).2[i]? with
   |some v=>traceM (acz rows start (SL n start p.zp) i).1 start n v
   |none=>[]:=by grind[List.find?_range_eq_some,J6]
theorem headI0:∀{l:RZ}(h:0<l.length),l.headD 0=l[0]
 |_::_,_=>rfl
def sub_lt1(h:i<n):n+1-(i+1)<n+1-i:=NH
theorem TL(fr:RZ)(start:Nat):∀f,traceM fr start f start=[start]
 |0=>rfl
 |f+1=>by grind[traceM.eq_2]
abbrev TT1:Nat->Prop:=fun _=>True
abbrev TT2:Nat->Nat->Prop:=fun _ _=>True
def trc_k{k f:Nat}(h:k<f+1)(j:Nat)(a:j<k):j<f:=NH
theorem way_any(W0:LA)(B n:Nat)(bv ov fv iv lv ea fa ta:vV)(es:xLP)(on:List Bool)(p:wW)(h:aai)(hs:Sr h B n bv ov fv iv lv)(hb:RL (RL RP) h bv (Zh n es))(ho:RL sJ h ov on)(cZ:on.length=n)(Q:PR h ea p.zp)(R:RL RP h fa p.Fm)(b2:ta.oneCell'=tT)(hR:aV n es)(b3:aV n p.zp)(b4:∀x∈p.Fm,∃v:Nat,x=(v:Int)/\v<n)(hn:n<=300)(c0:es.length<=1000)(b5:p.zp.length<=1000)(c4:p.Fm.length<=1000):
  AC pG W0 132 [pT (Z B),.agg #[ea,fa,ta]] h fun x h'=>GI h' x (kz (J6 n (Zh n es) on p))/\Le h h'/\Z2 h x:=by
 refine AC.vF func132 ntmps132 results132 fun b6=>?_;have⟨S,e1,l1,w1,o1⟩:=Tt b6 [ea,fa,ta];have bx:=aBox3 (h:=h) (a:=ea) (b:=fa) (c:=ta) Q.sl.one R.one b2;rw[e1]at bx
 have P0:∀g,Le S g->aaC pG g 22 ⟨h.next,0,Y⟩=Z ea/\aaC pG g 28 ⟨h.next,1,Y⟩=Z fa:=fun g lg=>by have o:=lg.own _ _ o1;exact⟨by rw[Fq eY rfl o];rfl,by rw[Fq Mb rfl o];rfl⟩
 generalize h.next=P at*
 have lf:=fun g=>R.TA g;by_cases c2:p.Fm.length<2
 .have d2:decide ((p.Fm.length:Int)<2)=tT:=Z6 NH;refine Sk (rE bx @pf1 @Ip.eq_1 @EL ((P0 S (Le.refl _)).2) lf @d2) ?_;have e:J6 n (Zh n es) on p=[]:=by grind[J6]
  rw[e];exact⟨GI.nil _,l1,fun b hb=>by grind[blk]⟩
 have d2:decide ((p.Fm.length:Int)<2)=fF:=IE NH;have f0:0<p.Fm.length:=NH;have aT:=R.DH 0 f0;have aW:=(R.le Nn.RP l1).Uc 0 f0;have⟨start,b8,c5⟩:=b4 _ (aev f0);have aX:(p.Fm.headD 0).toNat=start:=by grind[headI0]
 rw[b8]at aW;have⟨h2,h3,e2,e3,l3,w3,o3⟩:=newI w1 (start:Int);simp only[af9]at aT;refine Sk (rk bx @pf1 @Ip.eq_1 @EL ((P0 S (Le.refl _)).2) lf @d2 aT aW e2 e3) ?_
 have a6:h.own S.next=Y:=l1.next w1 (qL0 _)
 generalize S.next=m at*
 have aj:=l1.trans l3;have⟨h4,e4,l4,w4,o4⟩:=Tt w3 [.int .i64 (-1)];have s4:=hs.le (aj.trans l4);refine Sk (bG @DQ e4 @sf0 @Ip.eq_1 @EL s4.l0) ?_;refine kCi YW (rN W0 _ n NH h4 (RL.Wh (RS.whole o4 rfl))) ?_;rintro x C w5 ⟨T,rfl,hT,o5,l5⟩;have U:=l4.trans l5;have a7:=aj.trans U
 have nT:h.own T=Y:=(aj.trans l4).next w4 hT
 have a8:C.own T=Z (.cells (Bp (rP n (-1)))):=by rw[o5];simp[Bp]
 have bb:=U.own _ _ o3;have⟨h6,e6,l6,w6,o6⟩:=Tt w5 [.slice Y 0 0]
 have n6:h.own C.next=Y:=a7.next w5 (qL0 _)
 have bg:T≠C.next:=fun e=>by have:=w5.lt a8;omega
 have b9:C.next≠m:=fun e=>by have:=w5.lt bb;omega
 have bh:=QB (P:=pG) (t:=28) (x:=sL (Z T) n n) Mb Ji o6 (off:=0) Ma rfl rfl;refine Sk (Yb @Hj e6 bh) ?_
 have aq:Le h (h6.put C.next (.cells (([.slice Y 0 0]:xLV).set 0 (sL (Z T) n n)))):=(a7.trans l6).put _ n6
 have w7:WF (h6.put C.next (.cells (([.slice Y 0 0]:xLV).set 0 (sL (Z T) n n)))):=w6.put _ (w6.lt o6)
 have ar:(h6.put C.next (.cells (([.slice Y 0 0]:xLV).set 0 (sL (Z T) n n)))).own T=Z (.cells (Bp (rP n (-1)))):=by grind[aai.By,Le.own]
 have av:(h6.put C.next (.cells (([.slice Y 0 0]:xLV).set 0 (sL (Z T) n n)))).own m=Z (.cells [start]):=by grind[aai.By,Le.own]
 have ay:(h6.put C.next (.cells (([.slice Y 0 0]:xLV).set 0 (sL (Z T) n n)))).own C.next=Z (.cells [sL (Z T) n n]):=aai.Y3 _ _ _
 have P7:Le S (h6.put C.next (.cells (([.slice Y 0 0]:xLV).set 0 (sL (Z T) n n)))):=((l3.trans U).trans l6).put _ ((l3.trans U).next w5 (qL0 _))
 have bk:T≠m:=fun e=>by have:=w4.lt (l4.own _ _ o3);omega
 generalize C.next=y at*
 generalize h6.put y (.cells (([.slice Y 0 0]:xLV).set 0 (sL (Z T) n n)))=h7 at*;have⟨h8,e8,l8,w8,o8⟩:=Tt w7 [.slice Y 0 0]
 have n8:h.own h7.next=Y:=aq.next w7 (qL0 _)
 have dM:∀{b o},h7.own b=Z o->h7.next≠b:=fun{b o} ob e=>by have:=w7.lt ob;omega
 have cc:=fun g=>Q.len g;refine Sk (rE @Hj e8 @pf0 @Ip.eq_1 @EL ((P0 h8 (P7.trans l8)).1) cc) ?_
 have W8:LL h h8 m y h7.next T n start (.slice Y 0 0) (rP n (-1),[]):=⟨l8.own _ _ av,l8.own _ _ ay,l8.own _ _ ar,o8,GI.nil _,a6,n6,nT,n8,fun b hb=>by grind[blk],bg,fun e=>dM ar e.symm,bk,dM av,dM ay,by simp[blk],by simp[blk],by simp[blk],by simp[blk],aq.trans l8⟩
 generalize h7.next=M at*
 clear dM n8 o8 P7 ay av ar w7 aq bh b9 bg n6 o6 w6 l6 e6 bb a8 o5 e4 e8;clear bk nT a6 P0 hT;have bm:BF n start TT1 TT2 ((p.zp.take 0).foldl (abY start) (rP n (-1),[])):=BF.zero;refine lIn (fun k fr hq=>∃(i:Nat)(r:vV),k=p.zp.length-i/\i<=p.zp.length/\fr=mkF [(0,pT (Z B)),(5,pT (Z m)),(6,pT (Z y)),(7,pT (Z M)),(8,.func (.func 165) #[] #[pT (Z m),pT (Z y),pT (Z M)]),(32,ea),(33,(p.zp.length:Nat)),(34,(i:Nat))]/\
   LL h hq m y M T n start r ((p.zp.take i).foldl (abY start) (rP n (-1),[]))/\BF n start TT1 TT2 ((p.zp.take i).foldl (abY start) (rP n (-1),[]))) ⟨0,_,rfl,aax _,rfl,W8,bm⟩ ?_
 clear bm W8 w8 l8;rintro k fr hq bo ⟨i,r,rfl,hi,rfl,W,F⟩;refine Uy ?_;refine Kl.intro (fun ht=>?_) (fun hf=>?_)
 .have d:i<p.zp.length:=acb ht;clear ht;have cd:=CA d;have cf:p.zp.take (i+1)=p.zp.take i++[p.zp[i]]:=XJ d;have cg:=aev d;have⟨p1,p2,p3⟩:=b3 p.zp[i] cg;have ad:=Q.addr (k:=.i64) i d;have ld:=(Q.le W.le).load cd;have N:(p.zp.take (i+1)).foldl (abY start) (rP n (-1),[])=abY start ((p.zp.take i).foldl (abY start) (rP n (-1),[])) p.zp[i]:=hGr;have F1:=(F.Vk [p.zp[i]] fun e he=>by grind[jB]).1;rw[show[p.zp[i]].foldl (abY start) ((p.zp.take i).foldl (abY start) (rP n (-1),[]))=abY start ((p.zp.take i).foldl (abY start) (rP n (-1),[])) p.zp[i]from rfl]at F1;rw[N.symm]at F1;have hm:=F.jI;have hlen:=F.len;generalize p.zp[i]=e at*;have⟨g3,g4,q3,q4,m4,v4,u4⟩:=Ut bo e;have W4:=W.up m4;have V:=lK u4;have X:=HY u4
  generalize hq.next=E at*
  have aw:=aaa i (Lb d (QJ b5));obtain⟨a,ha⟩:∃a:Nat,e.1=(a:Int):=⟨e.1.toNat,NH⟩;obtain⟨b,sZ⟩:∃b:Nat,e.2=(b:Int):=⟨e.2.toNat,NH⟩;have ck:a<n:=NH;have cm:b<n:=NH;rw[ha]at V;rw[sZ]at X;have aa:((p.zp.take i).foldl (abY start) (rP n (-1),[])).2.length<=1000:=NH;by_cases c1:a=start
  .have d1:decide ((a:Int)=(start:Int))=tT:=Z6 NH;have eB:abY start ((p.zp.take i).foldl (abY start) (rP n (-1),[])) e=dt start ((p.zp.take i).foldl (abY start) (rP n (-1),[])) b start:=by grind[abY]
   rw[eB]at N;simp only[HO,seval,ad,ld,q3,q4,Dh,Z0,Ip,EL,V,X,W4.lS,ag6,d1];refine kCi qS35 (K8 W0 W4 hlen (v:=b) (by_:=start) cm aa) ?_;rintro x g5 v5 ⟨D,O⟩;simp only[HO,seval,aw];exact lgA (JS d) ⟨i+1,D,rfl,d,rfl,by rw[N];exact O,F1⟩
  have d1:decide ((a:Int)=(start:Int))=fF:=IE NH;by_cases c3:b=start
  .have d3:decide ((b:Int)=(start:Int))=tT:=Z6 NH;have eB:abY start ((p.zp.take i).foldl (abY start) (rP n (-1),[])) e=dt start ((p.zp.take i).foldl (abY start) (rP n (-1),[])) a start:=by grind[abY]
   rw[eB]at N;simp only[HO,seval,ad,ld,q3,q4,Dh,Z0,Ip,EL,V,X,W4.lS,ag6,d1,d3];refine kCi qS35 (K8 W0 W4 hlen (v:=a) (by_:=start) ck aa) ?_;rintro x g5 v5 ⟨D,O⟩;simp only[HO,seval,aw];exact lgA (JS d) ⟨i+1,D,rfl,d,rfl,by rw[N];exact O,F1⟩
  .have d3:decide ((b:Int)=(start:Int))=fF:=IE NH;have eB:abY start ((p.zp.take i).foldl (abY start) (rP n (-1),[])) e=(p.zp.take i).foldl (abY start) (rP n (-1),[]):=by grind[abY]
   rw[eB]at N;simp only[HO,seval,ad,ld,q3,q4,Dh,Z0,Ip,EL,V,X,W4.lS,ag6,d1,d3,aw];exact lgA (JS d) ⟨i+1,r,rfl,d,rfl,by rw[N];exact W4,F1⟩
 have z:p.zp.length<=i:=vp hf;rw[abe z]at W F;have ae:p.zp.foldl (abY start) (rP n (-1),[])=SL n start p.zp:=rfl;rw[ae]at W F;refine Uy ?_;have br:SL n start p.zp=acz (Zh n es) start (SL n start p.zp) 0:=rfl;rw[br]at W F;refine lIn (fun k fr hz=>∃(i:Nat)(r:vV),k=n+1-i/\fr=mkF [(0,pT (Z B)),(5,pT (Z m)),(6,pT (Z y)),(7,pT (Z M)),(8,.func (.func 165) #[] #[pT (Z m),pT (Z y),pT (Z M)]),(11,(i:Nat))]/\
   LL h hz m y M T n start r (acz (Zh n es) start (SL n start p.zp) i)/\BF n start TT1 TT2 (acz (Zh n es) start (SL n start p.zp) i)/\i<=(acz (Zh n es) start (SL n start p.zp) i).2.length/\∀j,j<i->XG (Zh n es) on start (SL n start p.zp) j=fF) ⟨0,r,rfl,rfl,W,F,aax _,fun j hj=>absurd hj (aeA _)⟩ ?_
 clear bo W F z hf hi br ae i r;rintro k fr hz cp ⟨i,r,rfl,rfl,W,F,cq,cx⟩;have aa:=F.jI;have hlen:=F.len;have lm:=fun g=>W.gm.rl.TA g;rw[y6]at lm;have az:=way_at (p:=p) (i:=i) (n:=n) (rows:=Zh n es) (on:=on) c2 aX NH cx;simp only[HO,seval,W.lM,lm];refine Kl.intro (fun ht=>?_) (fun hf=>?_)
 rotate_left
 .have z:(acz (Zh n es) start (SL n start p.zp) i).2.length<=i:=vp hf;have aC:(acz (Zh n es) start (SL n start p.zp) i).2[i]?=Y:=Qn z;have e:=az (by grind[XG]);simp only[aC]at e;rw[e];refine Uy ?_;exact⟨GI.nil _,W.le,fun b hb=>by grind[blk]⟩
 have d:i<(acz (Zh n es) start (SL n start p.zp) i).2.length:=acb ht;clear ht;have l:=CA d;have aD:=W.gm.rl.DH i (by rw[y6];exact d);have G:=W.gm.rl.Uc i (by rw[y6];exact d);rw[sY d]at G;have bB:=aev d;have cz:=(F.lt _ bB).1;generalize (acz (Zh n es) start (SL n start p.zp) i).2[i]=v at l G bB cz;have sz:=hs.le W.le;have H:v<on.length:=hGr;have aF:=ho.LB (k:=.i64) v H;have A:=(ho.le Nn.sJ W.le).W7 v H;have cC:Wg on v=on[v]:=D4 H;rw[<-cC]at A;have bF:i<n:=NH;cases aH:Wg on v with
 |true=>
  rw[aH]at A;have e:=az (by grind[XG]);simp only[l]at e;rw[e];refine Sk (aNd9 W.lM aD G @sf2 @Ip.eq_1 @EL sz.l2 aF A) ?_;have par:=F.par;clear e aH;generalize acz (Zh n es) start (SL n start p.zp) i=st at*;refine lIn (fun k fr hy=>∃(cur:Nat)(xv:vV)(L:II),fr=mkF [(5,pT (Z m)),(6,pT (Z y)),(12,(cur:Nat)),(13,xv)]/\LL h hy m y M T n start r st/\GI hy xv (kz L)/\Z2 hz xv/\Le hz hy/\
    traceM st.1 start k cur++L.reverse=traceM st.1 start n v/\(cur=start\/∃q,q<k/\st.2[q]?=Z cur)/\L.length+k=n) ⟨v,_,[],rfl,W,GI.nil _,fun b hb=>by grind[blk],Le.refl _,Ma,.inr ⟨i,bF,l⟩,Ma⟩ ?_
  rintro k fr hy aJ ⟨cur,xv,L,rfl,Wy,gx,ax,bH,aK,bI,c6⟩;by_cases cs:cur=start
  .subst cs;have ds:decide ((cur:Int)=(cur:Int))=tT:=Z6 rfl;obtain⟨aL,g4,g5,q4,q5,I,v5,m4,aN,-⟩:=gx.push aJ (cur:Int) (by grind[y6]);have⟨m5,a5⟩:=aN hz bH ax;have e6:kz L++[(cur:Int)]=kz (L++[cur]):=by simp[kz]
   rw[e6]at I;simp only[HO,seval,Wy.lS,bne,ds,q4,q5];refine kCi qS28 (Wk W0 aL _ g5 I (by rw[y6,aaf,Bn];omega)) ?_;rintro x g6 v6 ⟨bN,cE,-⟩;refine Uy ?_;have e7:(kz (L++[cur])).reverse=kz (traceM st.1 cur n v):=by rw[<-aK,TL];simp[kz]
   rw[e7]at bN;have l6:=cE hz m5 a5;exact⟨bN,W.le.trans l6,fun b hb=>W.le.none (a5 b hb)⟩
  .have ds:decide ((cur:Int)=(start:Int))=fF:=IE NH;have⟨q,cJ,bQ⟩:=bI.resolve_left cs;obtain⟨f,rfl⟩:∃f,k=f+1:=⟨k-1,NH⟩;have cK:=(F.lt cur (BS bQ)).1;have⟨aL,g4,g5,q4,q5,I,v5,m4,aN,c9⟩:=gx.push aJ (cur:Int) (by grind[y6]);have⟨m5,a5⟩:=aN hz bH ax;have O:=W.up m5;have e6:kz L++[(cur:Int)]=kz (L++[cur]):=by simp[kz]
   rw[e6]at I;have hL:=CA (show cur<st.1.length by grind);have ld:=XP O.oT hL;have gd:st.1.getD cur 0=st.1[cur]'(by grind):=D4 _
   rw[traceM,WA cs]at aK;have cM:∃J:Nat,st.1.getD cur 0=(J:Int)/\(J=start\/∃q,q<f/\st.2[q]?=Z J):=by
    rcases par q cur bQ with⟨S,_⟩|⟨j,u,S,h2,h3,_⟩
    .grind
    .exact⟨u,h3,.inr ⟨j,trc_k cJ j S,h2⟩⟩
   have⟨J,ai,bW⟩:=cM;rw[<-gd,ai]at ld;rw[ai,yM]at aK;simp only[HO,seval,Wy.lS,bne,ds,q4,q5,O.l6,Kx T n .i64 cur cK,ld];refine lgA (agh _) ⟨J,aL,L++[cur],rfl,O,I,a5,m5,?_,bW,?_⟩
   .grind
   grind
 |false=>
  rw[aH]at A;have cN:XG (Zh n es) on start (SL n start p.zp) i=fF:=by grind[XG]
  have bY:acz (Zh n es) start (SL n start p.zp) (i+1)=abU start (acz (Zh n es) start (SL n start p.zp) i) v ((Zh n es).getD v []):=by rw[acz,l]
  have aP:v<(Zh n es).length:=by grind[Xq]
  have bZ:=hb.Wm v aP;have⟨uv,cP,s⟩:=hb.NS v aP;have b0:(Zh n es).getD v []=(Zh n es)[v]:=D4 aP;generalize (Zh n es)[v]=row at s b0;have lr:=fun g=>s.TA g;have da:row.length<=3000:=by have:=bV n es row hGr;omega
  rw[b0]at bY;simp only[HO,seval,W.lM,aD,G,sf1,sf2,Ip,EL,sz.l1,sz.l2,aF,A,bZ,cP hz W.le,lr];clear az lm aD G sz aF A bZ;generalize acz (Zh n es) start (SL n start p.zp) i=st at*;refine lIn (fun k fr hy=>∃(q:Nat)(r:vV),k=row.length-q/\q<=row.length/\fr=mkF [(0,pT (Z B)),(5,pT (Z m)),(6,pT (Z y)),(7,pT (Z M)),(8,.func (.func 165) #[] #[pT (Z m),pT (Z y),pT (Z M)]),(11,(i:Nat)),(12,(v:Nat)),(98,uv),(99,(row.length:Nat)),(100,(q:Nat))]/\
    LL h hy m y M T n start r (abU start st v (row.take q))/\BF n start TT1 TT2 (abU start st v (row.take q))/\i<(abU start st v (row.take q)).2.length/\(abU start st v (row.take q)).2[i]?=Z v) ⟨0,r,rfl,aax _,rfl,W,F,d,l⟩ ?_
  clear cp W F d l aa hlen cq;clear r;rintro k fr hy aJ ⟨q,r,rfl,hq,rfl,W,F,d,l⟩;refine Uy ?_;refine Kl.intro (fun ht=>?_) (fun hf=>?_)
  .have K:q<row.length:=acb ht;clear ht;have cR:=s.DH q K;have cU:=(s.le Nn.RP W.le).Uc q K;have cf:row.take (q+1)=row.take q++[row[q]]:=XJ K;have cW:row[q]∈(Zh n es).getD v []:=hGr;generalize row[q]=x at*;obtain⟨w,rfl,b1⟩:=Ru hR cW;have N:abU start st v (row.take (q+1))=dt start (abU start st v (row.take q)) w v:=by grind[abU]
   have hm:=F.jI;have hlen:=F.len;obtain⟨F1,⟨t,et⟩,-⟩:=F.meet (v:=w) (by_:=v) b1 (.inr ⟨i,l,trivial⟩);rw[<-N]at F1 et;have aw:=aaa q NH;refine Sk (XC cR cU) ?_;refine kCi qS35 (K8 W0 W hlen (v:=w) (by_:=v) b1 NH) ?_;rintro x g5 v5 ⟨D,O⟩;rw[<-N]at O;simp only[HO,seval,aw];exact lgA (JS K) ⟨q+1,D,rfl,K,rfl,O,F1,hGr,Z5 et l⟩
  .have z:row.length<=q:=vp hf;rw[abe z,<-bY]at W F d;have aw:=aaa i NH;simp only[HO,seval,aw];refine lgA (sub_lt1 bF) ⟨i+1,r,rfl,rfl,W,F,d,fun j hj=>?_⟩;grind
end
end Go.Fw
