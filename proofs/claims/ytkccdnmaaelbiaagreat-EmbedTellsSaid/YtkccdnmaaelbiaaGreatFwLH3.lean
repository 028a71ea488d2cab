/- A text. -/
import Derived.Test.YtkccdnmaaelbiaaGreatFwLM1
set_option linter.all false
set_option maxRecDepth 99999
set_option maxHeartbeats 9999999
open Go.Proofs
namespace Go.Fw
section
attribute [local instance] Classical.propDecidable
attribute [local irreducible] Kp MQ lU rS KO KN KX KE VK Kl ZJ TC aab
theorem aiX{α:Type}:∀{A B:List α},A.Nodup->(∀a∈A,a∈B)->B.length<=A.length->A.Perm B
 |[],B,_,_,h=>by grind
 |a::A,B,nd,hs,h=>by
  classical
  have hb:=hs a LH;have b:=jz.1 nd;have p:B.Perm (a::B.erase a):=List.perm_cons_erase hb;have c:=p.length_eq;simp only[cJ]at c h;exact(List.Perm.cons a (aiX b.2 (fun x d=>(qL214 pw).2 (hs x (Eh _ d))) NH)).trans p.symm
section
variable{n:Nat}{es:List Pr}{rs:AM}
noncomputable def aiG(es:List Pr)(v j:Nat):Nat:=((List.range j).filter fun w=>decide (Jp es v w)).length
theorem alR(es:List Pr)(v j:Nat):aiG es v (j+1)=aiG es v j+if Jp es v j then 1 else 0:=by grind[aiG.eq_1,List.range_succ]
def adjC_le(es:List Pr)(v j:Nat):aiG es v j<=j:=by have:=ajF (fun w=>decide (Jp es v w)) (List.range j);rwa[GK]at this
theorem adjC_all(a:InR n es)(ha:D3 es)(v:Nat):aiG es v n=((Zh n es).getD v []).length:=by
 have nd:((Zh n es).getD v []).Nodup:=Gw.2 ((KW es a ha v).imp fun h=>by omega);have p:(((List.range n).filter fun w=>decide (Jp es v w)).map fun(w:Nat)=>(w:Int)).Perm ((Zh n es).getD v []):=by
  refine yR ?_ nd fun x=>?_
  .exact(Gw).2 (pz.2 ((Gw.1 (QD.sublist fR)).imp fun h=>by omega))
  grind[EW,Ru]
 rw[<-p.length_eq,vY,aiG]
theorem ahq{xs:RZ}(nd:xs.Nodup){y:Int}(h:y∈xs):∃i,aiP xs y i:=by obtain⟨i,hi⟩:=qy.1 h;refine⟨i,hi,fun j a=>?_⟩;grind[List.pairwise_iff_getElem]
def RowOK(n:Nat)(es:List Pr)(rs:AM)(v:Nat):Prop:=(rs.getD v []).Perm ((Zh n es).getD v [])
theorem alS(a:InR n es)(ha:D3 es)(rs:AM)(v:Nat):RowOK n es rs v↔(∀w,w<n->Jp es v w->∃i,aiP (rs.getD v []) (w:Int) i)/\aiG es v n=(rs.getD v []).length:=by
 have nd:((Zh n es).getD v []).Nodup:=Gw.2 ((KW es a ha v).imp fun h=>by omega);rw[adjC_all a ha v,RowOK];constructor
 .grind[ahq,EW,List.Perm.length_eq]
 .rintro⟨c,h2⟩;refine(aiX nd (fun x b=>?_) NH).symm;obtain⟨w,rfl,hw⟩:=Ru a b;obtain⟨i,hi⟩:=c w hw ((EW a v w).1 b);exact BS hi.1
end
theorem ajl(P:LA)(v p:Value)(G:GM)(rs:AM)(h:aae)(hg:GR h v G)(s:RL (RL RP) h p rs)(hn:∀l∈rs,l.length<=100000):
  AC Tryz.prog P 59 [v,p] h fun x h'=>afK (bX G/\Av G.n.toNat G.es rs) x/\Le h h':=by
 have E:=hg;obtain⟨gn,es⟩:=G
 obtain⟨ev,rfl,hp⟩:=hg.open
 refine AC.vE ⟨Tryz.func59,rfl,WY⟩ Tryz.ntmps59 Tryz.results59 fun U=>?_;simp only[Br,seval];obtain⟨h1,b1,m,aq,-,Q⟩:=r8 (n:=gn) U hp
 generalize h.next=B at*
 have V:=Q h1 (Le.refl _);refine Sk (XC b1 V.1) ?_;refine kCi Xv (agX P _ _ h1 (E.le m)) ?_;rintro x h2 w2 ⟨⟨b,rfl,F⟩,l2⟩;have H:=Q h2 l2;cases b with
 |false=>refine Uy ?_;grind[afK.f,Le.trans]
 |true=>
 have D:=F.1 rfl;clear F;have h0:0<=gn:=D.n0;obtain⟨n,rfl⟩:=Z6 h0;have al:(n:Int)<=200:=D.n1;have hR:=D.GD;have hA:=D.q9;have lr:=fun g=>s.qP6 g;by_cases c:rs.length=n
 rotate_left
 .have d:bne (rs.length:Int) (n:Int)=true:=bne_iff_ne.2 NH;simp only[HO,seval,lr,Ii,Ip,Gc,H.2.1,d];grind[afK.f,Av.len,Le.trans]
 have d:bne (rs.length:Int) (n:Int)=false:=by rw[c];simp
 simp only[HO,seval,lr,Ii,Ip,Gc,H.2.1,d];refine aab.intro (fun k fr R=>∃i,k=n-i/\i<=n/\fr=mkF [(1,p),(2,.pointer (some ⟨B,0,none⟩)),(5,.int .i64 i)]/\Le h2 R/\∀v,v<i->RowOK n es rs v)
  n [(1,p),(2,.pointer (some ⟨B,0,none⟩)),(5,.int .i64 (0:Nat))] hAs ⟨0,rfl,WA _,rfl,Le.refl _,fun v s=>absurd s (Ki v)⟩ ?_
 rintro k fr R av ⟨i,rfl,hi,rfl,S,I⟩;have W:=Q R (l2.trans S);refine Sk (xU @Ii @Ip.eq_1 @Gc W.2.1) ?_;refine Kl.intro (fun J=>?_) (fun hf=>?_)
 rotate_left
 .have X:n<=i:=vp hf;refine Uy ?_;refine⟨afK.t ⟨D,by rw[af8];exact⟨c,fun v s=>I v NH⟩⟩,(m.trans l2).trans S⟩
 have y:i<n:=CC J;clear J;have z:i<rs.length:=NH;have ar:=s.qP7 i z;obtain⟨u,K,hu⟩:=s.Wm i z;have aa:=hn _ (j9 z);have ae:rs.getD i []=rs[i]:=D4 z;have C:=alS hR hA rs i;rw[ae]at C;generalize rs[i]=r at*;have ll:=fun g=>hu.DH g;refine Uy ?_;refine aab.intro (fun k fr M=>∃j,k=n-j/\j<=n/\fr=mkF [(1,p),(2,.pointer (some ⟨B,0,none⟩)),(5,.int .i64 i),(6,.int .i64 (aiG es i j)),(7,.int .i64 j)]/\Le R M/\∀w,w<j->Jp es i w->∃q,aiP r (w:Int) q)
  n [(1,p),(2,.pointer (some ⟨B,0,none⟩)),(5,.int .i64 i),(6,.int .i64 (0:Nat)),(7,.int .i64 (0:Nat))] hAs ⟨0,rfl,WA _,rfl,Le.refl _,fun v s=>absurd s (Ki v)⟩ ?_
 rintro k fr M ay ⟨j,rfl,hj,rfl,T,az⟩;have L:=(l2.trans S).trans T;have N:=Q M L;refine Sk (xU @Ii @Ip.eq_1 @Gc N.2.1) ?_;refine Kl.intro (fun J=>?_) (fun hf=>?_)
 .have o:j<n:=CC J;clear J;refine Sk N.1 ?_;refine kCi Tryz.func108 (akr P _ n i j es M (E.le (m.trans L)) D) ?_;rintro x h3 w3 ⟨rfl,l3⟩;have O:=Tw j NH;have A:=alR es i j;have hle:=adjC_le es i j;by_cases a:Jp es i j
  .have dA:decide (Jp es i j)=true:=XJ a;have ag:=Tw (aiG es i j) NH;rw[AE a]at A;have lu:=K h3 (((m.trans L).trans l3));simp only[HO,seval,dA,ag,ar,lu];refine kCi SV (ahT P u r (j:Int) h3 (hu.le Nn.RP ((m.trans L).trans l3)) aa) ?_;rintro x h4 w4 ⟨⟨k,hk,aB,rfl⟩|⟨rfl,aC⟩,rfl⟩
   .have d2:decide ((k:Int)<0)=false:=Sb NH;refine Sk (XC @d2 O) ?_;refine tn (n-(j+1)) [(1,p),(2,.pointer (some ⟨B,0,none⟩)),(5,.int .i64 i),(6,.int .i64 (aiG es i j+1:Nat)),(7,.int .i64 (j+1:Nat))] (stq o) hAs ⟨j+1,rfl,o,by rw[A]<;>rfl,T.trans l3,fun w hw aw=>?_⟩;grind
   .have d2:decide ((-1:Int)<0)=true:=by decide
    refine Sk @d2 ?_;refine⟨afK.f fun q=>?_,(m.trans L).trans l3⟩;rw[af8]at q;obtain⟨k,hk⟩:=(C.1 (q.2.perm i y)).1 j o a;grind
  .have dA:decide (Jp es i j)=false:=Sb a;rw[aal a]at A;refine Sk (XC dA O) ?_;refine tn (n-(j+1)) [(1,p),(2,.pointer (some ⟨B,0,none⟩)),(5,.int .i64 i),(6,.int .i64 (aiG es i j)),(7,.int .i64 (j+1:Nat))] (stq o) hAs ⟨j+1,rfl,o,by rw[A]<;>rfl,T.trans l3,fun w hw aw=>?_⟩;grind
 .have X:n<=j:=vp hf;obtain rfl:j=n:=NH;have lu:=K M (m.trans L);have aj:=Tw i NH;by_cases e:aiG es i j=r.length
  .have d2:bne ((aiG es i j:Nat):Int) (r.length:Int)=false:=by rw[e];simp
   simp only[HO,seval,ar,lu,ll,d2,aj];refine tn (j-(i+1)) [(1,p),(2,.pointer (some ⟨B,0,none⟩)),(5,.int .i64 (i+1:Nat))] (stq y) hAs ⟨i+1,rfl,y,rfl,S.trans T,fun v s=>?_⟩;grind
  .have d2:bne ((aiG es i j:Nat):Int) (r.length:Int)=true:=bne_iff_ne.2 NH;simp only[HO,seval,ar,lu,ll,d2];refine⟨afK.f fun q=>?_,(m.trans L)⟩;rw[af8]at q;exact e (C.1 (q.2.perm i y)).2
end
section
attribute [local irreducible] Jz JL vq cQ
variable {es:List Pr} {n:Nat}
def lkU(i:Nat)(b:List Pr)(cs:II)(k:Nat):List Pr:=((List.range k).filter fun j=>atB ((cs.getD j 0:Nat):Int) b).map fun(j:Nat)=>((i:Int),(j:Int))
def Rb(bs:List (List Pr))(cs:II)(i:Nat):List Pr:=(List.range i).flatMap fun k=>lkU k (bs.getD k []) cs cs.length
theorem lkU_succ(i:Nat)(b:List Pr)(cs:II)(k:Nat):lkU i b cs (k+1)=lkU i b cs k++if atB ((cs.getD k 0:Nat):Int) b then[((i:Int),(k:Int))]else[]:=by grind[lkU.eq_1,List.range_succ]
theorem DK(bs:List (List Pr))(cs:II)(i:Nat):Rb bs cs (i+1)=Rb bs cs i++lkU i (bs.getD i []) cs cs.length:=by grind[Rb.eq_1,List.range_succ]
def mR(n:Nat)(es:List Pr):TM:=⟨vq n es,aaa (JL n es),Rb (vq n es) (JL n es) (vq n es).length⟩
def JoinG(n:Nat)(es:List Pr):Prop:=es≠[]/\(Es n es).length=1
theorem u5(b:bX ⟨(n:Int),es⟩)(a:es≠[]):0<(vq n es).length:=by obtain⟨p,l,rfl⟩:=xD a;grind[Zg,List.mem_cons_self]
end
def mk57(h:aae)(n:Nat)(a:n<=1000):afD Tryz.prog h 27 (.int .i64 (n:Int)) (.int .i64 (n:Int))=some (.slice (some ⟨h.next,0,none⟩) n n,h.alloc (.cells (List.replicate n (.slice none 0 0)))):=Ye (P:=Tryz.prog) (t:=27) (z:=.slice none 0 0) h pE Ji rfl rfl rfl Ji Mb Ji n NH
def mk100(h:aae)(n:Nat)(a:n<=1000):afD Tryz.prog h 59 (.int .i64 (n:Int)) (.int .i64 (n:Int))=some (.slice (some ⟨h.next,0,none⟩) n n,h.alloc (.cells (List.replicate n (.bool false)))):=Ye (P:=Tryz.prog) (t:=59) (z:=.bool false) h Uh rfl rfl rfl rfl Ji AV Ji n NH
def mk35(h:aae)(n:Nat)(a:n<=1000):afD Tryz.prog h 49 (.int .i64 (n:Int)) (.int .i64 (n:Int))=some (.slice (some ⟨h.next,0,none⟩) n n,h.alloc (.cells (List.replicate n (.int .i64 0)))):=Ye (P:=Tryz.prog) (t:=49) (z:=.int .i64 0) h Mb rfl rfl rfl rfl Ji Ac Ji n NH
def rB(ls:List Pr)(v:Nat):RZ:=(ls.filter fun p=>decide (p.1=(v:Int))).map (·.2)
def rC(ls:List Pr)(v:Nat):RZ:=(ls.filter fun p=>decide (p.2=(v:Int))).map (·.1)
def nbU(b:Nat)(ls:List Pr)(v:Nat):II:=if v<b then(rB ls v).map fun x=>b+x.toNat else(rC ls (v-b)).map fun x=>x.toNat
section
variable{b n:Nat}{ls:List Pr}
end
section
attribute [local irreducible] Kp MQ lU rS KO KN KX KE VK Kl ZJ TC aab
theorem akY(b:LA)(v:Value)(xs:RZ)(h:aae)(c:RL RP h v xs):AC Tryz.prog b 67 [v] h fun x h'=>∃B,x=.func (.func 117) #[] #[.pointer (some ⟨B,0,none⟩)]/\h.next<=B/\h'.own B=some (.cells [v])/\Le h h':=by
 refine AC.vE ⟨Tryz.func67,rfl,WY⟩ Tryz.ntmps67 Tryz.results67 fun a=>?_;simp only[Br,seval];obtain⟨d,e,l1,w1,g⟩:=Tt a [v]
 have f:zF h v=some (.pointer (some ⟨h.next,0,none⟩),d):=by rw[<-e];obtain⟨_,_,rfl,_⟩:=c.sl;rfl
 refine Sk f ?_;grind
def akA(m:LA)(e B:Nat)(v:Value)(xs:RZ)(I:Nat->aae->Prop)(h:aae)(u:xs.length<1000000)(c:∀i g,I i g->g.own B=some (.cells [v])/\RL RP g v xs)(f:I 0 h)(n:∀i g (hi:i<xs.length),WF g->h.next<=g.next->I i g->AY Tryz.prog m e [.int .i64 xs[i]] g fun x j=>x=.bool true/\h.next<=j.next/\I (i+1) j):
  AC Tryz.prog m 117 [Yg e,.pointer (some ⟨B,0,none⟩)] h fun _ h'=>I xs.length h':=by
 have ld:∀i g,I i g->acd Tryz.prog g 49 ⟨B,0,none⟩=some v:=fun i g hi=>by rw[Fq Mb rfl (c i g hi).1];rfl
 refine AC.vE ⟨Tryz.func117,rfl,WY⟩ Tryz.ntmps117 Tryz.results117 fun o=>?_;simp only[Br,seval];have p:=fun g=>(c _ _ f).2.DH g;simp only[HO,seval,ld _ _ f,p]
 refine lIn (fun k fr g=>∃i:Nat,k=xs.length-i/\i<=xs.length/\fr=mkF [(0,Yg e),(5,v),(6,.int .i64 xs.length),(7,.int .i64 i)]/\h.next<=g.next/\I i g) ⟨0,rfl,WA _,rfl,qL0 _,f⟩ ?_
 rintro k fr g q ⟨i,rfl,hi,rfl,hle,a⟩;refine Uy ?_;refine Kl.intro (fun r=>?_) (fun hf=>?_)
 .have d:i<xs.length:=CC r;have ad:=(c _ _ a).2.addr (k:=.i64) Mb Ac rfl i d;have le:=(c _ _ a).2.Uc i d;simp only[HO,seval,ad,le];refine TC.yield (by simp only[HO,seval,yieldOf]<;>rfl) (n i g d q hle a) ?_;rintro x j s ⟨rfl,b,l⟩;refine Sk (Tw i NH) ?_;exact lgA NH ⟨i+1,rfl,d,rfl,b,l⟩
 .have t:xs.length<=i:=vp hf;obtain rfl:i=xs.length:=NH;refine Uy ?_;exact a
theorem akZ(H:LA)(B:Nat)(v:Value)(xs:RZ)(h:aae)(hB:h.own B=some (.cells [v]))(I:RL RP h v xs)(X:xs.length<=1000):
  AC Tryz.prog H 153 [.slice none 0 0,.func (.func 117) #[] #[.pointer (some ⟨B,0,none⟩)]] h fun x h'=>GI h' x xs/\Le h h'/\Z2 h x:=by
 refine AC.vE ⟨Tryz.func153,rfl,WY⟩ Tryz.ntmps153 Tryz.results153 fun i=>?_;simp only[Br,seval];obtain⟨o,G,l1,w1,J⟩:=Tt i [.slice none 0 0]
 have K:zF h (.slice none 0 0)=some (.pointer (some ⟨h.next,0,none⟩),o):=by rw[<-G];rfl
 have nS:h.own h.next=none:=(Le.refl h).next i (qL0 _)
 have p:o.next=h.next+1:=by rw[<-G];rfl
 refine Sk K ?_
 generalize h.next=S at*
 refine VK.rangeFunc (gf:=117) (first:=#[]) (cap:=#[.pointer (some ⟨B,0,none⟩)]) (by simp only[HO,seval]) ⟨Tryz.func117,rfl,WY⟩ WY fun L M N=>?_
 refine(akA L M B v xs (fun k g=>∃d,g.own S=some (.cells [d])/\GI g d (xs.take k)/\Le h g/\Z2 h d/\blk d≠some S) o NH (fun k g ⟨_,_,_,j,_⟩=>⟨j.own _ _ hB,I.le Nn.RP j⟩) ⟨_,J,GI.nil _,l1,(fun b hb=>by cases hb),by simp[blk]⟩ ?_).mono fun _ O q Q=>?_
 .intro k g R T hle r;obtain⟨d,oS,s,j,ax,nx⟩:=r;refine N _ _ _ rfl hle ?_;have U:xs.take (k+1)=xs.take k++[xs[k]]:=EL R;have hl:(xs.take k).length=k:=pw;generalize xs[k]=y at*;have lS:acd Tryz.prog g 49 ⟨S,0,none⟩=some d:=by rw[Fq Mb rfl oS];rfl
  obtain⟨v',V,l,u,w,f,z,W,A,C⟩:=s.push T y pw;obtain⟨D,E⟩:=A h j ax;obtain⟨m,n⟩:=C S _ oS nx;have st:=QB (P:=Tryz.prog) (t:=49) (x:=v') Mb Ji m (off:=0) Ma (by obtain⟨a,c,e,_⟩:=(GS.cs f).sl;rw[e];rfl) (GS.cs f).sl.one;have oo:=aae.Y3 l S (.cells [v']);simp only[HO,seval,ah3,Array.toList,lS,u,w,st,ake,ah9]
  have F:o.next<=(l.put S (.cells [v'])).next:=by rw[p];exact z.lt m
  refine⟨trivial,F,v',oo,?_,D.put _ nS,E,n⟩;rw[U];exact GS.put f _ n
 .obtain⟨d,oS,s,j,ax,nx⟩:=q;rw[Dl]at s;have lS:acd Tryz.prog O 49 ⟨S,0,none⟩=some d:=by rw[Fq Mb rfl oS];rfl
  simp only[HO,seval,lS];grind
theorem akB(a:LA)(B:Nat)(v:Value)(xs:RZ)(h:aae)(hB:h.own B=some (.cells [v]))(b:RL RP h v xs)(c:xs.length<=1000):
  AC Tryz.prog a 116 [.func (.func 117) #[] #[.pointer (some ⟨B,0,none⟩)]] h fun x h'=>GI h' x xs/\Le h h'/\Z2 h x:=by
 refine AC.vE ⟨Tryz.func116,rfl,WY⟩ Tryz.ntmps116 Tryz.results116 fun d=>?_;simp only[Br,seval];refine Uy ?_;refine kCi Tryz.func153 (akZ a B v xs h hB b c) ?_;rintro x h2 e ⟨f,l2,g⟩;refine Uy ?_;grind
theorem ak0(a:LA)(B:Nat)(v:Value)(xs:RZ)(h:aae)(hB:h.own B=some (.cells [v]))(b:RL RP h v xs)(c:xs.length<=1000):
  AC Tryz.prog a 66 [.func (.func 117) #[] #[.pointer (some ⟨B,0,none⟩)]] h fun x h'=>GI h' x (qC xs)/\Le h h'/\Z2 h x:=by
 refine AC.vE ⟨Tryz.func66,rfl,WY⟩ Tryz.ntmps66 Tryz.results66 fun d=>?_;simp only[Br,seval];refine Uy ?_;refine kCi Tryz.func116 (akB a B v xs h hB b c) ?_;rintro x h2 f ⟨e,l2,g⟩;refine Uy ?_;refine kCi qS33 (VQ a e NH) ?_;rintro y h3 i ⟨rfl,j,k⟩;refine Uy ?_;grind
theorem alT(o:LA)(v w:Value)(xs ys:RZ)(h:aae)(j:RL RP h v xs)(hw:RL RP h w ys)(s:xs.length<=100000):
  AC Tryz.prog o 65 [v,w] h fun x h'=>x=.bool (decide (xs=ys))/\h'=h:=by
 refine AC.vE ⟨Tryz.func65,rfl,WY⟩ Tryz.ntmps65 Tryz.results65 fun p=>?_;simp only[Br,seval];have m:=fun g=>j.DH g;have lw:=fun g=>hw.DH g;by_cases c:(xs.length:Int)=ys.length
 rotate_left
 .have d:decide ((xs.length:Int)=ys.length)=false:=Sb c;simp only[HO,seval,m,lw,bne,d];exact⟨by rw[Sb (fun e=>c (by rw[e]))],trivial⟩
 have c':xs.length=ys.length:=NH;have d:decide ((xs.length:Int)=ys.length)=true:=XJ c;simp only[HO,seval,m,lw,bne,d];refine lIn (fun k fr hh=>∃i:Nat,k=xs.length-i/\i<=xs.length/\hh=h/\fr=mkF [(0,v),(1,w),(12,.int .i64 xs.length),(13,.int .i64 i)]/\xs.take i=ys.take i) ⟨0,rfl,WA _,rfl,rfl,rfl⟩ ?_;rintro k fr hh-⟨i,rfl,hi,rfl,rfl,n⟩;refine Uy ?_;refine Kl.intro (fun q=>?_) (fun hf=>?_)
 .have a:i<xs.length:=CC q;have t1:xs.take (i+1)=xs.take i++[xs[i]]:=EL a;have r:ys.take (i+1)=ys.take i++[ys[i]'(by omega)]:=EL NH
  have ad:=j.TA i a;have ld:=j.Uc i a;have b:=hw.TA i NH;have f:=hw.Uc i NH;have t:=CA a;have u:=CA (show i<ys.length by omega);generalize xs[i]=x at*;generalize ys[i]'(by omega)=y at*
  refine Uy ?_;refine gh (tA [0,1,2,3,4,5,6,7,8] .done) ?_;by_cases e:x=y
  .have d2:decide (x=y)=true:=XJ e;simp only[HO,seval,Qg,ad,ld,b,f,bne,d2,Tw i NH];exact lgA NH ⟨i+1,rfl,a,rfl,rfl,by rw[t1,r,n,e]⟩
  .have d2:decide (x=y)=false:=Sb e;simp only[HO,seval,Qg,ad,ld,b,f,bne,d2];exact by rw[Sb (fun e'=>e pw)]
 .have l:xs.length<=i:=vp hf;rw[HV l,HV NH]at n;refine Uy ?_;grind
theorem ajm(q:LA)(v K:Value)(G:GM)(rs:AM)(h:aae)(hg:GR h v G)(r:RL (RL RP) h K rs):AC Tryz.prog q 26 [v,K] h fun x h'=>afK (bX G/\Av G.n.toNat G.es rs) x/\Le h h':=by
 have s:=hg;obtain⟨V,es⟩:=G
 obtain⟨ev,rfl,hp⟩:=hg.open
 refine AC.vE ⟨Tryz.func26,rfl,WY⟩ Tryz.ntmps26 Tryz.results26 fun L=>?_;simp only[Br,seval];obtain⟨W,b1,c,ag,-,X⟩:=r8 (n:=V) L hp
 generalize h.next=B at*
 have M:=X W (Le.refl _);have lr:=fun g=>r.qP6 g;refine Sk (XC b1 M.1) ?_;refine kCi zL (ak q _ _ W (s.le c)) ?_;rintro x h2 aj ⟨⟨bb,rfl,u⟩,j⟩;have l:=X h2 j;cases bb with
 |false=>refine Uy ?_;grind[afK.f,Le.trans]
 |true=>
 have m:=u.1 rfl;clear u;have h0:0<=V:=m.n0;obtain⟨n,rfl⟩:=Z6 h0;have hR:=m.GD;have N:(n:Int)<=200:=m.n1;have aa:es.length<=594:=m.len;have hA:=m.q9;simp only[af8];by_cases c1:(rs.length:Int)=n
 rotate_left
 .have d1:decide ((rs.length:Int)=n)=false:=Sb c1;simp only[HO,seval,lr,Ii,Ip,Gc,l.2.1,bne,d1];grind[afK.f,Av.len,Le.trans]
 have d1:decide ((rs.length:Int)=n)=true:=XJ c1;have O:rs.length=n:=NH;simp only[HO,seval,lr,Ii,Ip,Gc,l.2.1,bne,d1,l.1];refine kCi zj (oe q _ n es h2 (s.le (c.trans j)) m) ?_;rintro x h3 al ⟨hb,Q⟩;have R:=Xq n es;have lb:=fun g=>hb.qP5 g;rw[R]at lb;have b:=(c.trans j).trans Q;have A:∀v,v<n->((Zh n es).getD v []).length<=1200:=fun v r=>by have:=bV n es _ (j9 (show v<(Zh n es).length by omega));grind
 refine Sk lb ?_;refine lIn (fun k fr S=>∃(i:Nat),k=n-i/\i<=n/\fr=mkF [(1,K),(18,x),(19,.int .i64 n),(20,.int .i64 i)]/\Le h3 S/\∀v,v<i->(rs.getD v []).Perm ((Zh n es).getD v [])) ⟨0,rfl,WA _,rfl,Le.refl _,fun v r=>by omega⟩ ?_;rintro k fr S aq ⟨i,rfl,hi,rfl,I,T⟩;refine Uy ?_;refine Kl.intro (fun ht=>?_) (fun hf=>?_)
 rotate_left
 .have av:n<=i:=vp hf;refine Uy ?_;exact⟨.t ⟨m,O,fun v r=>T v NH⟩,b.trans I⟩
 have o:i<n:=CC ht;clear ht;have HB:=hb.le (Nn.RL Nn.RP) I;have ab:=HB.NS i NH;obtain⟨bu,C,p⟩:=HB.load (P:=Tryz.prog) Mb rfl i NH;have HR:=r.le (Nn.RL Nn.RP) (b.trans I);have ar:=HR.qP7 i NH;obtain⟨ru,D,a⟩:=HR.load (P:=Tryz.prog) Mb rfl i NH;rw[<-D4 (d:=[]) NH]at p a;have E:=fun g=>p.DH g;have F:=fun g=>a.DH g;have J:=A i o;by_cases c2:((rs.getD i []).length:Int)=((Zh n es).getD i []).length
 rotate_left
 .have d2:decide (((rs.getD i []).length:Int)=((Zh n es).getD i []).length)=false:=Sb c2;simp only[HO,seval,ab,C,ar,D,E,F,bne,d2];grind[afK.f,Av.akX,Le.trans]
 have d2:decide (((rs.getD i []).length:Int)=((Zh n es).getD i []).length)=true:=XJ c2;have ae:((Zh n es).getD i []).length<=1000:=by
  have H:=KW es hR hA i;have nd:((Zh n es).getD i []).Nodup:=Gw.2 (H.imp fun h e=>by omega);have:=agO nd (B:=(List.range n).map fun(v:Nat)=>(v:Int)) fun y hy=>by obtain⟨w,rfl,hw⟩:=Ru hR hy;grind
  grind
 simp only[HO,seval,ab,C,ar,D,E,F,bne,d2];refine kCi Tryz.func67 (akY q ru _ S a) ?_;rintro y h5 w5 ⟨VB,rfl,-,oV,l5⟩;refine Uy ?_;refine kCi Tryz.func66 (ak0 q VB ru _ h5 oV (a.le Nn.RP l5) NH) ?_;rintro y h6 w6 ⟨g6,l6,-⟩;refine Uy ?_;refine kCi Tryz.func65 (alT q y bu _ _ h6 g6.rl (p.le Nn.RP (l5.trans l6)) (by rw[OX];omega)) ?_;rintro z h7 w7 ⟨rfl,rfl⟩;have U:=(I.trans l5).trans l6;by_cases c3:qC (rs.getD i [])=(Zh n es).getD i []
 .have d3:decide (qC (rs.getD i [])=(Zh n es).getD i [])=true:=XJ c3;refine Sk (XC d3 (Tw i NH)) ?_;exact lgA (JS o) ⟨i+1,rfl,o,rfl,U,fun v r=>by grind[akz]⟩
 .have d3:decide (qC (rs.getD i [])=(Zh n es).getD i [])=false:=Sb c3;refine Sk d3 ?_;grind[afK.f,akz,Av.perm,Le.trans]
attribute [local irreducible] Jz JL vq cQ
variable {es:List Pr} {n:Nat}
def aly(d:InR n es)(e:0<n)(c:es≠[])(h:∀v,v<n->Pu es 0 v):JoinG n es:=by refine⟨c,?_⟩;obtain⟨a,ha,f⟩:=B6 d 0 e;have:∀b∈Es n es,b=a:=fun b hb=>rf hb ha ((h b (QO.1 hb).1).symm.trans f.symm);exact Cq (qD n es) ha this
theorem tM{u v w:Nat}(h:Pu es u v)(a:Jp es v w):Pu es u w:=h.step a rfl
attribute [local instance] Classical.propDecidable
variable {b:List Pr} {c i j k u v:Nat} {p:Pr} {α:Type}
theorem ah{bs:List (List Pr)}{cs:II}:∀k,p∈Rb bs cs k↔∃i j:Nat,i<k/\j<cs.length/\atB ((cs.getD j 0:Nat):Int) (bs.getD i [])=true/\p=((i:Int),(j:Int)):=by grind[Rb,lkU]
theorem FU(i:Nat)(b:List Pr)(cs:II):∀k,k<=cs.length->(lkU i b cs k).length=((cs.take k).filter fun c=>atB ((c:Nat):Int) b).length
 |0,_=>by simp[lkU]
 |k+1,h=>by rw[lkU_succ,eR,FU i b cs k NH,alk,Db,eR];grind
theorem Er(bs:List (List Pr))(cs:II):∀k,k<=bs.length->(Rb bs cs k).length=(cs.map fun c=>((bs.take k).filter (atB ((c:Nat):Int))).length).sum
 |0,_=>by
  rw[Rb]
  induction cs<;>grind
 |k+1,h=>by
  rw[DK,eR,Er bs cs k NH,FU k _ cs cs.length (qL0 _),Dl];have hb:bs[k]?=some bs[k]:=yY h;rw[alk,hb,Option.toList_some,D4 h]
  induction cs<;>grind
theorem uh(h:(Es n es).length=1)(a:u<n)(b:v<n):Pu es u v:=by
 have g:0<n:=NH;have m0:0∈Es n es:=by grind[QO]
 obtain⟨x,i⟩:=qL166.1 h;have key:∀k v,v<=k->v<n->Pu es 0 v:=by
  intro k
  induction k with
  |zero=>grind[Pu.refl]
  |succ k c=>
   intro v j b;by_cases e:v=0
   .grind
   have d:v∉Es n es:=pw;rw[QO]at d;have:∃u,u<v/\Pu es u v:=pw;obtain⟨u,a,f⟩:=this;exact(c u NH NH).trans f
 exact(key _ u (qL0 _) a).symm.trans (key _ v (qL0 _) b)
theorem ZI{l:List α}(nd:l.Nodup){x:α}(h:l[i]?=some x)(g:l[j]?=some x):i=j:=by grind[List.pairwise_iff_getElem]
theorem bK(h:(vq n es)[k]?=some b):∃x,(CY (cQ n es) es)[k]?=some x/\b=es.filter fun p=>decide (cQ n es p=x):=by grind[aay]
theorem block_at(h:(vq n es)[k]?=some b)(a:p∈b):p∈es:=by grind[bK]
theorem at_mem{v:Int}(a:p∈b)(h:AN v p=true):atB v b=true:=by grind[atB]
theorem tree_two(hR:bX ⟨(n:Int),es⟩)(f:v<n){b c:List Pr}(h:(vq n es)[j]?=some b)(g:(vq n es)[k]?=some c)(hb:atB (v:Int) b=true)(d:atB (v:Int) c=true)(ne:j≠k):
  ∃m:Nat,(JL n es)[m]?=some v:=by
 have a:=hR.GD;have h2:1<Sq n es v:=by rw[JW,Yt (PS n es v)];obtain⟨x,i,rfl⟩:=bK h;obtain⟨y,l,rfl⟩:=bK g;rw[at_iff a]at hb d;refine⟨x,y,(agY a).2 hb,(agY a).2 d,fun e=>ne ?_⟩;have nd:=(lQ (cQ n es) _ es rfl).1;grind[ZI]
 rw[YH a]at h2;exact qy.1 (by grind[OI])
theorem link_in(h:(vq n es)[i]?=some b)(g:(JL n es)[j]?=some c):((i:Int),(j:Int))∈(mR n es).ls↔atB (c:Int) b=true:=by show _∈Rb _ _ _↔_;grind[ah]
theorem vC(h:(vq n es)[i]?=some b)(g:(JL n es)[j]?=some c)(ha:atB (c:Int) b=true):Jp (bU (vq n es).length (mR n es).ls) i ((vq n es).length+j):=by left;refine N8.2 ⟨_,(link_in h g).2 ha,?_⟩;grind
theorem tj(hR:bX ⟨(n:Int),es⟩)(e:v<n){b c:List Pr}(h:(vq n es)[j]?=some b)(g:(vq n es)[k]?=some c)(hb:atB (v:Int) b=true)(a:atB (v:Int) c=true):Pu (bU (vq n es).length (mR n es).ls) j k:=by
 by_cases ne:j=k
 .grind[Pu.refl]
 obtain⟨m,d⟩:=tree_two hR e h g hb a ne;exact(abp (vC h d hb)).trans (abp (vC g d a)).symm
theorem tree_con(hR:bX ⟨(n:Int),es⟩)(q:u<n)(l:Pu es u v):∀{j k:Nat}{b c:List Pr},(vq n es)[j]?=some b->(vq n es)[k]?=some c->atB (u:Int) b=true->atB (v:Int) c=true->Pu (bU (vq n es).length (mR n es).ls) j k:=by
 have f:=hR.GD
 induction l with
 |refl _=>grind[tj]
 |@step w x _ a _ o=>intro j k b c h g hb e;obtain⟨m,d,i,hd,_⟩:=Zg hR (H4 f a);have p:atB (w:Int) d=true:=at_mem hd zo;have h2:atB (x:Int) d=true:=at_mem hd (by rw[aag];exact zo);exact(o h i hb p).trans (tj hR (a.lt f).2 i g h2 e)
theorem treeM_lk(hR:bX ⟨(n:Int),es⟩)(k:JoinG n es):Lk (vq n es).length ((vq n es).length+(JL n es).length) (mR n es).ls:=by
 have o:=hR.GD;have f:=u5 hR k.1;have y:=XF hR;have e:∀i b,(vq n es)[i]?=some b->∃a c:Nat,((a:Int),(c:Int))∈b/\a<n/\atB (a:Int) b=true:=fun i b hb=>by obtain⟨p,l,rfl⟩:=xD (y.ne b (BS hb));obtain⟨a,c,rfl,z,q,_⟩:=ends o (block_at hb LH);grind[at_mem,AN]
 have blk:∀i,i<(vq n es).length->Pu (bU (vq n es).length (mR n es).ls) 0 i:=fun i hi=>by have r:(vq n es)[i]?=some (vq n es)[i]:=yY hi;have w:(vq n es)[0]?=some (vq n es)[0]:=yY f;obtain⟨a,_,_,ha,ea⟩:=e _ _ w;obtain⟨c,_,_,s,A⟩:=e _ _ r;exact tree_con hR ha (uh k.2 ha s) w r ea A
 refine⟨NH,?_,fun p B=>?_,fun v F=>?_⟩
 .have G:=tZ o;have H:(mR n es).ls.length=((JL n es).map (Sq n es)).sum:=by
   show(Rb _ _ _).length=_;rw[Er _ _ _ (qL0 _),Dl];rfl
  have r:((Es n es).filter fun h=>decide (0<Sq n es h)).length=1:=by
   obtain⟨x,C⟩:=qL166.1 k.2;have t:x∈Es n es:=by rw[C];simp
   have D:=(QO.1 t).1;obtain⟨p,l,rfl⟩:=xD k.1;grind[ends,List.mem_cons_self,HJ,FV,uh]
  omega
 .obtain⟨i,j,hi,E,_,rfl⟩:=(ah _).1 B;exact⟨Ma,pw,Ma,pw⟩
 .by_cases hb:v<(vq n es).length
  .grind
  obtain⟨j,rfl⟩:∃j,v=(vq n es).length+j:=⟨v-(vq n es).length,NH⟩;have u:j<(JL n es).length:=NH;have s:(JL n es)[j]?=some (JL n es)[j]:=yY u;obtain⟨q,g⟩:=(OI o _).1 (BS s);obtain⟨a,_,ha,_⟩:=g;obtain⟨m,d,I,hd,_⟩:=Zg hR (H4 o ha);grind[at_mem,zo,Cn.trans,abp,vC]
end
section
attribute [local irreducible] Kp MQ lU rS KO KN KX KE VK Kl ZJ TC aab
attribute [local irreducible] agL ahV
variable {es:List Pr} {h:aae} {j n:Nat} {rs:AM}
theorem newE4(hw:WF h):∃a h2,agH Tryz.prog h 24=some (.pointer (some ⟨h.next,0,none⟩),a)/\acs Tryz.prog a 24 (.pointer (some ⟨h.next,0,none⟩)) CZ=some h2/\Le h h2/\WF h2:=by
 obtain⟨a,d,l1,w1,b⟩:=Tt hw [.int .i64 0,.slice none 0 0]
 have c:h.own h.next=none:=(Le.refl h).next hw (qL0 _)
 have st:=DG (n:=0) (ev:=.slice none 0 0) b rfl rfl;exact⟨a,_,by grind[Lo],st,l1.put _ c,w1.put _ (w1.lt b)⟩
theorem ak1(v:Nat)(l:RZ)(h:j<l.length):ahV v (l.take (j+1))=ahV v (l.take j)++if(v:Int)<l[j]then[((v:Int),l[j])]else[]:=by grind[ahV,List.take_succ_eq_append_getElem]
theorem ajM(v:Nat)(l:RZ):(ahV v l).length<=l.length:=by grind[ahV]
def ak2(rs:AM)(k:Nat):agL rs (k+1)=agL rs k++ahV k (rs.getD k []):=by rw[agL]
def ajn(rs:AM):agL rs 0=[]:=by rw[agL]
theorem aij(hR:InR n es)(hA:D3 es)(G:Av n es rs){v:Nat}(a:v<n):(rs.getD v []).length<n:=by
 have IR:=G.jD hR hA;have b:(Xl rs v).length=(rs.getD v []).length:=by grind[Xl.eq_1]
 have h2:=agO (IR.nd v) (B:=(List.range n).erase v) fun w hw=>(QD.mem_erase_iff).2 ⟨fun e=>IR.ir v pw,j3.2 (IR.lt w v (IR.sy _ _ hw))⟩;grind
def len_bd{a i N:Nat}(h:a<=i*N)(hi:i<=200)(b:N<=200):a<=40000:=by have:i*N<=200*200:=aiD hi b;omega
theorem told_any(U:LA)(r:Value)(rs:AM)(h:aae)(O:RL (RL RP) h r rs):
  AC Tryz.prog U 118 [r] h fun x h'=>Le h h'/\((x=.tuple #[CZ,.bool false]/\¬∃es,bX ⟨(rs.length:Int),es⟩/\Av rs.length es rs)\/
   ∃es ev,bX ⟨(rs.length:Int),es⟩/\Av rs.length es rs/\x=.tuple #[.agg #[.int .i64 rs.length,ev],.bool true]/\GP h' ev es/\Z2 h ev):=by
 refine AC.vE ⟨Tryz.func118,rfl,WY⟩ Tryz.ntmps118 Tryz.results118 fun B=>?_;simp only[Br,seval];obtain⟨a,e1,l1,w1,o1⟩:=Tt B [.int .i64 0,.slice none 0 0];have V:=Lo h;rw[e1]at V
 have nR:h.own h.next=none:=(Le.refl h).next B (qL0 _)
 generalize h.next=R at*
 have lr:=fun g=>O.qP6 g;have m:∀g:aae,Le a g->acs Tryz.prog g 24 (.pointer (some ⟨R,0,none⟩)) CZ=some (g.put R (.cells [.int .i64 0,.slice none 0 0])):=fun g W=>DG (W.own _ _ o1) rfl rfl;have ldE:∀g:aae,acd Tryz.prog (g.put R (.cells [.int .i64 0,.slice none 0 0])) 24 ⟨R,0,none⟩=some CZ:=fun g=>tY (aae.Y3 _ _ _) ⟨_,_,_,rfl⟩;have fin:∀g:aae,Le a g->Le h (g.put R (.cells [.int .i64 0,.slice none 0 0])):=fun g W=>(l1.trans W).put _ nR;by_cases c1:(rs.length:Int)>200
 .have d1:decide ((rs.length:Int)>200)=true:=XJ c1;simp only[HO,seval,V,lr,d1,jQ,m a (Le.refl _),ldE];exact⟨fin a (Le.refl _),.inl ⟨trivial,fun⟨es,A,_⟩=>by have:=A.n1;grind⟩⟩
 have d1:decide ((rs.length:Int)>200)=false:=Sb c1;have c:rs.length<=200:=NH;obtain⟨h2,e2,l2,w2,o2⟩:=Tt w1 []
 have mk:abB Tryz.prog a 22 0 []=some (.slice (some ⟨a.next,0,none⟩) 0 0,h2):=by rw[<-e2];rfl
 have nX:a.own a.next=none:=(Le.refl a).next w1 (qL0 _)
 have g0:GP h2 (.slice (some ⟨a.next,0,none⟩) 0 0) (agL rs 0):=by rw[ajn];exact GS.full (k:=2) (n:=0) o2 rfl WY
 have C:Z2 a (.slice (some ⟨a.next,0,none⟩) 0 0):=fun b hb=>by injection hb with hb;grind
 simp only[HO,seval,V,lr,d1,mk]
 generalize Value.slice (some ⟨a.next,0,none⟩) 0 0=aH at*
 refine lIn (fun k fr o=>∃(i:Nat)(E:Value),k=rs.length-i/\i<=rs.length/\fr=mkF [(0,r),(2,.pointer (some ⟨R,0,none⟩)),(4,E),(16,r),(17,.int .i64 rs.length),(18,.int .i64 i)]/\GP o E (agL rs i)/\Le a o/\Z2 a E/\(agL rs i).length<=i*rs.length) ⟨0,_,rfl,WA _,rfl,g0,l2,C,by rw[ajn];exact WA _⟩ ?_;clear g0 C;rintro k fr o aJ ⟨i,E,rfl,hi,rfl,gx,s,ax,hlen⟩;refine Uy ?_;refine Kl.intro (fun F=>?_) (fun hf=>?_)
 .have l:i<rs.length:=CC F;clear F;have ar:=O.qP7 i l;obtain⟨ru,H,t⟩:=O.Wm i l;have I:=H o (l1.trans s);rw[<-D4 (d:=[]) l]at t;have hs:=ak2 rs i;generalize aF:rs.getD i []=row at*;have p:=fun g=>t.DH g;by_cases c2:(row.length:Int)>=rs.length
  .have d2:decide ((row.length:Int)>=rs.length)=true:=XJ c2;simp only[HO,seval,ar,I,p,lr,d2,jQ,m o s,ldE];refine⟨fin o s,.inl ⟨trivial,fun⟨es,A,G⟩=>?_⟩⟩;have:=aij A.GD A.q9 G l;grind
  have d2:decide ((row.length:Int)>=rs.length)=false:=Sb c2;have aK:row.length<=rs.length:=NH;simp only[HO,seval,ar,I,p,lr,d2];refine lIn (fun k fr P=>∃(j:Nat)(y:Value),k=row.length-j/\j<=row.length/\fr=mkF [(0,r),(2,.pointer (some ⟨R,0,none⟩)),(4,y),(5,.int .i64 i),(16,r),(17,.int .i64 rs.length),(18,.int .i64 i),(29,ru),(30,.int .i64 row.length),(31,.int .i64 j)]/\GP P y (agL rs i++ahV i (row.take j))/\Le a P/\Z2 a y/\Le o o) ⟨0,_,rfl,WA _,rfl,by grind[ahV],s,ax,Le.refl _⟩ ?_;rintro k fr P X ⟨j,y,rfl,hj,rfl,gy,Q,ay,-⟩;have q:RL RP P ru row:=t.le Nn.RP (l1.trans Q);refine Uy ?_;refine Kl.intro (fun F=>?_) (fun hf=>?_)
  .have f:j<row.length:=CC F;clear F;have ad:=q.TA j f;have ld:=q.Uc j f;have st:=ak1 i row f;have aa:=ajM i (row.take j);rw[iB]at aa;have ae:=len_bd hlen NH c;have J:=Tw j NH;generalize row[j]=w at*;by_cases c3:(i:Int)<w
   .have d3:decide ((i:Int)<w)=true:=XJ c3;obtain⟨v',z,S,K,e5,g5,w5,l4,f5,k5⟩:=gy.push X ((i:Int),w) pw;obtain⟨l5,a5⟩:=f5 a Q ay;simp only[HO,seval,ad,ld,d3,xe,K,e5,J];exact lgA (JS f) ⟨j+1,v',rfl,f,rfl,pw,l5,a5,Le.refl _⟩
   .have d3:decide ((i:Int)<w)=false:=Sb c3;simp only[HO,seval,ad,ld,d3,J];exact lgA (JS f) ⟨j+1,y,rfl,f,rfl,pw,Q,ay,Le.refl _⟩
  .have L:row.length<=j:=vp hf;rw[HV L,<-hs]at gy;have ag:=Tw i NH;have aP:=ajM i row;refine Sk ag ?_;exact lgA (JS l) ⟨i+1,y,rfl,l,rfl,gy,Q,ay,pw⟩
 have L:rs.length<=i:=vp hf;obtain rfl:i=rs.length:=NH;have ae:=len_bd hlen c c;simp only[HO,seval,lr];refine kCi Tryz.func29 (New_any U (rs.length:Int) E (agL rs rs.length) o gx.pr NH) ?_;rintro x h3 w3 ⟨l3,⟨hn,kk,aj,rfl⟩|⟨aq,ev,rfl,M,a3⟩⟩
 .obtain⟨av,z,K,u,l4,w4⟩:=newE4 w3;have d:decide (kk=0)=false:=Sb aj;have T:=(s.trans l3).trans l4;simp only[HO,seval,K,u,bne,d,jQ,m z T,ldE];grind[ajk]
 obtain⟨av,z,K,u,l4,w4,L4⟩:=newG w3 (n:=(rs.length:Int)) M.pr;have d0:decide ((0:Int)=0)=true:=by decide
 have az:=aq.right;have T:=(s.trans l3).trans l4;have gg:GR z (.agg #[.int .i64 rs.length,ev]) ⟨(rs.length:Int),aej ((agL rs rs.length).map lZ)⟩:=⟨ev,rfl,M.pr.le l4⟩;generalize aT:aej ((agL rs rs.length).map lZ)=fs at*;refine Sk (IX K u @bne.eq_1.{0} d0 ((L4 z (Le.refl _)).1)) ?_
 generalize h3.next=D at*
 refine kCi Tryz.func26 (ajm U _ r ⟨(rs.length:Int),fs⟩ rs z gg (O.le (Nn.RL Nn.RP) (l1.trans T))) ?_;rintro x S w5 ⟨⟨bb,rfl,aB⟩,l5⟩;have v:=T.trans l5;cases bb with
 |false=>simp only[HO,seval,jQ,m S v,ldE];grind[ajk]
 |true=>
  obtain⟨-,hG⟩:=aB.1 rfl;simp only[af8]at hG;have one:=M.pr.sl.one;obtain⟨ea,ec,N,_⟩:=M.pr.sl;have aC:ev.cells=#[ev]:=by rw[N];rfl
  have oR:=v.own _ _ o1;have st:=DG (n:=(rs.length:Int)) (ev:=ev) oR one aC;have oo:=aae.Y3 S R (.cells [.int .i64 (rs.length:Int),ev]);have aD:=tY (n:=(rs.length:Int)) (ev:=ev) oo ⟨ea,_,ec,N⟩;have aE:blk ev≠some R:=fun e=>by have:=a3 R e;grind[Le.own]
  simp only[HO,seval,(L4 S l5).1,st,aD];exact⟨(l1.trans v).put _ nR,.inr ⟨fs,ev,az,hG,rfl,(GS.le M (l4.trans l5)).put _ aE,fun b hb=>(l1.trans s).none (a3 b hb)⟩⟩
end
section
attribute [local instance] Classical.propDecidable
section
variable{α β:Type}[DecidableEq α]
def ak3:List (α×β)->α->β->List (α×β)
 |[],k,v=>[(k,v)]
 |(a,b)::r,k,v=>if a=k then(k,v)::r else(a,b)::ak3 r k v
def ahK:List (α×β)->α->Option β
 |[],_=>none
 |(a,b)::r,k=>if a=k then some b else ahK r k
theorem ajN(l:List (α×β))(k a:α)(v:β):ahK (ak3 l k v) a=if k=a then some v else ahK l a:=by
 induction l<;>grind[ak3,ahK]
theorem alz(l:List (α×β))(k:α)(v:β):(ahK l k=none/\ak3 l k v=l++[(k,v)])\/∃(j:Nat)(b:β),ahK l k=some b/\l[j]?=some (k,b)/\(∀i,i<j->∀x,l[i]?=some x->x.1≠k)/\ak3 l k v=l.set j (k,v):=by
 induction l with
 |nil=>exact .inl ⟨rfl,rfl⟩
 |cons x r e=>
  obtain⟨a,b⟩:=x;simp only[ak3,ahK];by_cases h:a=k
  .subst h;rw[AE rfl,AE rfl];exact .inr ⟨0,b,rfl,rfl,NH,rfl⟩
  .rw[aal h,aal h];rcases e with⟨d,h2⟩|⟨j,c,d,h2,h3,f⟩
   .grind
   .refine .inr ⟨j+1,c,d,pw,fun i hi x g=>?_,by rw[f];rfl⟩;cases i<;>grind
end
def ahL(l:List (Pr×Pr)):List (Value×Value):=l.map fun x=>(UI x.1,UI x.2)
theorem ahM(k:Pr):∀(l:List (Pr×Pr))(i:Nat),(ahK l k=none->ahr Tryz.prog 38 (UI k) (ahL l) i=some none)/\∀(j:Nat) b,l[j]?=some (k,b)->(∀q,q<j->∀x,l[q]?=some x->x.1≠k)->ahr Tryz.prog 38 (UI k) (ahL l) i=some (some (i+j,UI b))
 |[],i=>⟨fun _=>rfl,pw⟩
 |(a,b)::r,i=>by
  obtain⟨g,h2⟩:=ahM k r (i+1)
  have un:ahr Tryz.prog 38 (UI k) (ahL ((a,b)::r)) i=match aEq Tryz.prog 38 (UI k) (UI a)with|some true=>some (some (i,UI b))|some false=>ahr Tryz.prog 38 (UI k) (ahL r) (i+1)|none=>none:=rfl
  rw[un,eqP];constructor
  .grind[ahK]
  .intro j c f d;cases j with
   |zero=>grind
   |succ j=>
    have e:a≠k:=d 0 NH (a,b) rfl;have:decide (k=a)=false:=by simpa using Ne.symm e
    rw[this];show ahr Tryz.prog 38 (UI k) (ahL r) (i+1)=_;rw[h2 j c (by simpa using f) pw];congr 3;omega
def akC{h:aae}{x:Value}(p:Pr)(ok:Bool):agI Tryz.prog h 143 x (UI p) ok=none:=by simp only[agI,qS24,UI]
def ak4{h:aae}{x v:Value}(p:Pr):ahp Tryz.prog h 143 x (UI p) v=none:=by simp only[ahp,qS24,UI]
theorem ak5{h:aae}{M:Nat}{l:List (Pr×Pr)}(a:h.own M=some (.map (ahL l))){k v:Pr}(e:ahK l k=some v):
  ahs Tryz.prog h 143 (.map (some M)) (UI k) false=some (UI v):=by
 have c:ag2 Tryz.prog 38=some (.agg #[.int .i64 0,.int .i64 0]):=Ji;simp only[ahs,qS24,keyP,a,c,if_true];rcases alz l k v with⟨d,_⟩|⟨j,b,d,h2,h3,_⟩
 .grind
 grind[ahM]
theorem alU{h:aae}{M:Nat}{l:List (Pr×Pr)}(a:h.own M=some (.map (ahL l)))(k v:Pr):ahA Tryz.prog h 143 (.map (some M)) (UI k) (UI v)=some (h.put M (.map (ahL (ak3 l k v)))):=by
 simp only[ahA,qS24,keyP,a,if_true];rcases alz l k v with⟨c,d⟩|⟨j,b,c,h2,h3,d⟩
 .grind[ahM,ahL]
 grind[ahM,ahL,List.map_set]
def afZ(d:H8):Pr:=((d.1:Int),(d.2:Int))
theorem aiQ{a b:H8}(h:afZ a=afZ b):a=b:=by grind[afZ]
section
variable{n:Nat}{es:List Pr}{rs:AM}
theorem alA(a:InR n es)(ha:D3 es)(G:Av n es rs)(v:Nat):(Zh n es).getD v []=((List.range n).filter fun w=>decide (w∈Xl rs v)).map fun(w:Nat)=>(w:Int):=by
 refine wP _ _ (KW es a ha v) ?_ fun x=>?_
 .grind[List.pairwise_lt_range,List.Pairwise.imp]
 grind[Ru,Av.mem,EW]
noncomputable def aio(n:Nat)(r:Nat->II)(v:Nat):List H8:=((List.range n).filter fun w=>decide (w∈r v)).map fun w=>(v,w)
noncomputable def agV(n:Nat)(r:Nat->II)(k:Nat):List H8:=(List.range k).flatMap (aio n r)
theorem ahE(n:Nat)(r:Nat->II)(k:Nat):agV n r (k+1)=agV n r k++aio n r k:=by grind[agV.eq_1,List.range_succ]
theorem ahx(n:Nat)(r:Nat->II):agV n r n=ddl n r:=rfl
theorem alV{n:Nat}(r:Nat->II){k m:Nat}(h:k<=m):∃q,agV n r m=agV n r k++q:=by
 induction h with
 |refl=>exact⟨[],Ma⟩
 |step _ a=>grind[ahE]
theorem ddl_at{n:Nat}(r:Nat->II){v j:Nat}(a:v<n)(b:j<(aio n r v).length):∃q,ddl n r=(agV n r v++(aio n r v).take j)++(aio n r v)[j]::q:=by obtain⟨q,c⟩:=alV (n:=n) r (show v+1<=n from a);grind[ahx,ahE,List.getElem_cons_drop,List.take_append_drop]
def aj7(r:Nat->II)(P:List H8)(d:H8):Prop:=∃e∈P,WD (Nv r) e d
theorem hd_met{r:Nat->II}(R:V7 n r){P Q:List H8}{d:H8}(h:ddl n r=P++d::Q):Hd r d↔¬aj7 r P d:=by
 have p:=TG R;have hA:=pI n r;rw[h,ae7,gK]at hA;obtain⟨_,⟨h2,_⟩,h3⟩:=hA;have hd:d∈dl n r:=(IP R).2 ((Ks R).1 (by rw[h];simp));constructor
 .rintro hh ⟨e,g,o⟩;have a:e∈dl n r:=(IP R).2 ((Ks R).1 pw);exact hh e (p.xw a o) pw
 .intro c e o f;have a:=p.sP hd o;have:e∈ddl n r:=by grind[Ks,IP]
  rw[h,yM,vZ]at this;rcases this with b|b|b
  .exact c ⟨e,b,p.xw hd o⟩
  all_goals grind[JN,Nd]
noncomputable def af5(r:Nat->II)(P:List H8):AM:=(P.filter fun d=>decide (Hd r d)).map fun d=>aaa (zu r d)
noncomputable def IN(n:Nat)(rs:AM):AM:=(vf n (Xl rs)).map aaa
theorem aiB(n:Nat)(rs:AM):af5 (Xl rs) (ddl n (Xl rs))=IN n rs:=by rw[IN,vf,L3,af5,C4];rfl
theorem aiY(r:Nat->II)(P:List H8)(d:H8):af5 r (P++[d])=af5 r P++if Hd r d then[aaa (zu r d)]else[]:=by grind[af5.eq_1]
end
attribute [local irreducible] Kp MQ lU rS KO KN KX KE VK Kl ZJ TC aab
variable {j k:Nat} {p:Pr} {rs:AM}
noncomputable def ofP(rs:AM)(v j:Nat):List Pr:=((List.range j).filter fun w=>decide (v<w/\∃i,aiP (rs.getD v []) (w:Int) i)).map fun(w:Nat)=>((v:Int),(w:Int))
noncomputable def ofE(rs:AM)(k:Nat):List Pr:=(List.range k).flatMap fun v=>ofP rs v rs.length
theorem ofP_zero(rs:AM)(v:Nat):ofP rs v (v+1)=[]:=by grind[ofP,List.filter_eq_nil_iff]
theorem ofP_succ(rs:AM)(v j:Nat):ofP rs v (j+1)=ofP rs v j++if v<j/\∃i,aiP (rs.getD v []) (j:Int) i then[((v:Int),(j:Int))]else[]:=by
 unfold ofP;rw[V3,Db,MY];congr 1;by_cases c:v<j/\∃i,aiP (rs.getD v []) (j:Int) i
 all_goals grind
theorem ajo(rs:AM)(k:Nat):ofE rs (k+1)=ofE rs k++ofP rs k rs.length:=by grind[ofE,List.range_succ]
theorem alC(rs:AM)(v j:Nat):(ofP rs v j).length<=j:=by grind[ofP]
theorem alD(rs:AM):∀k,(ofE rs k).length<=k*rs.length
 |0=>by simp[ofE]
 |k+1=>by rw[ajo,eR,WS];have:=alD rs k;grind[alC]
theorem alW(h:rs.length<=200)(a:k<rs.length)(b:j<=rs.length):(ofE rs k++ofP rs k j).length+1<=100000:=by have c:=alD rs k;have h2:=alC rs k j;have h3:k*rs.length<=200*200:=aiD NH h;grind
theorem alE:p∈ofE rs k↔∃v w:Nat,v<k/\w<rs.length/\v<w/\(∃i,aiP (rs.getD v []) (w:Int) i)/\p=((v:Int),(w:Int)):=by unfold ofE ofP;simp only[y5,j3,N8,uV,vg];grind
theorem alF(rs:AM):∀k,(ofE rs k).Pairwise fun a b=>a.1<b.1\/a.1=b.1/\a.2<b.2
 |0=>by simp[ofE]
 |k+1=>by
  rw[ajo,ae7];refine⟨alF rs k,?_,fun a ha b hb=>?_⟩
  .unfold ofP;rw[pz];grind[List.pairwise_lt_range,List.Pairwise.imp]
  grind[alE,ofP]
theorem ROf_any(W0:LA)(v:Value)(rs:AM)(h:aae)(H:RL (RL RP) h v rs)(hn:rs.length<=200)(hl:∀l∈rs,l.length<=100000):
  AC Tryz.prog W0 109 [v] h fun x h'=>GR h' x ⟨(rs.length:Int),ofE rs rs.length⟩/\Le h h':=by
 refine AC.vE ⟨Tryz.func109,rfl,WY⟩ Tryz.ntmps109 Tryz.results109 fun t=>?_;simp only[Br,seval];have lr:=fun g=>H.qP6 g;obtain⟨h2,e2,l2,w2,o2⟩:=Tt t [.int .i64 0,.slice none 0 0]
 have nR:h.own h.next=none:=(Le.refl h).next t (qL0 _)
 obtain⟨h3,h4,e3,e4,l4,w4,nX,w⟩:=GX.new w2 (rs.length:Int)
 have y:h2.next≠h.next:=fun e=>by grind
 have z:=l4.own _ _ o2;have al:=Lo h;rw[e2]at al;simp only[HO,seval,al,lr,Zp,e3,e4];have I:=l2.none nX
 generalize h2.next=X at*
 generalize h.next=R at*
 have aX:Z2 h (.slice none 0 0):=fun b hb=>by cases hb
 refine lIn (fun k fr o=>∃(i:Nat)(a:Value),k=rs.length-i/\i<=rs.length/\fr=mkF [(0,v),(2,.pointer (some ⟨R,0,none⟩)),(3,.pointer (some ⟨X,0,none⟩)),(4,.int .i64 i)]/\
   GX o X (rs.length:Int) a (ofE rs i)/\Le h o/\Z2 h a/\o.own R=some (.cells [.int .i64 0,.slice none 0 0])/\blk a≠some R) ⟨0,_,rfl,WA _,rfl,w,l2.trans l4,aX,z,by simp[blk]⟩ ?_
 clear w aX z w4 l4 e4 e3 o2 e2;clear h3 h4;rintro k fr o aj ⟨i,a,rfl,hi,rfl,m,leq,ax,oR,f⟩;simp only[HO,seval,lr];refine Kl.intro (fun A=>?_) (fun hf=>?_)
 .have c:i<rs.length:=CC A;clear A;have ar:=H.qP7 i c;obtain⟨u,J,hu⟩:=H.Wm i c;have K:=hl _ (j9 c);have L:rs.getD i []=rs[i]:=D4 c;have aq:=ofP_zero rs i;have B:=fun j=>ofP_succ rs i j;have M:=ajo rs i;have N:=fun j (O:j<=rs.length)=>alW hn c O;simp only[L]at B;generalize rs[i]=r at*;have C:=Tw i NH;refine Sk C ?_;refine lIn (fun k fr s=>∃(j:Nat)(a:Value),k=rs.length-j/\i<j/\j<=rs.length/\fr=mkF [(0,v),(2,.pointer (some ⟨R,0,none⟩)),(3,.pointer (some ⟨X,0,none⟩)),(4,.int .i64 i),(5,.int .i64 j)]/\
    GX s X (rs.length:Int) a (ofE rs i++ofP rs i j)/\Le h s/\Z2 h a/\s.own R=some (.cells [.int .i64 0,.slice none 0 0])/\blk a≠some R) ⟨i+1,a,rfl,FD i,c,rfl,pw,leq,ax,oR,f⟩ ?_
  clear m leq ax oR f;clear a;rintro k fr s P ⟨j,a,rfl,Q,O,rfl,m,leq,ax,oR,f⟩;simp only[HO,seval,lr];refine Kl.intro (fun A=>?_) (fun hf=>?_)
  .have n:j<rs.length:=CC A;clear A;have S:=J s leq;have D:=Tw j NH;have E:=B j;refine Sk (XC ar S) ?_;refine kCi SV (ahT W0 u r (j:Int) s (hu.le Nn.RP leq) K) ?_;rintro x h5 w5 ⟨⟨k,hk,T,rfl⟩|⟨rfl,av⟩,rfl⟩
   .have d:decide ((k:Int)>=0)=true:=XJ NH;rw[AE ⟨Q,k,T⟩]at E;have ay:=N j O;obtain⟨v',g4,g5,g6,q4,q5,q6,az,w9,U,f9,k9,f5,V⟩:=m.push2 P ((i:Int),(j:Int)) NH;have F:acd Tryz.prog g5 22 ⟨X,1,none⟩=some a:=Fq eY rfl V;obtain⟨l9,a9⟩:=f9 h leq I ax;obtain⟨W,aa⟩:=k9 R _ oR (Hs y) f;have gl:=m.ld;have G:=(m.le U).ld;refine Sk (aga d @xe @Di @Ip.eq_1 @Gc gl.2.2 G.2.2 F q4 q5 q6 D) ?_;exact lgA (stq n) ⟨j+1,v',rfl,NH,n,rfl,pw,l9,a9,W,aa⟩
   .have d:decide ((-1:Int)>=0)=false:=by decide
    rw[aal (fun q=>by obtain⟨k,hk⟩:=q.2;grind),Ua]at E;refine Sk (XC d D) ?_;exact lgA (stq n) ⟨j+1,a,rfl,NH,n,rfl,pw,leq,ax,oR,f⟩
  .have ae:rs.length<=j:=vp hf;obtain rfl:j=rs.length:=NH;rw[<-M]at m;refine Sk C ?_;exact lgA (stq c) ⟨i+1,a,rfl,c,rfl,m,leq,ax,oR,f⟩
 .have ae:rs.length<=i:=vp hf;obtain rfl:i=rs.length:=NH;have gl:=m.ld;have p:UA Tryz.prog 24=2:=Ji;have one:=m.gp.pr.sl.one;have st:acs Tryz.prog o 24 (.pointer (some ⟨R,0,none⟩)) (.agg #[.int .i64 (rs.length:Int),a])=some (o.put R (.cells [.int .i64 (rs.length:Int),a])):=by
   have hc:(Value.agg #[.int .i64 (rs.length:Int),a]).cells=#[.int .i64 (rs.length:Int),a]:=rfl;have h0:(Value.int IntKind.i64 (rs.length:Int)).oneCell'=true:=rfl;simp[acs,oR,hc,p,putCells,yU,one,h0]
  have oo:=aae.Y3 o R (.cells [.int .i64 (rs.length:Int),a]);have ag:acd Tryz.prog (o.put R (.cells [.int .i64 (rs.length:Int),a])) 24 ⟨R,0,none⟩=some (.agg #[.int .i64 (rs.length:Int),a]):=by rw[Wx yU rfl p oo Ma];rfl
  simp only[HO,seval,gl.1,st,ag];exact⟨⟨a,rfl,(show GP _ a _ from GS.put m.gp _ f).pr⟩,leq.put _ nR⟩
end
end Go.Fw
