/- A text. -/
import Derived.Test.YtkccdnmaaelbiaaGreatFwKA4
import Derived.Test.YtkccdnmaaelbiaaGreatFwKur3
set_option linter.all false
set_option maxRecDepth 99999
set_option maxHeartbeats 9999999
namespace Go.Fw
open Go.Proofs
attribute [local irreducible] Jz JL vq cQ
attribute [local instance] Classical.propDecidable
section
variable {n : Nat} {b : List Pr} (hR : aV n b)
def acw (n:Nat) (b:List Pr):II:=aag n b++(List.range n).filter fun(v:Nat)=>!b.any fun p=>aO p (v:Int)
def toV (n:Nat) (b:List Pr) (u:Nat):Nat:=(acw n b).idxOf u
def ofV (n:Nat) (b:List Pr) (i:Nat):Nat:=(acw n b).getD i 0
theorem acx:(acw n b).Perm (List.range n):=by exact ahz _ _
def adn:(acw n b).length=n:=by rw[(acx (n:=n) (b:=b)).length_eq,aex]
theorem ordL_nd:(acw n b).Nodup:=by grind [acx]
def ads {u:Nat}:u∈acw n b↔u<n:=by rw[(acx (n:=n) (b:=b)).mem_iff,iy]
theorem toV_lt {u:Nat} (h:u<n):toV n b u<n:=by
 have:=Zw (ads (b:=b)|>.2 h);rwa[adn]at this
def afz {i:Nat} (h:i<n):ofV n b i<n:=by
 have a:i<(acw n b).length:=by rw[adn];exact h
 have:ofV n b i=(acw n b)[i]:=D4 a;rw[this];exact ads.1 (ZT a)
theorem abk {u:Nat} (h:u<n):ofV n b (toV n b u)=u:=by
 have c:=ads (b:=b)|>.2 h;have a:=Zw c;unfold ofV toV;rw[D4 a];exact agU a
theorem toV_ofV {i:Nat} (h:i<n):toV n b (ofV n b i)=i:=by
 have a:i<(acw n b).length:=by rw[adn];exact h
 have e:ofV n b i=(acw n b)[i]:=D4 a;rw[e];exact qL209 ordL_nd i a
def ren_V (n:Nat) (b:List Pr):Ren n (toV n b) (ofV n b):=⟨fun _ h=>toV_lt h,fun _ h=>afz h,fun _ h=>toV_ofV h,fun _ h=>abk h⟩
theorem toV_idx {u:Nat} (h:u∈aag n b):toV n b u=abD n b (u:Int)/\toV n b u<(aag n b).length:=by
 have a:=Zw h;have e:toV n b u=(aag n b).idxOf u:=by unfold toV acw;rw[List.idxOf_append,if_pos h]
 refine⟨?_,by rw[e];exact a⟩;rw[e];refine idx_eq (n:=n) (b:=b) ?_;rw[kz,Yq,CA a];simp[agU a]
include hR
theorem aaJ {u:Nat}:u∈aag n b↔∃w,Jp b u w:=by
 rw[aeT];constructor
 .rintro ⟨f, p, e, h⟩
  obtain⟨a,c,ha,g,d,rfl⟩:=acV hR e;have h':u=a\/u=c:=by simp only[aO,bj,ac0,decide_eq_true_eq]at h;omega
  rcases h' with rfl|rfl
  .exact⟨c,d⟩
  .exact⟨a,d.symm⟩
 .rintro ⟨w, h⟩
  refine⟨(h.lt hR).1,GW u w,H4 hR h,?_⟩;simp only[aO,bj,ac0,decide_eq_true_eq];omega
theorem aep {x y:Int}:(x,y)∈aat n b↔∃u w:Nat,((u:Int),(w:Int))∈b/\x=(toV n b u:Int)/\y=(toV n b w:Int):=by
 unfold aat;rw[Z6];constructor
 .rintro ⟨p, a, e⟩
  obtain⟨c,h2,h3⟩:=hR p a;obtain⟨f,d⟩:=p;obtain⟨u,rfl⟩:=WA c;obtain⟨w,rfl⟩:=WA (show 0<=d by omega);injection e with g h;have m1:=(toV_idx ((aaJ hR).2 ⟨w,.inl a⟩)).1;have m2:=(toV_idx ((aaJ hR).2 ⟨u,.inr a⟩)).1;exact pw
 .rintro ⟨u, w, a, rfl, rfl⟩
  have m1:=(toV_idx ((aaJ hR).2 ⟨w,.inl a⟩)).1;have m2:=(toV_idx ((aaJ hR).2 ⟨u,.inr a⟩)).1;exact pw
theorem abR {v w:Nat}:Jp (aat n b) v w↔v<n/\w<n/\Jp b (ofV n b v) (ofV n b w):=by
 have one:∀v w:Nat,((v:Int),(w:Int))∈aat n b->v<n/\w<n/\((ofV n b v:Int),(ofV n b w:Int))∈b:=fun v w h=>by
  obtain⟨u,x,c,a,h2⟩:=(aep hR).1 h;have l1:=(show Jp b u x from .inl c).lt hR;obtain rfl:v=toV n b u:=NH;obtain rfl:w=toV n b x:=NH;rw[abk l1.1,abk l1.2];exact⟨toV_lt l1.1,toV_lt l1.2,c⟩
 constructor
 .rintro (h | h)
  .obtain⟨a,h2,h3⟩:=one _ _ h;exact⟨a,h2,.inl h3⟩
  .obtain⟨a,h2,h3⟩:=one _ _ h;exact⟨h2,a,.inr h3⟩
 .rintro ⟨a, h2, h3 | h3⟩
  .exact .inl (by grind [aep,toV_ofV])
  .exact .inr (by grind [aep,toV_ofV])
theorem adj_to {u w:Nat} (h:Jp b u w):Jp (aat n b) (toV n b u) (toV n b w):=by
 have l:=h.lt hR;exact(by grind [abR,toV_lt,abk])
theorem vert_lt {u w:Nat} (h:Jp b u w):toV n b u<(aag n b).length:=by grind [toV_idx,aaJ]
omit hR in
theorem aeq {x y:Nat} (e:x∈aag n b) (d:x<y):abD n b (x:Int)<abD n b (y:Int):=by
 have f:∀l:II,x∈l->l.countP (fun(v:Nat)=>decide ((v:Int)<(x:Int)))<l.countP fun(v:Nat)=>decide ((v:Int)<(y:Int)):=by
  intro l
  induction l with
  |nil=>intro h;cases h
  |cons a l g=>
   intro h;have mono:l.countP (fun(v:Nat)=>decide ((v:Int)<(x:Int)))<=l.countP fun(v:Nat)=>decide ((v:Int)<(y:Int)):=
    List.countP_mono_left pw
   rw[agZ,agZ];rcases EL.1 h with rfl|q
   .rw[if_neg Ma,if_pos (by simpa using d)];omega
   .have := g q
    by_cases c:(a:Int)<(x:Int)
    .rw[if_pos (by simpa using c),if_pos (by simp only[decide_eq_true_eq];omega)];omega
    .rw[if_neg (by simpa using c)];split<;>omega
 exact f _ e
omit hR in
theorem ad6 (d:bX ⟨(n:Int),b⟩):bX ⟨((aag n b).length:Int),aat n b⟩:=by
 have hR:=d.GD;have e:(aag n b).length<=n:=Hs (OM _ _) Ma;have f:∀p∈b,∃u w:Nat,p=((u:Int),(w:Int))/\u<w/\u∈aag n b/\w∈aag n b:=fun p a=>by
  obtain⟨k,h2,h3⟩:=hR p a;obtain⟨m,l⟩:=p;obtain⟨u,rfl⟩:=WA k;obtain⟨w,rfl⟩:=WA (show 0<=l by omega);exact⟨u,w,rfl,NH,(aaJ hR).2 ⟨w,.inl a⟩,(aaJ hR).2 ⟨u,.inr a⟩⟩
 refine bX.of (Hs e (by have:(n:Int)<=200:=d.n1;omega)) (by rw[aat,jz];exact d.len) (fun q g=>?_) ?_
 .obtain ⟨p, a, rfl⟩ := Z6.1 g
  obtain⟨u,w,rfl,i,j,hw⟩:=f p a;have k:=aeq j i;have h2:=toV_idx hw;rw[h2.1]at h2;exact pw
 .have ha : D3 b := d.q9
  rw[Nl]at ha ⊢;unfold aat;rw[wI];refine ha.imp_of_mem fun{p q} a g c=>?_;obtain⟨u,w,rfl,-,j,hw⟩:=f p a;obtain⟨x,y,rfl,-,o,r⟩:=f q g;simp only at c ⊢;rcases c with h|⟨h,h'⟩
  .left;have:=aeq j (show u<x by omega);omega
  .right
   have:=aeq hw (show w<y by omega);obtain rfl:u=x:=NH;exact pw
theorem afA:XU (aag n b).length (eN (aag n b).length (aat n b))↔XU n (eN n b):=by
 have g:(aag n b).length<=n:=Hs (OM _ _) Ma;have d:∀v w,Jp (aat n b) v w->v<(aag n b).length:=fun v w h=>by
  obtain⟨c,h2,h3⟩:=(abR hR).1 h;have:=vert_lt hR h3;rwa[toV_ofV c]at this
 have GD:∀{m},(∀v w,Jp (aat n b) v w->v<m)->aV m (aat n b):=fun{m} h p i=>by
  obtain⟨q,e,rfl⟩:=Z6.1 i;obtain⟨c,h2,h3⟩:=hR q e;obtain⟨o,j⟩:=q;obtain⟨u,rfl⟩:=WA c;obtain⟨w,rfl⟩:=WA (show 0<=j by omega);have k:=(aaJ hR).2 ⟨w,.inl e⟩;have:=aeq k (show u<w by omega);have ha:Jp (aat n b) (abD n b (w:Int)) (abD n b (u:Int)):=.inr (by grind);have:=h _ _ ha;exact pw
 have r:=GD d;have f:aV n (aat n b):=by grind [Nat.lt_of_lt_of_le]
 have l:XU (aag n b).length (eN (aag n b).length (aat n b))↔XU n (eN n (aat n b)):=by
  have c:XU (aag n b).length (eN (aag n b).length (aat n b))↔XU (aag n b).length (eN n (aat n b)):=
   (by grind [XU.congr,vD])
  rw[c,<-XU.mores (by grind [vD]) (n-(aag n b).length),show(aag n b).length+(n-(aag n b).length)=n by omega]
 rw[l];have N:=ren_V n b;constructor
 .intro h
  refine h.ren (p:=ofV n b) (q:=toV n b) ⟨N.ql,N.pl,N.qp,N.pq⟩ fun v w=>?_;rw[vD hR,vD f];constructor
  .intro a;exact⟨(a.lt hR).1,(a.lt hR).2,adj_to hR a⟩
  .rintro ⟨c, h2, h3⟩
   have:=((abR hR).1 h3).2.2;rwa[abk c,abk h2]at this
 .intro h
  refine h.ren N fun v w=>?_;rw[vD hR,vD f];exact abR hR
end
section
variable {n : Nat} {b : List Pr} (O : aeo n b)
include O
theorem aeo.bp {u w x y:Nat} (d:Jp b u w) (h2:Jp b x y):Pu b u x:=by
 have hR:=O.1.GD;have:=adg hR (fun p=>Pu b u p.1.toNat) (fun v a c ha e _=>?_) (H4 hR d) (H4 hR h2) (O.2.2 _ (H4 hR d) _ (H4 hR h2))
 .have c1:∀{v a},Jp b v a->Pu b v (GW v a).1.toNat:=fun{v a} h=>by
   rw[bj];rcases ahB v a with q|q
   .rw[Jj q];exact Pu.refl _ _
   .rw[ahI q];exact abu h
  have:=this▸c1 d;exact this.trans (c1 h2).symm
 .have c1:∀{v a},Jp b v a->Pu b v (GW v a).1.toNat:=fun{v a} h=>by
   rw[bj];rcases ahB v a with q|q
   .rw[Jj q];exact Pu.refl _ _
   .rw[ahI q];exact abu h
  exact(by grind [Cn.trans,Cn.symm])
theorem aeo.Bi {v a c:Nat} (ha:Jp b v a) (d:Jp b v c):Cn (wo v) b a c:=
 (dR O.1.GD ha d).1 (O.2.2 _ (H4 O.1.GD ha) _ (H4 O.1.GD d))
theorem aeo.two (A:2<=b.length):zW (aag n b).length (aat n b):=by
 have hR:=O.1.GD;have f:∀{v},v<(aag n b).length->v<n:=fun h=>V9 h (Hs (OM _ _) Ma);have back:∀{v},v<(aag n b).length->ofV n b v∈aag n b:=fun{v} h=>by
  have:ofV n b v=(aag n b)[v]:=by
   unfold ofV acw;rw[qH,Eh h,CA h];rfl
  rw[this];exact ZT h
 have d:∀{on on':Nat->Bool} {u w},(∀x,x<n->on x=false->on' (toV n b x)=false)->u<n->Cn on b u w->Cn on' (aat n b) (toV n b u) (toV n b w):=fun{on on' u w} q g h=>by
  induction h with
  |refl o=>exact .refl (q _ g o)
  |step _ a o r=>exact .step r (adj_to hR a) (by grind [Jp.lt])
 have h3:3<=(aag n b).length:=by
  have j:=ad6 O.1;have B:(aat n b).length=b.length:=by rw[aat,jz]
  refine qy fun k=>?_;have e:∀p∈aat n b,p=((0:Int),(1:Int)):=fun p s=>by
   have h:=j.GD p s;obtain⟨C,D⟩:=p;exact(by grind [Prod.ext])
  have l:0<(aat n b).length:=NH;have i:1<(aat n b).length:=NH;have:=DF.1 (Nl.1 j.q9) 0 1 l i WY;rw[e _ (ZT l),e _ (ZT i)]at this;simp at this
 have bp:∀u v,u<(aag n b).length->v<(aag n b).length->Pu (aat n b) u v:=fun u v g m=>by
  obtain⟨w,hw⟩:=(aaJ hR).1 (back g);obtain⟨y,t⟩:=(aaJ hR).1 (back m);have:=d (on:=offA) (on':=offA) pw (afz (f g)) (O.bp hw t);rwa[toV_ofV (f g),toV_ofV (f m)]at this
 refine⟨h3,(by grind [jt]),fun v ⟨a,c,ha,k,z⟩=>z ?_⟩;obtain⟨E,a1,i⟩:=(abR hR).1 ha;obtain⟨_,c1,h2⟩:=(abR hR).1 k;have:=d (on:=wo (ofV n b v)) (on':=wo v) (by grind [abk]) (afz a1) (O.Bi i h2);rwa[toV_ofV a1,toV_ofV c1]at this
theorem aeo.flat:aaV n b↔b.length<9\/XU n (eN n b):=by
 unfold aaV;rw[afA O.1.GD];by_cases c:b.length<9
 .exact pw
 .constructor
  .rintro (h | h)
   .exact .inl h
   .exact .inr h.2.2
  .rintro (h | h)
   .exact .inl h
   .exact .inr ⟨ad6 O.1,O.two NH,h⟩
end
theorem acb {n:Nat} {es a:List Pr} (hs:a.Sublist es) (h:aak n es):aak n a:=by
 have f:=h.1;have d:=f.sub hs;have hR:=f.GD;have i:=d.GD;refine(acp d).2 fun b hb=>(abc (aaQ d hb)).2 ?_;have O:=aaQ d hb;obtain⟨p,j,rfl⟩:=aaP.1 hb;have hB:abb n es (cQ n es p)∈vq n es:=by grind [aaP]
 have g:=aaQ f hB;have sub:(abb n a (cQ n a p)).Sublist (abb n es (cQ n es p)):=by
  have e:abb n a (cQ n a p)=(a.filter fun q=>decide (cQ n es q=cQ n es p)).filter fun q=>decide (cQ n a q=cQ n a p):=by
   rw[qk];refine j3 fun q l=>?_;by_cases c:cQ n a q=cQ n a p
   .rw[decide_eq_true c,decide_eq_true (by grind [key_mono])];rfl
   .rw[decide_eq_false c];rfl
  rw[e];exact eR.trans (hs.filter _)
 have hf:=(g.flat).1 (h.2 _ hB);refine O.flat.2 ?_;rcases hf with q|q
 .exact(by grind [List.Sublist.length_le])
 .refine .inr (q.less (fun v w k => ?_) (fun v w k => ?_))
  .rw [vD g.1.GD]
   exact((vD O.1.GD).1 k).imp (fun x=>sub.subset x) (fun x=>sub.subset x)
  .exact(vD O.1.GD).2 ((vD O.1.GD).1 k).symm
end Go.Fw
namespace Go.Fw
section
attribute [local irreducible] Kp MQ lU KO1 KO KN KX KE VK Kl ZJ TC aab
attribute [local irreducible] Jz JL vq cQ
open Go.Proofs
def ae1 (l:LA) (v:Value) (G:GM) (h:AHeap) (hg:GR h v G):AC Tryz.prog l 42 [v] h fun x h'=>RR (bX G/\G.n<=16/\G.es.length<=40) x/\Le h h':=by
 have i:=hg;obtain⟨e,es⟩:=G
 obtain⟨y,rfl,m⟩:=hg.open
 refine AC.vE ⟨Tryz.func42,rfl,WY⟩ Tryz.ntmps42 Tryz.results42 fun j=>?_;simp only[Br,Nat.reduceAdd];obtain⟨o,r,a,s,-,p⟩:=r8 (n:=e) j m
 generalize h.next=B at*
 have k:=p o (Le.refl _);have t:=fun g=>m.len g;refine Sk (XC r k.1) ?_;refine TC.intro PJ ⟨pE,rfl,WY⟩ (ak l _ _ o (i.le a)) ?_;rintro x h2 w2 ⟨⟨u,rfl,d⟩,l2⟩;have b:=p h2 l2;cases u with
 |false=>
  refine Uy ?_;exact⟨RR.f (fun q=>by cases d.2 q.1),a.trans l2⟩
 |true=>
 have w:=d.1 rfl;by_cases c:e<=16
 rotate_left
 .have dc : decide (e <= 16) = false := decide_eq_false c
  refine Sk (IX @Ii @Ip.eq_1 @XJ b.2.1 dc) ?_;exact⟨RR.f (fun q=>c q.2.1),a.trans l2⟩
 have dc:decide (e<=16)=true:=decide_eq_true c;refine Sk (adG @Ii @Di @Ip.eq_1 @XJ b.2.1 b.2.2 t dc) ?_;refine⟨⟨_,rfl,?_⟩,a.trans l2⟩;rw[decide_eq_true_eq];exact⟨fun q=>⟨w,c,NH⟩,fun q=>by have:=q.2.2;omega⟩
end
end Go.Fw
namespace Go.Fw
open Go.Proofs
theorem abw {l m:II} (a:l.Nodup) (h2:m.Nodup) (h:∀x,x∈l↔x∈m):l.Perm m:=by grind [List.perm_ext_iff_of_nodup]
theorem afB {π:Nat->Nat} {l:II} (nd:l.Nodup) (hi:∀a∈l,∀b∈l,π a=π b->a=b):(l.map π).Nodup:=by
 rw[si,wI];exact(by grind [List.Pairwise.imp_of_mem])
def abE (rows:AM) (v:Nat):II:=(rows.getD v []).map (·.toNat)
section
variable {n : Nat} {es fs : List Pr} {π : Nat → Nat}
theorem aai (hR:aV n es) {v w:Nat}:w∈abE (Zh n es) v↔Jp es v w:=by
 unfold abE;rw[Z6];constructor
 .rintro ⟨x, a, rfl⟩
  obtain⟨w,rfl,_⟩:=Ru hR a;exact(by grind [EW])
 .intro h;exact⟨(w:Int),(EW hR v w).2 h,Ma⟩
theorem abx (hR:aV n es) (hA:D3 es) (v:Nat):(abE (Zh n es) v).Nodup:=by
 unfold abE;rw[si,wI];refine(KW es hR hA v).imp_of_mem fun{x y} b c h=>?_;obtain⟨a,rfl,_⟩:=Ru hR b;omega
def aaX (rows:AM) (v:Nat):(abE rows v).length=(rows.getD v []).length:=by simp[abE]
variable (I : H9 n es fs π) (hA : D3 es) (hB : D3 fs)
include I hA hB
theorem ae2 {v:Nat} (b:v<n):(abE (Zh n fs) (π v)).Perm ((abE (Zh n es) v).map π):=by
 have lt:∀{w},w∈abE (Zh n es) v->w<n:=fun h=>(((aai I.r1).1 h).lt I.r1).2;refine abw (abx I.r2 hB _) (by grind [afB,abx,H9.r1,H9.inj]) fun x=>?_;rw[aai I.r2,Z6];constructor
 .intro h
  obtain⟨a,ha,rfl⟩:=I.surj x (h.lt I.r2).2;exact(by grind [aai,H9.r1,H9.Jp])
 .rintro ⟨a, ha, rfl⟩
  exact(by grind [H9.Jp,aai,H9.r1])
theorem abl {v:Nat} (a:v<n):((Zh n fs).getD (π v) []).length=((Zh n es).getD v []).length:=by rw[<-aaX,<-aaX,(ae2 I hA hB a).length_eq,jz]
theorem ae3:(aad (Zh n fs)).Perm ((aad (Zh n es)).map π):=by
 have nd:∀es:List Pr,(aad (Zh n es)).Nodup:=fun es=>VU.filter _;have cb:∀v,v<n->aaA (Zh n fs) (π v)=aaA (Zh n es) v:=by grind [aaA.eq_1,abl]
 have m1:=fun(es:List Pr) (v:Nat)=>show v∈aad (Zh n es)↔v<n/\aaA (Zh n es) v=true by rw[aad,aax,iy,Xq]
 refine abw (nd _) (afB (nd _) fun a ha b hb=>I.inj a b ((m1 _ _).1 ha).1 ((m1 _ _).1 hb).1) fun x=>?_;rw[m1,Z6];constructor
 .rintro ⟨c, h2⟩
  obtain⟨a,ha,rfl⟩:=I.surj x c;exact pw
 .rintro ⟨a, ha, rfl⟩
  obtain⟨c,h2⟩:=(m1 _ _).1 ha;exact(by grind [H9.lt])
theorem goS_iso {d:Nat×Nat} (v:Jp es d.1 d.2) (h2:((Zh n es).getD d.2 []).length=2):goS (Zh n fs) (π d.1,π d.2)=(π (goS (Zh n es) d).1,π (goS (Zh n es) d).2):=by
 have l1:=v.lt I.r1;have c:((Zh n fs).getD (π d.2) []).length=2:=by rw[abl I hA hB l1.2];exact h2
 obtain⟨a,b,e,ne,k1,k2,f⟩:=abg I.r1 hA h2;obtain⟨a',l,e',ne',g,h,i⟩:=abg I.r2 hB c;have j:=(k1.lt I.r1).2;have k:=(k2.lt I.r1).2;have ia:=(I.Jp d.2 a l1.2 j).2 k1;have ib:=(I.Jp d.2 b l1.2 k).2 k2;have inj:=I.inj;have hd:=f d.1 v.symm;unfold goS;rw[e,e'];simp only[pC,NC];rcases hd with hd|hd
 .rw [if_pos (show ((a : Int) = (d.1 : Int)) by omega)]
  split<;>simp<;>grind
 .rw [if_neg (show ¬ ((a : Int) = (d.1 : Int)) by omega)]
  split<;>simp<;>grind
theorem agi (b:n<=200) {c v:Nat} (a:Jp es c v) (e:((Zh n es).getD c []).length≠2):aal (Zh n fs) (π c,π v)=(π (aal (Zh n es) (c,v)).1,(aal (Zh n es) (c,v)).2):=by
 obtain⟨K,j,h2,h3,f⟩:=acu I.r1 hA b a e;have ha:=aa7 I.r1 hA (d:=(c,v)) a;have st:∀i,i<=K->it (goS (Zh n fs)) i (π c,π v)=(π (it (goS (Zh n es)) i (c,v)).1,π (it (goS (Zh n es)) i (c,v)).2):=by
  intro i
  induction i with
  |zero=>intro _;rfl
  |succ i g=>
   intro hi;show goS (Zh n fs) (it (goS (Zh n fs)) i (π c,π v))=_;rw[g NH];exact goS_iso I hA hB (ha i fun q k=>h2 q NH) (h2 i NH)
 have h:∀i,i<=K->(it (goS (Zh n es)) i (c,v)).2<n:=fun i hi=>((ha i pw).lt I.r1).2;rw[f,aal,afn _ K 40001 _ _ NH (by grind [abl]) (by rw[st K (qL0 _),abl I hA hB pw];exact h3),st K (qL0 _),XJ]
omit I hA hB in
theorem aaR (rows:AM) (cs:II):aaj rows cs=cs.flatMap fun c=>(abE rows c).map fun w=>(c,w):=by simp[aaj,abE,Function.comp_def]
omit I hA hB in
theorem ad7 {α β:Type} {f g:α->List β} {l:List α} (h:∀a∈l,(f a).Perm (g a)):(l.flatMap f).Perm (l.flatMap g):=by
 induction l with
 |nil=>exact .refl _
 |cons a l b=>
  exact(by grind [List.Perm.append])
def ae4 {cs a:II} (e:∀c∈cs,c<n) (f:a.Perm (cs.map π)):(aaj (Zh n fs) a).Perm ((aaj (Zh n es) cs).map fun d=>(π d.1,π d.2)):=by
 rw[aaR,aaR];refine(f.flatMap_right _).trans ?_;rw[List.flatMap_map,List.map_flatMap];refine ad7 fun c b=>?_;have:=(ae2 I hA hB (e c b)).map fun w=>(π c,w);rw[b7]at this;rw[b7];exact this
end
end Go.Fw
namespace Go.Fw
open Go.Proofs
theorem acy {α:Type} [BEq α] [LawfulBEq α] {ks:List α} (nd:ks.Nodup):∀L:List α,(ks.map fun k=>L.count k).sum<=L.length
 |[]=>by
  have:∀l:List α,(l.map fun k=>([]:List α).count k).sum=0:=fun l=>by
   induction l with
   |nil=>rfl
   |cons a l b=>rw[mJ,MY,b];rfl
  rw[this];exact Og _
 |x::L=>by
  have b:=acy nd L;have one:∀l:List α,l.Nodup->(l.map fun k=>(x::L).count k).sum<=(l.map fun k=>L.count k).sum+1/\(x∉l->(l.map fun k=>(x::L).count k).sum=(l.map fun k=>L.count k).sum):=fun l=>by
   induction l with
   |nil=>intro _;exact pw
   |cons a l b=>
    intro nd;obtain⟨c,nl⟩:=aaf.1 nd;obtain⟨d,h2⟩:=b nl;simp only[mJ,MY,ahD];by_cases e:x=a
    .subst e
     have:=h2 c;simp only[ahD]at this;simp only[beq_self_eq_true,if_true];exact(by grind [List.mem_cons_self])
    .have e' : (x == a) = false := by simpa using e
     simp only[ahD]at d h2;rw[e'];simp only[adN,if_false,zx];exact(by grind [List.mem_cons_of_mem])
  have:=(one ks nd).1;rw[Uz];omega
def acz (rows:AM) (d:Nat×Nat):aaH rows d=GW d.1 (aal rows d).1:=rfl
def aaC {a b c d:Nat}:GW a b=GW c d↔(a=c/\b=d)\/(a=d/\b=c):=by rw[bj,bj,kc];omega
def Thr (W:Pr->Nat) (cs A B:II):Prop:=(A++B).Perm cs/\A.length=3/\B.length=3/\∀a∈A,∀b∈B,W (GW a b)=2
theorem Thr.swap {W:Pr->Nat} {cs A B:II} (T:Thr W cs A B):Thr W cs B A:=
 ⟨afM.trans T.1,T.2.2.1,T.2.1,fun b hb a ha=>by rw[so];exact T.2.2.2 a ha b hb⟩
theorem Thr.zero {L:List Pr} {cs A B:II} (nd:cs.Nodup) (T:Thr (fun p=>L.count p) cs A B) (t:L.length<=18) {p:Pr} (u:∀a∈A,∀b∈B,p≠GW a b):L.count p=0:=by
 obtain⟨g,h2,h3,v⟩:=T;have c:=(g.nodup_iff).2 nd;rw[AE]at c;obtain⟨nA,nB,h⟩:=c;have i:(A.flatMap fun a=>B.map fun b=>GW a b).Nodup:=by
  rw[si,Po];refine⟨fun a ha=>?_,?_⟩
  .rw [wI]
   exact(by grind [ab6])
  .refine (si.1 nA).imp_of_mem fun {a a'} ha mi ne x j y m e => ?_
   obtain⟨b,hb,rfl⟩:=Z6.1 j;obtain⟨n,sZ,rfl⟩:=Z6.1 m;rcases aaC.1 e with⟨q,-⟩|⟨q,-⟩
   .exact ne q
   .exact h a ha n sZ q
 have o:(p::A.flatMap fun a=>B.map fun b=>GW a b).Nodup:=by grind
 have:=acy o L;rw[mJ,MY]at this;have w:((A.flatMap fun a=>B.map fun b=>GW a b).map fun k=>L.count k).sum=18:=by
  have r:∀a∈A,((B.map fun b=>GW a b).map fun k=>L.count k).sum=6:=fun a ha=>by
   rw[b7];have:∀l:II,(∀b∈l,b∈B)->(l.map ((fun k=>L.count k)∘fun b=>GW a b)).sum=2*l.length:=by
    intro l
    induction l with
    |nil=>intro _;rfl
    |cons b l d=>
     intro f;have h2:L.count (GW a b)=2:=pw;rw[mJ,MY,d pw];simp only[Function.comp,h2,Uz];omega
   rw[this B fun b hb=>hb,h3]
  have s:∀l:II,(∀a∈l,a∈A)->((l.flatMap fun a=>B.map fun b=>GW a b).map fun k=>L.count k).sum=6*l.length:=by
   intro l
   induction l with
   |nil=>intro _;rfl
   |cons a l d=>
    intro f;rw[U0,bC,ahL,r a (f a Ma),d pw,Uz];omega
  rw[s A fun a ha=>ha,h2]
 omega
theorem acd {L:List Pr} {cs:II} (nd:cs.Nodup) (s:cs.length=6) (ha:cs.Pairwise (·<·)) (t:L.length<=18):aa1 (fun p=>L.count p) cs=true↔∃A B,Thr (fun p=>L.count p) cs A B:=by
 have hf:cs.headD 0∈cs:=by
  cases cs with
  |nil=>cases s
  |cons a l=>simp
 have hle:∀c∈cs,cs.headD 0<=c:=fun c g=>by
  cases cs with
  |nil=>cases g
  |cons a l=>
   rcases EL.1 g with rfl|q
   .exact qL0 _
   .exact(by grind [List.pairwise_cons])
 have u:aa1 (fun p=>L.count p) cs=((cs.filter fun(c:Nat)=>L.count (((cs.headD 0:Nat):Int),(c:Int))==0).length==3&&!(cs.filter fun(c:Nat)=>L.count (((cs.headD 0:Nat):Int),(c:Int))!=0).contains (cs.headD 0)&&abh (fun p=>L.count p) (cs.filter fun(c:Nat)=>L.count (((cs.headD 0:Nat):Int),(c:Int))==0) (cs.filter fun(c:Nat)=>L.count (((cs.headD 0:Nat):Int),(c:Int))!=0)):=rfl;rw[u];generalize cs.headD 0=f at*;have pf:∀c∈cs,(((f:Nat):Int),((c:Nat):Int))=GW f c:=by grind [bj]
 have v:cs.filter (fun(c:Nat)=>L.count ((f:Int),(c:Int))==0)=cs.filter fun c=>decide (L.count (GW f c)=0):=j3 pw;have w:cs.filter (fun(c:Nat)=>L.count ((f:Int),(c:Int))!=0)=cs.filter fun c=>!decide (L.count (GW f c)=0):=j3 fun c g=>by rw[pf c g];rfl
 rw[v,w];have d:(cs.filter (fun c=>decide (L.count (GW f c)=0))++cs.filter fun c=>!decide (L.count (GW f c)=0)).Perm cs:=ahz _ _;constructor
 .intro h
  rw[Lm,Lm]at h;obtain⟨⟨x,h2⟩,h3⟩:=h;have l3:(cs.filter fun c=>decide (L.count (GW f c)=0)).length=3:=by simpa using x
  have ls:=d.length_eq;rw[j9]at ls;refine⟨_,_,d,l3,NH,fun a j b k=>?_⟩;have:=ff.1 (ff.1 h3 a j) b k;rw[ac0]at this;rcases this with q|q
  .have e : a = b := by simpa using q
   subst e;have y:=(aax.1 j).2;have o:=(aax.1 k).2;rw[y]at o;cases o
  .exact of_decide_eq_true q
 .rintro ⟨A, B, T⟩
  have go:∀A B,Thr (fun p=>L.count p) cs A B->f∈A->((cs.filter fun c=>decide (L.count (GW f c)=0)).length==3&&!(cs.filter fun c=>!decide (L.count (GW f c)=0)).contains f&&abh (fun p=>L.count p) (cs.filter fun c=>decide (L.count (GW f c)=0)) (cs.filter fun c=>!decide (L.count (GW f c)=0)))=true:=fun A B T i=>by
   have m:=(T.1.nodup_iff).2 nd;rw[AE]at m;obtain⟨nA,nB,n⟩:=m;have mem:∀c,c∈cs↔c∈A\/c∈B:=fun c=>by rw[<-T.1.mem_iff,qL7]
   have C:∀c∈A,L.count (GW f c)=0:=fun c g=>T.zero nd t fun a ha b hb e=>by
    rcases aaC.1 e with⟨-,q⟩|⟨q,-⟩
    .exact n c g b hb q
    .exact n f i b hb q
   have z:∀c∈B,L.count (GW f c)≠0:=fun c g e=>by
    have:L.count (GW f c)=2:=T.2.2.2 f i c g;omega
   have r:(cs.filter fun c=>decide (L.count (GW f c)=0)).Perm A:=abw (nd.filter _) nA fun c=>by
    rw[aax,mem,decide_eq_true_eq];exact⟨pw,pw⟩
   have pB:(cs.filter fun c=>!decide (L.count (GW f c)=0)).Perm B:=abw (nd.filter _) nB fun c=>by
    rw[aax,mem,agX,decide_eq_false_iff_not];exact⟨pw,pw⟩
   rw[Lm,Lm];refine⟨⟨by rw[r.length_eq,T.2.1];rfl,?_⟩,?_⟩
   .rw [agX, agW]
    intro h;have:=pB.mem_iff.1 (dU.1 h);exact n f i f this rfl
   .refine ff.2 fun a ha => ff.2 fun b hb => ?_
    rw[ac0];right;have:L.count (GW a b)=2:=T.2.2.2 a (r.mem_iff.1 ha) b (pB.mem_iff.1 hb);exact decide_eq_true this
  rcases(T.1.mem_iff.2 hf |> qL7.1)with q|q
  .exact go A B T q
  .exact go B A T.swap q
section
variable {es fs : List Pr} {π : Nat → Nat} (I : H9 200 es fs π) (hA : D3 es) (hB : D3 fs)
include I hA hB
omit hA hB in
theorem ae5 {cs:II} (b:∀c∈cs,c<200/\((Zh 200 es).getD c []).length≠2) {d:Nat×Nat} (hd:d∈aaj (Zh 200 es) cs):Jp es d.1 d.2/\((Zh 200 es).getD d.1 []).length≠2/\d.1∈cs:=by
 rw[aaR,Yi]at hd;obtain⟨c,a,hd⟩:=hd;obtain⟨w,hw,rfl⟩:=Z6.1 hd;exact(by grind [aai,H9.r1])
omit hB in
theorem oth_lt {d:Nat×Nat} (h:Jp es d.1 d.2) (a:((Zh 200 es).getD d.1 []).length≠2):(aal (Zh 200 es) d).1<200:=by
 obtain⟨K,e,h2,h3,b⟩:=acu I.r1 hA (qL0 _) (c:=d.1) (v:=d.2) h a;have:=aa7 I.r1 hA (d:=(d.1,d.2)) h K h2;rw[show d=(d.1,d.2)from rfl,b];exact(this.lt I.r1).2
def strN_iso {cs a:II} (b:∀c∈cs,c<200/\((Zh 200 es).getD c []).length≠2) (e:a.Perm (cs.map π)):aaU (Zh 200 fs) a=aaU (Zh 200 es) cs:=by
 have h:=((ae4 I hA hB (fun c h=>(b c h).1) e).map fun d=>(aal (Zh 200 fs) d).2+1).sum_nat;unfold aaU;rw[h,b7];refine congrArg List.sum (Qn fun d hd=>?_);obtain⟨f,h2,-⟩:=ae5 I b hd;have:=agi I hA hB (qL0 _) (c:=d.1) (v:=d.2) f h2;simp only[Function.comp,this]
def ae6 {cs f:II} (g:∀c∈cs,c<200/\((Zh 200 es).getD c []).length≠2) (j:f.Perm (cs.map π)) {a b:Nat} (ha:a<200) (hb:b<200):aaI (Zh 200 fs) f (GW (π a) (π b))=aaI (Zh 200 es) cs (GW a b):=by
 have h:=((ae4 I hA hB (fun c h=>(g c h).1) j).map (aaH (Zh 200 fs))).count_eq (GW (π a) (π b));unfold aaI;rw[h,b7,List.count,ahE,List.count,ahE];refine List.countP_congr fun d hd=>?_;obtain⟨i,h2,h3⟩:=ae5 I g hd;have e:=agi I hA hB (qL0 _) (c:=d.1) (v:=d.2) i h2;have l1:=(g d.1 h3).1;have l2:=oth_lt I hA i h2;have inj:∀{x y},x<200->y<200->(π x=π y↔x=y):=fun k l=>⟨I.inj _ _ k l,fun q=>by rw[q]⟩;simp only[Function.comp,acz,e,beq_iff_eq];rw[aaC,aaC,inj l1 ha,inj l2 hb,inj l1 hb,inj l2 ha]
theorem each_iso {cs d:II} (e:∀c∈cs,c<200/\((Zh 200 es).getD c []).length≠2) (g:d.Perm (cs.map π)):abh (aaI (Zh 200 fs) d) d d=abh (aaI (Zh 200 es) cs) cs cs:=by
 rw[abz];unfold abh;simp only[ff,ac0,beq_iff_eq];have W:=fun{a b}=>ae6 I hA hB e g (a:=a) (b:=b);constructor
 .intro h a ha b hb
  have:=h (π a) (by grind) (π b) (by grind);have w:=W (e a ha).1 (e b hb).1;rcases this with q|q
  .exact .inl (I.inj _ _ (e a ha).1 (e b hb).1 q)
  .right
   have f:aaI (Zh 200 fs) d (GW (π a) (π b))=2:=q;rw[w]at f;exact f
 .intro h a' mi i sZ
  obtain⟨a,ha,rfl⟩:=Z6.1 (g.mem_iff.1 mi);obtain⟨b,hb,rfl⟩:=Z6.1 (g.mem_iff.1 sZ);have w:=W (e a ha).1 (e b hb).1;rcases h a ha b hb with q|q
  .exact .inl (by rw[q])
  .right
   have f:aaI (Zh 200 es) cs (GW a b)=2:=q;rw[<-w]at f;exact f
end
def ady (rows:AM):(aad rows).Pairwise (·<·):=pz.filter _
def aby {es:List Pr} {c:Nat} (h:c∈aad (Zh 200 es)):c<200/\((Zh 200 es).getD c []).length≠2:=by
 rw[aad,aax,iy,Xq]at h;refine⟨h.1,fun e=>?_⟩;have:=h.2;rw[aaA,e]at this;cases this
def H9.flip {n:Nat} {es fs:List Pr} {π:Nat->Nat} (I:H9 n es fs π):∃σ,H9 n fs es σ:=by
 obtain⟨σ,h,-⟩:=I.inv;exact⟨σ,h⟩
theorem agj {es fs:List Pr} {π:Nat->Nat} (I:H9 200 es fs π) (hA:D3 es) (hB:D3 fs) {cs d:II} (e:∀c∈cs,c<200/\((Zh 200 es).getD c []).length≠2) (f:d.Perm (cs.map π)) {A B:II} (T:Thr (aaI (Zh 200 es) cs) cs A B):Thr (aaI (Zh 200 fs) d) d (A.map π) (B.map π):=by
 obtain⟨g,h2,h3,h⟩:=T;refine⟨?_,by rw[jz];exact h2,by rw[jz];exact h3,fun a' mi i sZ=>?_⟩
 .rw[<-bC];exact(g.map π).trans f.symm
 .obtain ⟨a, ha, rfl⟩ := Z6.1 mi
  obtain⟨b,hb,rfl⟩:=Z6.1 sZ;rw[ae6 I hA hB e f (e a (by grind)).1 (e b (by grind)).1];exact h a ha b hb
theorem kind_iso {es fs:List Pr} {π:Nat->Nat} (I:H9 200 es fs π) (hA:D3 es) (hB:D3 fs) (v:fs.length=es.length):aaN fs=aaN es:=by
 have b:=ae3 I hA hB;have d:(Zh 200 fs).any aaW=(Zh 200 es).any aaW:=by
  have half:∀{es fs:List Pr} {π:Nat->Nat},H9 200 es fs π->D3 es->D3 fs->(Zh 200 es).any aaW=true->(Zh 200 fs).any aaW=true:=fun{es fs π} I hA hB h=>by
   obtain⟨r,w,hb⟩:=rY.1 h;obtain⟨i,hi,rfl⟩:=U9.1 w;have f:i<200:=by rw[Xq]at hi;exact hi
   have t:π i<(Zh 200 fs).length:=by rw[Xq];exact I.lt i f
   have e:=abl I hA hB f;rw[D4 t,D4 hi]at e;refine rY.2 ⟨_,ZT t,?_⟩;unfold aaW at hb ⊢;rw[e];exact hb
  obtain⟨σ,J⟩:=I.flip;rw[abz];exact pw
 have hlen:(aad (Zh 200 fs)).length=(aad (Zh 200 es)).length:=by rw[b.length_eq,jz]
 have n:∀c∈aad (Zh 200 es),_:=fun c h=>aby h;have u:∀E,(E=4\/E=3/\(aad (Zh 200 es)).length=6)->aa8 (Zh 200 fs) (aad (Zh 200 fs)) fs.length E=aa8 (Zh 200 es) (aad (Zh 200 es)) es.length E:=fun E x=>by
  have g:(aad (Zh 200 fs)).any (fun c=>((Zh 200 fs).getD c []).length !=E)=(aad (Zh 200 es)).any fun c=>((Zh 200 es).getD c []).length !=E:=by
   rw[abz,rY,rY];constructor
   .rintro ⟨c', o, q⟩
    obtain⟨c,p,rfl⟩:=Z6.1 (b.mem_iff.1 o);exact(by grind [abl])
   .rintro ⟨c, p, q⟩
    exact(by grind [abl])
  unfold aa8;rw[g,strN_iso I hA hB n b,v,each_iso I hA hB n b];by_cases ca:(aad (Zh 200 es)).any (fun c=>((Zh 200 es).getD c []).length !=E)=true
  .rw[if_pos ca,if_pos ca]
  rcases x with rfl|⟨rfl,k⟩
  .rfl
  have j:∀c∈aad (Zh 200 es),((Zh 200 es).getD c []).length=3:=by grind [List.any_eq_true]
  have a:∀c∈aad (Zh 200 fs),((Zh 200 fs).getD c []).length=3:=by grind [abl]
  have y:=acd (L:=(aaj (Zh 200 es) (aad (Zh 200 es))).map (aaH (Zh 200 es))) (cs:=aad (Zh 200 es)) (VU.filter _) k (ady _) (by rw[jz,abp j,k];decide);have z:=acd (L:=(aaj (Zh 200 fs) (aad (Zh 200 fs))).map (aaH (Zh 200 fs))) (cs:=aad (Zh 200 fs)) (VU.filter _) (hlen.trans k) (ady _) (by rw[jz,abp a,hlen,k];decide);have s:aa1 (aaI (Zh 200 fs) (aad (Zh 200 fs))) (aad (Zh 200 fs))=aa1 (aaI (Zh 200 es) (aad (Zh 200 es))) (aad (Zh 200 es)):=by
   rw[abz];refine z.trans (Iff.trans ?_ y.symm);constructor
   .rintro ⟨A, B, T⟩
    obtain⟨σ,J⟩:=I.flip;exact⟨_,_,agj J hB hA (fun c h=>aby h) (ae3 J hB hA) T⟩
   .rintro ⟨A, B, T⟩
    exact⟨_,_,agj I hA hB n b T⟩
  rw[s]
 rw[aa9,aa9,d,hlen];by_cases l:(aad (Zh 200 es)).length=5
 .rw[if_pos l,if_pos l,u 4 (.inl rfl)]
 rw[if_neg l,if_neg l];by_cases m:(aad (Zh 200 es)).length=6
 .rw[if_pos m,if_pos m,u 3 pw]
 .rw[if_neg m,if_neg m]
end Go.Fw
namespace Go.Fw
section
attribute [local irreducible] Kp MQ lU KO1 KO KN KX KE VK Kl ZJ TC aab
attribute [local irreducible] Jz JL vq cQ aaN
open Go.Proofs
def someM:List Pr->List Bool->List Pr
 |p::es,b::bs=>if b then p::someM es bs else someM es bs
 |_,_=>[]
def acA:∀(es:List Pr) (bs:List Bool),(someM es bs).Sublist es
 |[],_=>by simp[someM]
 |p::es,[]=>by simp[someM]
 |p::es,b::bs=>by
  have:=acA es bs;unfold someM;cases b
  .exact this.cons p
  .exact this.cons_cons p
def adz:∀(es:List Pr) (bs:List Bool) (i:Nat) (hi:i<es.length),someM (es.take (i+1)) bs=someM (es.take i) bs++if bs.getD i false=true then[es[i]]else[]
 |[],_,_,hi=>by simp at hi
 |p::es,[],i,hi=>by
  have a:∀l:List Pr,someM l []=[]:=fun l=>by cases l<;>rfl
  rw[a,a,if_neg Ma];rfl
 |p::es,b::bs,0,hi=>by
  cases b<;>simp[someM]
 |p::es,b::bs,i+1,hi=>by
  have c:=adz es bs i (by simpa using hi);simp only[abW,someM];rw[NC,qL229];cases b
  .simpa using c
  .simp only [if_true, WZ]
   rw[c]
def afC (L:LA) (v bv:Value) (G:GM) (bs:List Bool) (h:AHeap) (hg:GR h v G) (hb:RL sJ h bv bs) (M:G.es.length<=1000):
  AC Tryz.prog L 45 [v,bv] h fun x h'=>GP h' x (someM G.es bs)/\Le h h'/\Z2 h x:=by
 have N:=hg;obtain⟨O,es⟩:=G
 obtain⟨Q,rfl,m⟩:=hg.open
 simp only at M;refine AC.vE ⟨Tryz.func45,rfl,WY⟩ Tryz.ntmps45 Tryz.results45 fun q=>?_;simp only[Br,Nat.reduceAdd];obtain⟨H,R,r,S,-,T⟩:=r8 (n:=O) q m
 generalize h.next=B at*
 have s:=T H (Le.refl _);have U:=fun g=>m.len g;have lB:=fun g=>hb.len (P:=Tryz.prog) eY g;refine Sk (bG R @Di @Ip.eq_1 @XJ s.2.2 U) ?_;refine lIn (fun k fr t=>∃(i:Nat) (j:Value),k=es.length-i/\i<=es.length/\fr=mkF [(1,bv),(5,j),(9,Q),(10,.int .i64 es.length),(11,.int .i64 i)]/\GP t j (someM (es.take i) bs)/\Le h t/\Z2 h j) ⟨0,_,rfl,Og _,rfl,by simpa[someM]using GP.nil H,r,fun b hb=>by simp[blk]at hb⟩ ?_;rintro k fr t u ⟨i,j,rfl,hi,rfl,g,w,ap⟩;refine Uy ?_;refine Kl.intro (fun I=>?_) (fun hf=>?_)
 rotate_left
 .have y : es.length <= i := vp hf
  rw[yM y]at g;refine Uy ?_;exact⟨g,w,ap⟩
 have a:i<es.length:=CC I;clear I;have z:=CA a;have d:=adz es bs i a;have A:(someM (es.take i) bs).length+1<=100000:=by
  have:=(acA (es.take i) bs).length_le;rw[PN]at this;omega
 generalize es[i]=p at*;have ad:=m.addr (k:=.i64) i a;have ld:=(m.le w).load z;obtain⟨V,W,C,D,l6,X,o6⟩:=Ut u p;have aw:=aaa i NH;have f:=w.trans l6;have l:=g.le l6;have E:=uM o6;by_cases c:i<bs.length
 rotate_left
 .have o : ((i : Int) < (bs.length : Int)) = False := eq_false NH
  have dc:decide ((i:Int)<(bs.length:Int))=false:=decide_eq_false NH;have e:bs.getD i false=false:=by rw[qH,Ry NH];rfl
  rw[e,if_neg Ma,wV]at d;rw[<-d]at l;simp only[HO,Nat.reduceLT,↓reduceIte,Nat.reduceEqDiff,reduceCtorEq,ad,ld,C,D,lB,o,dc,aw];exact lgA (JS a) ⟨i+1,j,rfl,a,rfl,l,f,ap⟩
 have o:((i:Int)<(bs.length:Int))=True:=eq_true NH;have dc:decide ((i:Int)<(bs.length:Int))=true:=decide_eq_true NH;have J:aIndexAddr Tryz.prog 59 bv (.int .i64 (i:Int))=some (.pointer (some (elemAddr bv i))):=hb.LB i c;have ol:aload Tryz.prog W 4 (elemAddr bv i)=some (.bool (bs.getD i false)):=by rw[(hb.le Nn.sJ f).W7 i c,D4 c]
 cases e:bs.getD i false with
 |false=>
  rw[e]at ol;rw[e,if_neg Ma,wV]at d;rw[<-d]at l;simp only[HO,Nat.reduceLT,↓reduceIte,Nat.reduceEqDiff,reduceCtorEq,ad,ld,C,D,lB,o,dc,J,ol,aw];exact lgA (JS a) ⟨i+1,j,rfl,a,rfl,l,f,ap⟩
 |true=>
  rw[e]at ol;rw[e,if_pos rfl]at d;obtain⟨v',h7,h8,Y,Z,K,w8,l7,F,-⟩:=l.push X p A;obtain⟨l8,a8⟩:=F h f ap;rw[<-d]at K;simp only[HO,Nat.reduceLT,↓reduceIte,Nat.reduceEqDiff,reduceCtorEq,ad,ld,C,D,lB,o,dc,J,ol,E,Y,Z,aw];exact lgA (JS a) ⟨i+1,v',rfl,a,rfl,K,l8,a8⟩
end
end Go.Fw
namespace Go.Fw
open Go.Proofs
section
variable {n : Nat} {es : List Pr} (hR : aV n es) (hA : D3 es)
include hR hA
theorem abN {x y z:Nat} (h2:((Zh n es).getD y []).length=2) (d:Jp es y x) (g:Jp es y z) (ne:x≠z):goS (Zh n es) (x,y)=(y,z):=by
 obtain⟨a,b,e,nab,h3,h,f⟩:=abg hR hA h2;have k1:=f x d;unfold goS;rw[e];simp only[pC,NC];rcases k1 with rfl|rfl
 .grind
 .grind
theorem acB {x y:Nat} (h2:((Zh n es).getD y []).length=2) (d:Jp es y x):∃z,z≠x/\Jp es y z/\∀w,Jp es y w->w=x\/w=z:=by
 obtain⟨a,b,e,nab,h3,g,f⟩:=abg hR hA h2;rcases f x d with rfl|rfl
 .exact pw
 .exact pw
def abf (n:Nat) (es:List Pr) (d:Nat×Nat) (K:Nat) (e:Nat×Nat):Prop:=it (goS (Zh n es)) K d=e/\∀i,i<K->((Zh n es).getD (it (goS (Zh n es)) i d).2 []).length=2
omit hR hA in
theorem abf.trans {d e f:Nat×Nat} {K M:Nat} (h:abf n es d K e) (k:abf n es e M f):abf n es d (K+M) f:=by
 obtain⟨rfl,h2⟩:=h;obtain⟨rfl,k2⟩:=k;refine⟨by rw[Nat.add_comm,qu],fun i hi=>?_⟩;by_cases c:i<K
 .exact h2 i c
 .have := k2 (i - K) NH
  rwa[<-qu,show i-K+K=i by omega]at this
omit hR hA in
theorem abf.one {d e:Nat×Nat} (h:goS (Zh n es) d=e) (h2:((Zh n es).getD d.2 []).length=2):abf n es d 1 e:=
 ⟨h,fun i hi=>by rw[show i=0 by omega];exact h2⟩
theorem agk (a:n<=200) {c v:Nat} (b:Jp es c v) (hc:((Zh n es).getD c []).length≠2) {K:Nat} {e:Nat×Nat} (h:abf n es (c,v) K e) (g:((Zh n es).getD e.2 []).length≠2):aal (Zh n es) (c,v)=(e.2,K):=by
 obtain⟨d,i,h2,h3,f⟩:=acu hR hA a b hc;obtain⟨rfl,k2⟩:=h;rcases cJ K d with q|rfl|q
 .exact pw
 .exact f
 .exact pw
end
def abF (rows:AM) (cs:II):List (Nat×Nat):=(aaj rows cs).flatMap fun d=>(List.range ((aal rows d).2+1)).map fun i=>it (goS rows) i d
def acX (rows:AM) (cs:II):(abF rows cs).length=aaU rows cs:=by
 unfold abF aaU;simp
def ae7 (es:List Pr):List (Nat×Nat):=es.flatMap fun p=>[(p.1.toNat,p.2.toNat),(p.2.toNat,p.1.toNat)]
def ad8 (es:List Pr):(ae7 es).length=2*es.length:=by
 unfold ae7
 induction es with
 |nil=>rfl
 |cons p l a=>rw[U0,j9,a];simp;omega
theorem acC {es:List Pr} {x y:Nat} (h:Jp es x y):(x,y)∈ae7 es:=by
 unfold ae7;rw[Yi];rcases h with h|h
 .exact pw
 .exact pw
section
variable {es : List Pr} (hR : aV 200 es) (hA : D3 es) {cs : List Nat} (hc : ∀ c ∈ cs, c < 200 ∧ ((Zh 200 es).getD c []).length ≠ 2)
include hR hA hc
omit hA in
theorem abm {d:Nat×Nat} (hd:d∈aaj (Zh 200 es) cs):Jp es d.1 d.2/\((Zh 200 es).getD d.1 []).length≠2/\d.1∈cs:=by
 rw[aaR,Yi]at hd;obtain⟨c,a,hd⟩:=hd;obtain⟨w,hw,rfl⟩:=Z6.1 hd;exact(by grind [aai])
def abd {d:Nat×Nat} (hd:d∈aaj (Zh 200 es) cs):abf 200 es d (aal (Zh 200 es) d).2 (it (goS (Zh 200 es)) (aal (Zh 200 es) d).2 d)/\(it (goS (Zh 200 es)) (aal (Zh 200 es) d).2 d).2=(aal (Zh 200 es) d).1/\((Zh 200 es).getD (aal (Zh 200 es) d).1 []).length≠2:=by
 obtain⟨a,h2,-⟩:=abm hR hc hd;obtain⟨K,k1,k2,b,f⟩:=acu hR hA (qL0 _) (c:=d.1) (v:=d.2) a h2;have e:aal (Zh 200 es) d=((it (goS (Zh 200 es)) K (d.1,d.2)).2,K):=f;rw[e];exact⟨⟨rfl,k2⟩,rfl,b⟩
theorem agl {x:Nat×Nat} (h:x∈abF (Zh 200 es) cs):Jp es x.1 x.2:=by
 unfold abF at h;rw[Yi]at h;obtain⟨d,hd,h⟩:=h;obtain⟨i,hi,rfl⟩:=Z6.1 h;have hi:=iy.1 hi;exact aa7 hR hA (abm hR hc hd).1 i fun q a=>(abd hR hA hc hd).1.2 q NH
theorem afD (l:cs.Nodup):(abF (Zh 200 es) cs).Nodup:=by
 have nd:(aaj (Zh 200 es) cs).Nodup:=by
  rw[aaR,si,Po];refine⟨fun c _=>?_,l.imp fun h x g y k e=>?_⟩
  .rw [wI]
   exact(by grind [abx])
  .obtain ⟨w, -, rfl⟩ := Z6.1 g
   obtain⟨z,-,rfl⟩:=Z6.1 k;exact pw
 have key:∀d∈aaj (Zh 200 es) cs,∀f∈aaj (Zh 200 es) cs,∀i j,i<=j->i<=(aal (Zh 200 es) d).2->j<=(aal (Zh 200 es) f).2->it (goS (Zh 200 es)) i d=it (goS (Zh 200 es)) j f->i=j/\d=f:=by
  intro d hd f a i
  induction i with
  |zero=>
   intro j _ _ b e;rcases j with _|j
   .exact⟨rfl,e⟩
   .exfalso
    have m:d.1=(it (goS (Zh 200 es)) j f).2:=by grind [goS,it]
    have:=(abd hR hA hc a).1.2 j NH;rw[<-m]at this;exact(abm hR hc hd).2.1 this
  |succ i o=>
   intro j p hi b e;rcases j with _|j
   .omega
   have a1:=aa7 hR hA (abm hR hc hd).1 i fun q r=>(abd hR hA hc hd).1.2 q NH;have a2:=aa7 hR hA (abm hR hc a).1 j fun q r=>(abd hR hA hc a).1.2 q NH;have:=af5 hR hA a1.symm a2.symm ((abd hR hA hc hd).1.2 i NH) e;obtain⟨s,h2⟩:=o j NH NH NH this;exact pw
 unfold abF;rw[si,Po];refine⟨fun d hd=>?_,(si.1 nd).imp_of_mem fun{d f} hd a ne x g y k e=>?_⟩
 .rw [wI]
  refine K4 (fun{i j} hi b h e=>?_) pz;have b:=iy.1 b;have:=(key d hd d hd i j NH NH NH e).1;omega
 .obtain ⟨i, hi, rfl⟩ := Z6.1 g
  obtain⟨j,b,rfl⟩:=Z6.1 k;have hi:=iy.1 hi;have b:=iy.1 b;rcases ahB i j with q|q
  .exact pw
  .exact pw
theorem afE (a:cs.Nodup):aaU (Zh 200 es) cs<=2*es.length:=by
 rw[<-acX,<-ad8];exact tf (by grind [afD]) fun x b=>by grind [acC,agl]
def aer (b:cs.Nodup) (h:aaU (Zh 200 es) cs=2*es.length) {x y:Nat} (a:Jp es x y):(x,y)∈abF (Zh 200 es) cs:=by
 refine qy fun d=>?_;have:=tf (aaf.2 ⟨d,afD hR hA hc b⟩) (B:=ae7 es) fun z e=>by
  rcases EL.1 e with rfl|q
  .exact acC a
  .exact acC (agl hR hA hc q)
 rw[Uz,acX,ad8,h]at this;omega
end
end Go.Fw
namespace Go.Fw
open Go.Proofs
structure UpK (L L':List Pr) (a b v:Nat):Prop where
 r1:aV 200 L
 r2:aV 200 L'
 a1:D3 L
 a2:D3 L'
 ab:Jp L a b
 iso:∀w,¬Jp L v w
 up:∀x y,Jp L' x y↔upA (Jp L) a b v x y
 len:L'.length=L.length+1
def isU (a b:Nat) (d:Nat×Nat):Bool:=(d.1==a&&d.2==b)||(d.1==b&&d.2==a)
def aaF (a b v:Nat) (d:Nat×Nat):Nat×Nat:=if isU a b d then(d.1,v)else d
theorem aaK {a b x y:Nat}:isU a b (x,y)=true↔(x=a/\y=b)\/(x=b/\y=a):=by simp[isU]
theorem abO (a b v:Nat) (d:Nat×Nat):(aaF a b v d).1=d.1:=by unfold aaF;split<;>rfl
section
variable {L L' : List Pr} {a b v : Nat} (U : UpK L L' a b v)
include U
def UpK.nab:a≠b:=fun e=>by have:=U.ab;rw[e]at this;exact Xa U.r1 this
def UpK.nva:v≠a:=fun e=>U.iso b (e▸U.ab)
def UpK.nvb:v≠b:=fun e=>U.iso a (e▸U.ab.symm)
theorem UpK.nv {x y:Nat} (h:Jp L x y):x≠v/\y≠v:=by grind [UpK.iso,Jp.symm]
theorem UpK.row {x:Nat} (g:x≠v):(abE (Zh 200 L') x).Perm ((abE (Zh 200 L) x).map fun w=>(aaF a b v (x,w)).2):=by
 refine abw (abx U.r2 U.a2 _) (afB (abx U.r1 U.a1 _) fun p d q f e=>?_) fun w=>?_
 .have d := U.nv ((aai U.r1).1 d)
  have f:=U.nv ((aai U.r1).1 f);unfold aaF at e;by_cases c1:isU a b (x,p)=true<;>by_cases c2:isU a b (x,q)=true
  .rw[aaK]at c1 c2;omega
  .rw[if_pos c1,if_neg c2]at e;exact pw
  .rw[if_neg c1,if_pos c2]at e;exact absurd e d.2
  .rw[if_neg c1,if_neg c2]at e;exact e
 .rw [aai U.r2, U.up, Z6]
  have ab:=U.ab;constructor
  .rintro (⟨h, n1, i⟩ | ⟨h, -⟩ | ⟨rfl, h⟩)
   .refine ⟨w, (aai U.r1).2 h, ?_⟩
    unfold aaF;rw[if_neg (by rw[aaK];omega)]
   .exact absurd h g
   .rcases h with rfl | rfl
    .exact⟨b,(aai U.r1).2 ab,by unfold aaF;rw[if_pos (by grind [aaK])]⟩
    .exact⟨a,(aai U.r1).2 ab.symm,by unfold aaF;rw[if_pos (by grind [aaK])]⟩
  .rintro ⟨p, d, rfl⟩
   have d:=(aai U.r1).1 d;unfold aaF;split
   .rename_i c
    rw[aaK]at c;exact .inr (.inr ⟨rfl,c.imp (·.1) (·.1)⟩)
   .rename_i c
    rw[aaK]at c;exact .inl pw
theorem UpK.deg {x:Nat} (c:x≠v):((Zh 200 L').getD x []).length=((Zh 200 L).getD x []).length:=by rw[<-aaX,<-aaX,(U.row c).length_eq,jz]
theorem UpK.deg0:((Zh 200 L).getD v []).length=0:=by
 rw[<-aaX];rcases h:abE (Zh 200 L) v with _|⟨w,l⟩
 .rfl
 .exact absurd ((aai U.r1).1 (by grind [Zh])) (U.iso w)
theorem UpK.aeH:((Zh 200 L').getD v []).length=2:=by
 have:(abE (Zh 200 L') v).Perm [a,b]:=abw (abx U.r2 U.a2 _) (by simp[U.nab]) fun w=>by
  rw[aai U.r2,U.up];have c:=U.iso;have h2:=U.nva;have h3:=U.nvb;simp only[EL,EP,or_false];constructor
  .rintro (⟨h, -⟩ | ⟨-, h⟩ | ⟨-, h⟩)
   .exact absurd h (c w)
   .exact h
   .omega
  .intro h;exact .inr pw
 rw[<-aaX,this.length_eq];rfl
def UpK.sg {d:Nat×Nat} (hd:Jp L d.1 d.2):Jp L' (aaF a b v d).1 (aaF a b v d).2:=by
 obtain⟨x,y⟩:=d;have c:=(U.nv hd).1;have:=(U.row c).mem_iff.2 (Z6.2 ⟨y,(aai U.r1).2 hd,rfl⟩);rw[abO];exact(aai U.r2).1 this
theorem UpK.step {d:Nat×Nat} (hd:Jp L d.1 d.2) (h2:((Zh 200 L).getD d.2 []).length=2):
  abf 200 L' (aaF a b v d) (1+if isU a b d then 1 else 0) (aaF a b v (goS (Zh 200 L) d)):=by
 obtain⟨x,y⟩:=d;obtain⟨z,i,f,hw⟩:=acB U.r1 U.a1 h2 hd.symm;rw[abN U.r1 U.a1 h2 hd.symm f (uV i)];have ny:=(U.nv hd).2;have nx:=(U.nv hd).1;have j:=(U.nv f).2;have d2:((Zh 200 L').getD y []).length=2:=by rw[U.deg ny];exact h2
 have s1:=U.sg (d:=(y,z)) f;have k:aaF a b v (y,z)=(y,(aaF a b v (y,z)).2):=by grind [abO]
 rw[k]at s1 ⊢;by_cases c:isU a b (x,y)=true
 .have nb : ¬ isU a b (y, z) = true := by rw [aaK] at c ⊢; omega
  have s2:=U.sg (d:=(x,y)) hd;have g:aaF a b v (x,y)=(x,v):=by unfold aaF;rw[if_pos c]
  have e3:(aaF a b v (y,z)).2=z:=by unfold aaF;rw[if_neg nb]
  rw[g]at s2 ⊢;rw[e3]at s1 ⊢;rw[if_pos c];have h:Jp L' y v:=(U.up _ _).2 (.inr (by grind [aaK]));refine(abf.one (e:=(v,y)) ?_ U.aeH).trans (abf.one ?_ d2)
  .exact abN U.r2 U.a2 U.aeH s2.symm h.symm (fun e=>by subst e;exact Xa U.r1 hd)
  .exact(by grind [abN,UpK.r2,UpK.a2])
 .have g : aaF a b v (x, y) = (x, y) := by unfold aaF; rw [if_neg c]
  have s2:=U.sg (d:=(x,y)) hd;rw[g]at s2 ⊢;rw[if_neg c];refine abf.one ?_ d2;refine abN U.r2 U.a2 d2 s2.symm s1 fun e=>?_;unfold aaF at e;split at e
  .exact nx e
  .exact i e.symm
def abY (a b:Nat) (L:List Pr) (d:Nat×Nat) (K:Nat):Nat:=((List.range K).map fun i=>it (goS (Zh 200 L)) i d).countP (isU a b)
omit U in
theorem adA (d:Nat×Nat) (K:Nat):abY a b L d (K+1)=abY a b L d K+if isU a b (it (goS (Zh 200 L)) K d)then 1 else 0:=by
 unfold abY;rw[Bx,bC,List.countP_append];simp[agZ]
theorem UpK.run {d:Nat×Nat} (hd:Jp L d.1 d.2) (K:Nat):(∀i,i<K->((Zh 200 L).getD (it (goS (Zh 200 L)) i d).2 []).length=2)->abf 200 L' (aaF a b v d) (K+abY a b L d K) (aaF a b v (it (goS (Zh 200 L)) K d)):=by
 induction K with
 |zero=>exact fun _=>⟨rfl,(by grind [abY])⟩
 |succ K c=>
  intro h;have:=(c fun i hi=>h i NH).trans (U.step (aa7 U.r1 U.a1 hd K fun i hi=>h i NH) (h K NH));rw[adA]
  rwa[show K+abY a b L d K+(1+if isU a b (it (goS (Zh 200 L)) K d)=true then 1 else 0)=K+1+(abY a b L d K+if isU a b (it (goS (Zh 200 L)) K d)=true then 1 else 0) by omega]at this
theorem UpK.Wn {cs:II} (k:∀c∈cs,c<200/\((Zh 200 L).getD c []).length≠2) {d:Nat×Nat} (hd:d∈aaj (Zh 200 L) cs):
  aal (Zh 200 L') (aaF a b v d)=((aal (Zh 200 L) d).1,(aal (Zh 200 L) d).2+abY a b L d ((aal (Zh 200 L) d).2+1)):=by
 obtain⟨f,h2,-⟩:=abm U.r1 k hd;obtain⟨⟨-,k2⟩,l,m⟩:=abd U.r1 U.a1 k hd;generalize n:(aal (Zh 200 L) d).2=K at*;have r:=U.run f K k2;have g:=aa7 U.r1 U.a1 f K k2;rw[adA];generalize it (goS (Zh 200 L)) K d=e at*;obtain⟨x,y⟩:=e;subst l;have nv:=U.nv g;have i:((Zh 200 L').getD (aal (Zh 200 L) d).1 []).length≠2:=by rw[U.deg nv.2];exact m
 have r2:abf 200 L' (aaF a b v d) (K+abY a b L d K+if isU a b (x,(aal (Zh 200 L) d).1)=true then 1 else 0) ((if isU a b (x,(aal (Zh 200 L) d).1)=true then v else x),(aal (Zh 200 L) d).1):=by
  by_cases c:isU a b (x,(aal (Zh 200 L) d).1)=true
  .rw [if_pos c, if_pos c]
   have h:aaF a b v (x,(aal (Zh 200 L) d).1)=(x,v):=by unfold aaF;rw[if_pos c]
   rw[h]at r;have s2:=U.sg (d:=(x,(aal (Zh 200 L) d).1)) g;rw[h]at s2;have j:Jp L' (aal (Zh 200 L) d).1 v:=(U.up _ _).2 (.inr (by grind [aaK]));exact r.trans (abf.one (abN U.r2 U.a2 U.aeH s2.symm j.symm (fun e=>by rw[e]at g;exact Xa U.r1 g)) U.aeH)
  .rw [if_neg c, if_neg c]
   have h:aaF a b v (x,(aal (Zh 200 L) d).1)=(x,(aal (Zh 200 L) d).1):=by unfold aaF;rw[if_neg c]
   rw[h]at r;exact r
 have s0:=U.sg f;have d1:((Zh 200 L').getD (aaF a b v d).1 []).length≠2:=by rw[abO,U.deg (U.nv f).1];exact h2
 have:=agk U.r2 U.a2 (qL0 _) (c:=(aaF a b v d).1) (v:=(aaF a b v d).2) s0 d1 r2 i;refine Eq.trans this (adQ rfl ?_);omega
def UpK.corn:aad (Zh 200 L')=aad (Zh 200 L):=by
 unfold aad;rw[Xq,Xq];refine j3 fun x _=>?_;unfold aaA;by_cases e:x=v
 .subst e;rw[U.deg0,U.aeH];rfl
 .rw[U.deg e]
theorem UpK.bad:(Zh 200 L').any aaW=(Zh 200 L).any aaW:=by
 rw[abz,rY,rY];have one:∀{A B:List Pr},(∀x,x<200->aaW ((Zh 200 A).getD x [])=true->aaW ((Zh 200 B).getD x [])=true)->(∃r∈Zh 200 A,aaW r=true)->∃r∈Zh 200 B,aaW r=true:=fun{A B} h=>by
  rintro⟨r,d,hb⟩;obtain⟨i,hi,rfl⟩:=U9.1 d;have c:i<200:=by rw[Xq]at hi;exact hi
  have f:i<(Zh 200 B).length:=by rw[Xq];exact c
  have:=h i c (by rw[D4 hi];exact hb);rw[D4 f]at this;exact(by grind [List.getElem_mem])
 constructor
 .refine one fun x _ h => ?_
  by_cases e:x=v
  .subst e;unfold aaW at h;rw[U.aeH]at h;cases h
  .unfold aaW at h ⊢;rw[U.deg e]at h;exact h
 .refine one fun x _ h => ?_
  by_cases e:x=v
  .subst e;unfold aaW at h;rw[U.deg0]at h;cases h
  .unfold aaW at h ⊢;rw[U.deg e];exact h
theorem UpK.aaj {cs:II} (g:∀c∈cs,c<200/\((Zh 200 L).getD c []).length≠2) (f:v∉cs):(aaj (Zh 200 L') cs).Perm ((aaj (Zh 200 L) cs).map (aaF a b v)):=by
 rw[aaR,aaR,List.map_flatMap];refine ad7 fun c d=>?_;have:=(U.row (x:=c) fun e=>f (e▸d)).map fun w=>(c,w);rw[b7]at this;rw[b7];refine this.trans ?_;refine List.Perm.of_eq (Qn fun w _=>?_);exact(by grind [abO])
def UpK.aaI {cs:II} (e:∀c∈cs,c<200/\((Zh 200 L).getD c []).length≠2) (f:v∉cs):aaI (Zh 200 L') cs=aaI (Zh 200 L) cs:=by
 funext p;unfold Go.Fw.aaI;rw[((U.aaj e f).map (aaH (Zh 200 L'))).count_eq p,b7];refine congrArg (List.count p) (Qn fun d hd=>?_);simp only[Function.comp,acz,U.Wn e hd,abO]
theorem UpK.aaU {cs:II} (f:∀c∈cs,c<200/\((Zh 200 L).getD c []).length≠2) (g:v∉cs):aaU (Zh 200 L') cs=aaU (Zh 200 L) cs+(abF (Zh 200 L) cs).countP (isU a b):=by
 unfold Go.Fw.aaU abF;rw[((U.aaj f g).map fun d=>(aal (Zh 200 L') d).2+1).sum_nat,b7,List.countP_flatMap];have key:∀l:List (Nat×Nat),(∀d∈l,d∈Go.Fw.aaj (Zh 200 L) cs)->(l.map ((fun d=>(aal (Zh 200 L') d).2+1)∘aaF a b v)).sum=(l.map fun d=>(aal (Zh 200 L) d).2+1).sum+(l.map (List.countP (isU a b)∘fun d=>(List.range ((aal (Zh 200 L) d).2+1)).map fun i=>it (goS (Zh 200 L)) i d)).sum:=by
  intro l
  induction l with
  |nil=>intro _;rfl
  |cons d l j=>
   intro h;have e:=U.Wn f (h d Ma);rw[mJ,mJ,mJ,MY,MY,MY,j fun q k=>h q (by simp[k])];simp only[Function.comp,e];unfold abY;omega
 exact pw
theorem UpK.steps {cs:II} (d:∀c∈cs,c<200/\((Zh 200 L).getD c []).length≠2) (g:v∉cs) (e:cs.Nodup):Go.Fw.aaU (Zh 200 L') cs=2*L'.length↔Go.Fw.aaU (Zh 200 L) cs=2*L.length:=by
 rw[U.aaU d g,U.len];have le:=afE U.r1 U.a1 d e;have nd:((abF (Zh 200 L) cs).filter (isU a b)).Nodup:=(afD U.r1 U.a1 d e).filter _;have h2:(abF (Zh 200 L) cs).countP (isU a b)<=2:=by
  rw[iH];refine tf nd (B:=[(a,b),(b,a)]) fun x f=>?_;have:=(aax.1 f).2;rw[aaK]at this;rcases this with⟨rfl,rfl⟩|⟨rfl,rfl⟩<;>simp
 constructor
 .omega
 .intro h
  have m1:=aer U.r1 U.a1 d e h U.ab;have m2:=aer U.r1 U.a1 d e h U.ab.symm;have:2<=(abF (Zh 200 L) cs).countP (isU a b):=by
   rw[iH];have:=tf (A:=[(a,b),(b,a)]) (B:=(abF (Zh 200 L) cs).filter (isU a b)) (by have:=U.nab;grind) fun x f=>by
    simp only[EL,EP,or_false]at f;rw[aax];rcases f with rfl|rfl
    .exact(by grind [aaK])
    .exact(by grind [aaK])
   exact this
  omega
theorem UpK.kind:aaN L'=aaN L:=by
 have g:∀c∈aad (Zh 200 L),_:=fun c h=>aby h;have i:v∉aad (Zh 200 L):=by grind [aad.eq_1,aaA.eq_1,UpK.deg0]
 have j:(aad (Zh 200 L)).Nodup:=VU.filter _;have k:∀E,aa8 (Zh 200 L') (aad (Zh 200 L)) L'.length E=aa8 (Zh 200 L) (aad (Zh 200 L)) L.length E:=fun E=>by
  have d:(aad (Zh 200 L)).any (fun c=>((Zh 200 L').getD c []).length !=E)=(aad (Zh 200 L)).any fun c=>((Zh 200 L).getD c []).length !=E:=by
   rw[abz,rY,rY];have e:∀c∈aad (Zh 200 L),((Zh 200 L').getD c []).length=((Zh 200 L).getD c []).length:=by grind [UpK.deg]
   exact pw
  unfold aa8;rw[d,U.aaI g i];have:=U.steps g i j;by_cases q:Go.Fw.aaU (Zh 200 L) (aad (Zh 200 L))=2*L.length
  .have f := this.2 q
   simp only[q,f,ne_eq,not_true_eq_false,if_false,bne_self_eq_false,adN]
  .have f : ¬ Go.Fw.aaU (Zh 200 L') (aad (Zh 200 L)) = 2 * L'.length := pw
   simp[q,f]
 rw[aa9,aa9,U.bad,U.corn];simp only[k]
end
end Go.Fw
namespace Go.Fw
section
attribute [local instance] Classical.propDecidable
open Go.Proofs
variable {a b n t v:Nat} {es:List Pr}
def Tw2 (A:Nat->Nat->Prop):Prop:=∀c u v,(∃w,A u w)->(∃w,A v w)->u≠c->v≠c->Rc A c u v
theorem Tw2.upon {A B:Nat->Nat->Prop} (T:Tw2 A) (sy:∀x y,A x y->A y x) (ab:A a b) (ne:a≠b) (iso:∀w,¬A v w) (g:∃w,A t w) (t1:t≠a) (i:t≠b) (hB:∀x y,B x y↔upA A a b v x y):Tw2 B:=by
 have nv:∀{x y},A x y->x≠v/\y≠v:=pw;have l:∀x y,B x y->B y x:=by grind [upA]
 have f:∀c,c≠v->a≠c->b≠c->Rc B c a b:=fun c d h2 h3=>
  (Rc.one (v:=v) ((hB _ _).2 (.inr pw)) h2 (uV d)).trans (Rc.one ((hB _ _).2 (.inr pw)) (uV d) h3)
 have other:Rc B v a b:=by
  have d:Rc B v a t:=by
   have:=T b a t ⟨_,ab⟩ g ne i;clear g t1 i
   induction this with
   |refl=>exact .refl
   |step _ q j k m=>exact m.trans ((Rc.one ((hB _ _).2 (.inl pw)) (nv q).1 (nv q).2))
  have h2:Rc B v b t:=by
   have:=T a b t pw g (uV ne) t1;clear g t1 i d
   induction this with
   |refl=>exact .refl
   |step _ q j k m=>exact m.trans ((Rc.one ((hB _ _).2 (.inl pw)) (nv q).1 (nv q).2))
  exact d.trans (h2.symm l)
 have n:∀c,a≠c->b≠c->Rc B c a b:=fun c d h2=>by
  by_cases h:c=v
  .subst h;exact other
  .exact f c h d h2
 have qi:∀c u w,(∃x,A u x)->(∃x,A w x)->u≠c->w≠c->Rc B c u w:=fun c u w d h2 h3 o=>by
  refine(T c u w d h2 h3 o).sub fun x y q j k=>?_;by_cases p:x=a/\y=b
  .obtain⟨rfl,rfl⟩:=p;exact n c j k
  by_cases r:x=b/\y=a
  .obtain⟨rfl,rfl⟩:=r;exact(by grind [Rc.symm])
  .exact Rc.one ((hB _ _).2 (.inl ⟨q,p,r⟩)) j k
 have new:∀c u,(∃w,B u w)->u≠c->∃t,(∃w,A t w)/\t≠c/\Rc B c u t:=fun c u ⟨w,hw⟩ h3=>by
  by_cases e:u=v
  .subst e
   by_cases e:a=c
   .exact⟨b,pw,pw,Rc.one ((hB _ _).2 (.inr pw)) h3 pw⟩
   .exact⟨a,⟨_,ab⟩,e,Rc.one ((hB _ _).2 (.inr pw)) h3 e⟩
  .refine ⟨u, ?_, h3, .refl⟩
   rcases(hB _ _).1 hw with⟨q,-⟩|⟨q,-⟩|⟨-,rfl|rfl⟩
   .exact⟨_,q⟩
   .exact absurd q e
   .exact⟨_,ab⟩
   .exact pw
 intro c u w d h2 h3 o;obtain⟨t,t1,i,z⟩:=new c u d h3;obtain⟨s,s1,s2,C⟩:=new c w h2 o;exact(by grind [Rc.trans,Rc.symm])
theorem Tw2.oneB (T:Tw2 (Jp es)) (l:bX ⟨(n:Int),es⟩) (i:es≠[]):aeo n es:=by
 have hR:=l.GD;have b:∀{v a c},Jp es v a->Jp es v c->cQ n es (GW v a)=cQ n es (GW v c):=fun{v a c} ha g=>by
  refine(dR hR ha g).2 ?_;have m:a≠v:=by grind [Xa]
  have o:c≠v:=by grind [Xa]
  have:=T v a c ⟨_,ha.symm⟩ ⟨_,g.symm⟩ m o;clear g o
  induction this with
  |refl=>exact .refl (iO m)
  |step _ q w r j=>exact .step j q (iO r)
 have link:∀{c u v},Rc (Jp es) c u v->∀a d,Jp es u a->Jp es v d->cQ n es (GW u a)=cQ n es (GW v d):=fun{c u v} h=>by
  induction h with
  |refl=>intro a d k h2;exact b k h2
  |@step x y _ q _ _ j=>intro a d k h2;rw[j a y k q,so];exact b q.symm h2
 refine⟨l,i,fun p s q t=>?_⟩;obtain⟨a,c,ha,g,e,rfl⟩:=acV hR s;obtain⟨x,y,z,A,f,rfl⟩:=acV hR t;exact link (T n a x ⟨_,e⟩ ⟨_,f⟩ NH NH) c y e f
theorem up_ex (f:bX ⟨((200:Nat):Int),es⟩) (h2:((Zh 200 es).getD v []).length=2) (ha:Jp es v a) (hb:Jp es v b) (ne:a≠b) (i:¬Jp es a b):
  ∃L,bX ⟨((200:Nat):Int),L⟩/\UpK L es a b v:=by
 have hR:=f.GD;have hA:=f.q9;have only:∀w,Jp es v w->w=a\/w=b:=by grind [acB]
 have nva:v≠a:=by grind [Xa]
 have nvb:v≠b:=by grind [Xa]
 have r:=(ha.lt hR);have s:=(hb.lt hR);have j:∀p∈es,lZ p=p:=fun p c=>by
  have:=hR p c;obtain⟨x,y⟩:=p;simp only[lZ,kc]at*;omega
 have l:∀p,p∈es.filter (fun p=>!aO p (v:Int))↔p∈es/\p.1≠(v:Int)/\p.2≠(v:Int):=by grind [aO]
 have nd:es.Nodup:=hA.nodup;have OT:es.length=(es.filter fun p=>!aO p (v:Int)).length+2:=by
  have e:(es.filter fun p=>aO p (v:Int)).Perm [GW v a,GW v b]:=(kS (nd.filter _) (by simp[aaC];omega)).2 fun p=>by
   rw[aax,EL,jf];constructor
   .rintro ⟨c, n⟩
    obtain⟨x,y,t,u,d,rfl⟩:=acV hR c;have:v=x\/v=y:=by simp only[aO,bj,ac0,decide_eq_true_eq]at n;omega
    rcases this with rfl|rfl
    .rcases only y d with rfl|rfl<;>simp
    .rcases only x d.symm with rfl | rfl
     .left;exact so ..
     .right;exact so ..
   .rintro (rfl | rfl)
    .exact(by grind [H4,bj])
    .exact(by grind [H4,bj])
  have:=(ahz (fun p=>aO p (v:Int)) es).length_eq;rw[j9,e.length_eq]at this;simp only[Uz,Q9]at this;omega
 have k:YG ((200:Nat):Int) (((a:Int),(b:Int))::es.filter fun p=>!aO p (v:Int)):=by
  have o:=f.len;refine⟨NH,NH,by rw[Uz];have:es.length<=594:=o;omega,fun p c=>?_,?_⟩
  .rcases EL.1 c with rfl | c
   .simp only[lZ];omega
   .have c := ((l p).1 c).1
    rw[j p c];have:=hR p c;omega
  .rw [mJ, Qn (g := id) pw, ag7, aaf]
   refine⟨fun h=>i ?_,nd.filter _⟩;have h:=((l _).1 h).1;simp only[lZ]at h;rcases ahB a b with q|q
   .left;rwa[oK NH,WL NH]at h
   .right;rwa[Int.min_eq_right NH,Int.max_eq_left NH]at h
 have ad:∀x y:Nat,Jp (sg (((a:Int),(b:Int))::es.filter fun p=>!aO p (v:Int))) x y↔(x=a/\y=b)\/(x=b/\y=a)\/(Jp es x y/\x≠v/\y≠v):=fun x y=>by
  rw[adj_sg];unfold Jp;simp only[EL,l,kc];constructor
  .rintro ((h | h) | (h | h))
   .omega
   .right;right;exact pw
   .omega
   .right;right;exact pw
  .rintro (h | h | ⟨h | h, m, h2⟩)
   .omega
   .omega
   .left;right;exact pw
   .right;right;exact pw
 refine⟨_,k.right,k.right.GD,hR,k.right.q9,hA,pw,fun w h=>?_,fun x y=>?_,?_⟩
 .have:=(ad v w).1 h;omega
 .unfold upA
  rw[ad];constructor
  .intro h
   by_cases c1:x=v
   .subst c1;right;left;exact pw
   by_cases c2:y=v
   .subst c2;right;right;exact(by grind [Jp.symm])
   left;refine⟨pw,fun e=>?_,fun e=>?_⟩
   .obtain⟨rfl,rfl⟩:=e;exact i h
   .obtain⟨rfl,rfl⟩:=e;exact i h.symm
  .rintro (⟨h, m, h2⟩ | ⟨rfl, rfl | rfl⟩ | ⟨rfl, rfl | rfl⟩)
   .rcases h with h | h | h
    .exact absurd h m
    .exact absurd h h2
    .exact h.1
   .exact ha
   .exact hb
   .exact ha.symm
   .exact hb.symm
 .rw[ZS,jz,Uz];omega
end
end Go.Fw
namespace Go.Fw
open Go.Proofs
attribute [local instance] Classical.propDecidable
def prsL:II->List Pr
 |[]=>[]
 |x::l=>l.map (fun y=>GW x y)++prsL l
theorem abS:∀{l:II},l.Nodup->∀{p:Pr},p∈prsL l↔∃x y,x∈l/\y∈l/\x≠y/\p=GW x y
 |[],_,p=>by simp[prsL]
 |a::l,nd,p=>by
  obtain⟨f,h2⟩:=aaf.1 nd;rw[prsL,qL7,Z6,abS h2];constructor
  .rintro (⟨y, b, rfl⟩ | ⟨x, y, d, b, ne, rfl⟩)
   .exact pw
   .exact pw
  .rintro ⟨x, y, d, b, ne, rfl⟩
   rcases EL.1 d with rfl|e
   .rcases EL.1 b with rfl | c
    .exact absurd rfl ne
    .exact pw
   .rcases EL.1 b with rfl | c
    .exact(by grind [so])
    .exact pw
theorem afF:∀{l:II},l.Nodup->(prsL l).Nodup
 |[],_=>by simp[prsL]
 |a::l,nd=>by
  obtain⟨b,h2⟩:=aaf.1 nd;rw[prsL,AE];refine⟨?_,afF h2,fun p c q d e=>?_⟩
  .rw [si, wI]
   exact(by grind [ab6])
  .subst e
   obtain⟨y,g,rfl⟩:=Z6.1 c;obtain⟨z,w,f,hw,ne,e⟩:=(abS h2).1 d;rcases aaC.1 e with⟨q,-⟩|⟨q,-⟩
   .exact b (q▸f)
   .exact b (q▸hw)
def ae8 (A B:II):List Pr:=A.flatMap fun a=>B.map fun b=>GW a b
theorem acY {A B:II} {p:Pr}:p∈ae8 A B↔∃a b,a∈A/\b∈B/\p=GW a b:=by
 unfold ae8;rw[Yi];constructor
 .rintro ⟨a, ha, h⟩
  obtain⟨b,hb,rfl⟩:=Z6.1 h;exact pw
 .rintro ⟨a, b, ha, hb, rfl⟩
  exact(by grind)
theorem crs_nd {A B:II} (nd:(A++B).Nodup):(ae8 A B).Nodup:=by
 rw[AE]at nd;obtain⟨nA,nB,c⟩:=nd;unfold ae8;rw[si,Po];refine⟨fun a ha=>?_,?_⟩
 .rw [wI]
  exact(by grind [ab6])
 .refine (si.1 nA).imp_of_mem fun {a a'} ha mi ne x d y f e => ?_
  obtain⟨b,hb,rfl⟩:=Z6.1 d;obtain⟨g,sZ,rfl⟩:=Z6.1 f;rcases aaC.1 e with⟨q,-⟩|⟨q,-⟩
  .exact ne q
  .exact c a ha g sZ q
def agm (A B:II):(ae8 A B).length=A.length*B.length:=by
 unfold ae8
 induction A with
 |nil=>simp
 |cons a A b=>rw[U0,j9,b,jz,Uz,Ua];omega
structure afG (es:List Pr) (E:Nat) (ks:List Pr):Prop where
 e3:3<=E
 e4:E<=4
 deg:∀c∈aad (Zh 200 es),((Zh 200 es).getD c []).length=E
 two:∀v w,Jp es v w->v∉aad (Zh 200 es)->((Zh 200 es).getD v []).length=2
 all:aaU (Zh 200 es) (aad (Zh 200 es))=2*es.length
 nd:ks.Nodup
 len:(aaj (Zh 200 es) (aad (Zh 200 es))).length=2*ks.length
 n9:9<=ks.length
 w2:∀k∈ks,aaI (Zh 200 es) (aad (Zh 200 es)) k=2
 ends:∀k∈ks,∃a b,a∈aad (Zh 200 es)/\b∈aad (Zh 200 es)/\a≠b/\k=GW a b
def ShapeK (cs:II) (ks:List Pr):Prop:=(cs.length=5/\ks=prsL cs)\/∃A B,(A++B).Perm cs/\A.length=3/\B.length=3/\ks=ae8 A B
theorem abT {es:List Pr} (hr:bX ⟨((200:Nat):Int),es⟩) (f:aaN es≠0):∃E ks,afG es E ks/\ShapeK (aad (Zh 200 es)) ks:=by
 rw[aa9]at f;by_cases hb:(Zh 200 es).any aaW=true
 .rw[if_pos hb]at f;exact absurd rfl f
 rw[if_neg hb]at f;have two:∀v w,Jp es v w->v∉aad (Zh 200 es)->((Zh 200 es).getD v []).length=2:=fun v w h z=>by
  have C:=(h.lt hr.GD).1;have r:v<(Zh 200 es).length:=by rw[Xq];exact C
  have n0:((Zh 200 es).getD v []).length≠0:=by
   rw[<-aaX];have:=(aai hr.GD).2 h;intro e;rw[EH e]at this;cases this
  have i:aaW ((Zh 200 es).getD v [])=false:=by
   refine agW.2 fun q=>hb (rY.2 ⟨_,ZT r,?_⟩);rw[D4 r]at q;exact q
  have g:¬aaA (Zh 200 es) v=true:=fun q=>z (aax.2 (by grind));unfold aaW at i;unfold aaA at g;simp only[Bool.not_eq_false',ac0,beq_iff_eq]at i g;omega
 have g:(aad (Zh 200 es)).Nodup:=VU.filter _;have s:∀E,aa8 (Zh 200 es) (aad (Zh 200 es)) es.length E≠0->(∀c∈aad (Zh 200 es),((Zh 200 es).getD c []).length=E)/\aaU (Zh 200 es) (aad (Zh 200 es))=2*es.length/\(E=4->abh (aaI (Zh 200 es) (aad (Zh 200 es))) (aad (Zh 200 es)) (aad (Zh 200 es))=true)/\(E≠4->aa1 (aaI (Zh 200 es) (aad (Zh 200 es))) (aad (Zh 200 es))=true):=fun E h=>by
  unfold aa8 at h;by_cases c1:(aad (Zh 200 es)).any (fun c=>((Zh 200 es).getD c []).length !=E)=true
  .rw[if_pos c1]at h;exact absurd rfl h
  rw[if_neg c1]at h;by_cases c2:aaU (Zh 200 es) (aad (Zh 200 es))=2*es.length
  rotate_left
  .rw[if_pos c2]at h;exact absurd rfl h
  rw[if_neg (fun q=>q c2)]at h;refine⟨by grind [List.any_eq_true],c2,fun e=>?_,fun e=>?_⟩
  .rw [if_pos e] at h
   exact pw
  .rw [if_neg e] at h
   exact pw
 by_cases j:(aad (Zh 200 es)).length=5
 .rw [if_pos j] at f
  obtain⟨l,h2,h3,-⟩:=s 4 f;have h3:=h3 rfl;have n:(prsL (aad (Zh 200 es))).length=10:=by
   match aad (Zh 200 es),j with
   |[a,b,c,d,e],_=>rfl
  refine⟨4,prsL (aad (Zh 200 es)),⟨NH,NH,l,two,h2,afF g,by rw[abp l,j,n],NH,fun k f=>?_,fun k f=>?_⟩,.inl ⟨j,rfl⟩⟩
  .obtain ⟨x, y, D, F, ne, rfl⟩ := (abS g).1 f
   have:=ff.1 (ff.1 h3 x D) y F;rw[ac0]at this;rcases this with q|q
   .exact pw
   .exact of_decide_eq_true q
  .exact(abS g).1 f
 .rw [if_neg j] at f
  by_cases m:(aad (Zh 200 es)).length=6
  rotate_left
  .rw[if_neg m]at f;exact absurd rfl f
  rw[if_pos m]at f;obtain⟨l,h2,-,h3⟩:=s 3 f;have h3:=h3 WY;have o:=abp l;rw[m]at o;obtain⟨A,B,T⟩:=(acd (L:=(aaj (Zh 200 es) (aad (Zh 200 es))).map (aaH (Zh 200 es))) g m (ady _) (by rw[jz,o];decide)).1 h3;obtain⟨t1,t,u,G⟩:=T;have p:=(t1.nodup_iff).2 g;refine⟨3,ae8 A B,⟨NH,NH,l,two,h2,crs_nd p,by rw[o,agm,t,u],by rw[agm,t,u];decide,fun k f=>?_,fun k f=>?_⟩,.inr pw⟩
  .obtain ⟨a, b, ha, hb, rfl⟩ := acY.1 f
   exact G a ha b hb
  .obtain ⟨a, b, ha, hb, rfl⟩ := acY.1 f
   exact(by grind [List.nodup_append])
section
variable {es : List Pr} (hr : bX ⟨((200 : Nat) : Int), es⟩) {E : Nat} {ks : List Pr} (K : afG es E ks)
include hr K
omit hr in
theorem afG.zero {p:Pr} (b:p∉ks):aaI (Zh 200 es) (aad (Zh 200 es)) p=0:=by
 have:=acy (aaf.2 ⟨b,K.nd⟩) ((aaj (Zh 200 es) (aad (Zh 200 es))).map (aaH (Zh 200 es)));rw[mJ,MY,jz,K.len]at this;have s:∀l:List Pr,(∀k∈l,k∈ks)->(l.map fun k=>((aaj (Zh 200 es) (aad (Zh 200 es))).map (aaH (Zh 200 es))).count k).sum=2*l.length:=by
  intro l
  induction l with
  |nil=>intro _;rfl
  |cons a l c=>
   intro h;have e:((aaj (Zh 200 es) (aad (Zh 200 es))).map (aaH (Zh 200 es))).count a=2:=K.w2 a (h a Ma);rw[mJ,MY,e,c pw,Uz];omega
 rw[s ks fun k h=>h]at this;unfold aaI;omega
omit hr K in
theorem abr:∀c∈aad (Zh 200 es),c<200/\((Zh 200 es).getD c []).length≠2:=fun c h=>aby h
omit K in
theorem acq {c w:Nat} (h:c∈aad (Zh 200 es)) (a:Jp es c w):(c,w)∈aaj (Zh 200 es) (aad (Zh 200 es)):=by
 rw[aaR,Yi];exact(by grind [aai,bX.GD])
omit hr K in
theorem cnt_in {l:List (Nat×Nat)} {p:Pr} (nd:l.Nodup) (h:∀d∈l,d∈aaj (Zh 200 es) (aad (Zh 200 es))/\aaH (Zh 200 es) d=p):l.length<=aaI (Zh 200 es) (aad (Zh 200 es)) p:=by
 unfold aaI;rw[List.count,ahE,iH];exact tf nd (by grind)
omit hr in
theorem afG.in1 {d:Nat×Nat} (h:d∈aaj (Zh 200 es) (aad (Zh 200 es))):aaH (Zh 200 es) d∈ks:=by
 refine qy fun q=>?_;have:=cnt_in (l:=[d]) Ma (p:=aaH (Zh 200 es) d) (fun x a=>by rw[jf.1 a];exact⟨h,rfl⟩);rw[K.zero q]at this;simp at this
omit K in
theorem ace {c w:Nat} (h:c∈aad (Zh 200 es)) (a:Jp es c w) {M:Nat} {e:Nat×Nat} (r:abf 200 es (c,w) M e) (b:e.2∈aad (Zh 200 es)):aaH (Zh 200 es) (c,w)=GW c e.2:=by rw[acz,agk hr.GD hr.q9 (qL0 _) a (aby h).2 r (aby b).2]
theorem afG.apart {v a b:Nat} (h2:((Zh 200 es).getD v []).length=2) (c:a∈aad (Zh 200 es)) (ha:Jp es v a) (hb:Jp es v b) (ne:a≠b):¬Jp es a b:=fun ab=>by
 have hR:=hr.GD;have hA:=hr.q9;have nva:v≠a:=by grind [Xa]
 have nvb:v≠b:=by grind [Xa]
 have r1:abf 200 es (a,v) 1 (v,b):=by grind [abf.one,abN]
 by_cases cb:b∈aad (Zh 200 es)
 .have r2 : abf 200 es (b, v) 1 (v, a) := by grind [abf.one, abN]
  have g:=ace hr c ha.symm r1 cb;have k:=ace hr cb hb.symm r2 c;have e3:=ace hr c ab (M:=0) ⟨rfl,pw⟩ cb;have:=cnt_in (l:=[(a,v),(b,v),(a,b)]) (p:=GW a b) (by simp;omega) fun d hd=>by
   simp only[EL,EP,or_false]at hd;rcases hd with rfl|rfl|rfl
   .exact⟨acq hr c ha.symm,g⟩
   .exact(by grind [acq,Jp.symm,so])
   .exact⟨acq hr c ab,e3⟩
  simp only[Uz,Q9]at this;by_cases q:GW a b∈ks
  .rw[K.w2 _ q]at this;omega
  .rw[K.zero q]at this;omega
 .have d2 := K.two b v hb.symm cb
  have r2:abf 200 es (v,b) 1 (b,a):=by grind [abf.one,abN,Jp.symm]
  have e:=ace hr c ha.symm (r1.trans r2) c;have:=K.in1 (acq hr c ha.symm);rw[e]at this;obtain⟨x,y,-,-,h,f⟩:=K.ends _ this;rcases aaC.1 f with⟨i,j⟩|⟨i,j⟩<;>omega
def afG.find {u:Nat} (h2:((Zh 200 es).getD u []).length=2):∃v a b,((Zh 200 es).getD v []).length=2/\a∈aad (Zh 200 es)/\Jp es v a/\Jp es v b/\a≠b:=by
 have hR:=hr.GD;have hA:=hr.q9;obtain⟨x,y,-,-,h3,j,-⟩:=abg hR hA h2;have m:=aer hR hA abr (VU.filter _) K.all h3;obtain⟨d,hd,m⟩:=Yi.1 m;obtain⟨i,hi,m⟩:=Z6.1 m;have hi:=iy.1 hi;obtain⟨k1,k2,e⟩:=abm hR abr hd;obtain⟨⟨-,r2⟩,-,-⟩:=abd hR hA abr hd;have f:0<(aal (Zh 200 es) d).2:=by
  rcases i with _|i
  .exact absurd h2 (by rw[show u=d.1 from(congrArg Prod.fst m).symm];exact k2)
  .omega
 have c:=r2 0 f;obtain⟨z,g,h,-⟩:=acB hR hA (y:=d.2) c k1.symm;exact⟨d.2,d.1,z,c,e,k1.symm,h,uV g⟩
theorem afG.base (no:∀v,((Zh 200 es).getD v []).length≠2) (x y:Nat):Jp es x y↔GW x y∈ks:=by
 have hR:=hr.GD;have a:∀{v w},Jp es v w->v∈aad (Zh 200 es):=fun{v w} h=>qy fun q=>no v (K.two v w h q);constructor
 .intro h
  have:=K.in1 (acq hr (a h) h);rwa[ace hr (a h) h (M:=0) ⟨rfl,pw⟩ (a h.symm)]at this
 .intro h
  have w:=K.w2 _ h;unfold aaI at w;have:GW x y∈(aaj (Zh 200 es) (aad (Zh 200 es))).map (aaH (Zh 200 es)):=by grind [List.count_pos_iff]
  obtain⟨d,hd,e⟩:=Z6.1 this;obtain⟨k1,k2,f⟩:=abm hR abr hd;have g:aaH (Zh 200 es) d=GW d.1 d.2:=ace hr f k1 (M:=0) ⟨rfl,pw⟩ (a k1.symm);rw[g]at e;rcases aaC.1 e with⟨b,c⟩|⟨b,c⟩
  .rw[<-b,<-c];exact k1
  .rw[<-b,<-c];exact k1.symm
end
end Go.Fw
namespace Go.Fw
open Go.Proofs
attribute [local instance] Classical.propDecidable
def adB (n:Nat) (c:II):II:=c++(List.range n).filter fun v=>!c.contains v
def ofC (n:Nat) (c:II) (i:Nat):Nat:=(adB n c).getD i 0
def toC (n:Nat) (c:II) (v:Nat):Nat:=(adB n c).idxOf v
section
variable {n : Nat} {c : List Nat} (nd : c.Nodup) (lt : ∀ v ∈ c, v < n)
include nd lt
theorem acD:(adB n c).Perm (List.range n):=by
 refine(kS ?_ VU).2 fun v=>?_
 .unfold adB
  rw[AE];refine⟨nd,VU.filter _,fun a ha b hb e=>?_⟩;subst e;have:=(aax.1 hb).2;simp[ha]at this
 .unfold adB
  rw[qL7,aax];constructor
  .rintro (h | h)
   .exact iy.2 (lt v h)
   .exact h.1
  .intro h
   by_cases q:v∈c
   .exact .inl q
   .exact pw
def ordC_nd:(adB n c).Nodup:=(acD nd lt).nodup_iff.2 VU
def ae9:(adB n c).length=n:=by rw[(acD nd lt).length_eq,aex]
def acZ {i:Nat} (h:i<n):∃q:i<(adB n c).length,ofC n c i=(adB n c)[i]:=by
 have a:i<(adB n c).length:=by rw[ae9 nd lt];exact h
 exact⟨a,D4 a⟩
theorem ren_C:Ren n (toC n c) (ofC n c):=by
 have mem:∀v,v∈adB n c↔v<n:=by grind [acD]
 refine⟨fun v h=>?_,fun v h=>?_,fun v h=>?_,fun v h=>?_⟩
 .have := Zw ((mem v).2 h)
  rwa[ae9 nd lt]at this
 .obtain ⟨q, e⟩ := acZ nd lt h
  rw[e];exact(by grind [List.getElem_mem])
 .obtain ⟨q, e⟩ := acZ nd lt h
  rw[e];exact qL209 (ordC_nd nd lt) v q
 .have b := (mem v).2 h
  have a:=Zw b;unfold ofC toC;rw[D4 a];exact agU a
theorem ad9 {i:Nat} (h:i<n):ofC n c i∈c↔i<c.length:=by
 obtain⟨q,e⟩:∃q:i<(c++(List.range n).filter fun v=>!c.contains v).length,ofC n c i=(c++(List.range n).filter fun v=>!c.contains v)[i]'q:=acZ nd lt h
 rw[e];constructor
 .intro a
  refine qy fun hi=>?_;rw[SR NH]at a;have:=ZT (l:=(List.range n).filter fun v=>!c.contains v) (n:=i-c.length) (by rw[j9]at q;omega);have:=(aax.1 this).2;rw[agX]at this;have h2:=dU.2 a;rw[this]at h2;cases h2
 .intro hi
  rw[ahx hi];exact ZT hi
def ofC_inj {i j:Nat} (hi:i<n) (a:j<n) (e:ofC n c i=ofC n c j):i=j:=by
 have N:=ren_C nd lt;have:=N.pq i hi;rw[e,N.pq j a]at this;exact this.symm
def ofC_at {i:Nat} (hi:i<c.length) (a:i<n):ofC n c i=c[i]:=by
 obtain⟨q,e⟩:∃q:i<(c++(List.range n).filter fun v=>!c.contains v).length,ofC n c i=(c++(List.range n).filter fun v=>!c.contains v)[i]'q:=acZ nd lt a
 rw[e];rw[ahx hi]
end
theorem shape_no {es:List Pr} (hR:aV 200 es) {cs:II} (g:cs.Nodup) (lt:∀v∈cs,v<200) {ks:List Pr} (S:ShapeK cs ks) (j:∀x y,Jp es x y↔GW x y∈ks):Tw2 (Jp es)/\¬XU 200 (eN 200 es):=by
 rcases S with⟨D,rfl⟩|⟨A,B,p,l,lB,rfl⟩
 .have ad:∀x y,Jp es x y↔x∈cs/\y∈cs/\x≠y:=fun x y=>by
   rw[j,abS g];constructor
   .rintro ⟨a, b, ha, hb, ne, e⟩
    rcases aaC.1 e with⟨rfl,rfl⟩|⟨rfl,rfl⟩
    .exact⟨ha,hb,ne⟩
    .exact pw
   .rintro⟨d,h2,h3⟩;exact pw
  refine⟨fun c u v ⟨w,o⟩ ⟨z,r⟩ d h2=>?_,fun P=>?_⟩
  .by_cases e : u = v
   .rw[e];exact .refl
   .exact(by grind [Rc.one])
  .refine afV (n := 200) NH (P.ren (ren_C g lt) fun v w => ?_)
   rw[pZ];constructor
   .rintro ⟨d, h2, h3⟩
    refine⟨NH,NH,(vD hR).2 ((ad _ _).2 ⟨by grind [ad9],(by grind [ad9]),fun e=>h3 (ofC_inj g lt NH NH e).symm⟩)⟩
   .rintro ⟨d, h2, h3⟩
    obtain⟨k1,k2,t⟩:=(ad _ _).1 ((vD hR).1 h3);have k1:=(ad9 g lt d).1 k1;have k2:=(ad9 g lt h2).1 k2;exact⟨NH,NH,fun e=>t (by rw[e])⟩
 .have nd := p.nodup_iff.2 g
  have f:∀v∈A++B,v<200:=by grind [List.Perm.mem_iff]
  have E:=(AE.1 nd).2.2;have ad:∀x y,Jp es x y↔(x∈A/\y∈B)\/(x∈B/\y∈A):=fun x y=>by
   rw[j,acY];constructor
   .rintro ⟨a, b, ha, hb, e⟩
    rcases aaC.1 e with⟨rfl,rfl⟩|⟨rfl,rfl⟩
    .exact .inl ⟨ha,hb⟩
    .exact .inr ⟨hb,ha⟩
   .rintro (⟨d, h2⟩ | ⟨d, h2⟩)
    .exact pw
    .exact(by grind [so])
  refine⟨fun c u v ⟨w,o⟩ ⟨z,r⟩ d h2=>?_,fun P=>?_⟩
  .have two:∀X:II,X.length=3->X.Nodup->∃b∈X,b≠c:=fun X l3 nX=>by
    match X,l3 with
    |[x,y,z],_=>
     by_cases q:x=c
     .exact⟨y,Ma,pw⟩
     .exact⟨x,Ma,q⟩
   have nA:=(AE.1 nd).1;have nB:=(AE.1 nd).2.1;rcases(ad _ _).1 o with⟨a1,-⟩|⟨a1,-⟩<;>rcases(ad _ _).1 r with⟨C,-⟩|⟨C,-⟩
   .obtain ⟨b, hb, nb⟩ := two B lB nB
    exact(Rc.one pw d nb).trans (by grind [Rc.one])
   .exact(by grind [Rc.one])
   .exact(by grind [Rc.one])
   .obtain ⟨b, hb, nb⟩ := two A l nA
    exact(Rc.one pw d nb).trans (by grind [Rc.one])
  .have m:∀{i},i<200->(ofC 200 (A++B) i∈A↔i<3):=fun{i} hi=>by
    have k:=ad9 nd f hi;rw[j9,l,lB]at k;constructor
    .intro h
     have l6:=k.1 (qL7.2 (.inl h));refine qy fun q=>?_;rw[ofC_at nd f (by rw[j9];omega) hi,SR NH]at h;exact(by grind [List.getElem_mem])
    .intro h
     rw[ofC_at nd f (by rw[j9];omega) hi,ahx NH];exact ZT _
   have s:∀{i},i<200->(ofC 200 (A++B) i∈B↔3<=i/\i<6):=fun{i} hi=>by
    have k:=ad9 nd f hi;rw[j9,l,lB,qL7,m hi]at k;constructor
    .intro h
     have:=k.1 (.inr h);refine(by grind [Nat.le_of_not_lt])
    .intro h
     exact pw
   refine afg (n:=200) NH (P.ren (ren_C nd f) fun v w=>?_);rw[Vb,vD hR,ad];constructor
   .rintro (⟨d, h2, h3⟩ | ⟨d, h2, h3⟩)
    .exact pw
    .exact pw
   .rintro ⟨d, h2, h3 | h3⟩
    .have := (m d).1 h3.1
     have:=(s h2).1 h3.2;omega
    .have := (s d).1 h3.1
     have:=(m h2).1 h3.2;omega
theorem kind_no:∀(m:Nat) (es:List Pr),es.length=m->bX ⟨((200:Nat):Int),es⟩->aaN es≠0->Tw2 (Jp es)/\¬XU 200 (eN 200 es):=by
 intro m
 induction m with
 |zero=>
  intro es J e i;obtain⟨E,ks,K,-⟩:=abT e i;have:=afE e.GD e.q9 abr (VU.filter _);have M:=K.n9;have o:=K.len;rw[<-acX]at this;have:(aaj (Zh 200 es) (aad (Zh 200 es))).length<=(abF (Zh 200 es) (aad (Zh 200 es))).length:=by
   unfold abF;generalize aaj (Zh 200 es) (aad (Zh 200 es))=D
   induction D with
   |nil=>exact Og _
   |cons d D r=>simp only[U0,j9,jz,aex,Uz];omega
  omega
 |succ m r=>
  intro es N e i;obtain⟨E,ks,K,S⟩:=abT e i;have hR:=e.GD;by_cases j:∃u,((Zh 200 es).getD u []).length=2
  rotate_left
  .exact shape_no hR (VU.filter _) (fun v h=>(aby h).1) S (by grind [afG.base])
  obtain⟨u,j⟩:=j;obtain⟨v,a,b,h2,O,ha,hb,ne⟩:=K.find e j;obtain⟨L,s,U⟩:=up_ex e h2 ha hb ne (by grind [afG.apart]);have g:aaN L≠0:=by rw[<-U.kind];exact i
  obtain⟨T,P⟩:=r L (by have:=U.len;omega) s g;obtain⟨E',C,z,F⟩:=abT s g;have f:∃t∈aad (Zh 200 L),t≠a/\t≠b:=by
   have l3:3<=(aad (Zh 200 L)).length:=by
    rcases F with⟨h,-⟩|⟨A,B,p,R,lB,-⟩
    .omega
    .have := p.length_eq
     rw[j9]at this;omega
   refine qy fun q=>?_;have:=tf (A:=aad (Zh 200 L)) (B:=[a,b]) (VU.filter _) fun x V=>by
    by_cases o:x=a
    .simp[o]
    by_cases G:x=b
    .simp[G]
    exact pw
   simp only[Uz,Q9]at this;omega
  obtain⟨t,H,t1,I⟩:=f;have k:∃w,Jp L t w:=by
   have hd:=z.deg t H;have:=z.e3;rw[<-aaX]at hd;rcases h:abE (Zh 200 L) t with _|⟨w,l⟩
   .rw[h]at hd;simp at hd;omega
   .exact⟨w,(aai U.r1).1 (by rw[h];simp)⟩
  refine⟨T.upon (fun x y h=>h.symm) U.ab U.nab U.iso k t1 I U.up,fun Q=>P ?_⟩;have em:eN 200 L v=[]:=by
   rcases h:eN 200 L v with _|⟨w,l⟩
   .rfl
   .exact absurd ((vD U.r1).1 pw) (U.iso w)
  exact(adH.planar (n:=200) (a:=a) (b:=b) (m:=v) ⟨MG U.r1 U.a1,MG U.r2 U.a2,(vD U.r1).2 U.ab,em,(ha.lt hR).1,fun x y=>by rw[vD U.r1,vD U.r2,U.up];rfl⟩).1 Q
theorem bX.adC {n:Nat} {es:List Pr} (h:bX ⟨(n:Int),es⟩):bX ⟨((200:Nat):Int),es⟩:=by
 have b:(n:Int)<=200:=h.n1;refine bX.of NH h.len (fun p a=>?_) h.q9;have:=h.GD p a;omega
theorem afa {n:Nat} {es:List Pr} (h:bX ⟨(n:Int),es⟩) (f:aaz es≠0):aeo n es/\¬aak n es/\9<=es.length:=by
 have a:=h.adC;rw[aaz,if_pos pw]at f;obtain⟨T,P⟩:=kind_no _ es rfl a f;obtain⟨E,ks,K,-⟩:=abT a f;have b:9<=es.length:=by
  have:=afE a.GD a.q9 abr (VU.filter _);have b:=K.n9;have g:=K.len;rw[<-acX]at this;have:(aaj (Zh 200 es) (aad (Zh 200 es))).length<=(abF (Zh 200 es) (aad (Zh 200 es))).length:=by
   unfold abF;generalize aaj (Zh 200 es) (aad (Zh 200 es))=D;clear g
   induction D with
   |nil=>exact Og _
   |cons d D i=>simp only[U0,j9,jz,aex,Uz];omega
  omega
 have O:=T.oneB h (fun e=>by rw[e]at b;simp at b);refine⟨O,fun q=>?_,b⟩;rcases O.flat.1 ((abc O).1 q)with q|q
 .omega
 .have j : (n : Int) <= 200 := h.n1
  exact(by grind [acv,bX.GD])
end Go.Fw
namespace Go.Fw
section
attribute [local irreducible] Jz JL vq cQ
open Go.Proofs
variable {G:GM} {n:Nat}
def adD {α:Type}:∀(l:List α) (i j:Nat),j<i->((l.eraseIdx i).eraseIdx j).Sublist (l.eraseIdx j)
 |[],i,j,_=>by simp
 |a::l,i+1,0,_=>by
  rw[aeA,qL212,qL212];exact Ex l i
 |a::l,i+1,j+1,h=>by
  rw[aeA,aeA,aeA];exact(adD l i j NH).cons₂ a
def aes {n:Nat}:∀(f i:Nat) (l:List Pr),¬aak n l->(∀j,j<i->j<l.length->aak n (l.eraseIdx j))->l.length<=i+f->(findM n f i l).Sublist l/\¬aak n (findM n f i l)/\∀j,j<(findM n f i l).length->aak n ((findM n f i l).eraseIdx j)
 |0,i,l,h,a,d=>⟨zd _,h,fun j q=>a j (by have:j<l.length:=q;omega) q⟩
 |f+1,i,l,h,a,d=>by
  rw[findM];by_cases c:i<l.length
  rotate_left
  .rw [if_neg c]
   exact⟨zd _,h,fun j q=>a j NH q⟩
  rw[if_pos c];by_cases p:aak n (l.eraseIdx i)
  .rw [if_pos p]
   exact aes f (i+1) l h (fun j q b=>by
    by_cases e:j=i
    .rw[e];exact p
    .exact a j NH b) NH
  .rw [if_neg p]
   have g:(l.eraseIdx i).length=l.length-1:=by rw[QU,if_pos c]
   obtain⟨k,h2,h3⟩:=aes f i (l.eraseIdx i) p (fun j q b=>acb (adD l i j q) (a j q NH)) NH;exact⟨k.trans (Ex l i),h2,h3⟩
def afb (h:¬aak G.n.toNat G.es):(abv G).Sublist G.es/\¬aak G.n.toNat (abv G)/\∀j,j<(abv G).length->aak G.n.toNat ((abv G).eraseIdx j):=by
 rw[abv,if_neg h];exact aes _ 0 _ h (fun j q=>absurd q (ahM _)) NH
def afc (h:aak G.n.toNat G.es):abv G=[]:=by rw[abv,if_pos h]
def agK {l:List Pr} (h:aak n l):aaz l=0:=
 qy fun q=>(afa h.1 q).2.1 h
end
section
attribute [local instance] Classical.propDecidable
attribute [local irreducible] Jz JL vq cQ
open Go.Proofs
variable {a b i n x y:Nat} {es:List Pr}
def lesA (A:Nat->Nat->Prop) (x y v w:Nat):Prop:=A v w/\¬(v=x/\w=y)/\¬(v=y/\w=x)
def aea (d:bX ⟨(n:Int),es⟩) (h:es[i]?=some ((a:Int),(b:Int))) (x y:Nat):Jp (es.eraseIdx i) x y↔lesA (Jp es) a b x y:=by
 obtain⟨hi,e⟩:=Ny.1 h;have c:es=es.take i++((a:Int),(b:Int))::es.drop (i+1):=by rw[<-e,<-vY hi,qL92]
 have:=less_adj (n:=n) (L1:=es.take i) (L2:=es.drop (i+1)) (a:=a) (b:=b) (by rw[<-c];exact d) x y;rw[<-c,<-qL146]at this;exact this
def adj_at (h:Jp es x y):∃i:Nat,es[i]?=some ((x:Int),(y:Int))\/es[i]?=some ((y:Int),(x:Int)):=by
 rcases h with h|h
 .obtain⟨i,hi⟩:=IE.1 h;exact⟨i,.inl hi⟩
 .obtain⟨i,hi⟩:=IE.1 h;exact⟨i,.inr hi⟩
def les_comm (A:Nat->Nat->Prop) (x y:Nat):lesA A x y=lesA A y x:=by
 funext v w;unfold lesA;exact propext ⟨fun h=>⟨h.1,h.2.2,h.2.1⟩,fun h=>⟨h.1,h.2.2,h.2.1⟩⟩
end
end Go.Fw
namespace Go.Fw
open Go.Proofs
attribute [local irreducible] Jz JL vq cQ aaN
attribute [local instance] Classical.propDecidable
def planK_of {n:Nat} {es:List Pr} (a:bX ⟨(n:Int),es⟩) (h:XU n (eN n es)):aak n es:=by
 refine(acp a).2 fun b hb=>?_;have O:=aaQ a hb;refine(abc O).2 (O.flat.2 (.inr ?_));obtain⟨p,c,rfl⟩:=aaP.1 hb;refine h.less (fun v w k=>?_) (fun v w k=>?_)
 .rw [vD a.GD]
  exact((abM a.GD).1 ((vD O.1.GD).1 k)).1
 .exact(vD O.1.GD).2 ((vD O.1.GD).1 k).symm
structure TwF (K:Int) (N:Nat) (l:List Pr):Prop where
 r:bX ⟨(N:Int),l⟩
 kind:aaz l=K
 less:∀i,i<l.length->aak N (l.eraseIdx i)
section
variable {K : Int} {N : Nat} {l : List Pr} (T : TwF K N l) (hK : K ≠ 0)
include T hK
end
end Go.Fw
namespace Go.Fw
section
attribute [local irreducible] Jz JL vq cQ
open Go.Proofs
variable {A:Nat->Nat->Prop} {G:GM} {L es:List Pr} {a b c d e n v w:Nat} {l:II} {p q:Nat->Nat}
def dec_k5:∀v:Nat,v<5->∀w:Nat,w<5->(((((v:Int),(w:Int)):Pr)∈k5L\/(((w:Int),(v:Int)):Pr)∈k5L)↔v≠w):=by decide+kernel
def dec_k33b:(List.range 6).all (fun v=>(List.range 6).all fun w=>(E9.contains ((v:Int),(w:Int))||E9.contains ((w:Int),(v:Int)))==((decide (v<3)&&decide (3<=w))||(decide (3<=v)&&decide (w<3))))=true:=by decide+kernel
theorem agn (v:Nat) (a:v<6) (w:Nat) (hw:w<6):(((((v:Int),(w:Int)):Pr)∈E9\/(((w:Int),(v:Int)):Pr)∈E9)↔(v<3/\3<=w/\w<6)\/(3<=v/\v<6/\w<3)):=by
 have:=ff.1 (ff.1 dec_k33b v (iy.2 a)) w (iy.2 hw)
 grind
attribute [local instance] Classical.propDecidable
theorem tw_sym (T:Tw A):(∀v w,A v w->A w v)/\∀v,¬A v v:=by
 induction T with
 |five h=>
  obtain⟨a,b,c,d,e,nd,h⟩:=h
  grind
 |six h=>
  obtain⟨a,b,c,d,e,f,nd,h⟩:=h
  grind
 |@up A B a b v T ab iso h g=>
  grind [upR]
theorem pair_adj (hR:aV n es) {p:Pr} (c:p∈es):∃a b:Nat,p=GW a b/\Jp es a b:=by
 obtain⟨d,h2,h3⟩:=hR p c;refine⟨p.1.toNat,p.2.toNat,?_,?_⟩
 .grind [GW]
 .left
  grind
theorem ago (hR:aV n es) (hA:D3 es) (nd:L.Nodup) (h:∀p,p∈L↔∃a b,Jp es a b/\p=GW a b):es.Perm L:=by grind [D3.nodup,pair_adj,H4]
theorem deg_two (c:bX ⟨((200:Nat):Int),es⟩) (ne:a≠b) (h:∀w,Jp es v w↔w=a\/w=b):((Zh 200 es).getD v []).length=2:=by
 have:(abE (Zh 200 es) v).Perm [a,b]:=abw (abx c.GD c.q9 _) (by simp[ne]) fun w=>by grind [aai,bX.GD]
 rw[<-aaX,this.length_eq];rfl
def agp {es c:List Pr} (N:Ren 200 p q) (hR:aV 200 es) (f:aV 200 c) (h:∀a b,a<200->b<200->(Jp c (p a) (p b)↔Jp es a b)):H9 200 es c p:=
 ⟨hR,f,N.pl,fun _ _ ha hb e=>N.inj ha hb e,fun x d=>⟨q x,N.ql x d,N.pq x d⟩,h⟩
theorem aet (nd:l.Nodup) (N:Ren 200 p q) (a:∀i,(h:i<l.length)->p i=l[i]) (c:l.length<=200) (b:v<200):p v∈l↔v<l.length:=by
 constructor
 .intro h
  obtain⟨i,hi,e⟩:=LN h;rw[<-a i hi]at e;have:=N.inj NH b e;omega
 grind
def adj_k5:Jp k5L v w↔v<5/\w<5/\v≠w:=by
 have hR:aV 5 k5L:=k5R.GD;constructor
 .intro h
  have l:=h.lt hR;exact⟨l.1,l.2,(dec_k5 v l.1 w l.2).1 h⟩
 .rintro ⟨a, h2, h3⟩
  exact(dec_k5 v a w h2).2 h3
def adj_k33:Jp E9 v w↔(v<3/\3<=w/\w<6)\/(3<=v/\v<6/\w<3):=by
 have hR:aV 6 E9:=agB.GD;constructor
 .intro h
  have l:=h.lt hR;exact(agn v l.1 w l.2).1 h
 .intro h
  exact(agn v NH w NH).2 h
theorem acL {K:Int} (a:bX ⟨((200:Nat):Int),L⟩) (d:aaz L=K) (b:bX ⟨((200:Nat):Int),es⟩) (I:H9 200 L es p) (c:es.length=L.length):aaN es=K:=by
 rw[kind_iso I a.q9 b.q9 c]
 grind [aaz.eq_1]
theorem agL (nd:[a,b,c,d,e].Nodup) (f:bX ⟨((200:Nat):Int),es⟩) (mem:∀v w,Jp es v w↔v∈[a,b,c,d,e]/\w∈[a,b,c,d,e]/\v≠w):aaN es=5:=by
 have lt:∀v∈[a,b,c,d,e],v<200:=fun v g=>by
  by_cases k:v=a
  .have : Jp es a b := (mem a b).2 ⟨Ma, Ma, pw⟩
   rw[k];exact(this.lt f.GD).1
  .exact(((mem a v).2 ⟨Ma,g,uV k⟩).lt f.GD).2
 obtain⟨p,q,N,h⟩:=aei nd lt;have i:bX ⟨((200:Nat):Int),k5L⟩:=k5R.adC;refine acL i agc f (agp N i.GD f.GD fun v w g hw=>?_) ?_
 .rw [mem, adj_k5, aet nd N h Ma g, aet nd N h Ma hw]
  simp only[Uz,Q9];have:p v≠p w↔v≠w:=⟨fun k e=>k (by rw[e]),fun k e=>k (N.inj g hw e)⟩;rw[this]
 .have := (ago f.GD f.q9 (afF nd) fun p => by grind [abS]).length_eq
  rw[this];rfl
theorem six_kind {a b c d e f:Nat} (nd:[a,b,c,d,e,f].Nodup) (h:bX ⟨((200:Nat):Int),es⟩) (mem:∀v w,Jp es v w↔(v∈[a,b,c]/\w∈[d,e,f])\/(v∈[d,e,f]/\w∈[a,b,c])):aaN es=33:=by
 have lt:∀v∈[a,b,c,d,e,f],v<200:=fun v i=>by
  by_cases k:v∈[a,b,c]
  .exact(((mem v d).2 (.inl ⟨k,Ma⟩)).lt h.GD).1
  .exact(((mem v a).2 (.inr ⟨pw,Ma⟩)).lt h.GD).1
 obtain⟨p,q,N,g⟩:=aei nd lt;have m:bX ⟨((200:Nat):Int),E9⟩:=agB.adC;have o:=g 0 Ma;have j:=g 1 Ma;have h2:=g 2 Ma;have h3:=g 3 Ma;have n:=g 4 Ma;have r:=g 5 Ma;simp at o j h2 h3 n r;have six:∀v,v<200->(p v∈[a,b,c]↔v<3)/\(p v∈[d,e,f]↔3<=v/\v<6):=fun v i=>by
  by_cases k:v<6
  .have : v = 0 \/ v = 1 \/ v = 2 \/ v = 3 \/ v = 4 \/ v = 5 := NH
   simp at nd;rcases this with rfl|rfl|rfl|rfl|rfl|rfl
   .grind
   .grind
   .grind
   .grind
   all_goals grind
  .have := mt (aet nd N g Ma i).1 k
   grind
 refine acL m aeU h (agp N m.GD h.GD fun v w i hw=>?_) ?_
 .rw [mem, adj_k33, (six v i).1, (six v i).2, (six w hw).1, (six w hw).2]
  omega
 .have l : ([a, b, c] ++ [d, e, f]).Nodup := nd
  have:=(ago h.GD h.q9 (crs_nd l) fun p=>by
   rw[acY];constructor
   .grind
   .rintro ⟨x, y, j, n⟩
    rcases(mem x y).1 j with k|k
    all_goals grind [so]).length_eq
  rw[this];rfl
theorem tw_kind (T:Tw A):∀{es:List Pr},bX ⟨((200:Nat):Int),es⟩->(∀x y,Jp es x y↔A x y)->aaN es≠0:=by
 induction T with
 |five h=>
  obtain⟨a,b,c,d,e,nd,h⟩:=h
  grind [agL]
 |six h=>
  obtain⟨a,b,c,d,e,f,nd,h⟩:=h
  grind [six_kind]
 |@up A B a b v T ab iso h l=>
  intro es i hB;obtain⟨sy,ir⟩:=tw_sym T;have nva:v≠a:=fun e=>iso b (e▸ab);have nvb:v≠b:=fun e=>iso a (e▸sy _ _ ab);have nab:a≠b:=fun e=>ir b (e▸ab);have j:∀w,¬A w v:=fun w k=>iso w (sy _ _ k);have mem:∀x y,Jp es x y↔upR A a b v x y:=fun x y=>(hB x y).trans (h x y);have g:∀w,Jp es v w↔w=a\/w=b:=fun w=>by grind [upR]
  obtain⟨L,m,U⟩:=up_ex i (deg_two i nab g) ((g a).2 (.inl rfl)) ((g b).2 (.inr rfl)) nab (fun k=>by grind [upR]);rw[U.kind];refine l m fun x y=>?_;have n:=U.iso;have o:∀w,¬Jp L w v:=fun w k=>n w k.symm;by_cases k1:x=v
  .grind
  by_cases k2:y=v
  .grind
  by_cases p:(x=a/\y=b)\/(x=b/\y=a)
  .grind [UpK.ab,Jp.symm]
  .have q := U.up x y
   grind [upA,upR]
theorem aeb (d:bX ⟨((200:Nat):Int),es⟩) (no:¬XU 200 (eN 200 es)) (less:∀i,i<es.length->XU 200 (eN 200 (es.eraseIdx i))):aaN es≠0:=by
 have hR:=d.GD;have c:=MG hR d.q9;have lt:∀{es:List Pr},aV 200 es->∀v w,w∈eN 200 es v->v<200:=fun hR v w h=>(((vD hR).1 h).lt hR).1;have Rl:V7 201 (eN 200 es):=⟨c.nd,fun v w h=>agr (c.lt v w h),c.sy,c.ir⟩;have more:∀{es:List Pr},aV 200 es->(XU 201 (eN 200 es)↔XU 200 (eN 200 es)):=fun hR=>XU.more (lt hR);have T:=afk (n:=201) NH _ (eN 200 es) rfl Rl ⟨200,NH,c.ahi (qL0 _)⟩ (fun P=>no ((more hR).1 P)) fun a b hb=>by
  have ad:=(vD hR).1 hb;obtain⟨i,hi⟩:=adj_at ad;have f:i<es.length:=pw;have e:aV 200 (es.eraseIdx i):=(d.sub (Ex es i)).GD;have P:aae 201 fun v w=>w∈eN 200 (es.eraseIdx i) v:=(more e).2 (less i f);refine P.congr fun v w=>?_;rw[vD e,vD hR];rcases hi with hi|hi
  .rw[aea d hi];rfl
  .rw[aea d hi,les_comm];rfl
 grind [tw_kind,vD]
theorem kura_sub:∀(m:Nat) (es:List Pr),es.length=m->bX ⟨((200:Nat):Int),es⟩->¬XU 200 (eN 200 es)->∃L,L.Sublist es/\aaN L≠0:=by
 intro m
 induction m using Nat.strongRecOn<;>grind [aeb,bX.sub,List.Sublist.trans]
theorem aec (a:bX ⟨(n:Int),es⟩):aak n es↔XU n (eN n es):=by
 have c:(n:Int)<=200:=a.n1;refine⟨fun h=>qy fun no=>?_,planK_of a⟩;obtain⟨L,hs,d⟩:=kura_sub _ es rfl a.adC fun P=>no ((acv a.GD NH).1 P);have b:=a.sub hs;have:aaz L≠0:=by grind [aaz.eq_1,bX.adC]
 exact(afa b this).2.1 (acb hs h)
theorem fnd_kind (a:bX G) (h:¬aak G.n.toNat G.es):aaz (abv G)≠0:=by
 obtain⟨b,h2,h3⟩:=afb h;have c:=a.n0;have d:G.n<=200:=a.n1;have e:G=⟨((G.n.toNat:Nat):Int),G.es⟩:=by
  obtain⟨n,es⟩:=G
  grind
 grind [bX.sub,acv,bX.GD,aaz.eq_1,bX.adC,aeb,aec]
end
section
attribute [local irreducible] Kp MQ lU KO1 KO KN KX KE VK Kl ZJ TC aab
attribute [local irreducible] Jz JL vq cQ aaN
open Go.Proofs
theorem afH (es:List Pr):aaz es=0\/aaz es=5\/aaz es=33:=by
 unfold aaz;split
 .rw [aa9]
  unfold aa8
  grind
 .exact .inl rfl
def agM {p q:Pr} (h:Nz p q<0):p.1<q.1\/p.1=q.1/\p.2<q.2:=by exact(Hv p q).1 h
theorem agN (m:LA) (v bv:Value) (G:GM) (bs:List Bool) (h:AHeap) (hg:GR h v G) (hb:RL sJ h bv bs):
  AC Tryz.prog m 12 [v,bv] h fun x h'=>x=.bool true/\Le h h':=by
 have j:=hg;obtain⟨gn,es⟩:=G
 obtain⟨ev,rfl,hp⟩:=hg.open
 refine AC.vE ⟨Tryz.func12,rfl,WY⟩ Tryz.ntmps12 Tryz.results12 fun aa=>?_;simp only[Br,Nat.reduceAdd];obtain⟨h1,b1,b,az,-,H⟩:=r8 (n:=gn) aa hp
 generalize h.next=B at*
 have ae:=H h1 (Le.refl _);refine Sk (XC b1 ae.1) ?_;refine TC.intro PJ ⟨Tryz.func42,rfl,WY⟩ (ae1 m _ ⟨gn,es⟩ h1 (j.le b)) ?_;rintro x h2 w2 ⟨⟨y,rfl,a⟩,l2⟩;have P:=b.trans l2;cases y with
 |false=>
  refine Uy ?_;refine TC.intro PJ ⟨ahr,rfl,WY⟩ (abj m h2) ?_;rintro x h3 w3 ⟨rfl,l3⟩;refine Uy ?_;exact⟨trivial,P.trans l3⟩
 |true=>
 obtain⟨z,Q,R⟩:=a.1 rfl;clear a;have h0:0<=gn:=z.n0;obtain⟨n,rfl⟩:=WA h0;simp only at Q R;refine Sk ((H h2 l2).1) ?_;refine TC.intro PJ ⟨iZ,rfl,WY⟩ (abq m _ ⟨(n:Int),es⟩ h2 (j.le P)) ?_;rintro x h3 w3 ⟨l3,⟨hn,-⟩|⟨-,lv,rfl,pl,ag⟩⟩
 .exact absurd z hn
 have I:=l2.trans l3;have S:=b.trans I;have J:∃F,F=abv ⟨(n:Int),es⟩:=⟨_,rfl⟩;obtain⟨F,J⟩:=J;rw[<-J]at pl ag;have s:F.Sublist es:=by
  by_cases q:aak n es
  .rw[J,afc (G:=⟨(n:Int),es⟩) q];exact List.nil_sublist _
  .rw[J];exact(afb (G:=⟨(n:Int),es⟩) q).1
 have aC:F.length<=40:=Hs s.length_le NH;refine Sk ((H h3 I).1) ?_;refine TC.intro PJ ⟨Tryz.func45,rfl,WY⟩ (afC m _ bv ⟨(n:Int),es⟩ bs h3 (j.le S) (hb.le Nn.sJ S) (by simp only;omega)) ?_;rintro sv h4 w4 ⟨gs,l4,-⟩;simp only at gs;have aj:=acA es bs;generalize someM es bs=ls at*;have al:=I.trans l4;refine Uy ?_;refine TC.intro PJ ⟨YW,rfl,WY⟩ (aba m sv ls h4 gs.pr) ?_;rintro x h5 w5 ⟨rfl,l5⟩;have K:=al.trans l5;have d0:decide ((0:Int)=0)=true:=by decide
 refine Sk (Yb @bne.eq_1.{0} d0 ((H h5 K).1)) ?_
 refine TC.intro PJ ⟨zL,rfl,WY⟩ (aaO m _ ⟨(n:Int),es⟩ h5 (j.le (b.trans K))) ?_;rintro x h6 w6 ⟨⟨y,rfl,a⟩,l6⟩;simp only[HV]at a;have T:=K.trans l6;have t:=pl.le ((l4.trans l5).trans l6);have lP:=fun g=>t.len g;cases y with
 |true=>
  have U:=(a.1 rfl).2;have aq:F=[]:=by rw[J];exact afc (G:=⟨(n:Int),es⟩) U
  have k0:aaz ls=0:=agK (acb aj U);have dl:decide ((F.length:Int)=0)=true:=by rw[aq];rfl
  rw[k0];simp only[HO,Nat.reduceLT,↓reduceIte,Nat.reduceEqDiff,reduceCtorEq,lP,dl,d0];refine TC.intro PJ ⟨ahr,rfl,WY⟩ (abj m h6) ?_;rintro x h7 w7 ⟨rfl,A⟩;refine Uy ?_;exact⟨trivial,(b.trans T).trans A⟩
 |false=>
 have ar:¬aak n es:=fun q=>by have:=a.2 ⟨z,q⟩;cases this
 have hk:aaz F≠0:=by rw[J];exact fnd_kind (G:=⟨(n:Int),es⟩) z ar
 have av:bX ⟨(n:Int),F⟩:=z.sub s;clear a;refine Sk lP ?_;refine lIn (fun k fr N=>∃i:Nat,k=F.length-i/\i<=F.length/\fr=mkF [(2,.pointer (some ⟨B,0,none⟩)),(5,lv),(38,lv),(39,.int .i64 F.length),(40,.int .i64 i)]/\Le h6 N) ⟨0,rfl,Og _,rfl,Le.refl _⟩ ?_;rintro k fr N ay ⟨i,rfl,hi,rfl,O⟩;have L:=T.trans O;refine Uy ?_;refine Kl.intro (fun ht=>?_) (fun hf=>?_)
 rotate_left
 .refine Uy ?_
  refine TC.intro PJ ⟨YW,rfl,WY⟩ (aba m lv F N (t.le O)) ?_;rintro x h7 w7 ⟨rfl,A⟩;rcases(afH F).resolve_left hk with k|k
  .rw [k]
   have d1:decide ((5:Int)=5)=true:=by decide
   refine Sk d1 ?_;refine TC.intro PJ ⟨ahr,rfl,WY⟩ (abj m h7) ?_;rintro x l w8 ⟨rfl,d⟩;refine Uy ?_;exact⟨trivial,((b.trans L).trans A).trans d⟩
  .rw [k]
   have d1:decide ((33:Int)=5)=false:=by decide
   have d2:decide ((33:Int)=33)=true:=by decide
   refine Sk (XC d1 @d2) ?_;refine TC.intro PJ ⟨ahr,rfl,WY⟩ (abj m h7) ?_;rintro x l w8 ⟨rfl,d⟩;refine Uy ?_;exact⟨trivial,((b.trans L).trans A).trans d⟩
 have e:i<F.length:=CC ht;clear ht;have V:=CA e;have o:F[i]∈es:=s.subset (ZT e);have W:∀q,0<i->F[i-1]?=some q->Nz q F[i]<0:=fun q h0 N=>av.q9 (i-1) i q F[i] NH N V;obtain⟨aD,aF,aH⟩:=z.GD _ o;generalize F[i]=p at*;have ad:=t.addr (k:=.i64) i e;have ld:=(t.le O).load V;obtain⟨q2,M,e2,e3,A,w7,C⟩:=Ut ay p;have r:=L.trans A;have L0:=lK C;have L1:=HY C;have aw:=aaa i NH
 generalize N.next=E at*
 simp only[HO,Nat.reduceLT,↓reduceIte,Nat.reduceEqDiff,reduceCtorEq,ad,ld,e2,e3];have fin:∀l,Le M l->Le h6 l:=fun l d=>(O.trans A).trans d;have d1:decide (p.1>=p.2)=false:=decide_eq_false NH;by_cases i0:0<i
 .have f := CA (show i - 1 < F.length by omega)
  have hc:=agM (W _ i0 f);generalize F[i-1]'(by omega)=q at f hc
  have D:awrap .i64 ((i:Int)-1)=((i-1:Nat):Int):=by grind [cT]
  have X:=t.addr (k:=.i64) (i-1) NH;have c1:((i:Int)>0)=True:=eq_true NH;have d2:decide ((i:Int)>0)=true:=decide_eq_true NH;have d3:decide (q.1>p.1)=false:=decide_eq_false NH;have M0:=(t.le (O.trans A)).l0 f;have M1:=(t.le (O.trans A)).l1 f;by_cases c:q.1=p.1
  .have d4 : decide (q.1 = p.1) = true := decide_eq_true c
   have d5:decide (q.2>=p.2)=false:=decide_eq_false NH;refine gh (tA [0,1,2,3,4] (JQ 5 [0,2,4] (tA [6,7,8,9,10,11,12,13,14,15,16,17,18,19,20,21,22,23,24,25,26,27,28,29,30,31,32,33,34,35,36,37,38,39,40,41,42,43,44,45,46,47,48,49,50] .done))) ?_;refine CO (rE ((H M r).1) @Dh @Z0 @Ip.eq_1 @XJ L0 L1) ?_;refine VA.intro PJ ⟨Tryz.func33,rfl,WY⟩ (aem m _ ⟨(n:Int),es⟩ p.1 p.2 M (j.le (b.trans r))) ?_;rintro x l w8 ⟨⟨y,rfl,a⟩,d⟩;obtain rfl:y=true:=a.2 ⟨z,by rw[oK NH,WL NH];exact o⟩;have u:=lK (d.own _ _ C);have w:=HY (d.own _ _ C);have Y:=(t.le (fin l d)).l0 f;have Z:=(t.le (fin l d)).l1 f;simp only[Ip]at Y Z;simp only[HO,Nat.reduceLT,↓reduceIte,Nat.reduceEqDiff,reduceCtorEq,Nat.reduceBEq,Qg,Dh,Z0,Ip,XJ,u,w,Y,Z,d1,d2,d3,d4,d5,D,X,aw];exact lgA (JS e) ⟨i+1,rfl,e,rfl,fin l d⟩
  .have d4 : decide (q.1 = p.1) = false := decide_eq_false c
   refine gh (tA [0,1,2,3,4] (JQ 5 [0,2,4] (tA [6,7,8,9,10,11,12,13,14,15,16,17,18,19,20,21,22,23,24,25,26,27,28,29,30,31,32,33,34,35,36,37,38,39,40,41,42,43,44,45,46,47,48,49,50] .done))) ?_;refine CO (rE ((H M r).1) @Dh @Z0 @Ip.eq_1 @XJ L0 L1) ?_;refine VA.intro PJ ⟨Tryz.func33,rfl,WY⟩ (aem m _ ⟨(n:Int),es⟩ p.1 p.2 M (j.le (b.trans r))) ?_;rintro x l w8 ⟨⟨y,rfl,a⟩,d⟩;obtain rfl:y=true:=a.2 ⟨z,by rw[oK NH,WL NH];exact o⟩;have u:=lK (d.own _ _ C);have w:=HY (d.own _ _ C);have Y:=(t.le (fin l d)).l0 f;have Z:=(t.le (fin l d)).l1 f;simp only[Ip]at Y Z;simp only[HO,Nat.reduceLT,↓reduceIte,Nat.reduceEqDiff,reduceCtorEq,Nat.reduceBEq,Qg,Dh,Z0,Ip,XJ,u,w,Y,Z,d1,d2,d3,d4,D,X,aw];exact lgA (JS e) ⟨i+1,rfl,e,rfl,fin l d⟩
 .obtain rfl : i = 0 := NH
  have d2:decide (((0:Nat):Int)>0)=false:=by decide
  refine gh (tA [0,1,2,3,4] (JQ 5 [0,2,4] (tA [6,7,8,9,10,11,12,13,14,15,16,17,18,19,20,21,22,23,24,25,26,27,28,29,30,31,32,33,34,35,36,37,38,39,40,41,42,43,44,45,46,47,48,49,50] .done))) ?_;refine CO (rE ((H M r).1) @Dh @Z0 @Ip.eq_1 @XJ L0 L1) ?_;refine VA.intro PJ ⟨Tryz.func33,rfl,WY⟩ (aem m _ ⟨(n:Int),es⟩ p.1 p.2 M (j.le (b.trans r))) ?_;rintro x l w8 ⟨⟨y,rfl,a⟩,d⟩;obtain rfl:y=true:=a.2 ⟨z,by rw[oK NH,WL NH];exact o⟩;have u:=lK (d.own _ _ C);have w:=HY (d.own _ _ C);refine CO (adG @Dh @Z0 @Ip.eq_1 @XJ u w d1 @d2) ?_;simp only[HO,Nat.reduceLT,↓reduceIte,Nat.reduceEqDiff,reduceCtorEq,aw];exact lgA (JS e) ⟨0+1,rfl,e,rfl,fin l d⟩
end
section
open Go.Proofs Go.ChangeShapes Go.WideShapes Go.RowKit Go.ChangeAt
open Go.Proofs.YtkccdnmaaelbiaaGreat
def acP (os:Os) (started:os.Started) (H:Type) (enc:TypeId×Value->H):
  ReturnsInHanded {} Tryz.checked os 12 .any (Rows.kuraFindSpec.pre6 enc Tryz.prog Tryz.f12 Rows.kuraFindRow.domain false) (Rows.kuraFindSpec.post enc Tryz.prog Tryz.f12 false true false false):=by
 have own:ownKnob Tryz.prog.godebug=Option.none:=Ji;have laidOut:laidOutB Tryz.prog=true:=Ji;refine returnsInHanded_of_change (C:=Tryz.checked) own started Ji Tryz.func12
  (ChangeSpec.witness6 (enc:=enc) (C:=Tryz.checked) false ⟨#[],#[.agg #[.int .i64 0,.slice Option.none 0 0],.slice Option.none 0 0],[]⟩ 8 Ji Ji Ji Ji) ?_
 intro W base args ds gs before c u w _;have b:∀(j:Nat) t v,Tryz.f12.params[j]?=some t->args[j]?=some v->Value.okWide Tryz.prog W .any base t v:=c;have d:=u;obtain⟨p,q,i,B,rfl,D,E⟩:=u;have hA:DataW.TrodAll enc Tryz.prog W 0 (fun _=>true) true Tryz.f12.params.toList args.toList ds p:=i;rw[Tryz.params12]at hA b;obtain⟨k,L,M,N,F,O,a,rfl,rfl,z,hA⟩:=trodAll_cons hA;obtain⟨l,w1,d1,P,G,Q,rfl,rfl,rfl,A,hA⟩:=trodAll_cons hA;obtain⟨rfl,rfl,rfl⟩:=trodAll_nil hA;obtain rfl:args=#[k,l]:=by cases args;simp_all
 obtain⟨rfl,rfl⟩:=trodVars_none B;obtain⟨I,x0,m,n⟩:=afp (b 0 24 k rfl rfl) z (fun _=>⟨0,0,0⟩);obtain⟨u1,x1,o,r⟩:=afo (b 1 59 l rfl rfl) A (fun _=>⟨0,0,0⟩);refine(agN (LA.of W) I u1 x0 x1 (MR W) n r [] (fun _=>⟨0,0,0⟩) W [k,l] (Rel.start W _) ?_).mono ?_
 .exact .cons m (.cons o ((.nil _ _)))
 .rintro e J ⟨x, x', S, h', rfl, R, -, -, K, rfl, -⟩
  obtain rfl:=K.YE;have hb:=R.below;have g:∀y∈F,y.block<W.heap.size:=fun y s=>d.lt y (by simp[s]);have h:∀y∈G,y.block<W.heap.size:=fun y s=>d.lt y (by simp[s]);have f:DataW.Trod enc Tryz.prog J W.heap.size (fun _=>false) false 4 (.bool true) (.lit (.bool true)) []:=⟨1,by simp[DataW.trod,Value.cells,AV]⟩;have a:=
   tcons (Below.trod laidOut Ji (of_decide_eq_true Ji) z hb g) (tcons (Below.trod laidOut Ji (of_decide_eq_true Ji) A hb h) (trodAll_mk0))
  try simp only[wV,aey]at a
  exact⟨_,rfl,_,_,_,[],_,[],d,trodAll_mk1 f,a,rfl,hb.frame _,fun e=>by cases e⟩
def kuraFind_said:Rows.KuraFindSaid:=
 OpenClaim.holds_of_wide 12 Tryz.f12 rfl rfl rfl rfl rfl rfl rfl ⟨rfl,rfl,rfl,rfl,rfl⟩ rfl rfl rfl rfl rfl Ji Tryz.func12 Ji
  (of_decide_eq_true Ji) (by unfold Func.isWrapper;first|(rw[if_pos iw];kernel_rfl)|(rw[if_neg iw];exact⟨rfl,rfl⟩))
  (fun os started H enc _=>acP os started H enc)
end
end Go.Fw
