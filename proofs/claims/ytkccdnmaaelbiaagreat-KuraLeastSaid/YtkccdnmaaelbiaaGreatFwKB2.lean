/- A text. -/
import Derived.Test.YtkccdnmaaelbiaaGreatFwKA6
set_option linter.all false
set_option maxRecDepth 99999
set_option maxHeartbeats 9999999
namespace Go.Fw
open Go.Proofs
attribute [local irreducible] Jz JL vq cQ
attribute [local instance] Classical.propDecidable
section
variable {n : Nat} {b : List Pr} (hR : aV n b)
def abI (n:Nat) (b:List Pr):II:=aad n b++(List.range n).filter fun(v:Nat)=>!b.any fun p=>aO p (v:Int)
def toV (n:Nat) (b:List Pr) (u:Nat):Nat:=(abI n b).idxOf u
def ofV (n:Nat) (b:List Pr) (i:Nat):Nat:=(abI n b).getD i 0
def abJ:(abI n b).Perm (List.range n):=by
 unfold abI aad;exact xj _ _
def acb:(abI n b).length=n:=by rw[(abJ (n:=n) (b:=b)).length_eq,vu]
def ordL_nd:(abI n b).Nodup:=(abJ (n:=n) (b:=b)).nodup_iff.2 jz
def acd {u:Nat}:u∈abI n b↔u<n:=by rw[(abJ (n:=n) (b:=b)).mem_iff,j9]
def toV_lt {u:Nat} (h:u<n):toV n b u<n:=by
 have:=Ua (acd (b:=b)|>.2 h);rwa[acb]at this
def adz {i:Nat} (h:i<n):ofV n b i<n:=by
 have a:i<(abI n b).length:=by rw[acb];exact h
 have:ofV n b i=(abI n b)[i]:=D4 a;rw[this];exact acd.1 (Gw a)
def aaQ {u:Nat} (h:u<n):ofV n b (toV n b u)=u:=by
 have c:=acd (b:=b)|>.2 h;have a:=Ua c;unfold ofV toV;rw[D4 a];exact pQ a
def toV_ofV {i:Nat} (h:i<n):toV n b (ofV n b i)=i:=by
 have a:i<(abI n b).length:=by rw[acb];exact h
 have e:ofV n b i=(abI n b)[i]:=D4 a;rw[e];exact qL206 ordL_nd i a
def ren_V (n:Nat) (b:List Pr):Ren n (toV n b) (ofV n b):=⟨fun _ h=>toV_lt h,fun _ h=>adz h,fun _ h=>toV_ofV h,fun _ h=>aaQ h⟩
def toV_idx {u:Nat} (h:u∈aad n b):toV n b u=aa6 n b (u:Int)/\toV n b u<(aad n b).length:=by
 have a:=Ua h;have e:toV n b u=(aad n b).idxOf u:=by unfold toV abI;rw[List.idxOf_append,if_pos h]
 refine⟨?_,by rw[e];exact a⟩;rw[e];refine idx_eq (n:=n) (b:=b) ?_;rw[kz,dZ,CA a];simp[pQ a]
include hR
def aau {u:Nat}:u∈aad n b↔∃w,Jp b u w:=by
 rw[acV];constructor
 .rintro ⟨f, p, e, h⟩
  obtain⟨a,c,ha,g,d,rfl⟩:=abW hR e;have h':u=a\/u=c:=by simp only[aO,bj,MY,decide_eq_true_eq]at h;omega
  rcases h' with rfl|rfl
  .exact⟨c,d⟩
  .exact⟨a,d.symm⟩
 .rintro ⟨w, h⟩
  refine⟨(h.lt hR).1,GW u w,H4 hR h,?_⟩;simp only[aO,bj,MY,decide_eq_true_eq];omega
def acI {x y:Int}:(x,y)∈aam n b↔∃u w:Nat,((u:Int),(w:Int))∈b/\x=(toV n b u:Int)/\y=(toV n b w:Int):=by
 unfold aam;rw[aae];constructor
 .rintro ⟨p, a, e⟩
  obtain⟨c,h2,h3⟩:=hR p a;obtain⟨h,d⟩:=p;simp only at c h2 h3;obtain⟨u,rfl⟩:=HV c;obtain⟨w,rfl⟩:=HV (show 0<=d by omega);injection e with f g;have m1:=(toV_idx ((aau hR).2 ⟨w,.inl a⟩)).1;have m2:=(toV_idx ((aau hR).2 ⟨u,.inr a⟩)).1;exact⟨u,w,a,by rw[m1];exact f.symm,by rw[m2];exact g.symm⟩
 .rintro ⟨u, w, a, rfl, rfl⟩
  have m1:=(toV_idx ((aau hR).2 ⟨w,.inl a⟩)).1;have m2:=(toV_idx ((aau hR).2 ⟨u,.inr a⟩)).1;exact⟨_,a,by rw[m1,m2]⟩
def abj {v w:Nat}:Jp (aam n b) v w↔v<n/\w<n/\Jp b (ofV n b v) (ofV n b w):=by
 have one:∀v w:Nat,((v:Int),(w:Int))∈aam n b->v<n/\w<n/\((ofV n b v:Int),(ofV n b w:Int))∈b:=fun v w h=>by
  obtain⟨u,x,c,a,h2⟩:=(acI hR).1 h;have l1:=(show Jp b u x from .inl c).lt hR;obtain rfl:v=toV n b u:=NH;obtain rfl:w=toV n b x:=NH;rw[aaQ l1.1,aaQ l1.2];exact⟨toV_lt l1.1,toV_lt l1.2,c⟩
 constructor
 .rintro (h | h)
  .obtain⟨a,h2,h3⟩:=one _ _ h;exact⟨a,h2,.inl h3⟩
  .obtain⟨a,h2,h3⟩:=one _ _ h;exact⟨h2,a,.inr h3⟩
 .rintro ⟨a, h2, h3 | h3⟩
  .exact .inl ((acI hR).2 ⟨_,_,h3,by rw[toV_ofV a],by rw[toV_ofV h2]⟩)
  .exact .inr ((acI hR).2 ⟨_,_,h3,by rw[toV_ofV h2],by rw[toV_ofV a]⟩)
def afj {u w:Nat} (h:Jp b u w):Jp (aam n b) (toV n b u) (toV n b w):=by
 have l:=h.lt hR;exact(abj hR).2 ⟨toV_lt l.1,toV_lt l.2,by rw[aaQ l.1,aaQ l.2];exact h⟩
def vert_lt {u w:Nat} (h:Jp b u w):toV n b u<(aad n b).length:=(toV_idx ((aau hR).2 ⟨w,h⟩)).2
omit hR in
theorem acJ {x y:Nat} (e:x∈aad n b) (d:x<y):aa6 n b (x:Int)<aa6 n b (y:Int):=by
 unfold aa6;have f:∀l:II,x∈l->l.countP (fun(v:Nat)=>decide ((v:Int)<(x:Int)))<l.countP fun(v:Nat)=>decide ((v:Int)<(y:Int)):=by
  intro l
  induction l with
  |nil=>intro h;cases h
  |cons a l g=>
   intro h;have mono:l.countP (fun(v:Nat)=>decide ((v:Int)<(x:Int)))<=l.countP fun(v:Nat)=>decide ((v:Int)<(y:Int)):=
    List.countP_mono_left fun v _ i=>by simp only[decide_eq_true_eq]at*;omega
   rw[adP,adP];rcases Z6.1 h with rfl|q
   .rw[if_neg Ma,if_pos (by simpa using d)];omega
   .have := g q
    by_cases c:(a:Int)<(x:Int)
    .rw[if_pos (by simpa using c),if_pos (by simp only[decide_eq_true_eq];omega)];omega
    .rw[if_neg (by simpa using c)];split<;>omega
 exact f _ e
omit hR in
theorem acx (d:bX ⟨(n:Int),b⟩):bX ⟨((aad n b).length:Int),aam n b⟩:=by
 have hR:=d.GD;have f:(aad n b).length<=n:=VU (KG _ _) Ma;have g:∀p∈b,∃u w:Nat,p=((u:Int),(w:Int))/\u<w/\u∈aad n b/\w∈aad n b:=fun p a=>by
  obtain⟨e,h2,h3⟩:=hR p a;obtain⟨m,l⟩:=p;simp only at e h2 h3;obtain⟨u,rfl⟩:=HV e;obtain⟨w,rfl⟩:=HV (show 0<=l by omega);exact⟨u,w,rfl,NH,(aau hR).2 ⟨w,.inl a⟩,(aau hR).2 ⟨u,.inr a⟩⟩
 refine bX.of (VU f (by have:(n:Int)<=200:=d.n1;omega)) (by rw[aam,LH];exact d.len) (fun q i=>?_) ?_
 .obtain ⟨p, a, rfl⟩ := aae.1 i
  obtain⟨u,w,rfl,j,k,hw⟩:=g p a;have e:=acJ k j;have h2:=toV_idx hw;rw[h2.1]at h2;exact⟨Ma,by simpa using e,by simpa using h2.2⟩
 .have ha : D3 b := d.q9
  rw[Nl]at ha ⊢;unfold aam;rw[vg];refine ha.imp_of_mem fun{p q} a i c=>?_;obtain⟨u,w,rfl,-,k,hw⟩:=g p a;obtain⟨x,y,rfl,-,o,r⟩:=g q i;simp only at c ⊢;rcases c with h|⟨h,h'⟩
  .left;have:=acJ k (show u<x by omega);omega
  .right
   have:=acJ hw (show w<y by omega);obtain rfl:u=x:=NH;exact⟨rfl,NH⟩
def adA:XU (aad n b).length (eN (aad n b).length (aam n b))↔XU n (eN n b):=by
 have f:(aad n b).length<=n:=VU (KG _ _) Ma;have d:∀v w,Jp (aam n b) v w->v<(aad n b).length:=fun v w h=>by
  obtain⟨c,h2,h3⟩:=(abj hR).1 h;have:=vert_lt hR h3;rwa[toV_ofV c]at this
 have GD:∀{m},(∀v w,Jp (aam n b) v w->v<m)->aV m (aam n b):=fun{m} h p i=>by
  obtain⟨q,g,rfl⟩:=aae.1 i;obtain⟨c,h2,h3⟩:=hR q g;obtain⟨r,j⟩:=q;simp only at c h2 h3;obtain⟨u,rfl⟩:=HV c;obtain⟨w,rfl⟩:=HV (show 0<=j by omega);have k:=(aau hR).2 ⟨w,.inl g⟩;have:=acJ k (show u<w by omega);have ha:Jp (aam n b) (aa6 n b (w:Int)) (aa6 n b (u:Int)):=.inr (aae.2 ⟨_,g,rfl⟩);have:=h _ _ ha;exact⟨Ma,by simp only;omega,by simp only;omega⟩
 have l:=GD d;have e:aV n (aam n b):=GD fun v w h=>zx (d v w h) f;have o:XU (aad n b).length (eN (aad n b).length (aam n b))↔XU n (eN n (aam n b)):=by
  have c:XU (aad n b).length (eN (aad n b).length (aam n b))↔XU (aad n b).length (eN n (aam n b)):=
   (XU.congr fun v w=>by rw[vD l,vD e])
  rw[c,<-XU.mores (fun v w h=>d v w ((vD e).1 h)) (n-(aad n b).length),show(aad n b).length+(n-(aad n b).length)=n by omega]
 rw[o];have N:=ren_V n b;constructor
 .intro h
  refine h.ren (p:=ofV n b) (q:=toV n b) ⟨N.ql,N.pl,N.qp,N.pq⟩ fun v w=>?_;rw[vD hR,vD e];constructor
  .intro a;exact⟨(a.lt hR).1,(a.lt hR).2,afj hR a⟩
  .rintro ⟨c, h2, h3⟩
   have:=((abj hR).1 h3).2.2;rwa[aaQ c,aaQ h2]at this
 .intro h
  refine h.ren N fun v w=>?_;rw[vD hR,vD e];exact abj hR
end
section
variable {n : Nat} {b : List Pr} (O : acG n b)
include O
theorem acG.bp {u w x y:Nat} (d:Jp b u w) (h2:Jp b x y):Pu b u x:=by
 have hR:=O.1.GD;have:=ab8 hR (fun p=>Pu b u p.1.toNat) (fun v a c ha e _=>?_) (H4 hR d) (H4 hR h2) (O.2.2 _ (H4 hR d) _ (H4 hR h2))
 .have c1:∀{v a},Jp b v a->Pu b v (GW v a).1.toNat:=fun{v a} h=>by
   rw[bj];simp only[yY];rcases adW v a with q|q
   .rw[ab5 q];exact Pu.refl _ _
   .rw[PC q];exact aa3 h
  have:=this▸c1 d;exact this.trans (c1 h2).symm
 .have c1:∀{v a},Jp b v a->Pu b v (GW v a).1.toNat:=fun{v a} h=>by
   rw[bj];simp only[yY];rcases adW v a with q|q
   .rw[ab5 q];exact Pu.refl _ _
   .rw[PC q];exact aa3 h
  exact propext ⟨fun q=>(q.trans (c1 ha).symm).trans (c1 e),fun q=>(q.trans (c1 e).symm).trans (c1 ha)⟩
def acG.Bi {v a c:Nat} (ha:Jp b v a) (d:Jp b v c):Cn (wo v) b a c:=
 (dR O.1.GD ha d).1 (O.2.2 _ (H4 O.1.GD ha) _ (H4 O.1.GD d))
def acG.two (D:2<=b.length):zW (aad n b).length (aam n b):=by
 have hR:=O.1.GD;have f:∀{v},v<(aad n b).length->v<n:=fun h=>zx h (VU (KG _ _) Ma);have back:∀{v},v<(aad n b).length->ofV n b v∈aad n b:=fun{v} h=>by
  have:ofV n b v=(aad n b)[v]:=by
   unfold ofV abI;rw[fj,fR h,CA h];rfl
  rw[this];exact Gw h
 have d:∀{on on':Nat->Bool} {u w},(∀x,x<n->on x=false->on' (toV n b x)=false)->u<n->Cn on b u w->Cn on' (aam n b) (toV n b u) (toV n b w):=fun{on on' u w} g i h=>by
  induction h with
  |refl o=>exact .refl (g _ i o)
  |step _ a o r=>exact .step r (afj hR a) (g _ (a.lt hR).2 o)
 have h3:3<=(aad n b).length:=by
  have k:=acx O.1;have E:(aam n b).length=b.length:=by rw[aam,LH]
  refine IE fun l=>?_;have e:∀p∈aam n b,p=((0:Int),(1:Int)):=fun p s=>by
   have h:=k.GD p s;obtain⟨t,z⟩:=p;simp only at h;exact aaV (show t=0 by omega) (show z=1 by omega)
  have m:0<(aam n b).length:=NH;have j:1<(aam n b).length:=NH;have:=vY.1 (Nl.1 k.q9) 0 1 m j WY;rw[e _ (Gw m),e _ (Gw j)]at this;simp at this
 have bp:∀u v,u<(aad n b).length->v<(aad n b).length->Pu (aam n b) u v:=fun u v i q=>by
  obtain⟨w,hw⟩:=(aau hR).1 (back i);obtain⟨y,A⟩:=(aau hR).1 (back q);have:=d (on:=offA) (on':=offA) (fun _ _ _=>rfl) (adz (f i)) (O.bp hw A);rwa[toV_ofV (f i),toV_ofV (f q)]at this
 refine⟨h3,jt NH bp,fun v ⟨a,c,ha,l,B⟩=>B ?_⟩;obtain⟨F,a1,j⟩:=(abj hR).1 ha;obtain⟨_,c1,h2⟩:=(abj hR).1 l;have:=d (on:=wo (ofV n b v)) (on':=wo v) (fun x C g=>iO fun e=>by
  subst e;rw[aaQ C]at g;simp[wo]at g) (adz a1) (O.Bi j h2)
 rwa[toV_ofV a1,toV_ofV c1]at this
theorem acG.flat:aaB n b↔b.length<9\/XU n (eN n b):=by
 unfold aaB;rw[adA O.1.GD];by_cases c:b.length<9
 .exact⟨fun _=>.inl c,fun _=>.inl c⟩
 .constructor
  .rintro (h | h)
   .exact .inl h
   .exact .inr h.2.2
  .rintro (h | h)
   .exact .inl h
   .exact .inr ⟨acx O.1,O.two NH,h⟩
end
def adB {n:Nat} {es a:List Pr} (hs:a.Sublist es) (h:aaf n es):aaf n a:=by
 have f:=h.1;have d:=f.sub hs;have hR:=f.GD;have g:=d.GD;refine(acH d).2 fun b hb=>(aa4 (aaG d hb)).2 ?_;have O:=aaG d hb;obtain⟨p,i,rfl⟩:=aay.1 hb;have hB:aaK n es (cQ n es p)∈vq n es:=aay.2 ⟨p,hs.subset i,rfl⟩;have j:=aaG f hB;have sub:(aaK n a (cQ n a p)).Sublist (aaK n es (cQ n es p)):=by
  have e:aaK n a (cQ n a p)=(a.filter fun q=>decide (cQ n es q=cQ n es p)).filter fun q=>decide (cQ n a q=cQ n a p):=by
   rw[jV];refine qH fun q l=>?_;by_cases c:cQ n a q=cQ n a p
   .rw[decide_eq_true c,decide_eq_true (afi hR (fun r f=>hs.subset f) g l i c)];rfl
   .rw[decide_eq_false c];rfl
  rw[e];exact jf.trans (hs.filter _)
 have hf:=(j.flat).1 (h.2 _ hB);refine O.flat.2 ?_;rcases hf with q|q
 .exact .inl (Po sub.length_le q)
 .refine .inr (q.less (fun v w k => ?_) (fun v w k => ?_))
  .rw [vD j.1.GD]
   exact((vD O.1.GD).1 k).imp (fun x=>sub.subset x) (fun x=>sub.subset x)
  .exact(vD O.1.GD).2 ((vD O.1.GD).1 k).symm
end Go.Fw
namespace Go.Fw
section
attribute [local irreducible] Kp MQ lU rS KO KN KX KE VK Kl ZJ TC aaa
attribute [local irreducible] Jz JL vq cQ
open Go.Proofs
def ac2 (l:LA) (v:Value) (G:GM) (h:AHeap) (hg:GR h v G):AC Tryz.prog l 42 [v] h fun x h'=>RR (bX G/\G.n<=16/\G.es.length<=40) x/\Le h h':=by
 have i:=hg;obtain⟨e,es⟩:=G
 obtain⟨ev,rfl,m⟩:=hg.open
 refine AC.vE ⟨Tryz.func42,rfl,WY⟩ Tryz.ntmps42 Tryz.results42 fun j=>?_;simp only[Br,Nat.reduceAdd];obtain⟨o,r,a,s,-,p⟩:=r8 (n:=e) j m
 generalize h.next=B at*
 have k:=p o (Le.refl _);have t:=fun g=>m.len g;refine Sk (XC r k.1) ?_;refine TC.intro PJ ⟨qS9,rfl,WY⟩ (ak l _ _ o (i.le a)) ?_;rintro x h2 w2 ⟨⟨u,rfl,d⟩,l2⟩;have b:=p h2 l2;cases u with
 |false=>
  refine Uy ?_;exact⟨RR.f (fun q=>by cases d.2 q.1),a.trans l2⟩
 |true=>
 have w:=d.1 rfl;by_cases c:e<=16
 rotate_left
 .have dc : decide (e <= 16) = false := decide_eq_false c
  refine Sk (IX @Ii @Ip.eq_1 @BS b.2.1 dc) ?_;exact⟨RR.f (fun q=>c q.2.1),a.trans l2⟩
 have dc:decide (e<=16)=true:=decide_eq_true c;refine Sk (acj @Ii @Di @Ip.eq_1 @BS b.2.1 b.2.2 t dc) ?_;refine⟨⟨_,rfl,?_⟩,a.trans l2⟩;rw[decide_eq_true_eq];exact⟨fun q=>⟨w,c,NH⟩,fun q=>by have:=q.2.2;omega⟩
end
end Go.Fw
namespace Go.Fw
open Go.Proofs
def abY {l m:II} (a:l.Nodup) (h2:m.Nodup) (h:∀x,x∈l↔x∈m):l.Perm m:=(mg a h2).2 h
def map_nd {π:Nat->Nat} {l:II} (nd:l.Nodup) (hi:∀a∈l,∀b∈l,π a=π b->a=b):(l.map π).Nodup:=by
 rw[Sb,vg];exact(Sb.1 nd).imp_of_mem fun{a b} ha hb ne e=>ne (hi a ha b hb e)
def abD (rows:AM) (v:Nat):II:=(rows.getD v []).map (·.toNat)
section
variable {n : Nat} {es fs : List Pr} {π : Nat → Nat}
def aaj (hR:aV n es) {v w:Nat}:w∈abD (Zh n es) v↔Jp es v w:=by
 unfold abD;rw[aae];constructor
 .rintro ⟨x, a, rfl⟩
  obtain⟨w,rfl,_⟩:=Ru hR a;exact(EW hR v w).1 a
 .intro h;exact⟨(w:Int),(EW hR v w).2 h,Ma⟩
def abZ (hR:aV n es) (hA:D3 es) (v:Nat):(abD (Zh n es) v).Nodup:=by
 unfold abD;rw[Sb,vg];refine(KW es hR hA v).imp_of_mem fun{x y} b d h=>?_;obtain⟨a,rfl,_⟩:=Ru hR b;obtain⟨c,rfl,_⟩:=Ru hR d;simp;omega
def aaZ (rows:AM) (v:Nat):(abD rows v).length=(rows.getD v []).length:=by simp[abD]
variable (I : H9 n es fs π) (hA : D3 es) (hB : D3 fs)
include I hA hB
omit I hA hB in
theorem aa0 (rows:AM) (cs:II):aag rows cs=cs.flatMap fun c=>(abD rows c).map fun w=>(c,w):=by simp[aag,abD,Function.comp_def]
omit I hA hB in
theorem aew {α β:Type} {f g:α->List β} {l:List α} (h:∀a∈l,(f a).Perm (g a)):(l.flatMap f).Perm (l.flatMap g):=by
 induction l with
 |nil=>exact .refl _
 |cons a l c=>
  rw[Dk,Dk];exact(h a Ma).append (c fun b hb=>h b (by simp[hb]))
end
end Go.Fw
namespace Go.Fw
open Go.Proofs
def abK {α:Type} [BEq α] [LawfulBEq α] {ks:List α} (nd:ks.Nodup):∀L:List α,(ks.map fun k=>L.count k).sum<=L.length
 |[]=>by
  have:∀l:List α,(l.map fun k=>([]:List α).count k).sum=0:=fun l=>by
   induction l with
   |nil=>rfl
   |cons a l b=>rw[j3,aaS,b];rfl
  rw[this];exact AE _
 |x::L=>by
  have b:=abK nd L;have one:∀l:List α,l.Nodup->(l.map fun k=>(x::L).count k).sum<=(l.map fun k=>L.count k).sum+1/\(x∉l->(l.map fun k=>(x::L).count k).sum=(l.map fun k=>L.count k).sum):=fun l=>by
   induction l with
   |nil=>intro _;exact⟨acN _,fun _=>rfl⟩
   |cons a l b=>
    intro nd;obtain⟨c,nl⟩:=xD.1 nd;obtain⟨d,h2⟩:=b nl;simp only[j3,aaS,aeQ];by_cases e:x=a
    .subst e
     have:=h2 c;simp only[aeQ]at this;simp only[beq_self_eq_true,if_true];exact⟨NH,fun q=>absurd (N8 ..) q⟩
    .have e' : (x == a) = false := by simpa using e
     simp only[aeQ]at d h2;rw[e'];simp only[ab3,if_false,pz];exact⟨NH,fun q=>by rw[h2 fun m=>q (ZT _ m)]⟩
  have:=(one ks nd).1;rw[Uz];omega
def acy (rows:AM) (d:Nat×Nat):aaz rows d=GW d.1 (aai rows d).1:=rfl
def aaC {a b c d:Nat}:GW a b=GW c d↔(a=c/\b=d)\/(a=d/\b=c):=by rw[bj,bj,si];omega
def Thr (W:Pr->Nat) (cs A B:II):Prop:=(A++B).Perm cs/\A.length=3/\B.length=3/\∀a∈A,∀b∈B,W (GW a b)=2
theorem Thr.swap {W:Pr->Nat} {cs A B:II} (T:Thr W cs A B):Thr W cs B A:=
 ⟨ab2.trans T.1,T.2.2.1,T.2.1,fun b hb a ha=>by rw[so];exact T.2.2.2 a ha b hb⟩
theorem Thr.zero {L:List Pr} {cs A B:II} (nd:cs.Nodup) (T:Thr (fun p=>L.count p) cs A B) (D:L.length<=18) {p:Pr} (n:∀a∈A,∀b∈B,p≠GW a b):L.count p=0:=by
 obtain⟨o,h2,h3,r⟩:=T;have d:=(o.nodup_iff).2 nd;rw[yM]at d;obtain⟨nA,nB,s⟩:=d;have g:(A.flatMap fun a=>B.map fun b=>GW a b).Nodup:=by
  rw[Sb,Jf];refine⟨fun a ha=>?_,?_⟩
  .rw [vg]
   exact(Sb.1 nB).imp fun h e=>h (abq e)
  .refine (Sb.1 nA).imp_of_mem fun {a a'} ha mi ne x t y u e => ?_
   obtain⟨b,hb,rfl⟩:=aae.1 t;obtain⟨v,sZ,rfl⟩:=aae.1 u;rcases aaC.1 e with⟨q,-⟩|⟨q,-⟩
   .exact ne q
   .exact s a ha v sZ q
 have w:(p::A.flatMap fun a=>B.map fun b=>GW a b).Nodup:=xD.2 ⟨fun i=>by
  obtain⟨a,ha,i⟩:=Lm.1 i;obtain⟨b,hb,e⟩:=aae.1 i;exact n a ha b hb e.symm,g⟩
 have:=abK w L;rw[j3,aaS]at this;have E:((A.flatMap fun a=>B.map fun b=>GW a b).map fun k=>L.count k).sum=18:=by
  have z:∀a∈A,((B.map fun b=>GW a b).map fun k=>L.count k).sum=6:=fun a ha=>by
   rw[Q4];have:∀l:II,(∀b∈l,b∈B)->(l.map ((fun k=>L.count k)∘fun b=>GW a b)).sum=2*l.length:=by
    intro l
    induction l with
    |nil=>intro _;rfl
    |cons b l j=>
     intro f;have h2:L.count (GW a b)=2:=r a ha b (f b Ma);rw[j3,aaS,j fun c m=>f c (by simp[m])];simp only[Function.comp,h2,Uz];omega
   rw[this B fun b hb=>hb,h3]
  have C:∀l:II,(∀a∈l,a∈A)->((l.flatMap fun a=>B.map fun b=>GW a b).map fun k=>L.count k).sum=6*l.length:=by
   intro l
   induction l with
   |nil=>intro _;rfl
   |cons a l j=>
    intro f;rw[Dk,U9,aeO,z a (f a Ma),j fun c m=>f c (by simp[m]),Uz];omega
  rw[C A fun a ha=>ha,h2]
 omega
def adC {L:List Pr} {cs:II} (nd:cs.Nodup) (v:cs.length=6) (ha:cs.Pairwise (·<·)) (w:L.length<=18):aaO (fun p=>L.count p) cs=true↔∃A B,Thr (fun p=>L.count p) cs A B:=by
 have hf:cs.headD 0∈cs:=by
  cases cs with
  |nil=>cases v
  |cons a l=>simp
 have hle:∀c∈cs,cs.headD 0<=c:=fun c g=>by
  cases cs with
  |nil=>cases g
  |cons a l=>
   rcases Z6.1 g with rfl|q
   .exact Ny _
   .exact Nat.le_of_lt ((y5.1 ha).1 c q)
 have x:aaO (fun p=>L.count p) cs=((cs.filter fun(c:Nat)=>L.count (((cs.headD 0:Nat):Int),(c:Int))==0).length==3&&!(cs.filter fun(c:Nat)=>L.count (((cs.headD 0:Nat):Int),(c:Int))!=0).contains (cs.headD 0)&&aba (fun p=>L.count p) (cs.filter fun(c:Nat)=>L.count (((cs.headD 0:Nat):Int),(c:Int))==0) (cs.filter fun(c:Nat)=>L.count (((cs.headD 0:Nat):Int),(c:Int))!=0)):=rfl;rw[x];generalize cs.headD 0=f at*;have pf:∀c∈cs,(((f:Nat):Int),((c:Nat):Int))=GW f c:=fun c g=>by
  have:=hle c g;rw[bj,ab5 this,Nat.max_eq_right this]
 have y:cs.filter (fun(c:Nat)=>L.count ((f:Int),(c:Int))==0)=cs.filter fun c=>decide (L.count (GW f c)=0):=qH fun c g=>by rw[pf c g];rfl
 have z:cs.filter (fun(c:Nat)=>L.count ((f:Int),(c:Int))!=0)=cs.filter fun c=>!decide (L.count (GW f c)=0):=qH fun c g=>by rw[pf c g];rfl
 rw[y,z];have d:(cs.filter (fun c=>decide (L.count (GW f c)=0))++cs.filter fun c=>!decide (L.count (GW f c)=0)).Perm cs:=xj _ _;constructor
 .intro h
  rw[im,im]at h;obtain⟨⟨C,h2⟩,h3⟩:=h;have l3:(cs.filter fun c=>decide (L.count (GW f c)=0)).length=3:=by simpa using C
  have ls:=d.length_eq;rw[kc]at ls;refine⟨_,_,d,l3,NH,fun a k b m=>?_⟩;have:=uV.1 (uV.1 h3 a k) b m;rw[MY]at this;rcases this with q|q
  .have e : a = b := by simpa using q
   subst e;have n:=(iy.1 k).2;have j:=(iy.1 m).2;rw[n]at j;cases j
  .exact of_decide_eq_true q
 .rintro ⟨A, B, T⟩
  have go:∀A B,Thr (fun p=>L.count p) cs A B->f∈A->((cs.filter fun c=>decide (L.count (GW f c)=0)).length==3&&!(cs.filter fun c=>!decide (L.count (GW f c)=0)).contains f&&aba (fun p=>L.count p) (cs.filter fun c=>decide (L.count (GW f c)=0)) (cs.filter fun c=>!decide (L.count (GW f c)=0)))=true:=fun A B T i=>by
   have o:=(T.1.nodup_iff).2 nd;rw[yM]at o;obtain⟨nA,nB,s⟩:=o;have mem:∀c,c∈cs↔c∈A\/c∈B:=fun c=>by rw[<-T.1.mem_iff,WA]
   have t:∀c∈A,L.count (GW f c)=0:=fun c g=>T.zero nd w fun a ha b hb e=>by
    rcases aaC.1 e with⟨-,q⟩|⟨q,-⟩
    .exact s c g b hb q
    .exact s f i b hb q
   have r:∀c∈B,L.count (GW f c)≠0:=fun c g e=>by
    have:L.count (GW f c)=2:=T.2.2.2 f i c g;omega
   have u:(cs.filter fun c=>decide (L.count (GW f c)=0)).Perm A:=abY (nd.filter _) nA fun c=>by
    rw[iy,mem,decide_eq_true_eq];exact⟨fun⟨n,j⟩=>n.resolve_right fun q=>r c q j,fun q=>⟨.inl q,t c q⟩⟩
   have pB:(cs.filter fun c=>!decide (L.count (GW f c)=0)).Perm B:=abY (nd.filter _) nB fun c=>by
    rw[iy,mem,aeZ,decide_eq_false_iff_not];exact⟨fun⟨n,j⟩=>n.resolve_left fun q=>j (t c q),fun q=>⟨.inr q,r c q⟩⟩
   rw[im,im];refine⟨⟨by rw[u.length_eq,T.2.1];rfl,?_⟩,?_⟩
   .rw [aeZ, aeH]
    intro h;have:=pB.mem_iff.1 (Ex.1 h);exact s f i f this rfl
   .refine uV.2 fun a ha => uV.2 fun b hb => ?_
    rw[MY];right;have:L.count (GW a b)=2:=T.2.2.2 a (u.mem_iff.1 ha) b (pB.mem_iff.1 hb);exact decide_eq_true this
  rcases(T.1.mem_iff.2 hf |> WA.1)with q|q
  .exact go A B T q
  .exact go B A T.swap q
section
variable {es fs : List Pr} {π : Nat → Nat} (I : H9 200 es fs π) (hA : D3 es) (hB : D3 fs)
include I hA hB
end
def afk (rows:AM):(aac rows).Pairwise (·<·):=Bx.filter _
def abE {es:List Pr} {c:Nat} (h:c∈aac (Zh 200 es)):c<200/\((Zh 200 es).getD c []).length≠2:=by
 rw[aac,iy,j9,Xq]at h;refine⟨h.1,fun e=>?_⟩;have:=h.2;rw[aaD,e]at this;cases this
end Go.Fw
namespace Go.Fw
open Go.Proofs
section
variable {n : Nat} {es : List Pr} (hR : aV n es) (hA : D3 es)
include hR hA
theorem abe {x y z:Nat} (h2:((Zh n es).getD y []).length=2) (f:Jp es y x) (g:Jp es y z) (ne:x≠z):goS (Zh n es) (x,y)=(y,z):=by
 obtain⟨a,b,e,nab,h3,h,d⟩:=abh hR hA h2;have k1:=d x f;have k2:=d z g;unfold goS;simp only;rw[e];simp only[mV,aeB];refine aaV rfl ?_;simp only;rcases k1 with rfl|rfl
 .rw[if_pos rfl];simp;grind
 .rw[if_neg NH];simp;grind
def abL {x y:Nat} (h2:((Zh n es).getD y []).length=2) (f:Jp es y x):∃z,z≠x/\Jp es y z/\∀w,Jp es y w->w=x\/w=z:=by
 obtain⟨a,b,e,nab,h3,g,d⟩:=abh hR hA h2;rcases d x f with rfl|rfl
 .exact⟨b,Hs nab,g,d⟩
 .exact⟨a,nab,h3,fun w hw=>(d w hw).symm⟩
def aaN (n:Nat) (es:List Pr) (d:Nat×Nat) (K:Nat) (e:Nat×Nat):Prop:=it (goS (Zh n es)) K d=e/\∀i,i<K->((Zh n es).getD (it (goS (Zh n es)) i d).2 []).length=2
omit hR hA in
theorem aaN.trans {d e f:Nat×Nat} {K M:Nat} (h:aaN n es d K e) (k:aaN n es e M f):aaN n es d (K+M) f:=by
 obtain⟨rfl,h2⟩:=h;obtain⟨rfl,k2⟩:=k;refine⟨by rw[Nat.add_comm,qu],fun i hi=>?_⟩;by_cases c:i<K
 .exact h2 i c
 .have := k2 (i - K) NH
  rwa[<-qu,show i-K+K=i by omega]at this
omit hR hA in
theorem aaN.one {d e:Nat×Nat} (h:goS (Zh n es) d=e) (h2:((Zh n es).getD d.2 []).length=2):aaN n es d 1 e:=
 ⟨h,fun i hi=>by rw[show i=0 by omega];exact h2⟩
def aeg (b:n<=200) {c v:Nat} (d:Jp es c v) (hc:((Zh n es).getD c []).length≠2) {K:Nat} {e:Nat×Nat} (h:aaN n es (c,v) K e) (f:((Zh n es).getD e.2 []).length≠2):aai (Zh n es) (c,v)=(e.2,K):=by
 obtain⟨a,i,h2,h3,g⟩:=acE hR hA b d hc;obtain⟨rfl,k2⟩:=h;rcases Gq K a with q|rfl|q
 .exact absurd (h2 K q) f
 .exact g
 .exact absurd (k2 a q) h3
end
def aa7 (rows:AM) (cs:II):List (Nat×Nat):=(aag rows cs).flatMap fun d=>(List.range ((aai rows d).2+1)).map fun i=>it (goS rows) i d
def ab0 (rows:AM) (cs:II):(aa7 rows cs).length=aaF rows cs:=by
 unfold aa7 aaF;rw[List.length_flatMap];simp
def ac3 (es:List Pr):List (Nat×Nat):=es.flatMap fun p=>[(p.1.toNat,p.2.toNat),(p.2.toNat,p.1.toNat)]
def acz (es:List Pr):(ac3 es).length=2*es.length:=by
 unfold ac3
 induction es with
 |nil=>rfl
 |cons p l a=>rw[Dk,kc,a];simp;omega
def abM {es:List Pr} {x y:Nat} (h:Jp es x y):(x,y)∈ac3 es:=by
 unfold ac3;rw[Lm];rcases h with h|h
 .exact⟨_,h,Ma⟩
 .exact⟨_,h,Ma⟩
section
variable {es : List Pr} (hR : aV 200 es) (hA : D3 es) {cs : List Nat} (hc : ∀ c ∈ cs, c < 200 ∧ ((Zh 200 es).getD c []).length ≠ 2)
include hR hA hc
omit hA in
theorem aaR {d:Nat×Nat} (hd:d∈aag (Zh 200 es) cs):Jp es d.1 d.2/\((Zh 200 es).getD d.1 []).length≠2/\d.1∈cs:=by
 rw[aa0,Lm]at hd;obtain⟨c,a,hd⟩:=hd;obtain⟨w,hw,rfl⟩:=aae.1 hd;exact⟨(aaj hR).1 hw,(hc c a).2,a⟩
def aaL {d:Nat×Nat} (hd:d∈aag (Zh 200 es) cs):aaN 200 es d (aai (Zh 200 es) d).2 (it (goS (Zh 200 es)) (aai (Zh 200 es) d).2 d)/\(it (goS (Zh 200 es)) (aai (Zh 200 es) d).2 d).2=(aai (Zh 200 es) d).1/\((Zh 200 es).getD (aai (Zh 200 es) d).1 []).length≠2:=by
 obtain⟨a,h2,-⟩:=aaR hR hc hd;obtain⟨K,k1,k2,b,f⟩:=acE hR hA (Ny _) (c:=d.1) (v:=d.2) a h2;have e:aai (Zh 200 es) d=((it (goS (Zh 200 es)) K (d.1,d.2)).2,K):=f;rw[e];exact⟨⟨rfl,k2⟩,rfl,b⟩
def aeh {x:Nat×Nat} (h:x∈aa7 (Zh 200 es) cs):Jp es x.1 x.2:=by
 unfold aa7 at h;rw[Lm]at h;obtain⟨d,hd,h⟩:=h;obtain⟨i,hi,rfl⟩:=aae.1 h;have hi:=j9.1 hi;exact aa2 hR hA (aaR hR hc hd).1 i fun q a=>(aaL hR hA hc hd).1.2 q NH
def adD (l:cs.Nodup):(aa7 (Zh 200 es) cs).Nodup:=by
 have nd:(aag (Zh 200 es) cs).Nodup:=by
  rw[aa0,Sb,Jf];refine⟨fun c _=>?_,l.imp fun h x g y k e=>?_⟩
  .rw [vg]
   exact(Sb.1 (abZ hR hA c)).imp fun h e=>h (congrArg Prod.snd e)
  .obtain ⟨w, -, rfl⟩ := aae.1 g
   obtain⟨z,-,rfl⟩:=aae.1 k;exact h (congrArg Prod.fst e)
 have key:∀d∈aag (Zh 200 es) cs,∀b∈aag (Zh 200 es) cs,∀i j,i<=j->i<=(aai (Zh 200 es) d).2->j<=(aai (Zh 200 es) b).2->it (goS (Zh 200 es)) i d=it (goS (Zh 200 es)) j b->i=j/\d=b:=by
  intro d hd b a i
  induction i with
  |zero=>
   intro j _ _ f e;rcases j with _|j
   .exact⟨rfl,e⟩
   .exfalso
    have m:d.1=(it (goS (Zh 200 es)) j b).2:=congrArg Prod.fst (show d=goS (Zh 200 es) (it (goS (Zh 200 es)) j b)from e);have:=(aaL hR hA hc a).1.2 j NH;rw[<-m]at this;exact(aaR hR hc hd).2.1 this
  |succ i o=>
   intro j p hi f e;rcases j with _|j
   .omega
   have a1:=aa2 hR hA (aaR hR hc hd).1 i fun q r=>(aaL hR hA hc hd).1.2 q NH;have a2:=aa2 hR hA (aaR hR hc a).1 j fun q r=>(aaL hR hA hc a).1.2 q NH;have:=ad6 hR hA a1.symm a2.symm ((aaL hR hA hc hd).1.2 i NH) e;obtain⟨s,h2⟩:=o j NH NH NH this;exact⟨NH,h2⟩
 unfold aa7;rw[Sb,Jf];refine⟨fun d hd=>?_,(Sb.1 nd).imp_of_mem fun{d b} hd a ne x g y k e=>?_⟩
 .rw [vg]
  refine wI (fun{i j} hi f h e=>?_) Bx;have f:=j9.1 f;have:=(key d hd d hd i j NH NH NH e).1;omega
 .obtain ⟨i, hi, rfl⟩ := aae.1 g
  obtain⟨j,f,rfl⟩:=aae.1 k;have hi:=j9.1 hi;have f:=j9.1 f;rcases adW i j with q|q
  .exact ne (key d hd b a i j q NH NH e).2
  .exact ne (key b a d hd j i q NH NH e.symm).2.symm
def adE (a:cs.Nodup):aaF (Zh 200 es) cs<=2*es.length:=by
 rw[<-ab0,<-acz];exact tf (adD hR hA hc a) fun x b=>abM (aeh hR hA hc b)
def acK (b:cs.Nodup) (h:aaF (Zh 200 es) cs=2*es.length) {x y:Nat} (a:Jp es x y):(x,y)∈aa7 (Zh 200 es) cs:=by
 refine IE fun d=>?_;have:=tf (xD.2 ⟨d,adD hR hA hc b⟩) (B:=ac3 es) fun z e=>by
  rcases Z6.1 e with rfl|q
  .exact abM a
  .exact abM (aeh hR hA hc q)
 rw[Uz,ab0,acz,h]at this;omega
end
end Go.Fw
namespace Go.Fw
open Go.Proofs
structure UpK (L L':List Pr) (a b v:Nat):Prop where
 r1:aV 200 L
 r2:aV 200 L'
 a1:D3 L
 a2:D3 L'
 ab:Jp L a b
 iso:∀w,¬Jp L v w
 up:∀x y,Jp L' x y↔upA (Jp L) a b v x y
 len:L'.length=L.length+1
def isU (a b:Nat) (d:Nat×Nat):Bool:=(d.1==a&&d.2==b)||(d.1==b&&d.2==a)
def aat (a b v:Nat) (d:Nat×Nat):Nat×Nat:=if isU a b d then(d.1,v)else d
def aaw {a b x y:Nat}:isU a b (x,y)=true↔(x=a/\y=b)\/(x=b/\y=a):=by simp[isU]
def abf (a b v:Nat) (d:Nat×Nat):(aat a b v d).1=d.1:=by unfold aat;split<;>rfl
section
variable {L L' : List Pr} {a b v : Nat} (U : UpK L L' a b v)
include U
def UpK.nab:a≠b:=fun e=>by have:=U.ab;rw[e]at this;exact Xa U.r1 this
def UpK.nva:v≠a:=fun e=>U.iso b (e▸U.ab)
def UpK.nvb:v≠b:=fun e=>U.iso a (e▸U.ab.symm)
def UpK.nv {x y:Nat} (h:Jp L x y):x≠v/\y≠v:=⟨fun e=>U.iso y (e▸h),fun e=>U.iso x (e▸h.symm)⟩
def UpK.row {x:Nat} (g:x≠v):(abD (Zh 200 L') x).Perm ((abD (Zh 200 L) x).map fun w=>(aat a b v (x,w)).2):=by
 have i:=U.nab;refine abY (abZ U.r2 U.a2 _) (map_nd (abZ U.r1 U.a1 _) fun p d q f e=>?_) fun w=>?_
 .have d := U.nv ((aaj U.r1).1 d)
  have f:=U.nv ((aaj U.r1).1 f);unfold aat at e;by_cases c1:isU a b (x,p)=true<;>by_cases c2:isU a b (x,q)=true
  .rw[aaw]at c1 c2;omega
  .rw[if_pos c1,if_neg c2]at e;exact absurd e.symm f.2
  .rw[if_neg c1,if_pos c2]at e;exact absurd e d.2
  .rw[if_neg c1,if_neg c2]at e;exact e
 .rw [aaj U.r2, U.up, aae]
  have ab:=U.ab;constructor
  .rintro (⟨h, n1, j⟩ | ⟨h, -⟩ | ⟨rfl, h⟩)
   .refine ⟨w, (aaj U.r1).2 h, ?_⟩
    unfold aat;rw[if_neg (by rw[aaw];omega)]
   .exact absurd h g
   .rcases h with rfl | rfl
    .exact⟨b,(aaj U.r1).2 ab,by unfold aat;rw[if_pos (aaw.2 (.inl ⟨rfl,rfl⟩))]⟩
    .exact⟨a,(aaj U.r1).2 ab.symm,by unfold aat;rw[if_pos (aaw.2 (.inr ⟨rfl,rfl⟩))]⟩
  .rintro ⟨p, d, rfl⟩
   have d:=(aaj U.r1).1 d;unfold aat;split
   .rename_i c
    rw[aaw]at c;exact .inr (.inr ⟨rfl,c.imp (·.1) (·.1)⟩)
   .rename_i c
    rw[aaw]at c;exact .inl ⟨d,NH,NH⟩
def UpK.deg {x:Nat} (c:x≠v):((Zh 200 L').getD x []).length=((Zh 200 L).getD x []).length:=by rw[<-aaZ,<-aaZ,(U.row c).length_eq,LH]
def UpK.deg0:((Zh 200 L).getD v []).length=0:=by
 rw[<-aaZ];rcases h:abD (Zh 200 L) v with _|⟨w,l⟩
 .rfl
 .exact absurd ((aaj U.r1).1 (show w∈abD (Zh 200 L) v by rw[h];simp)) (U.iso w)
def UpK.aex:((Zh 200 L').getD v []).length=2:=by
 have:(abD (Zh 200 L') v).Perm [a,b]:=abY (abZ U.r2 U.a2 _) (by simp[U.nab]) fun w=>by
  rw[aaj U.r2,U.up];have c:=U.iso;have h2:=U.nva;have h3:=U.nvb;simp only[Z6,ff,or_false];constructor
  .rintro (⟨h, -⟩ | ⟨-, h⟩ | ⟨-, h⟩)
   .exact absurd h (c w)
   .exact h
   .omega
  .intro h;exact .inr (.inl ⟨rfl,h⟩)
 rw[<-aaZ,this.length_eq];rfl
def UpK.sg {d:Nat×Nat} (hd:Jp L d.1 d.2):Jp L' (aat a b v d).1 (aat a b v d).2:=by
 obtain⟨x,y⟩:=d;have c:=(U.nv hd).1;have:=(U.row c).mem_iff.2 (aae.2 ⟨y,(aaj U.r1).2 hd,rfl⟩);rw[abf];exact(aaj U.r2).1 this
theorem UpK.step {d:Nat×Nat} (hd:Jp L d.1 d.2) (h2:((Zh 200 L).getD d.2 []).length=2):
  aaN 200 L' (aat a b v d) (1+if isU a b d then 1 else 0) (aat a b v (goS (Zh 200 L) d)):=by
 obtain⟨x,y⟩:=d;simp only at hd h2;obtain⟨z,j,g,hw⟩:=abL U.r1 U.a1 h2 hd.symm;rw[abe U.r1 U.a1 h2 hd.symm g (Hs j)];have ny:=(U.nv hd).2;have nx:=(U.nv hd).1;have h:=(U.nv g).2;have d2:((Zh 200 L').getD y []).length=2:=by rw[U.deg ny];exact h2
 have s1:=U.sg (d:=(y,z)) g;have k:aat a b v (y,z)=(y,(aat a b v (y,z)).2):=aaV (abf ..) rfl;rw[k]at s1 ⊢;by_cases c:isU a b (x,y)=true
 .have nb : ¬ isU a b (y, z) = true := by rw [aaw] at c ⊢; omega
  have s2:=U.sg (d:=(x,y)) hd;have i:aat a b v (x,y)=(x,v):=by unfold aat;rw[if_pos c]
  have e3:(aat a b v (y,z)).2=z:=by unfold aat;rw[if_neg nb]
  rw[i]at s2 ⊢;rw[e3]at s1 ⊢;rw[if_pos c];have f:Jp L' y v:=(U.up _ _).2 (.inr (.inr ⟨rfl,by rw[aaw]at c;omega⟩));refine(aaN.one (e:=(v,y)) ?_ U.aex).trans (aaN.one ?_ d2)
  .exact abe U.r2 U.a2 U.aex s2.symm f.symm (fun e=>by subst e;exact Xa U.r1 hd)
  .exact abe U.r2 U.a2 d2 f s1 (Hs h)
 .have i : aat a b v (x, y) = (x, y) := by unfold aat; rw [if_neg c]
  have s2:=U.sg (d:=(x,y)) hd;rw[i]at s2 ⊢;rw[if_neg c];refine aaN.one ?_ d2;refine abe U.r2 U.a2 d2 s2.symm s1 fun e=>?_;unfold aat at e;split at e
  .exact nx e
  .exact j e.symm
def abo (a b:Nat) (L:List Pr) (d:Nat×Nat) (K:Nat):Nat:=((List.range K).map fun i=>it (goS (Zh 200 L)) i d).countP (isU a b)
omit U in
theorem ace (d:Nat×Nat) (K:Nat):abo a b L d (K+1)=abo a b L d K+if isU a b (it (goS (Zh 200 L)) K d)then 1 else 0:=by
 unfold abo;rw[rY,U9,List.countP_append];simp[adP]
def UpK.run {d:Nat×Nat} (hd:Jp L d.1 d.2) (K:Nat):(∀i,i<K->((Zh 200 L).getD (it (goS (Zh 200 L)) i d).2 []).length=2)->aaN 200 L' (aat a b v d) (K+abo a b L d K) (aat a b v (it (goS (Zh 200 L)) K d)):=by
 induction K with
 |zero=>exact fun _=>⟨rfl,fun i hi=>absurd hi (by simp[abo])⟩
 |succ K c=>
  intro h;have:=(c fun i hi=>h i NH).trans (U.step (aa2 U.r1 U.a1 hd K fun i hi=>h i NH) (h K NH));rw[ace]
  rwa[show K+abo a b L d K+(1+if isU a b (it (goS (Zh 200 L)) K d)=true then 1 else 0)=K+1+(abo a b L d K+if isU a b (it (goS (Zh 200 L)) K d)=true then 1 else 0) by omega]at this
theorem UpK.Wn {cs:II} (l:∀c∈cs,c<200/\((Zh 200 L).getD c []).length≠2) {d:Nat×Nat} (hd:d∈aag (Zh 200 L) cs):
  aai (Zh 200 L') (aat a b v d)=((aai (Zh 200 L) d).1,(aai (Zh 200 L) d).2+abo a b L d ((aai (Zh 200 L) d).2+1)):=by
 obtain⟨g,h2,-⟩:=aaR U.r1 l hd;obtain⟨⟨-,k2⟩,i,m⟩:=aaL U.r1 U.a1 l hd;generalize o:(aai (Zh 200 L) d).2=K at*;have r:=U.run g K k2;have f:=aa2 U.r1 U.a1 g K k2;have n:it (goS (Zh 200 L)) K d=((it (goS (Zh 200 L)) K d).1,(aai (Zh 200 L) d).1):=aaV rfl i;rw[ace];generalize it (goS (Zh 200 L)) K d=e at*;obtain⟨x,y⟩:=e;simp only at i f n;subst i;have nv:=U.nv f;have j:((Zh 200 L').getD (aai (Zh 200 L) d).1 []).length≠2:=by rw[U.deg nv.2];exact m
 have r2:aaN 200 L' (aat a b v d) (K+abo a b L d K+if isU a b (x,(aai (Zh 200 L) d).1)=true then 1 else 0) ((if isU a b (x,(aai (Zh 200 L) d).1)=true then v else x),(aai (Zh 200 L) d).1):=by
  by_cases c:isU a b (x,(aai (Zh 200 L) d).1)=true
  .rw [if_pos c, if_pos c]
   have h:aat a b v (x,(aai (Zh 200 L) d).1)=(x,v):=by unfold aat;rw[if_pos c]
   rw[h]at r;have s2:=U.sg (d:=(x,(aai (Zh 200 L) d).1)) f;rw[h]at s2;have k:Jp L' (aai (Zh 200 L) d).1 v:=(U.up _ _).2 (.inr (.inr ⟨rfl,by rw[aaw]at c;omega⟩));exact r.trans (aaN.one (abe U.r2 U.a2 U.aex s2.symm k.symm (fun e=>by rw[e]at f;exact Xa U.r1 f)) U.aex)
  .rw [if_neg c, if_neg c]
   have h:aat a b v (x,(aai (Zh 200 L) d).1)=(x,(aai (Zh 200 L) d).1):=by unfold aat;rw[if_neg c]
   rw[h]at r;exact r
 have s0:=U.sg g;have d1:((Zh 200 L').getD (aat a b v d).1 []).length≠2:=by rw[abf,U.deg (U.nv g).1];exact h2
 have:=aeg U.r2 U.a2 (Ny _) (c:=(aat a b v d).1) (v:=(aat a b v d).2) s0 d1 r2 j;refine Eq.trans this (aaV rfl ?_);simp only;omega
def UpK.corn:aac (Zh 200 L')=aac (Zh 200 L):=by
 unfold aac;rw[Xq,Xq];refine qH fun x _=>?_;unfold aaD;by_cases e:x=v
 .subst e;rw[U.deg0,U.aex];rfl
 .rw[U.deg e]
def UpK.bad:(Zh 200 L').any aaH=(Zh 200 L).any aaH:=by
 have lt:v<200:=(((U.up v a).2 (.inr (.inl ⟨rfl,.inl rfl⟩))).lt U.r2).1;rw[adR,Ly,Ly];have one:∀{A B:List Pr},(∀x,x<200->aaH ((Zh 200 A).getD x [])=true->aaH ((Zh 200 B).getD x [])=true)->(∃r∈Zh 200 A,aaH r=true)->∃r∈Zh 200 B,aaH r=true:=fun{A B} h=>by
  rintro⟨r,f,hb⟩;obtain⟨i,hi,rfl⟩:=ack.1 f;have c:i<200:=by rw[Xq]at hi;exact hi
  have d:i<(Zh 200 B).length:=by rw[Xq];exact c
  have:=h i c (by rw[D4 hi];exact hb);rw[D4 d]at this;exact⟨_,Gw d,this⟩
 constructor
 .refine one fun x _ h => ?_
  by_cases e:x=v
  .subst e;unfold aaH at h;rw[U.aex]at h;cases h
  .unfold aaH at h ⊢;rw[U.deg e]at h;exact h
 .refine one fun x _ h => ?_
  by_cases e:x=v
  .subst e;unfold aaH at h;rw[U.deg0]at h;cases h
  .unfold aaH at h ⊢;rw[U.deg e];exact h
def UpK.aag {cs:II} (g:∀c∈cs,c<200/\((Zh 200 L).getD c []).length≠2) (f:v∉cs):(aag (Zh 200 L') cs).Perm ((aag (Zh 200 L) cs).map (aat a b v)):=by
 rw[aa0,aa0,List.map_flatMap];refine aew fun c d=>?_;have:=(U.row (x:=c) fun e=>f (e▸d)).map fun w=>(c,w);rw[Q4]at this;rw[Q4];refine this.trans ?_;refine List.Perm.of_eq (Yi fun w _=>?_);exact aaV (abf a b v (c,w)).symm rfl
def UpK.aaM {cs:II} (e:∀c∈cs,c<200/\((Zh 200 L).getD c []).length≠2) (f:v∉cs):aaM (Zh 200 L') cs=aaM (Zh 200 L) cs:=by
 funext p;unfold Go.Fw.aaM;rw[((U.aag e f).map (aaz (Zh 200 L'))).count_eq p,Q4];refine congrArg (List.count p) (Yi fun d hd=>?_);simp only[Function.comp,acy,U.Wn e hd,abf]
def UpK.aaF {cs:II} (f:∀c∈cs,c<200/\((Zh 200 L).getD c []).length≠2) (g:v∉cs):aaF (Zh 200 L') cs=aaF (Zh 200 L) cs+(aa7 (Zh 200 L) cs).countP (isU a b):=by
 unfold Go.Fw.aaF aa7;rw[((U.aag f g).map fun d=>(aai (Zh 200 L') d).2+1).sum_nat,Q4,List.countP_flatMap];have key:∀l:List (Nat×Nat),(∀d∈l,d∈Go.Fw.aag (Zh 200 L) cs)->(l.map ((fun d=>(aai (Zh 200 L') d).2+1)∘aat a b v)).sum=(l.map fun d=>(aai (Zh 200 L) d).2+1).sum+(l.map (List.countP (isU a b)∘fun d=>(List.range ((aai (Zh 200 L) d).2+1)).map fun i=>it (goS (Zh 200 L)) i d)).sum:=by
  intro l
  induction l with
  |nil=>intro _;rfl
  |cons d l j=>
   intro h;have e:=U.Wn f (h d Ma);rw[j3,j3,j3,aaS,aaS,aaS,j fun q k=>h q (by simp[k])];simp only[Function.comp,e];unfold abo;omega
 exact key _ fun d h=>h
theorem UpK.steps {cs:II} (d:∀c∈cs,c<200/\((Zh 200 L).getD c []).length≠2) (g:v∉cs) (e:cs.Nodup):Go.Fw.aaF (Zh 200 L') cs=2*L'.length↔Go.Fw.aaF (Zh 200 L) cs=2*L.length:=by
 rw[U.aaF d g,U.len];have le:=adE U.r1 U.a1 d e;have nd:((aa7 (Zh 200 L) cs).filter (isU a b)).Nodup:=(adD U.r1 U.a1 d e).filter _;have h2:(aa7 (Zh 200 L) cs).countP (isU a b)<=2:=by
  rw[JH];refine tf nd (B:=[(a,b),(b,a)]) fun x f=>?_;have:=(iy.1 f).2;obtain⟨p,q⟩:=x;rw[aaw]at this;rcases this with⟨rfl,rfl⟩|⟨rfl,rfl⟩<;>simp
 constructor
 .intro h;omega
 .intro h
  have m1:=acK U.r1 U.a1 d e h U.ab;have m2:=acK U.r1 U.a1 d e h U.ab.symm;have:2<=(aa7 (Zh 200 L) cs).countP (isU a b):=by
   rw[JH];have:=tf (A:=[(a,b),(b,a)]) (B:=(aa7 (Zh 200 L) cs).filter (isU a b)) (by have:=U.nab;simp;grind) fun x f=>by
    simp only[Z6,ff,or_false]at f;rw[iy];rcases f with rfl|rfl
    .exact⟨m1,aaw.2 (.inl ⟨rfl,rfl⟩)⟩
    .exact⟨m2,aaw.2 (.inr ⟨rfl,rfl⟩)⟩
   exact this
  omega
def UpK.kind:abw L'=abw L:=by
 have i:∀c∈aac (Zh 200 L),_:=fun c h=>abE h;have f:v∉aac (Zh 200 L):=fun h=>by
  rw[aac,iy]at h;have:=h.2;rw[aaD,U.deg0]at this;cases this
 have j:(aac (Zh 200 L)).Nodup:=jz.filter _;have k:∀E,abd (Zh 200 L') (aac (Zh 200 L)) L'.length E=abd (Zh 200 L) (aac (Zh 200 L)) L.length E:=fun E=>by
  have d:(aac (Zh 200 L)).any (fun c=>((Zh 200 L').getD c []).length !=E)=(aac (Zh 200 L)).any fun c=>((Zh 200 L).getD c []).length !=E:=by
   rw[adR,Ly,Ly];have e:∀c∈aac (Zh 200 L),((Zh 200 L').getD c []).length=((Zh 200 L).getD c []).length:=fun c h=>U.deg fun q=>f (q▸h);exact⟨fun⟨c,h,q⟩=>⟨c,h,by rw[<-e c h];exact q⟩,fun⟨c,h,q⟩=>⟨c,h,by rw[e c h];exact q⟩⟩
  unfold abd;rw[d,U.aaM i f];have:=U.steps i f j;by_cases q:Go.Fw.aaF (Zh 200 L) (aac (Zh 200 L))=2*L.length
  .have g := this.2 q
   simp only[q,g,ne_eq,not_true_eq_false,if_false,bne_self_eq_false,ab3]
  .have g : ¬ Go.Fw.aaF (Zh 200 L') (aac (Zh 200 L)) = 2 * L'.length := fun h => q (this.1 h)
   simp[q,g]
 rw[abz,abz,U.bad,U.corn];simp only[k]
end
end Go.Fw
