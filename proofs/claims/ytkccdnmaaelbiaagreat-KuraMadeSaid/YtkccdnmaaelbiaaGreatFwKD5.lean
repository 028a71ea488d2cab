/- A text. -/
import Derived.Test.YtkccdnmaaelbiaaGreatFwKC3
set_option linter.all false
set_option maxRecDepth 99999
set_option maxHeartbeats 9999999
namespace Go.Fw
open Go.Proofs
attribute [local instance] Classical.propDecidable
def acJ (n:Nat) (c:II):II:=c++(List.range n).filter fun v=>!c.contains v
def ofC (n:Nat) (c:II) (i:Nat):Nat:=(acJ n c).getD i 0
def toC (n:Nat) (c:II) (v:Nat):Nat:=(acJ n c).idxOf v
section
variable {n : Nat} {c : List Nat} (nd : c.Nodup) (lt : ∀ v ∈ c, v < n)
include nd lt
theorem acg:(acJ n c).Perm (List.range n):=by
 refine(Zw ?_ Tn).2 fun v=>?_
 .unfold acJ
  rw[si];refine⟨nd,Tn.filter _,fun a ha b hb e=>?_⟩;subst e;have:=(VU.1 hb).2;simp[ha]at this
 .unfold acJ
  rw[Sb,VU];constructor
  .rintro (h | h)
   .exact uV.2 (lt v h)
   .exact h.1
  .intro h
   by_cases q:v∈c
   .exact .inl q
   .exact pw
def ordC_nd:(acJ n c).Nodup:=(acg nd lt).nodup_iff.2 Tn
def aeh:(acJ n c).length=n:=by rw[(acg nd lt).length_eq,mg]
def acv {i:Nat} (h:i<n):∃q:i<(acJ n c).length,ofC n c i=(acJ n c)[i]:=by
 have a:i<(acJ n c).length:=by rw[aeh nd lt];exact h
 exact⟨a,D4 a⟩
theorem ren_C:Ren n (toC n c) (ofC n c):=by
 have mem:∀v,v∈acJ n c↔v<n:=by grind [acg]
 refine⟨fun v h=>?_,fun v h=>?_,fun v h=>?_,fun v h=>?_⟩
 .have := WS ((mem v).2 h)
  rwa[aeh nd lt]at this
 .obtain ⟨q, e⟩ := acv nd lt h
  rw[e];exact(by grind [List.getElem_mem])
 .obtain ⟨q, e⟩ := acv nd lt h
  rw[e];exact qL207 (ordC_nd nd lt) v q
 .have b := (mem v).2 h
  have a:=WS b;unfold ofC toC;rw[D4 a];exact afu a
theorem ac5 {i:Nat} (h:i<n):ofC n c i∈c↔i<c.length:=by
 obtain⟨q,e⟩:∃q:i<(c++(List.range n).filter fun v=>!c.contains v).length,ofC n c i=(c++(List.range n).filter fun v=>!c.contains v)[i]'q:=acv nd lt h
 rw[e];constructor
 .intro a
  refine Eh fun hi=>?_;rw[zO NH]at a;have:=Og (l:=(List.range n).filter fun v=>!c.contains v) (n:=i-c.length) (by rw[vZ]at q;omega);have:=(VU.1 this).2;rw[aeH]at this;have h2:=Po.2 a;rw[this]at h2;cases h2
 .intro hi
  rw[SR hi];exact Og hi
def ofC_inj {i j:Nat} (hi:i<n) (a:j<n) (e:ofC n c i=ofC n c j):i=j:=by
 have N:=ren_C nd lt;have:=N.pq i hi;rw[e,N.pq j a]at this;exact this.symm
def ofC_at {i:Nat} (hi:i<c.length) (a:i<n):ofC n c i=c[i]:=by
 obtain⟨q,e⟩:∃q:i<(c++(List.range n).filter fun v=>!c.contains v).length,ofC n c i=(c++(List.range n).filter fun v=>!c.contains v)[i]'q:=acv nd lt a
 rw[e];rw[SR hi]
end
theorem shape_no {es:List Pr} (hR:aV 200 es) {cs:II} (g:cs.Nodup) (lt:∀v∈cs,v<200) {ks:List Pr} (S:adG cs ks) (j:∀x y,Jp es x y↔GW x y∈ks):Tw2 (Jp es)/\¬XU 200 (eN 200 es):=by
 rcases S with⟨D,rfl⟩|⟨A,B,p,l,lB,rfl⟩
 .have ad:∀x y,Jp es x y↔x∈cs/\y∈cs/\x≠y:=fun x y=>by
   rw[j,ab1 g];constructor
   .rintro ⟨a, b, ha, hb, ne, e⟩
    rcases aaA.1 e with⟨rfl,rfl⟩|⟨rfl,rfl⟩
    .exact⟨ha,hb,ne⟩
    .exact pw
   .rintro⟨d,h2,h3⟩;exact pw
  refine⟨fun c u v ⟨w,o⟩ ⟨z,r⟩ d h2=>?_,fun P=>?_⟩
  .by_cases e : u = v
   .rw[e];exact .refl
   .exact(by grind [Rc.one])
  .refine afQ (n := 200) NH (P.ren (ren_C g lt) fun v w => ?_)
   rw[pZ];constructor
   .rintro ⟨d, h2, h3⟩
    refine⟨NH,NH,(vD hR).2 ((ad _ _).2 ⟨by grind [ac5],(by grind [ac5]),fun e=>h3 (ofC_inj g lt NH NH e).symm⟩)⟩
   .rintro ⟨d, h2, h3⟩
    obtain⟨k1,k2,t⟩:=(ad _ _).1 ((vD hR).1 h3);have k1:=(ac5 g lt d).1 k1;have k2:=(ac5 g lt h2).1 k2;exact⟨NH,NH,fun e=>t (by rw[e])⟩
 .have nd := p.nodup_iff.2 g
  have f:∀v∈A++B,v<200:=by grind [List.Perm.mem_iff]
  have E:=(si.1 nd).2.2;have ad:∀x y,Jp es x y↔(x∈A/\y∈B)\/(x∈B/\y∈A):=fun x y=>by
   rw[j,adD];constructor
   .rintro ⟨a, b, ha, hb, e⟩
    rcases aaA.1 e with⟨rfl,rfl⟩|⟨rfl,rfl⟩
    .exact .inl ⟨ha,hb⟩
    .exact .inr ⟨hb,ha⟩
   .rintro (⟨d, h2⟩ | ⟨d, h2⟩)
    .exact pw
    .exact(by grind [aag])
  refine⟨fun c u v ⟨w,o⟩ ⟨z,r⟩ d h2=>?_,fun P=>?_⟩
  .have two:∀X:II,X.length=3->X.Nodup->∃b∈X,b≠c:=fun X l3 nX=>by
    match X,l3 with
    |[x,y,z],_=>
     by_cases q:x=c
     .exact⟨y,Ma,pw⟩
     .exact⟨x,Ma,q⟩
   have nA:=(si.1 nd).1;have nB:=(si.1 nd).2.1;rcases(ad _ _).1 o with⟨a1,-⟩|⟨a1,-⟩<;>rcases(ad _ _).1 r with⟨C,-⟩|⟨C,-⟩
   .obtain ⟨b, hb, nb⟩ := two B lB nB
    exact(Rc.one pw d nb).trans (by grind [Rc.one])
   .exact(by grind [Rc.one])
   .exact(by grind [Rc.one])
   .obtain ⟨b, hb, nb⟩ := two A l nA
    exact(Rc.one pw d nb).trans (by grind [Rc.one])
  .have m:∀{i},i<200->(ofC 200 (A++B) i∈A↔i<3):=fun{i} hi=>by
    have k:=ac5 nd f hi;rw[vZ,l,lB]at k;constructor
    .intro h
     have l6:=k.1 (Sb.2 (.inl h));refine Eh fun q=>?_;rw[ofC_at nd f (by rw[vZ];omega) hi,zO NH]at h;exact(by grind [List.getElem_mem])
    .intro h
     rw[ofC_at nd f (by rw[vZ];omega) hi,SR NH];exact Og _
   have s:∀{i},i<200->(ofC 200 (A++B) i∈B↔3<=i/\i<6):=fun{i} hi=>by
    have k:=ac5 nd f hi;rw[vZ,l,lB,Sb,m hi]at k;constructor
    .intro h
     have:=k.1 (.inr h);refine(by grind [Nat.le_of_not_lt])
    .intro h
     exact pw
   refine afR (n:=200) NH (P.ren (ren_C nd f) fun v w=>?_);rw[Vb,vD hR,ad];constructor
   .rintro (⟨d, h2, h3⟩ | ⟨d, h2, h3⟩)
    .exact pw
    .exact pw
   .rintro ⟨d, h2, h3 | h3⟩
    .have := (m d).1 h3.1
     have:=(s h2).1 h3.2;omega
    .have := (s d).1 h3.1
     have:=(m h2).1 h3.2;omega
theorem kind_no:∀(m:Nat) (es:List Pr),es.length=m->bX ⟨((200:Nat):Int),es⟩->aaT es≠0->Tw2 (Jp es)/\¬XU 200 (eN 200 es):=by
 intro m
 induction m with
 |zero=>
  intro es J e i;obtain⟨E,ks,K,-⟩:=aa2 e i;have:=aew e.GD e.q9 abo (Tn.filter _);have M:=K.n9;have o:=K.len;rw[<-acu]at this;have:(aai (Zh 200 es) (aac (Zh 200 es))).length<=(abx (Zh 200 es) (aac (Zh 200 es))).length:=by
   unfold abx;generalize aai (Zh 200 es) (aac (Zh 200 es))=D
   induction D with
   |nil=>exact aal _
   |cons d D r=>simp only[acw,vZ,eR,mg,vg];omega
  omega
 |succ m r=>
  intro es N e i;obtain⟨E,ks,K,S⟩:=aa2 e i;have hR:=e.GD;by_cases j:∃u,((Zh 200 es).getD u []).length=2
  rotate_left
  .exact shape_no hR (Tn.filter _) (fun v h=>(abu h).1) S (by grind [acO.base])
  obtain⟨u,j⟩:=j;obtain⟨v,a,b,h2,O,ha,hb,ne⟩:=K.find e j;obtain⟨L,s,U⟩:=up_ex e h2 ha hb ne (by grind [acO.apart]);have g:aaT L≠0:=by rw[<-U.kind];exact i
  obtain⟨T,P⟩:=r L (by have:=U.len;omega) s g;obtain⟨E',C,z,F⟩:=aa2 s g;have f:∃t∈aac (Zh 200 L),t≠a/\t≠b:=by
   have l3:3<=(aac (Zh 200 L)).length:=by
    rcases F with⟨h,-⟩|⟨A,B,p,R,lB,-⟩
    .omega
    .have := p.length_eq
     rw[vZ]at this;omega
   refine Eh fun q=>?_;have:=tf (A:=aac (Zh 200 L)) (B:=[a,b]) (Tn.filter _) fun x V=>by
    by_cases o:x=a
    .simp[o]
    by_cases G:x=b
    .simp[G]
    exact pw
   simp only[vg,vu]at this;omega
  obtain⟨t,H,t1,I⟩:=f;have k:∃w,Jp L t w:=by
   have hd:=z.deg t H;have:=z.e3;rw[<-aaz]at hd;rcases h:aa0 (Zh 200 L) t with _|⟨w,l⟩
   .rw[h]at hd;simp at hd;omega
   .exact⟨w,(aaf U.r1).1 (by rw[h];simp)⟩
  refine⟨T.upon (fun x y h=>h.symm) U.ab U.nab U.iso k t1 I U.up,fun Q=>P ?_⟩;have em:eN 200 L v=[]:=by
   rcases h:eN 200 L v with _|⟨w,l⟩
   .rfl
   .exact absurd ((vD U.r1).1 pw) (U.iso w)
  exact(acz.wK (n:=200) (a:=a) (b:=b) (m:=v) ⟨MG U.r1 U.a1,MG U.r2 U.a2,(vD U.r1).2 U.ab,em,(ha.lt hR).1,fun x y=>by rw[vD U.r1,vD U.r2,U.up];rfl⟩).1 Q
def bX.ab3 {n:Nat} {es:List Pr} (h:bX ⟨(n:Int),es⟩):bX ⟨((200:Nat):Int),es⟩:=by
 have b:(n:Int)<=200:=h.n1;refine bX.of NH h.len (fun p a=>?_) h.q9;have:=h.GD p a;omega
theorem abI {n:Nat} {es:List Pr} (h:bX ⟨(n:Int),es⟩) (f:aat es≠0):adn n es/\¬aar n es/\9<=es.length:=by
 have a:=h.ab3;rw[aat,if_pos pw]at f;obtain⟨T,P⟩:=kind_no _ es rfl a f;obtain⟨E,ks,K,-⟩:=aa2 a f;have b:9<=es.length:=by
  have:=aew a.GD a.q9 abo (Tn.filter _);have b:=K.n9;have g:=K.len;rw[<-acu]at this;have:(aai (Zh 200 es) (aac (Zh 200 es))).length<=(abx (Zh 200 es) (aac (Zh 200 es))).length:=by
   unfold abx;generalize aai (Zh 200 es) (aac (Zh 200 es))=D;clear g
   induction D with
   |nil=>exact aal _
   |cons d D i=>simp only[acw,vZ,eR,mg,vg];omega
  omega
 have O:=T.oneB h (fun e=>by rw[e]at b;simp at b);refine⟨O,fun q=>?_,b⟩;rcases O.flat.1 ((abt O).1 q)with q|q
 .omega
 .have j : (n : Int) <= 200 := h.n1
  exact(by grind [ab7,bX.GD])
end Go.Fw
namespace Go.Fw
section
attribute [local irreducible] Jz JL vq cQ
open Go.Proofs
variable {n:Nat}
def afm {l:List Pr} (h:aar n l):aat l=0:=
 Eh fun q=>(abI h.1 q).2.1 h
end
section
attribute [local instance] Classical.propDecidable
attribute [local irreducible] Jz JL vq cQ
open Go.Proofs
variable {A:Nat->Nat->Prop} {K:Int} {a b i m n:Nat} {es:List Pr} {rs:AM}
def aaK (A:Nat->Nat->Prop):Prop:=∃E,(∀v w,w∈E v↔A v w)/\XU 200 E
def aaK.iff {E:Nat->II} (h:∀v w,w∈E v↔A v w):aaK A↔XU 200 E:=
 ⟨fun⟨E',h',p⟩=>(XU.congr fun v w=>by rw[h,h']).2 p,fun p=>⟨E,h,p⟩⟩
theorem aaK.congr {A B:Nat->Nat->Prop} (h:∀v w,A v w↔B v w) (p:aaK A):aaK B:=by
 obtain⟨E,k,p⟩:=p;exact⟨E,fun v w=>by rw[k,h],p⟩
noncomputable def aex (A:Nat->Nat->Prop) (v:Nat):II:=if v<200 then(List.range 200).filter fun w=>decide (A v w)else[]
def aaw (lt:∀v w,A v w->v<200/\w<200) (v w:Nat):w∈aex A v↔A v w:=by
 unfold aex;by_cases c:v<200
 .rw [if_pos c, VU, uV, decide_eq_true_eq]
  exact⟨fun h=>h.2,fun h=>⟨(lt v w h).2,h⟩⟩
 .rw [if_neg c]
  exact⟨(fun h=>by cases h),fun h=>absurd (lt v w h).1 c⟩
def aei (lt:∀v w,A v w->v<200/\w<200) (sy:∀v w,A v w->A w v) (ir:∀v,¬A v v):V7 200 (aex A):=by
 refine⟨fun v=>?_,fun v w h=>((lt v w ((aaw lt v w).1 h)).1),fun v w h=>(aaw lt w v).2 (sy v w ((aaw lt v w).1 h)),fun v h=>ir v ((aaw lt v v).1 h)⟩;unfold aex;split
 .exact Tn.filter _
 .exact agk
structure RelA (A:Nat->Nat->Prop):Prop where
 lt:∀v w,A v w->v<200/\w<200
 sy:∀v w,A v w->A w v
 ir:∀v,¬A v v
theorem aaK.upon (R:RelA A) (ab:A a b) (iso:∀w,¬A m w) (c:m<200) (p:aaK A):aaK (upA A a b m):=by
 have nv:∀{x y},A x y->x≠m/\y≠m:=fun{x y} h=>⟨fun e=>iso y (e▸h),fun e=>iso x (e▸R.sy _ _ h)⟩;have g:=(nv ab).1;have nb:=(nv ab).2;have i:=R.lt _ _ ab;have R':RelA (upA A a b m):=by
  refine⟨fun v w h=>?_,fun v w h=>?_,fun v h=>?_⟩
  .rcases h with ⟨h, -⟩ | ⟨rfl, rfl | rfl⟩ | ⟨rfl, rfl | rfl⟩
   .exact R.lt v w h
   all_goals omega
  .have sy := R.sy
   unfold upA at*;grind
  .have ir := R.ir
   unfold upA at*;grind
 have d:=aei R.lt R.sy R.ir;have f:=aei R'.lt R'.sy R'.ir;have em:aex A m=[]:=by
  rcases h:aex A m with _|⟨w,l⟩
  .rfl
  .exact absurd ((aaw R.lt m w).1 (by rw[h];simp)) (iso w)
 refine(aaK.iff (aaw R'.lt)).2 ((acz.wK (n:=200) (E:=aex A) (a:=a) (b:=b) (m:=m) ⟨d,f,(aaw R.lt a b).2 ab,em,c,fun v w=>?_⟩).2 ((aaK.iff (aaw R.lt)).1 p));rw[aaw R'.lt,aaw R.lt];rfl
theorem aaK.aad (iso:∀w,¬A m w) (sy:∀v w,A v w->A w v) (o:m<200) (hb:b<200) (ne:m≠b) (p:aaK A):aaK fun v w=>A v w\/(v=m/\w=b)\/(v=b/\w=m):=by
 obtain⟨E,g,r,R,F,i⟩:=p;have rm:∀v w,w∈r v↔A v w:=fun v w=>by rw[i,g]
 have d:r m=[]:=by
  rcases h:r m with _|⟨w,l⟩
  .rfl
  .exact absurd ((rm m w).1 (by rw[h];simp)) (iso w)
 have nm:m∉r b:=fun h=>iso b (sy _ _ ((rm b m).1 h))
 let s:Nat->II:=fun v=>if v=m then[b]else if v=b then m::r b else r v
 have c:s m=[b]:=if_pos rfl
 have sb:s b=m::r b:=by show(if b=m then _ else _)=_;rw[if_neg (fj ne),if_pos rfl]
 have f:∀v,v≠m->v≠b->s v=r v:=fun v j h2=>by show(if v=m then _ else _)=_;rw[if_neg j,if_neg h2]
 have mem:∀v w,w∈s v↔w∈r v\/(v=m/\w=b)\/(v=b/\w=m):=fun v w=>by
  by_cases c1:v=m
  .subst c1;rw[c,d];simp;omega
  by_cases c2:v=b
  .subst c2;rw[sb,WA];grind
  .rw[f v c1 c2];grind
 have S:V7 200 s:=by
  refine⟨fun v=>?_,fun v w h=>?_,fun v w h=>?_,fun v h=>?_⟩
  .by_cases c1 : v = m
   .subst c1;rw[c];simp
   by_cases c2:v=b
   .subst c2;rw[sb];exact ZT.2 ⟨nm,R.nd _⟩
   .rw[f v c1 c2];exact R.nd v
  .rcases (mem v w).1 h with h | h | h
   .exact R.lt v w h
   .omega
   .omega
  .rw [mem] at h ⊢
   rcases h with h|h|h
   .exact .inl (R.sy _ _ h)
   .exact .inr (.inr ⟨h.2,h.1⟩)
   .exact .inr (.inl ⟨h.2,h.1⟩)
  .rcases (mem v v).1 h with h | h | h
   .exact R.ir v h
   .omega
   .omega
 have dl:del s m b=r:=by
  funext v;by_cases c1:v=m
  .subst c1;rw[OE,c,d];simp
  by_cases c2:v=b
  .subst c2;rw[u9 _ ne,sb];simp
  .rw[ac7 _ c1 c2,f v c1 c2]
 have a:b∈s m:=by rw[c];simp
 have nC:¬Cr (del s m b) m b:=fun h=>by
  rw[dl]at h;have:∀x y,Cr r x y->x=m->y=m:=fun x y h=>by
   induction h with
   |refl=>exact id
   |step _ q k=>
    intro e;have:=k e;subst this;rw[d]at q;cases q
  exact ne (this _ _ h rfl).symm
 have n:Flat 200 s:=acy S a (by rw[dl];exact F) ⟨fun _=>nC,fun q=>jh S a q⟩;exact⟨s,fun v w=>by rw[mem,rm],s,S,n,fun v w=>Iff.rfl⟩
def abJ (A:Nat->Nat->Prop) (x y v w:Nat):Prop:=A v w/\¬(v=x/\w=y)/\¬(v=y/\w=x)
structure Mad (K:Int) (n:Nat) (S:List Pr):Prop where
 ok:YG (n:Int) S
 kind:aaT (sg S)=K
 less:∀x y,Jp S x y->aaK (abJ (Jp S) x y)
def YG.relA {S:List Pr} (k:YG (n:Int) S):RelA (Jp S):=by
 have h2:(n:Int)<=200:=k.n1;exact⟨fun v w h=>⟨by have:=acD k h;omega,by have:=acD k h.symm;omega⟩,fun v w h=>h.symm,fun v h=>Xa k.right.GD ((abj S v v).2 h)⟩
theorem Mad.upon {K:Int} {n a b:Nat} {D R:List Pr} (T:Mad K n (D++((a:Int),(b:Int))::R)) (o:n+1<=200) (p:(D++((a:Int),(b:Int))::R).length+1<=594):Mad K (n+1) ((D++[((a:Int),(n:Int))])++((n:Int),(b:Int))::R):=by
 have j:=twist_ok T.ok o p;have ab:Jp (D++((a:Int),(b:Int))::R) a b:=.inl Ma;have RA:=T.ok.relA;have ne:a≠b:=by have q:=RA.ir;intro e;subst e;exact q _ ab
 have ad:=fun x y=>afc T.ok x y;have iso:∀w,¬Jp (D++((a:Int),(b:Int))::R) n w:=fun w h=>by have:=acD T.ok h;omega
 have g:∀w,¬Jp (D++((a:Int),(b:Int))::R) w n:=fun w h=>iso w h.symm;have s:=acD T.ok ab;have t:=acD T.ok ab.symm;have U:UpK (sg (D++((a:Int),(b:Int))::R)) (sg ((D++[((a:Int),(n:Int))])++((n:Int),(b:Int))::R)) a b n:=by
  refine⟨T.ok.right.GD.up NH,j.right.GD.up NH,T.ok.right.q9,j.right.q9,(abj _ _ _).2 ab,fun w h=>iso w ((abj _ _ _).1 h),fun x y=>?_,?_⟩
  .rw[abj,ad];unfold upA;rw[abj]
  .rw[ZS,ZS,eR,eR];simp;omega
 have less:=T.less;generalize Jp (D++((a:Int),(b:Int))::R)=A at*;refine⟨j,U.kind.trans T.kind,fun x y h=>?_⟩;have hB:(fun v w=>Jp ((D++[((a:Int),(n:Int))])++((n:Int),(b:Int))::R) v w)=upA A a b n:=by funext v w;exact propext (ad v w)
 have hB:Jp ((D++[((a:Int),(n:Int))])++((n:Int),(b:Int))::R)=upA A a b n:=hB;rw[hB]at h ⊢;clear hB U j ad T;have k:∀c,(c=a\/c=b)->aaK fun v w=>abJ A a b v w\/(v=n/\w=c)\/(v=c/\w=n):=fun c u=>
  (less a b ab).aad (fun w q=>iso w q.1) (fun v w q=>⟨RA.sy _ _ q.1,fun e=>q.2.2 ⟨e.2,e.1⟩,fun e=>q.2.1 ⟨e.2,e.1⟩⟩) NH NH NH
 have d:∀x y,upA A a b n x y->(A x y/\¬(x=a/\y=b)/\¬(x=b/\y=a))\/(x=n/\y=a)\/(x=n/\y=b)\/(x=a/\y=n)\/(x=b/\y=n):=fun x y q=>by
  rcases q with q|⟨i,f|f⟩|⟨i,f|f⟩
  .exact .inl q
  .exact .inr (.inl ⟨i,f⟩)
  .exact .inr (.inr (.inl ⟨i,f⟩))
  .exact .inr (.inr (.inr (.inl ⟨f,i⟩)))
  .exact .inr (.inr (.inr (.inr ⟨f,i⟩)))
 have r:=RA.ir;rcases d x y h with⟨l,h2,h3⟩|⟨rfl,rfl⟩|⟨rfl,rfl⟩|⟨rfl,rfl⟩|⟨rfl,rfl⟩
 .have RL : RelA (abJ A x y) := ⟨fun v w q => RA.lt _ _ q.1, fun v w q => ⟨RA.sy _ _ q.1, fun e => q.2.2 ⟨e.2, e.1⟩, fun e => q.2.1 ⟨e.2, e.1⟩⟩, fun v q => RA.ir v q.1⟩
  have nx:x≠n:=fun e=>iso y (e▸l);have ny:y≠n:=fun e=>g x (e▸l);refine((less x y l).upon RL (a:=a) (b:=b) (m:=n) ⟨ab,NH,NH⟩ (fun w q=>iso w q.1) NH).congr fun v w=>?_;unfold abJ upA;grind
 .refine (k b (.inr rfl)).congr fun v w => ?_
  unfold abJ upA;grind
 .refine (k a (.inl rfl)).congr fun v w => ?_
  unfold abJ upA;grind
 .refine (k b (.inr rfl)).congr fun v w => ?_
  unfold abJ upA;grind
 .refine (k a (.inl rfl)).congr fun v w => ?_
  unfold abJ upA;grind
def ab4 {hs:List (H8×Nat)} (d1:(List.range es.length).all (okB 6 es)=true) (d2:conB 6 es=true) (d4:(List.range 6).all (fun v=>(rs.getD v []).isPerm ((Zh 6 es).getD v []))=true) (d5:Cert 6 (Xl rs) hs) (a:es.length=8) (c:rs.length=6) (d:hs.length=4:=by rfl):
  XU 6 (eN 6 es):=by
 have b:bX ⟨((6:Nat):Int),es⟩:=V5 WY WY (by rw[a];decide) d1;have e:=aeU d2;have G:Av 6 es rs:=N9 c d4;refine tT b G WY e ?_;rw[X9 b G d5,eR,d,a]
def m6_all:∀i,i<9->XU 6 (eN 6 (E9.eraseIdx i)):=fun i hi=>by
 match i,hi with
 |0,_=>exact ab4 (rs:=[[4,5],[3,4,5],[3,5,4],[1,2],[0,1,2],[0,2,1]]) (hs:=[((0,4),4),((0,5),4),((1,3),4),((1,4),4)]) iw iw iw iw rfl rfl
 |1,_=>exact ab4 (rs:=[[3,5],[3,4,5],[3,5,4],[0,2,1],[1,2],[0,1,2]]) (hs:=[((0,3),4),((0,5),4),((1,4),4),((1,5),4)]) iw iw iw iw rfl rfl
 |2,_=>exact ab4 (rs:=[[3,4],[3,4,5],[3,5,4],[0,1,2],[0,2,1],[1,2]]) (hs:=[((0,3),4),((0,4),4),((1,3),4),((1,5),4)]) iw iw iw iw rfl rfl
 |3,_=>exact ab4 (rs:=[[3,4,5],[4,5],[3,5,4],[0,2],[0,2,1],[0,1,2]]) (hs:=[((0,3),4),((0,4),4),((0,5),4),((1,5),4)]) iw iw iw iw rfl rfl
 |4,_=>exact ab4 (rs:=[[3,4,5],[3,5],[3,5,4],[0,1,2],[0,2],[0,2,1]]) (hs:=[((0,3),4),((0,4),4),((0,5),4),((1,3),4)]) iw iw iw iw rfl rfl
 |5,_=>exact ab4 (rs:=[[3,4,5],[3,4],[3,5,4],[0,2,1],[0,1,2],[0,2]]) (hs:=[((0,3),4),((0,4),4),((0,5),4),((1,4),4)]) iw iw iw iw rfl rfl
 |6,_=>exact ab4 (rs:=[[3,4,5],[3,5,4],[4,5],[0,1],[0,1,2],[0,2,1]]) (hs:=[((0,3),4),((0,4),4),((0,5),4),((1,4),4)]) iw iw iw iw rfl rfl
 |7,_=>exact ab4 (rs:=[[3,4,5],[3,5,4],[3,5],[0,2,1],[0,1],[0,1,2]]) (hs:=[((0,3),4),((0,4),4),((0,5),4),((1,5),4)]) iw iw iw iw rfl rfl
 |8,_=>exact ab4 (rs:=[[3,4,5],[3,5,4],[3,4],[0,1,2],[0,2,1],[0,1]]) (hs:=[((0,3),4),((0,4),4),((0,5),4),((1,3),4)]) iw iw iw iw rfl rfl
def ac6 (d:bX ⟨(n:Int),es⟩) (h:es[i]?=some ((a:Int),(b:Int))) (x y:Nat):Jp (es.eraseIdx i) x y↔abJ (Jp es) a b x y:=by
 obtain⟨hi,e⟩:=Ny.1 h;have c:es=es.take i++((a:Int),(b:Int))::es.drop (i+1):=by rw[<-e,<-Qn hi,qL82]
 have:=less_adj (n:=n) (L1:=es.take i) (L2:=es.drop (i+1)) (a:=a) (b:=b) (by rw[<-c];exact d) x y;rw[<-c,<-dU]at this;exact this
def adj_at {x y:Nat} (h:Jp es x y):∃i:Nat,es[i]?=some ((x:Int),(y:Int))\/es[i]?=some ((y:Int),(x:Int)):=by
 rcases h with h|h
 .obtain⟨i,hi⟩:=yM.1 h;exact⟨i,.inl hi⟩
 .obtain⟨i,hi⟩:=yM.1 h;exact⟨i,.inr hi⟩
def les_comm (A:Nat->Nat->Prop) (x y:Nat):abJ A x y=abJ A y x:=by
 funext v w;unfold abJ;exact propext ⟨fun h=>⟨h.1,h.2.2,h.2.1⟩,fun h=>⟨h.1,h.2.2,h.2.1⟩⟩
def mad_of (d:bX ⟨(n:Int),es⟩) (k:aat es=K) (h:∀i,i<es.length->XU n (eN n (es.eraseIdx i))):Mad K n es:=by
 have o:(n:Int)<=200:=d.n1;have hs:sg es=es:=by
  have e:es.map lZ=es:=by
   refine(Uz (g:=id) fun p l=>?_).trans (aeC _);have:=d.GD p l;obtain⟨x,y⟩:=p;simp only[lZ,id,qy]at*;omega
  refine sx (lt:=fun a b:Pr=>a.1<b.1\/a.1=b.1/\a.2<b.2) (fun a h=>by omega) (fun a b c h g=>by omega) _ _ (Nl.1 d.newOK.right.q9) (Nl.1 d.q9) fun p=>?_;rw[Wb,e]
 refine⟨d.newOK,by rw[hs];rw[aat,if_pos (show bX ⟨200,es⟩from d.ab3)]at k;exact k,fun x y j=>?_⟩;have key:∀i a b:Nat,es[i]?=some ((a:Int),(b:Int))->aaK (abJ (Jp es) a b):=fun i a b hi=>by
  have m:=(Ny.1 hi).1;have f:=d.sub (qQ es i);refine((aaK.iff (E:=eN 200 (es.eraseIdx i)) (A:=Jp (es.eraseIdx i)) fun v w=>vD (f.GD.up NH)).2 ((ab7 f.GD NH).2 (h i m))).congr fun v w=>?_;exact ac6 d hi v w
 obtain⟨i,hi|hi⟩:=adj_at j
 .exact key i x y hi
 .rw[les_comm];exact key i y x hi
def mad_5:Mad 5 5 k5L:=mad_of k5R aeY fun i hi=>(aem i hi).2.2
def mad_33:Mad 33 6 E9:=mad_of k33R ad4 fun i hi=>m6_all i hi
end
end Go.Fw
namespace Go.Fw
open Go.Proofs
attribute [local irreducible] Jz JL vq cQ uc sT aaT
attribute [local instance] Classical.propDecidable
def planK_of {n:Nat} {es:List Pr} (a:bX ⟨(n:Int),es⟩) (h:XU n (eN n es)):aar n es:=by
 refine(ads a).2 fun b hb=>?_;have O:=abF a hb;refine(abt O).2 (O.flat.2 (.inr ?_));obtain⟨p,c,rfl⟩:=abe.1 hb;refine h.less (fun v w k=>?_) (fun v w k=>?_)
 .rw [vD a.GD]
  exact((abE a.GD).1 ((vD O.1.GD).1 k)).1
 .exact(vD O.1.GD).2 ((vD O.1.GD).1 k).symm
def les_iso {es d:List Pr} {π:Nat->Nat} (I:H9 200 es d π) {x y:Nat} (b:x<200) (c:y<200) (h:aaK (abJ (Jp es) x y)):aaK (abJ (Jp d) (π x) (π y)):=by
 obtain⟨σ,J,f,h2⟩:=I.inv;obtain⟨E,g,P⟩:=h;have lt:∀v w,abJ (Jp d) (π x) (π y) v w->v<200/\w<200:=fun v w q=>q.1.lt I.r2;refine⟨_,aaw lt,XU.ren (p:=π) (q:=σ) ⟨I.lt,J.lt,h2,f⟩ (fun v w=>?_) P⟩;rw[aaw lt,g];have inj:∀u v,u<200->v<200->(σ v=u↔v=π u):=fun u v i a=>⟨fun e=>by rw[<-e,h2 v a],fun e=>by rw[e,f u i]⟩;constructor
 .intro q
  obtain⟨a,hw⟩:=lt v w q;refine⟨a,hw,(J.Jp v w a hw).2 q.1,fun e=>q.2.1 ⟨(inj x v b a).1 e.1,(inj y w c hw).1 e.2⟩,fun e=>q.2.2 ⟨(inj y v c a).1 e.1,(inj x w b hw).1 e.2⟩⟩
 .rintro ⟨a, hw, q, j, k⟩
  exact⟨(J.Jp v w a hw).1 q,fun e=>j ⟨(inj x v b a).2 e.1,(inj y w c hw).2 e.2⟩,fun e=>k ⟨(inj y v c a).2 e.1,(inj x w b hw).2 e.2⟩⟩
structure TwF (K:Int) (N:Nat) (l:List Pr):Prop where
 r:bX ⟨(N:Int),l⟩
 kind:aat l=K
 less:∀i,i<l.length->aar N (l.eraseIdx i)
def Mad.twF {K:Int} {n N:Nat} {S:List Pr} {ps:RZ} (M:Mad K n S) (A:ZE ⟨(N:Int),sg S⟩ ps):TwF K N (uc ps (sg S)):=by
 have k:=A.1;have f:=A.right;have I:=A.iso;have s:(uc ps (sg S)).length=(sg S).length:=by unfold uc;simp[sortP]
 have t:=afl I k f s;have h2:N<=200:=by have:(N:Int)<=200:=k.n1;omega
 have J:=I.upto h2;generalize uc ps (sg S)=l at*;refine⟨f,by rw[t,aat,if_pos (show bX ⟨200,sg S⟩from k.ab3)];exact M.kind,fun i hi=>?_⟩;have u:=CA hi;obtain⟨a,b,ha,hb,z,e⟩:=abL f.GD (Og hi);have m:∃c d:Nat,l[i]?=some ((c:Int),(d:Int)):=by
  have:=f.GD _ (Og hi);exact⟨l[i].1.toNat,l[i].2.toNat,by rw[u];exact congrArg some (IC (by simp only;omega) (by simp only;omega))⟩
 obtain⟨c,d,h⟩:=m;have j:Jp l c d:=.inl (Gc h);obtain⟨lc,ld⟩:=j.lt J.r2;obtain⟨x,p,ex⟩:=J.UB c lc;obtain⟨y,q,r⟩:=J.UB d ld;have o:Jp (sg S) x y:=(J.Jp x y p q).1 (by rw[ex,r];exact j);have pl:=M.less x y ((abj _ _ _).1 o);have B:Jp S=Jp (sg S):=by funext v w;exact propext (abj S v w).symm
 rw[B]at pl;have pl:=les_iso J p q pl;rw[ex,r]at pl;have g:=f.sub (qQ l i);refine planK_of g ((ab7 g.GD h2).1 ((aaK.iff (A:=abJ (Jp l) c d) fun v w=>?_).1 pl));rw[vD (g.GD.up h2)];exact ac6 f h v w
section
variable {K : Int} {N : Nat} {l : List Pr} (T : TwF K N l) (hK : K ≠ 0)
include T hK
def TwF.no:¬aar N l:=(abI T.r (by rw[T.kind];exact hK)).2.1
theorem TwF.fnd:adh ⟨(N:Int),l⟩=l:=(if_neg (T.no hK)).trans (abk T.less _ _)
def TwF.keys:∃E ks,acO l E ks/\adG (aac (Zh 200 l)) ks:=by
 refine aa2 T.r.ab3 ?_;have:=T.kind;rw[aat,if_pos (show bX ⟨200,l⟩from T.r.ab3)]at this;rw[this];exact hK
def TwF.ring (k:N<=60):aat (l++[(197,198),(197,199),(198,199)])=0:=by
 refine Eh fun q=>?_;by_cases f:bX ⟨200,l++[(197,198),(197,199),(198,199)]⟩
 rotate_left
 .rw[aat,if_neg f]at q;exact q rfl
 have O:=(abI (n:=200) f q).1;have m:=(abI T.r (by rw[T.kind];exact hK)).2.2;have g:0<l.length:=NH;obtain⟨a,b,ha,hb,c,e⟩:=abL T.r.GD (Og g);have sub:∀{x y},Jp l x y->Jp (l++[(197,198),(197,199),(198,199)]) x y:=fun h=>h.imp (fun q=>Sb.2 (.inl q)) (fun q=>Sb.2 (.inl q));have d:Jp (l++[(197,198),(197,199),(198,199)]) 197 198:=.inl Ma;have C:=O.bp d (sub c);have out:∀{u w},Pu (l++[(197,198),(197,199),(198,199)]) u w->197<=u->197<=w:=fun{u w} h=>by
  induction h with
  |refl _=>exact id
  |step _ q _ i=>
   intro j;have:=i j;rcases q with q|q
   all_goals
    rcases Sb.1 q with q|q
    .have := T.r.GD _ q
     simp only at this;omega
    .simp at q;omega
 have:=out C (qL0 _);omega
theorem TwF.more {a b c d:Nat} (ha:Jp l a c) (hb:Jp l b d) (j:bX ⟨(N:Int),sg (l++[((a:Int),(b:Int))])⟩) (nd:YG (N:Int) (l++[((a:Int),(b:Int))])):aat (sg (l++[((a:Int),(b:Int))]))=0:=by
 refine Eh fun q=>?_;rw[aat,if_pos (show bX ⟨200,_⟩from j.ab3)]at q;obtain⟨E,ks,k,M⟩:=T.keys hK;obtain⟨E',O,n,P⟩:=aa2 j.ab3 q;have f:=T.r.ab3;have g:=j.ab3;have RA:=nd.relA;have ab:Jp (l++[((a:Int),(b:Int))]) a b:=.inl Ma;have ne:a≠b:=fun e=>RA.ir b (e▸ab:Jp (l++[((a:Int),(b:Int))]) b b);have nab:¬Jp l a b:=fun h=>by
  have:=nd.nd;rw[j3,si]at this;refine this.2.2 (lZ ((a:Int),(b:Int))) ?_ _ Ma rfl;rcases h with h|h
  .exact HV.2 ⟨_,h,rfl⟩
  .exact HV.2 ⟨_,h,by simp only[lZ,qy];omega⟩
 have ad:∀v w,Jp (sg (l++[((a:Int),(b:Int))])) v w↔Jp l v w\/(v=a/\w=b)\/(v=b/\w=a):=fun v w=>by
  rw[abj];unfold Jp;simp only[Sb,jf,qy,afF]
  grind
 generalize sg (l++[((a:Int),(b:Int))])=H at*
 have deg:∀v,((Zh 200 H).getD v []).length=((Zh 200 l).getD v []).length+if v=a\/v=b then 1 else 0:=fun v=>by
  rw[<-aaz,<-aaz];by_cases c1:v=a
  .subst c1
   rw[if_pos (.inl rfl)];have:(aa0 (Zh 200 H) v).Perm (b::aa0 (Zh 200 l) v):=aaZ (aaG g.GD g.q9 _) (ZT.2 ⟨fun h=>nab ((aaf f.GD).1 h),aaG f.GD f.q9 _⟩) fun w=>by rw[aaf g.GD,ad,WA,aaf f.GD];grind
   rw[this.length_eq,vg]
  by_cases c2:v=b
  .subst c2
   rw[if_pos (.inr rfl)];have:(aa0 (Zh 200 H) v).Perm (a::aa0 (Zh 200 l) v):=aaZ (aaG g.GD g.q9 _) (ZT.2 ⟨fun h=>nab ((aaf f.GD).1 h).symm,aaG f.GD f.q9 _⟩) fun w=>by rw[aaf g.GD,ad,WA,aaf f.GD];grind
   rw[this.length_eq,vg]
  .rw [if_neg NH]
   have:(aa0 (Zh 200 H) v).Perm (aa0 (Zh 200 l) v):=aaZ (aaG g.GD g.q9 _) (aaG f.GD f.q9 _) fun w=>by rw[aaf g.GD,ad,aaf f.GD];grind
   rw[this.length_eq,bC]
 have acp:∀{es:List Pr} {E:Nat} {ks:List Pr},acO es E ks->∀v w,Jp es v w->((Zh 200 es).getD v []).length=2\/(v∈aac (Zh 200 es)/\((Zh 200 es).getD v []).length=E):=fun{es E ks} K v w h=>by
  by_cases c:v∈aac (Zh 200 es)
  .exact .inr ⟨c,K.deg v c⟩
  .exact .inl (K.two v w h c)
 have five:∀{es:List Pr} {E:Nat} {ks:List Pr},acO es E ks->adG (aac (Zh 200 es)) ks->((aac (Zh 200 es)).length=5/\E=4)\/((aac (Zh 200 es)).length=6/\E=3):=fun{es E ks} K S=>by
  have s:=K.len;rw[aa6 K.deg]at s;rcases S with⟨z,rfl⟩|⟨A,B,p,C,lB,rfl⟩
  .have u:(prsL (aac (Zh 200 es))).length=10:=by
    match aac (Zh 200 es),z with
    |[a,b,c,d,e],_=>rfl
   rw[z,u]at s;omega
  .have D := p.length_eq
   rw[vZ,C,lB]at D;rw[<-D,adE,C,lB]at s;omega
 have F:∀es:List Pr,(aac (Zh 200 es)).Nodup:=fun es=>Tn.filter _;have W:=five k M;have X:=five n P;have i:∃t∈aac (Zh 200 l),t≠a/\t≠b:=by
  refine Eh fun q=>?_;have:=tf (A:=aac (Zh 200 l)) (B:=[a,b]) (F l) fun x o=>by
   by_cases G:x=a
   .simp[G]
   by_cases I:x=b
   .simp[I]
   exact absurd ⟨x,o,G,I⟩ q
  simp only[vg,vu]at this;omega
 obtain⟨t,Q,t1,Y⟩:=i;have e3:=k.e3;have dt:=k.deg t Q;have y:=deg t;rw[if_neg NH,dt]at y;have J:∀{es:List Pr} (j:bX ⟨((200:Nat):Int),es⟩) {v:Nat},((Zh 200 es).getD v []).length≠0->∃w,Jp es v w:=fun{es} j {v} h=>by
  rw[<-aaz]at h;rcases L:aa0 (Zh 200 es) v with _|⟨w,m⟩
  .rw[L]at h;exact absurd rfl h
  .exact⟨w,(aaf j.GD).1 (by rw[L];simp)⟩
 obtain⟨w,hw⟩:=J g (v:=t) NH;have Z:E'=E:=by
  rcases acp n t w hw with h|⟨-,h⟩<;>omega
 have R:=deg a;have U:=deg b;rw[if_pos (.inl rfl)]at R;rw[if_pos (.inr rfl)]at U;have ca:a∉aac (Zh 200 l)/\a∈aac (Zh 200 H):=by
  rcases acp k a c ha with h|⟨-,h⟩
  .refine ⟨fun q => by have := k.deg a q; omega, ?_⟩
   rcases acp n a b ((ad a b).2 (.inr (.inl ⟨rfl,rfl⟩)))with h2|⟨h2,-⟩
   .omega
   .exact h2
  .rcases acp n a b ((ad a b).2 (.inr (.inl ⟨rfl,rfl⟩)))with h2|⟨-,h2⟩<;>omega
 have sub:∀x∈aac (Zh 200 l),x∈aac (Zh 200 H):=fun x o=>by
  have dx:=k.deg x o;have V:=deg x;obtain⟨w,hw⟩:=J g (v:=x) NH;rcases acp n x w hw with h|⟨h,-⟩
  .omega
  .exact h
 have:=tf (A:=a::aac (Zh 200 l)) (B:=aac (Zh 200 H)) (ZT.2 ⟨ca.1,F l⟩) fun x o=>by
  rcases WA.1 o with rfl|h
  .exact ca.2
  .exact sub x h
 rw[vg]at this;omega
end
end Go.Fw
namespace Go.Fw
section
attribute [local irreducible] Kp MQ lU rS KO KN KX KE VK Kl ZJ TC aab
attribute [local irreducible] Jz JL vq cQ uc sT aaT
open Go.Proofs
variable {D N0 S c i n t:Nat} {α:Type}
def w8_suc6 (h:t<6):awrap .u8 ((t:Int)+1)=((t+1:Nat):Int):=by
 have:t=0\/t=1\/t=2\/t=3\/t=4\/t=5:=NH;rcases this with rfl|rfl|rfl|rfl|rfl|rfl<;>decide
def mw_c (h:D<=6*i+t) (h2:i<=S) (h3:S<=10) (a:t<=c) (b:c<6):D+1<=100000:=NH
def mw_d (h:n<=N0+5*i+t) (h2:i<=S) (h3:S<=10) (a:N0<=6) (b:t<=c) (d:c<6):n+1<=200:=NH
def mw_e {D i S t c r:Nat} (h:D<=6*i+t) (h2:i<=S) (h3:S<=10) (a:t<=c) (b:c<6) (d:r<=10):D+(r+1)+1<=594:=NH
def mw_f (h:n<=N0+5*i+t) (h2:i<=S) (h3:S<=10) (a:N0<=6) (b:t<=c) (d:c<6):n<4611686018427387904:=NH
def mw_g (h:D+1<=6*(i+1)) (h2:i<=S) (h3:S<=10):D+1<=100000:=NH
def mw_h (h:n<=N0+5*i+t):n+1<=N0+5*i+(t+1):=NH
def mw_i {D:List α} {x:α} (h:D.length<=6*i+t):(D++[x]).length<=6*i+(t+1):=by rw[vZ];simp only[vg,vu];omega
def YG.upto {n N:Nat} {S:List Pr} (k:YG (n:Int) S) (h:n<=N) (h2:N<=200):YG (N:Int) S:=
 ⟨NH,NH,k.len,fun p a=>by have:=k.ok p a;omega,k.nd⟩
def Made_any (W0:LA) (H pv:Value) (six:Bool) (us ps:RZ) (h:AHeap) (hu:RL isB h H us) (hp:RL RP h pv ps):
  AC Tryz.prog W0 50 [.bool six,H,pv] h fun x h'=>Le h h'/\∃(j:Value) (b:Bool) (l:List Pr),x=.tuple #[j,.bool b]/\GP h' j l/\(b=true->ps.length<=200/\TwF (if six then 33 else 5) ps.length l):=by
 refine AC.vE ⟨Tryz.func50,rfl,WY⟩ Tryz.ntmps50 Tryz.results50 fun cc=>?_;simp only[Br,Nat.reduceAdd];refine Uy ?_;refine TC.intro PJ ⟨afV,rfl,WY⟩ (abq W0 0 5 h WY WY) ?_;rintro v5 h1 w1 ⟨g5,l1,-⟩;have E5:acY 0 5=k5L:=by decide
 rw[E5]at g5;refine Uy ?_
 obtain⟨K,hK⟩:∃K:Int,K=if six then 33 else 5:=⟨_,rfl⟩
 rw[<-hK];apply Ya (F:=fun(fr:lC) (m:AHeap)=>∃(A:Nat) (f:List Pr) (ev:Value),Fj fr [(1,H),(2,pv),(8,ev),(9,.int .i64 (A:Nat))]/\Le h m/\WF m/\PR m ev f/\Mad K A f/\A<=6/\f.length<=10)
 .intro cont
  cases six with
  |false=>
   simp only[qj,Nat.reduceLT,↓reduceIte,Nat.reduceEqDiff,reduceCtorEq,Nat.reduceBEq,Qg];refine KN.UJ fun fr' h' x y=>cont fr' h' ?_;rw[x,y];exact⟨5,k5L,v5,fD,l1,w1,g5.pr,by rw[hK];exact mad_5,NH,WY⟩
  |true=>
   refine Uy ?_;refine TC.intro PJ ⟨Tryz.func71,rfl,WY⟩ (abD W0 h1) ?_;rintro v3 h4 w4 ⟨g3,l4,-⟩;simp only[qj,Nat.reduceLT,↓reduceIte,Nat.reduceEqDiff,reduceCtorEq,Nat.reduceBEq,Qg];refine KN.UJ fun fr' h' x y=>cont fr' h' ?_;rw[x,y];exact⟨6,E9,v3,fD,l1.trans l4,w4,g3.pr,by rw[hK];exact mad_33,NH,WY⟩
 rintro fr m ⟨A,f,ev,o,lq,wq,pS,T0,hN,hS⟩;simp only[Fj]at o;obtain⟨O,Q,f8,I,-⟩:=o;have lS:=fun g=>pS.len g;simp only[HO,Nat.reduceLT,↓reduceIte,Nat.reduceEqDiff,reduceCtorEq,O,Q,f8,I,lS];refine aab.intro (fun k fr p=>∃(i n:Nat) (D:List Pr) (j:Value),k=f.length-i/\i<=f.length/\fr=mkF [(1,H),(2,pv),(9,.int .i64 (n:Nat)),(10,j),(21,ev),(22,.int .i64 (f.length:Nat)),(23,.int .i64 (i:Nat))]/\Le m p/\Z2 m j/\GP p j D/\Mad K n (D++f.drop i)/\n<=A+5*i/\D.length<=6*i)
  f.length [(1,H),(2,pv),(9,.int .i64 (A:Nat)),(10,.slice none 0 0),(21,ev),(22,.int .i64 (f.length:Nat)),(23,.int .i64 (0:Nat))] (by simp only[Fj,HO,Nat.reduceLT,↓reduceIte,Nat.reduceEqDiff,reduceCtorEq,O,Q,I];simp[O,Q,I])
  ⟨0,A,[],_,rfl,aal _,rfl,Le.refl _,fun b hb=>by simp[blk]at hb,GP.nil _,by simpa using T0,NH,Ma⟩ ?_
 clear O Q f8 I;rintro k fr p wy ⟨i,n,D,j,rfl,hi,rfl,ly,al,gl,T,R,S⟩;refine Uy ?_;refine Kl.intro (fun J=>?_) (fun hf=>?_)
 .have r : i < f.length := CC J
  clear J;have a6:=CA r;have ar:f.drop i=f[i]::f.drop (i+1):=Qn r;have ad:=pS.addr (k:=.i64) i r;have ld:=(pS.le ly).load a6;have a7:=T.ok.ok f[i] (Ki _ (by rw[ar];exact Db));rw[ar]at T;obtain⟨a,b,a8⟩:∃a b:Nat,f[i]=((a:Int),(b:Int)):=by
   refine⟨f[i].1.toNat,f[i].2.toNat,IC ?_ ?_⟩<;>simp only[lZ]at a7 ⊢<;>omega
  rw[a8]at ld T;obtain⟨h5,h6,q5,q6,l6,w6,o6⟩:=Ut wy ((a:Int),(b:Int))
  have nE:p.own p.next=none:=(Le.refl p).next wy (qL0 _)
  have bg:=lK o6
  have U:∀{v:Value},GP p v D->blk v≠some p.next:=fun g e=>GS.Sy g e nE
  have U:=U gl;have V:=ly.trans l6;have W:=gl.le l6
  have cd:m.own p.next=none:=ly.next wy (qL0 _)
  generalize p.next=E at*
  have lu:=fun g=>hu.len (P:=Tryz.prog) qS26 g;have bh:=Tw i NH;simp only[HO,Nat.reduceLT,↓reduceIte,Nat.reduceEqDiff,reduceCtorEq,ad,ld,q5,q6,Dh,Ip,BS,bg,lu];apply Ya (F:=fun(fr:lC) (w:AHeap)=>∃(n z:Nat) (D:List Pr) (j:Value),Fj fr [(1,H),(2,pv),(9,.int .i64 (n:Nat)),(10,j),(12,.pointer (some ⟨E,0,none⟩)),(13,.int .i64 (z:Nat)),(21,ev),(22,.int .i64 (f.length:Nat)),(23,.int .i64 (i:Nat))]/\Le m w/\WF w/\Z2 m j/\GP w j D/\w.own E=some (.cells (xM ((a:Int),(b:Int))))/\Mad K n (D++((z:Int),(b:Int))::f.drop (i+1))/\n<=A+5*(i+1)/\D.length+1<=6*(i+1))
  .intro cont
   refine Kl.intro (fun J=>?_) (fun hf=>?_)
   .have av : i < us.length := CC J
    clear J;have bk:=hu.addr (P:=Tryz.prog) qS26 qS20 Ji (k:=.i64) i av;obtain⟨x,bm,hx⟩:=(hu.le Nn.isB ((lq.trans V))).load qS20 rfl i av;obtain⟨rfl,x0,x1⟩:=hx;generalize us[i]=x at*;obtain⟨y,rfl⟩:=yY x0;have nz:¬((6:Int)=0):=by decide
    have tm:((y:Int)).tmod 6=((y%6:Nat):Int):=by rw[Int.tmod_eq_emod_of_nonneg NH];omega
    obtain⟨c,hc⟩:∃c,c=y%6:=⟨_,rfl⟩;have s:c<6:=NH;rw[<-hc]at tm;refine Sk (xU bk bm nz tm) ?_;refine lIn (fun k fr w=>∃(t n z:Nat) (D:List Pr) (j:Value),k=c-t/\t<=c/\fr=mkF [(1,H),(2,pv),(9,.int .i64 (n:Nat)),(10,j),(12,.pointer (some ⟨E,0,none⟩)),(13,.int .i64 (z:Nat)),(21,ev),(22,.int .i64 (f.length:Nat)),(23,.int .i64 (i:Nat)),(38,.int .u8 (c:Nat)),(39,.int .u8 (t:Nat))]/\Le m w/\Z2 m j/\blk j≠some E/\GP w j D/\w.own E=some (.cells (xM ((a:Int),(b:Int))))/\
      Mad K n (D++((z:Int),(b:Int))::f.drop (i+1))/\n<=A+5*i+t/\D.length<=6*i+t) ⟨0,n,a,D,j,rfl,aal _,rfl,V,al,U,W,o6,T,NH,NH⟩ ?_
    rintro k fr w wz ⟨t,n,z,D,j,rfl,B,rfl,lz,C,bo,G,oz,T,R,S⟩;refine Uy ?_;refine Kl.intro (fun J=>?_) (fun hf=>?_)
    .have X : t < c := CC J
     clear J;have br:(f.drop (i+1)).length<=10:=by rw[adJ];omega
     obtain⟨v',z4,z5,e4,e5,Y,bx,-,fz,kz⟩:=G.push wz ((z:Int),(n:Int)) (mw_c S hi hS B s);obtain⟨Z,a5⟩:=fz m lz C;obtain⟨bB,bF⟩:=kz _ _ oz bo;have T':=T.upon (mw_d R hi hS hN B s) (by rw[vZ,vg];exact mw_e S hi hS B s br);have wn:=Tw n (mw_f R hi hS hN B s);have wt:=w8_suc6 (Q4 X (Nat.le_of_lt s));simp only[HO,Nat.reduceLT,↓reduceIte,Nat.reduceEqDiff,reduceCtorEq,xe,e4,e5,wn,wt];exact lgA (JS X) ⟨t+1,n+1,n,_,v',rfl,X,rfl,Z,a5,bF,Y,bB,T',mw_h R,mw_i S⟩
    .simp only [qj, Nat.reduceLT, ↓reduceIte, Nat.reduceEqDiff, reduceCtorEq, Nat.reduceBEq, Qg]
     refine KN.UJ fun fr' h' x y=>cont fr' h' ?_;rw[x,y];exact⟨n,z,D,j,fD,lz,wz,C,G,oz,T,NH,NH⟩
   .simp only [qj, Nat.reduceLT, ↓reduceIte, Nat.reduceEqDiff, reduceCtorEq, Nat.reduceBEq, Qg]
    refine KN.UJ fun fr' h' x y=>cont fr' h' ?_;rw[x,y];exact⟨n,a,D,j,fD,V,w6,al,W,o6,T,NH,NH⟩
  clear W o6 T gl al R S;rintro fr w ⟨n,z,D,j,o,lz,wz,C,G,oz,T,R,S⟩;simp only[Fj]at o;obtain⟨O,Q,I,bH,bI,bN,ay,az,bQ,-⟩:=o;have L1:=HY oz;obtain⟨v',z4,z5,e4,e5,Y,bx,-,fz,kz⟩:=G.push wz ((z:Int),(b:Int)) (mw_g S hi hS);obtain⟨Z,a5⟩:=fz m lz C;refine Sk (aNd13 I bH bI bN bQ @Z0 @Ip.eq_1 @BS L1 @xe e4 e5 bh) ?_;exact tn (f.length-(i+1)) [(1,H),(2,pv),(9,.int .i64 (n:Nat)),(10,v'),(21,ev),(22,.int .i64 (f.length:Nat)),(23,.int .i64 (i+1:Nat))] (JS r) (by simp only[Fj,HO,Nat.reduceLT,↓reduceIte,Nat.reduceEqDiff,reduceCtorEq,O,Q,I,ay,az];simp[O,Q,I,ay,az])
   ⟨i+1,n,_,v',rfl,r,rfl,Z,a5,Y,by rw[rY];exact T,R,by rw[vZ];simp only[vg,vu];omega⟩
 have aC:f.length<=i:=vp hf;obtain rfl:i=f.length:=Nat.le_antisymm hi aC;rw[List.drop_length,gK]at T;clear aC hf hi lS;have aD:=lq.trans ly;have bW:=hp.le Nn.RP aD;have aH:=fun g=>hp.Uc g;have L:∀g:AHeap,Le h g->Le h g/\∃(j:Value) (b:Bool) (l:List Pr),Value.tuple #[.slice none 0 0,.bool false]=.tuple #[j,.bool b]/\GP g j l/\(b=true->ps.length<=200/\TwF K ps.length l):=
  fun g lg=>⟨lg,_,false,[],rfl,GP.nil _,fun q=>by cases q⟩
 refine Uy ?_;refine TC.intro PJ ⟨Tryz.func89,rfl,WY⟩ (kT W0 pv ps p bW) ?_;rintro x h8 w8 ⟨⟨bb,rfl,aJ⟩,l8⟩;have ae:=aD.trans l8;cases bb with
 |false=>
  refine Uy ?_;exact L _ ae
 |true=>
 have u:=aJ.1 rfl;clear aJ;by_cases cn:ps.length<n
 .have d : decide ((ps.length : Int) < (n : Int)) = true := decide_eq_true NH
  refine Sk (XC aH d) ?_;exact L _ ae
 have d:decide ((ps.length:Int)<(n:Int))=false:=decide_eq_false NH;have M:ps.length<=200:=u.len;have ok:=T.ok.upto (N:=ps.length) NH M;refine Sk (XC aH d) ?_;refine TC.intro PJ ⟨Tryz.func29,rfl,WY⟩ (gZ W0 (ps.length:Int) j D h8 (gl.le l8).pr (by have:=T.ok.len;omega)) ?_;rintro x h9 w9 ⟨l9,⟨ag,-⟩|⟨-,aK,rfl,aP,-⟩⟩
 .exact absurd ok ag
 obtain⟨b8,aj,bZ,b0,aT,cf,lG⟩:=As w9 (n:=(ps.length:Int)) aP.pr;have aW:=(ae.trans l9).trans aT;have gr:GR aj (.agg #[.int .i64 (ps.length:Int),aK]) ⟨(ps.length:Int),sg D⟩:=⟨aK,rfl,aP.pr.le aT⟩;refine Sk (Yb bZ b0 ((lG aj (Le.refl _)).1)) ?_
 generalize h9.next=G1 at*
 refine TC.intro PJ ⟨Tryz.func49,rfl,WY⟩ (D5 W0 _ pv ⟨(ps.length:Int),sg D⟩ ps aj gr (hp.le Nn.RP aW)) ?_;have AO:ZE ⟨(ps.length:Int),sg D⟩ ps:=⟨ok.right,u,rfl⟩;rintro x cg b1 ⟨b2,⟨ag,-⟩|⟨-,b3,rfl,aq,-⟩⟩
 .exact absurd AO ag
 have TF:=T.twF (N:=ps.length) AO;simp only at aq;generalize uc ps (sg D)=l at*;obtain⟨b9,b4,b5,s12,aX,ck,lH⟩:=As b1 (n:=(ps.length:Int)) aq.pr;have b6:awrap .i64 (0+0)=0:=by decide
 have d0:decide ((0:Int)=0)=true:=by decide
 refine Sk (acL b5 s12 @Di @Ip.eq_1 @BS ((lH b4 (Le.refl _)).2.2) b6 d0) ?_;exact⟨(aW.trans b2).trans aX,b3,true,l,rfl,aq.le aX,fun _=>⟨M,TF⟩⟩
theorem afo (W0:LA) (uv pv:Value) (six:Bool) (us ps:List Int) (at_:Int) (h:AHeap) (hu:RL isB h uv us) (hp:RL RP h pv ps):
  AC Tryz.prog W0 15 [.bool six,uv,pv,.int .i64 at_] h fun x h'=>x=.bool true∧True:=by
 refine AC.vE ⟨Tryz.func15,rfl,WY⟩ Tryz.ntmps15 Tryz.results15 fun hwf=>?_;simp only[Br,Nat.reduceAdd];simp only[HO,Nat.reduceLT,↓reduceIte,Nat.reduceEqDiff,reduceCtorEq];refine TC.intro PJ ⟨Tryz.func50,rfl,WY⟩ (Made_any W0 uv pv six us ps h hu hp) ?_;rintro x h1 w1 ⟨l1,lv,bb,l,rfl,gl,TF⟩;have lps:=fun g=>hp.Uc g;by_cases cb:bb=true∧ps.length≤60
 rotate_left
 ·cases bb with
  |false=>
   simp only[HO,Nat.reduceLT,↓reduceIte,Nat.reduceEqDiff,reduceCtorEq];refine TC.intro PJ ⟨afW,rfl,WY⟩ (abd W0 h1) ?_;rintro x h2 w2 ⟨rfl,l2⟩;simp only[HO,Nat.reduceLT,↓reduceIte,Nat.reduceEqDiff,reduceCtorEq];exact⟨trivial,trivial⟩
  |true=>
   have d:decide ((ps.length:Int)>60)=true:=decide_eq_true (by have:=cb;simp only[true_and]at this;omega);simp only[HO,Nat.reduceLT,↓reduceIte,Nat.reduceEqDiff,reduceCtorEq,lps,d];refine TC.intro PJ ⟨afW,rfl,WY⟩ (abd W0 h1) ?_;rintro x h2 w2 ⟨rfl,l2⟩;simp only[HO,Nat.reduceLT,↓reduceIte,Nat.reduceEqDiff,reduceCtorEq];exact⟨trivial,trivial⟩
 obtain⟨rfl,h60⟩:=cb;obtain⟨-,T⟩:=TF rfl;have d60:decide ((ps.length:Int)>60)=false:=decide_eq_false NH
 obtain⟨K,hK⟩:∃K:Int,K=if six then 33 else 5:=⟨_,rfl⟩
 have hK0:K≠0:=by rw[hK];cases six<;>decide
 rw[←hK]at T;clear TF;have hr:=T.r;have hl594:l.length≤594:=hr.len;have hl0:0<l.length:=by have:=(abI T.r (by rw[T.kind];exact hK0)).2.2;omega
 simp only[HO,Nat.reduceLT,↓reduceIte,Nat.reduceEqDiff,reduceCtorEq,lps,d60];apply Ya (F:=fun(fr:lC) (hq:AHeap)=>Fj fr [(2,pv),(3,.int .i64 at_),(9,lv),(11,.int .i64 K)]∧hq=h1)
 ·intro cont
  cases six with
  |false=>
   simp only[qj,Nat.reduceLT,↓reduceIte,Nat.reduceEqDiff,reduceCtorEq,Nat.reduceBEq,Qg];refine KN.UJ fun fr' h' x y=>cont fr' h' ?_;rw[x,y];exact⟨by rw[hK];exact fD,rfl⟩
  |true=>
   simp only[qj,Nat.reduceLT,↓reduceIte,Nat.reduceEqDiff,reduceCtorEq,Nat.reduceBEq,Qg];refine KN.UJ fun fr' h' x y=>cont fr' h' ?_;rw[x,y];exact⟨by rw[hK];exact fD,rfl⟩
 rintro fr hq ⟨hfr,rfl⟩;simp only[Fj]at hfr;obtain⟨f2,f3,f9,f11,-⟩:=hfr;have lL:=fun g=>gl.pr.len g;have bld:=Wj (n:=(ps.length:Int)) gl.pr.sl;obtain⟨h2',h2,e2,s2,l2,w2,lG⟩:=As w1 (n:=(ps.length:Int)) gl.pr;have gr2:GR h2 (.agg #[.int .i64 (ps.length:Int),lv]) ⟨(ps.length:Int),l⟩:=⟨lv,rfl,gl.pr.le l2⟩;simp only[HO,Nat.reduceLT,↓reduceIte,Nat.reduceEqDiff,reduceCtorEq,f2,f3,f9,f11,lps,bld,e2,s2,(lG h2 (Le.refl _)).1]
 generalize hq.next=G1 at*
 refine TC.intro PJ ⟨qL,rfl,WY⟩ (abn W0 _ ⟨(ps.length:Int),l⟩ h2 gr2) ?_;rintro x h3 w3 ⟨l3,⟨hn,-⟩|⟨-,fv,rfl,pf,-⟩⟩
 ·exact absurd hr hn
 rw[T.fnd hK0]at pf;have l13:=l2.trans l3;have d0:decide ((0:Int)=0)=true:=by decide
 have dK:decide (K=K)=true:=decide_eq_true rfl;simp only[HO,Nat.reduceLT,↓reduceIte,Nat.reduceEqDiff,reduceCtorEq,f2,f3,f9,f11,bne,d0];refine TC.intro PJ ⟨KT,rfl,WY⟩ (aaS W0 lv l h3 (gl.le l13).pr) ?_;rintro x h4 w4 ⟨rfl,l4⟩;rw[T.kind];have l14:=l13.trans l4;have sp:∀l:List Pr,decide (l=l)=true:=fun l=>decide_eq_true rfl;simp only[HO,Nat.reduceLT,↓reduceIte,Nat.reduceEqDiff,reduceCtorEq,f2,f3,f9,f11,bne,d0,dK];refine TC.intro PJ ⟨afT,rfl,WY⟩ (aaU W0 fv lv l l h4 (pf.le l4) (gl.le l14).pr NH) ?_;rintro x h5 w5 ⟨rfl,rfl⟩;simp only[HO,Nat.reduceLT,↓reduceIte,Nat.reduceEqDiff,reduceCtorEq,f2,f3,f9,f11,sp,lL];refine TC.intro PJ ⟨Tryz.func28,rfl,WY⟩ (adX W0 at_ l.length hl0 NH h5) ?_;rintro x h6 w6 ⟨⟨k,hk,rfl⟩,rfl⟩;have g6:=gl.le l14;have ct:=g6.ct;obtain⟨v1,s1,p1⟩:=g6.pr.lo ct (i:=k) NH;obtain⟨v3,s3,p3⟩:=g6.pr.up ct (i:=k+1) hk;have awk:=Tw k NH;simp only[HO,Nat.reduceLT,↓reduceIte,Nat.reduceEqDiff,reduceCtorEq,f2,f3,f9,f11];refine gh (tA [0,1,2,4,5,6,7] (JQ 3 [2] (JQ 8 [3,7] (JQ 9 [8] (tA [10] .done))))) ?_;simp only[HO,Nat.reduceLT,↓reduceIte,Nat.reduceEqDiff,reduceCtorEq,Nat.reduceBEq,Qg,f2,f3,f9,f11,awk,s1,s3];refine VA.intro PJ ⟨Tryz.func18,rfl,WY⟩ (abi W0 v1 _ h6 p1 (by rw[Cg];omega)) ?_;rintro cv h7 w7 ⟨gc,l7,ac⟩;obtain⟨jv,h8,e8,g8,w8,k8,-⟩:=gc.join w7 (p3.le l7) (by rw[Cg,adJ];omega);obtain⟨l68,-⟩:=k8 h6 l7 ac;rw[←dU]at g8;simp only[HO,Nat.reduceLT,↓reduceIte,Nat.reduceEqDiff,reduceCtorEq,Nat.reduceBEq,Qg,f2,f3,f9,f11,awk,s1,s3,e8];refine VA.intro PJ ⟨KT,rfl,WY⟩ (aaS W0 jv _ h8 g8.pr) ?_;rintro x h9 w9 ⟨rfl,l9⟩;rw[afm (T.less k hk)];have l69:=l68.trans l9;have g9:=g6.le l69;simp only[HO,Nat.reduceLT,↓reduceIte,Nat.reduceEqDiff,reduceCtorEq,Nat.reduceBEq,Qg,f2,f3,f9,f11,awk,s1,s3,e8,bne,d0];refine TC.intro PJ ⟨Tryz.func18,rfl,WY⟩ (abi W0 lv l h9 g9.pr NH) ?_;rintro c2 h10 w10 ⟨gc2,l10,ac2⟩;obtain⟨h11,e11,l11,w11,o11⟩:=Tt w10 (Iu [(197,198),(197,199),(198,199)]);have m11:=mkP3 h10 (197,198) (197,199) (198,199);rw[e11]at m11
 have p11:PR h11 (.slice (some ⟨h10.next,0,none⟩) 3 3) [(197,198),(197,199),(198,199)]:=PR.made o11 rfl
 obtain⟨mv,h12,e12,g12,w12,k12,-⟩:=(gc2.le l11).join w11 p11 (by simp;omega);obtain⟨l912,-⟩:=k12 h9 (l10.trans l11) ac2;simp only[HO,Nat.reduceLT,↓reduceIte,Nat.reduceEqDiff,reduceCtorEq,f2,f3,f9,f11,xe,m11,e12]
 generalize h10.next=R3 at*
 refine TC.intro PJ ⟨KT,rfl,WY⟩ (aaS W0 mv _ h12 g12.pr) ?_;rintro x h13 w13 ⟨rfl,l13'⟩;rw[T.ring hK0 h60];have l913:=l912.trans l13';have g13:=g9.le l913;have nz7:¬((7:Int)=0):=by decide
 have adk:=g13.pr.addr (k:=.i64) k hk;have ld0:=g13.pr.l0 (CA hk);simp only[HO,Nat.reduceLT,↓reduceIte,Nat.reduceEqDiff,reduceCtorEq,f2,f3,f9,f11,bne,d0];refine gh (tA [0,1,2,3,4,5,6,7,8,9] (JQ 10 [7,9] (tA [11,12,13,14,15] .done))) ?_;simp only[HO,Nat.reduceLT,↓reduceIte,Nat.reduceEqDiff,reduceCtorEq,Nat.reduceBEq,Qg,f2,f3,f9,f11,adk,Dh,Z0,ld0,nz7,lL];refine VA.intro PJ ⟨Tryz.func28,rfl,WY⟩ (adX W0 _ l.length hl0 NH h13) ?_;rintro x h14 w14 ⟨⟨j,hj,rfl⟩,rfl⟩;have adj':=g13.pr.addr (k:=.i64) j hj;have ld1:=g13.pr.l1 (CA hj);simp only[HO,Nat.reduceLT,↓reduceIte,Nat.reduceEqDiff,reduceCtorEq,Nat.reduceBEq,Qg,f2,f3,f9,f11,adk,Dh,Z0,ld0,nz7,lL,adj',ld1];obtain⟨a,c,ha,hc,hac⟩:∃a c:Nat,l[k].1=(a:Int)∧l[k].2=(c:Int)∧Jp l a c:=by
  obtain⟨q1,q2,q3⟩:=hr.GD _ (Og hk);refine⟨l[k].1.toNat,l[k].2.toNat,NH,NH,.inl ?_⟩;have e:(((l[k].1.toNat:Nat):Int),((l[k].2.toNat:Nat):Int))=l[k]:=IC (by simp only;omega) (by simp only;omega);rw[e];exact Og hk
 obtain⟨d,b,hd,hb,hbd⟩:∃d b:Nat,l[j].1=(d:Int)∧l[j].2=(b:Int)∧Jp l b d:=by
  obtain⟨q1,q2,q3⟩:=hr.GD _ (Og hj);refine⟨l[j].1.toNat,l[j].2.toNat,NH,NH,.inr ?_⟩;have e:(((l[j].1.toNat:Nat):Int),((l[j].2.toNat:Nat):Int))=l[j]:=IC (by simp only;omega) (by simp only;omega);rw[e];exact Og hj
 rw[ha,hb];simp only[HO,Nat.reduceLT,↓reduceIte,Nat.reduceEqDiff,reduceCtorEq,f2,f3,f9,f11,lps];refine TC.intro PJ ⟨Tryz.func18,rfl,WY⟩ (abi W0 lv l h14 g13.pr NH) ?_;rintro c3 h15 w15 ⟨gc3,l15,ac3⟩;obtain⟨nv,h16,h17,e16,e17,g17,w17,-,k17,-⟩:=gc3.push w15 ((a:Int),(b:Int)) NH;obtain⟨l17,-⟩:=k17 h14 l15 ac3;simp only[HO,Nat.reduceLT,↓reduceIte,Nat.reduceEqDiff,reduceCtorEq,f2,f3,f9,f11,xe,e16,e17];refine TC.intro PJ ⟨Tryz.func29,rfl,WY⟩ (New_n W0 (ps.length:Int) nv _ h17 g17.pr (by rw[vZ];simp;omega)) ?_;rintro x h18 w18 ⟨l18,m,kk,ev,L,rfl,gL,-,hk0⟩;obtain⟨h19',h19,e19,s19,l19,w19,lH⟩:=As w18 (n:=m) gL.pr
 generalize h18.next=G2 at*
 by_cases ck:kk=0
 rotate_left
 ·have dk : decide (kk = 0) = false := decide_eq_false ck
  simp only[HO,Nat.reduceLT,↓reduceIte,Nat.reduceEqDiff,reduceCtorEq,f2,f3,f9,f11,e19,s19,dk];refine TC.intro PJ ⟨afW,rfl,WY⟩ (abd W0 h19) ?_;rintro x h20 w20 ⟨rfl,l20⟩;simp only[HO,Nat.reduceLT,↓reduceIte,Nat.reduceEqDiff,reduceCtorEq]
 have dk:decide (kk=0)=true:=decide_eq_true ck;obtain⟨rfl,ok,rfl⟩:=hk0 ck;simp only[HO,Nat.reduceLT,↓reduceIte,Nat.reduceEqDiff,reduceCtorEq,f2,f3,f9,f11,e19,s19,dk,Di,Ip,BS,(lH h19 (Le.refl _)).2.2];refine TC.intro PJ ⟨KT,rfl,WY⟩ (aaS W0 ev _ h19 (gL.le l19).pr) ?_;rintro x h20 w20 ⟨rfl,l20⟩;rw[T.more hK0 hac hbd ok.right ok];simp only[HO,Nat.reduceLT,↓reduceIte,Nat.reduceEqDiff,reduceCtorEq,bne,d0];refine TC.intro PJ ⟨afW,rfl,WY⟩ (abd W0 h20) ?_;rintro x h21 w21 ⟨rfl,l21⟩;simp only[HO,Nat.reduceLT,↓reduceIte,Nat.reduceEqDiff,reduceCtorEq]
end
section
open Go.Proofs Go.ChangeShapes Go.WideShapes Go.RowKit Go.ChangeAt
open Go.Proofs.YtkccdnmaaelbiaaGreat
def aey (b:LA) (a pv:Value) (six:Bool) (us ps:RZ) (at_:Int) (h:AHeap) (c:RL isB h a us) (d:RL RP h pv ps) (_:(Lit.int .i64 at_).wf=true):
  AC Tryz.prog b 15 [.bool six,a,pv,.int .i64 at_] h fun x h'=>x=.bool true/\True:=afo b a pv six us ps at_ h c d
def acq (os:Os) (started:os.Started) (H:Type) (enc:TypeId×Value->H):
  ReturnsInHanded {} Tryz.checked os 15 .any (Rows.kuraMadeSpec.pre6 enc Tryz.prog Tryz.f15 Rows.kuraMadeRow.domain false) (Rows.kuraMadeSpec.post enc Tryz.prog Tryz.f15 false true false false):=by
 have own:ownKnob Tryz.prog.godebug=Option.none:=Ji;have laidOut:laidOutB Tryz.prog=true:=Ji;refine returnsInHanded_of_change (C:=Tryz.checked) own started Ji Tryz.func15
  (ChangeSpec.witness6 (enc:=enc) (C:=Tryz.checked) false ⟨#[],#[.bool false,.slice Option.none 0 0,.slice Option.none 0 0,.int .i64 0],[]⟩ 8 Ji Ji Ji Ji) ?_
 intro W base args ds gs before c w z _;have a:∀(j:Nat) t v,Tryz.f15.params[j]?=some t->args[j]?=some v->Value.okWide Tryz.prog W .any base t v:=c;have d:=w;obtain⟨p,q,i,G,rfl,I,J⟩:=w;have hA:DataW.TrodAll enc Tryz.prog W 0 (fun _=>true) true Tryz.f15.params.toList args.toList ds p:=i;rw[Tryz.params15]at hA a;obtain⟨A,Q,S,T,U,V,b,rfl,rfl,B,hA⟩:=trodAll_cons hA;obtain⟨k,w1,d1,X,K,Y,rfl,rfl,rfl,D,hA⟩:=trodAll_cons hA;obtain⟨l,w2,d2,Z,L,q2,rfl,rfl,rfl,h2,hA⟩:=trodAll_cons hA;obtain⟨E,w3,d3,e3,p3,q3,rfl,rfl,rfl,h3,hA⟩:=trodAll_cons hA;obtain⟨rfl,rfl,rfl⟩:=trodAll_nil hA;obtain rfl:args=#[A,k,l,E]:=by cases args;simp_all
 obtain⟨rfl,rfl⟩:=trodVars_none G;obtain⟨x0,rfl,rfl,rfl⟩:=open_bool AV (a 0 4 A rfl rfl) B;obtain⟨u1,x1,m,n⟩:=ags (a 1 42 k rfl rfl) D (fun _=>⟨0,0,0⟩);obtain⟨M,N,o,r⟩:=ZV (a 2 49 l rfl rfl) h2 (fun _=>⟨0,0,0⟩);obtain⟨F,rfl,rfl,rfl,s⟩:=open_int Mb (a 3 3 E rfl rfl) h3;refine(aey (LA.of W) u1 M x0 x1 N F (MR W) n r s [] (fun _=>⟨0,0,0⟩) W [.bool x0,k,l,.int .i64 F] (Rel.start W _) ?_).mono ?_
 .exact .cons (.flat rfl) (.cons m (.cons o (.cons (.flat rfl) ((.nil _ _)))))
 .rintro e O ⟨x, x', m', h', rfl, R, -, -, P, rfl, -⟩
  obtain rfl:=P.YE;have hb:=R.below;have g:∀y∈K,y.block<W.heap.size:=fun y u=>d.lt y (by simp[u]);have h:∀y∈L,y.block<W.heap.size:=fun y u=>d.lt y (by simp[u]);have f:DataW.Trod enc Tryz.prog O W.heap.size (fun _=>false) false 4 (.bool true) (.lit (.bool true)) []:=⟨1,by simp[DataW.trod,Value.cells,AV]⟩;have b:=
   aeS (Below.trod laidOut Ji (of_decide_eq_true Ji) B hb Ma) (aeS (Below.trod laidOut Ji (of_decide_eq_true Ji) D hb g) (aeS (Below.trod laidOut Ji (of_decide_eq_true Ji) h2 hb h) (aeS (Below.trod laidOut Ji (of_decide_eq_true Ji) h3 hb Ma) (trodAll_mk0))))
  try simp only[gK,KV]at b
  exact⟨_,rfl,_,_,_,[],_,[],d,trodAll_mk1 f,b,rfl,hb.frame _,fun e=>by cases e⟩
def kuraMade_said:Rows.KuraMadeSaid:=
 OpenClaim.holds_of_wide 15 Tryz.f15 rfl rfl rfl rfl rfl rfl rfl ⟨rfl,rfl,rfl,rfl,rfl⟩ rfl rfl rfl rfl rfl Ji Tryz.func15 Ji
  (of_decide_eq_true Ji) (by unfold Func.isWrapper;first|(rw[if_pos iw];kernel_rfl)|(rw[if_neg iw];exact⟨rfl,rfl⟩))
  (fun os started H enc _=>acq os started H enc)
end
end Go.Fw
