/- A text. -/
import Derived.Test.YtkccdnmaaelbiaaGreatFwKA6
set_option linter.all false
set_option maxRecDepth 99999
set_option maxHeartbeats 9999999
namespace Go.Fw
open Go.Proofs
attribute [local irreducible] Jz JL vq cQ
attribute [local instance] Classical.propDecidable
section
variable {n : Nat} {b : List Pr} (hR : aV n b)
def ab8 (n:Nat) (b:List Pr):II:=aah n b++(List.range n).filter fun(v:Nat)=>!b.any fun p=>aO p (v:Int)
def toV (n:Nat) (b:List Pr) (u:Nat):Nat:=(ab8 n b).idxOf u
def ofV (n:Nat) (b:List Pr) (i:Nat):Nat:=(ab8 n b).getD i 0
theorem ab9:(ab8 n b).Perm (List.range n):=by exact agb _ _
def acF:(ab8 n b).length=n:=by rw[(ab9 (n:=n) (b:=b)).length_eq,mg]
theorem ordL_nd:(ab8 n b).Nodup:=by grind [ab9]
def acG {u:Nat}:u∈ab8 n b↔u<n:=by rw[(ab9 (n:=n) (b:=b)).mem_iff,uV]
theorem toV_lt {u:Nat} (h:u<n):toV n b u<n:=by
 have:=WS (acG (b:=b)|>.2 h);rwa[acF]at this
def aes {i:Nat} (h:i<n):ofV n b i<n:=by
 have a:i<(ab8 n b).length:=by rw[acF];exact h
 have:ofV n b i=(ab8 n b)[i]:=D4 a;rw[this];exact acG.1 (Og a)
theorem abf {u:Nat} (h:u<n):ofV n b (toV n b u)=u:=by
 have c:=acG (b:=b)|>.2 h;have a:=WS c;unfold ofV toV;rw[D4 a];exact afu a
theorem toV_ofV {i:Nat} (h:i<n):toV n b (ofV n b i)=i:=by
 have a:i<(ab8 n b).length:=by rw[acF];exact h
 have e:ofV n b i=(ab8 n b)[i]:=D4 a;rw[e];exact qL207 ordL_nd i a
def ren_V (n:Nat) (b:List Pr):Ren n (toV n b) (ofV n b):=⟨fun _ h=>toV_lt h,fun _ h=>aes h,fun _ h=>toV_ofV h,fun _ h=>abf h⟩
theorem toV_idx {u:Nat} (h:u∈aah n b):toV n b u=abw n b (u:Int)/\toV n b u<(aah n b).length:=by
 have a:=WS h;have e:toV n b u=(aah n b).idxOf u:=by unfold toV ab8;rw[List.idxOf_append,if_pos h]
 refine⟨?_,by rw[e];exact a⟩;rw[e];refine idx_eq (n:=n) (b:=b) ?_;rw[aaa,PN,CA a];simp[afu a]
include hR
theorem aaF {u:Nat}:u∈aah n b↔∃w,Jp b u w:=by
 rw[adZ];constructor
 .rintro ⟨f, p, e, h⟩
  obtain⟨a,c,ha,g,d,rfl⟩:=abL hR e;have h':u=a\/u=c:=by simp only[aO,bj,uu,decide_eq_true_eq]at h;omega
  rcases h' with rfl|rfl
  .exact⟨c,d⟩
  .exact⟨a,d.symm⟩
 .rintro ⟨w, h⟩
  refine⟨(h.lt hR).1,GW u w,H4 hR h,?_⟩;simp only[aO,bj,uu,decide_eq_true_eq];omega
theorem ady {x y:Int}:(x,y)∈aao n b↔∃u w:Nat,((u:Int),(w:Int))∈b/\x=(toV n b u:Int)/\y=(toV n b w:Int):=by
 unfold aao;rw[HV];constructor
 .rintro ⟨p, a, e⟩
  obtain⟨c,h2,h3⟩:=hR p a;obtain⟨f,d⟩:=p;obtain⟨u,rfl⟩:=yY c;obtain⟨w,rfl⟩:=yY (show 0<=d by omega);injection e with g h;have m1:=(toV_idx ((aaF hR).2 ⟨w,.inl a⟩)).1;have m2:=(toV_idx ((aaF hR).2 ⟨u,.inr a⟩)).1;exact pw
 .rintro ⟨u, w, a, rfl, rfl⟩
  have m1:=(toV_idx ((aaF hR).2 ⟨w,.inl a⟩)).1;have m2:=(toV_idx ((aaF hR).2 ⟨u,.inr a⟩)).1;exact pw
theorem abM {v w:Nat}:Jp (aao n b) v w↔v<n/\w<n/\Jp b (ofV n b v) (ofV n b w):=by
 have one:∀v w:Nat,((v:Int),(w:Int))∈aao n b->v<n/\w<n/\((ofV n b v:Int),(ofV n b w:Int))∈b:=fun v w h=>by
  obtain⟨u,x,c,a,h2⟩:=(ady hR).1 h;have l1:=(show Jp b u x from .inl c).lt hR;obtain rfl:v=toV n b u:=NH;obtain rfl:w=toV n b x:=NH;rw[abf l1.1,abf l1.2];exact⟨toV_lt l1.1,toV_lt l1.2,c⟩
 constructor
 .rintro (h | h)
  .obtain⟨a,h2,h3⟩:=one _ _ h;exact⟨a,h2,.inl h3⟩
  .obtain⟨a,h2,h3⟩:=one _ _ h;exact⟨h2,a,.inr h3⟩
 .rintro ⟨a, h2, h3 | h3⟩
  .exact .inl (by grind [ady,toV_ofV])
  .exact .inr (by grind [ady,toV_ofV])
theorem adj_to {u w:Nat} (h:Jp b u w):Jp (aao n b) (toV n b u) (toV n b w):=by
 have l:=h.lt hR;exact(by grind [abM,toV_lt,abf])
theorem vert_lt {u w:Nat} (h:Jp b u w):toV n b u<(aah n b).length:=by grind [toV_idx,aaF]
omit hR in
theorem adz {x y:Nat} (e:x∈aah n b) (d:x<y):abw n b (x:Int)<abw n b (y:Int):=by
 have f:∀l:II,x∈l->l.countP (fun(v:Nat)=>decide ((v:Int)<(x:Int)))<l.countP fun(v:Nat)=>decide ((v:Int)<(y:Int)):=by
  intro l
  induction l with
  |nil=>intro h;cases h
  |cons a l g=>
   intro h;have mono:l.countP (fun(v:Nat)=>decide ((v:Int)<(x:Int)))<=l.countP fun(v:Nat)=>decide ((v:Int)<(y:Int)):=
    List.countP_mono_left pw
   rw[aeB,aeB];rcases WA.1 h with rfl|q
   .rw[if_neg Ma,if_pos (by simpa using d)];omega
   .have := g q
    by_cases c:(a:Int)<(x:Int)
    .rw[if_pos (by simpa using c),if_pos (by simp only[decide_eq_true_eq];omega)];omega
    .rw[if_neg (by simpa using c)];split<;>omega
 exact f _ e
omit hR in
theorem acZ (d:bX ⟨(n:Int),b⟩):bX ⟨((aah n b).length:Int),aao n b⟩:=by
 have hR:=d.GD;have e:(aah n b).length<=n:=jz (zx _ _) Ma;have f:∀p∈b,∃u w:Nat,p=((u:Int),(w:Int))/\u<w/\u∈aah n b/\w∈aah n b:=fun p a=>by
  obtain⟨k,h2,h3⟩:=hR p a;obtain⟨m,l⟩:=p;obtain⟨u,rfl⟩:=yY k;obtain⟨w,rfl⟩:=yY (show 0<=l by omega);exact⟨u,w,rfl,NH,(aaF hR).2 ⟨w,.inl a⟩,(aaF hR).2 ⟨u,.inr a⟩⟩
 refine bX.of (jz e (by have:(n:Int)<=200:=d.n1;omega)) (by rw[aao,eR];exact d.len) (fun q g=>?_) ?_
 .obtain ⟨p, a, rfl⟩ := HV.1 g
  obtain⟨u,w,rfl,i,j,hw⟩:=f p a;have k:=adz j i;have h2:=toV_idx hw;rw[h2.1]at h2;exact pw
 .have ha : D3 b := d.q9
  rw[Nl]at ha ⊢;unfold aao;rw[Hs];refine ha.imp_of_mem fun{p q} a g c=>?_;obtain⟨u,w,rfl,-,j,hw⟩:=f p a;obtain⟨x,y,rfl,-,o,r⟩:=f q g;simp only at c ⊢;rcases c with h|⟨h,h'⟩
  .left;have:=adz j (show u<x by omega);omega
  .right
   have:=adz hw (show w<y by omega);obtain rfl:u=x:=NH;exact pw
theorem aet:XU (aah n b).length (eN (aah n b).length (aao n b))↔XU n (eN n b):=by
 have g:(aah n b).length<=n:=jz (zx _ _) Ma;have d:∀v w,Jp (aao n b) v w->v<(aah n b).length:=fun v w h=>by
  obtain⟨c,h2,h3⟩:=(abM hR).1 h;have:=vert_lt hR h3;rwa[toV_ofV c]at this
 have GD:∀{m},(∀v w,Jp (aao n b) v w->v<m)->aV m (aao n b):=fun{m} h p i=>by
  obtain⟨q,e,rfl⟩:=HV.1 i;obtain⟨c,h2,h3⟩:=hR q e;obtain⟨o,j⟩:=q;obtain⟨u,rfl⟩:=yY c;obtain⟨w,rfl⟩:=yY (show 0<=j by omega);have k:=(aaF hR).2 ⟨w,.inl e⟩;have:=adz k (show u<w by omega);have ha:Jp (aao n b) (abw n b (w:Int)) (abw n b (u:Int)):=.inr pw;have:=h _ _ ha;exact pw
 have r:=GD d;have f:aV n (aao n b):=by grind [Nat.lt_of_lt_of_le]
 have l:XU (aah n b).length (eN (aah n b).length (aao n b))↔XU n (eN n (aao n b)):=by
  have c:XU (aah n b).length (eN (aah n b).length (aao n b))↔XU (aah n b).length (eN n (aao n b)):=
   (by grind [XU.congr,vD])
  rw[c,<-XU.mores (by grind [vD]) (n-(aah n b).length),show(aah n b).length+(n-(aah n b).length)=n by omega]
 rw[l];have N:=ren_V n b;constructor
 .intro h
  refine h.ren (p:=ofV n b) (q:=toV n b) ⟨N.ql,N.pl,N.qp,N.pq⟩ fun v w=>?_;rw[vD hR,vD f];constructor
  .intro a;exact⟨(a.lt hR).1,(a.lt hR).2,adj_to hR a⟩
  .rintro ⟨c, h2, h3⟩
   have:=((abM hR).1 h3).2.2;rwa[abf c,abf h2]at this
 .intro h
  refine h.ren N fun v w=>?_;rw[vD hR,vD f];exact abM hR
end
section
variable {n : Nat} {b : List Pr} (O : adn n b)
include O
theorem adn.bp {u w x y:Nat} (d:Jp b u w) (h2:Jp b x y):Pu b u x:=by
 have hR:=O.1.GD;have:=adV hR (fun p=>Pu b u p.1.toNat) (fun v a c ha e _=>?_) (H4 hR d) (H4 hR h2) (O.2.2 _ (H4 hR d) _ (H4 hR h2))
 .have c1:∀{v a},Jp b v a->Pu b v (GW v a).1.toNat:=fun{v a} h=>by
   rw[bj];rcases LN v a with q|q
   .rw[WL q];exact Pu.refl _ _
   .rw[afq q];exact abp h
  have:=this▸c1 d;exact this.trans (c1 h2).symm
 .have c1:∀{v a},Jp b v a->Pu b v (GW v a).1.toNat:=fun{v a} h=>by
   rw[bj];rcases LN v a with q|q
   .rw[WL q];exact Pu.refl _ _
   .rw[afq q];exact abp h
  exact(by grind [Cn.trans,Cn.symm])
theorem adn.Bi {v a c:Nat} (ha:Jp b v a) (d:Jp b v c):Cn (wo v) b a c:=
 (dR O.1.GD ha d).1 (O.2.2 _ (H4 O.1.GD ha) _ (H4 O.1.GD d))
theorem adn.two (A:2<=b.length):zW (aah n b).length (aao n b):=by
 have hR:=O.1.GD;have f:∀{v},v<(aah n b).length->v<n:=fun h=>Q4 h (jz (zx _ _) Ma);have back:∀{v},v<(aah n b).length->ofV n b v∈aah n b:=fun{v} h=>by
  have:ofV n b v=(aah n b)[v]:=by
   unfold ofV ab8;rw[mJ,fR h,CA h];rfl
  rw[this];exact Og h
 have d:∀{on on':Nat->Bool} {u w},(∀x,x<n->on x=false->on' (toV n b x)=false)->u<n->Cn on b u w->Cn on' (aao n b) (toV n b u) (toV n b w):=fun{on on' u w} q g h=>by
  induction h with
  |refl o=>exact .refl (q _ g o)
  |step _ a o r=>exact .step r (adj_to hR a) (by grind [Jp.lt])
 have h3:3<=(aah n b).length:=by
  have j:=acZ O.1;have B:(aao n b).length=b.length:=by rw[aao,eR]
  refine Eh fun k=>?_;have e:∀p∈aao n b,p=((0:Int),(1:Int)):=fun p s=>by
   have h:=j.GD p s;obtain⟨C,D⟩:=p;exact(by grind [Prod.ext])
  have l:0<(aao n b).length:=NH;have i:1<(aao n b).length:=NH;have:=V3.1 (Nl.1 j.q9) 0 1 l i WY;rw[e _ (Og l),e _ (Og i)]at this;simp at this
 have bp:∀u v,u<(aah n b).length->v<(aah n b).length->Pu (aao n b) u v:=fun u v g m=>by
  obtain⟨w,hw⟩:=(aaF hR).1 (back g);obtain⟨y,t⟩:=(aaF hR).1 (back m);have:=d (on:=offA) (on':=offA) pw (aes (f g)) (O.bp hw t);rwa[toV_ofV (f g),toV_ofV (f m)]at this
 refine⟨h3,(by grind [jt]),fun v ⟨a,c,ha,k,z⟩=>z ?_⟩;obtain⟨E,a1,i⟩:=(abM hR).1 ha;obtain⟨_,c1,h2⟩:=(abM hR).1 k;have:=d (on:=wo (ofV n b v)) (on':=wo v) (by grind [abf]) (aes a1) (O.Bi i h2);rwa[toV_ofV a1,toV_ofV c1]at this
theorem adn.flat:aaQ n b↔b.length<9\/XU n (eN n b):=by
 unfold aaQ;rw[aet O.1.GD];by_cases c:b.length<9
 .exact pw
 .constructor
  .rintro (h | h)
   .exact .inl h
   .exact .inr h.2.2
  .rintro (h | h)
   .exact .inl h
   .exact .inr ⟨acZ O.1,O.two NH,h⟩
end
end Go.Fw
namespace Go.Fw
open Go.Proofs
theorem aaZ {l m:II} (a:l.Nodup) (h2:m.Nodup) (h:∀x,x∈l↔x∈m):l.Perm m:=by grind [List.perm_ext_iff_of_nodup]
theorem aeu {π:Nat->Nat} {l:II} (nd:l.Nodup) (hi:∀a∈l,∀b∈l,π a=π b->a=b):(l.map π).Nodup:=by
 rw[kc,Hs];exact(by grind [List.Pairwise.imp_of_mem])
def aa0 (rows:AM) (v:Nat):II:=(rows.getD v []).map (·.toNat)
section
variable {n : Nat} {es fs : List Pr} {π : Nat → Nat}
theorem aaf (hR:aV n es) {v w:Nat}:w∈aa0 (Zh n es) v↔Jp es v w:=by
 unfold aa0;rw[HV];constructor
 .rintro ⟨x, a, rfl⟩
  obtain⟨w,rfl,_⟩:=Ru hR a;exact(by grind [EW])
 .intro h;exact⟨(w:Int),(EW hR v w).2 h,Ma⟩
theorem aaG (hR:aV n es) (hA:D3 es) (v:Nat):(aa0 (Zh n es) v).Nodup:=by
 unfold aa0;rw[kc,Hs];refine(KW es hR hA v).imp_of_mem fun{x y} b c h=>?_;obtain⟨a,rfl,_⟩:=Ru hR b;omega
def aaz (rows:AM) (v:Nat):(aa0 rows v).length=(rows.getD v []).length:=by simp[aa0]
variable (I : H9 n es fs π) (hA : D3 es) (hB : D3 fs)
include I hA hB
theorem aea {v:Nat} (b:v<n):(aa0 (Zh n fs) (π v)).Perm ((aa0 (Zh n es) v).map π):=by
 have lt:∀{w},w∈aa0 (Zh n es) v->w<n:=fun h=>(((aaf I.r1).1 h).lt I.r1).2;refine aaZ (aaG I.r2 hB _) (by grind [aeu,aaG,H9.r1,H9.inj]) fun x=>?_;rw[aaf I.r2,HV];constructor
 .intro h
  obtain⟨a,ha,rfl⟩:=I.UB x (h.lt I.r2).2;exact(by grind [aaf,H9.r1,H9.Jp])
 .rintro ⟨a, ha, rfl⟩
  exact(by grind [H9.Jp,aaf,H9.r1])
theorem abg {v:Nat} (a:v<n):((Zh n fs).getD (π v) []).length=((Zh n es).getD v []).length:=by rw[<-aaz,<-aaz,(aea I hA hB a).length_eq,eR]
theorem aeb:(aac (Zh n fs)).Perm ((aac (Zh n es)).map π):=by
 have nd:∀es:List Pr,(aac (Zh n es)).Nodup:=fun es=>Tn.filter _;have cb:∀v,v<n->aax (Zh n fs) (π v)=aax (Zh n es) v:=by grind [aax.eq_1,abg]
 have m1:=fun(es:List Pr) (v:Nat)=>show v∈aac (Zh n es)↔v<n/\aax (Zh n es) v=true by rw[aac,VU,uV,Xq]
 refine aaZ (nd _) (aeu (nd _) fun a ha b hb=>I.inj a b ((m1 _ _).1 ha).1 ((m1 _ _).1 hb).1) fun x=>?_;rw[m1,HV];constructor
 .rintro ⟨c, h2⟩
  obtain⟨a,ha,rfl⟩:=I.UB x c;exact pw
 .rintro ⟨a, ha, rfl⟩
  obtain⟨c,h2⟩:=(m1 _ _).1 ha;exact(by grind [H9.lt])
theorem goS_iso {d:Nat×Nat} (v:Jp es d.1 d.2) (h2:((Zh n es).getD d.2 []).length=2):goS (Zh n fs) (π d.1,π d.2)=(π (goS (Zh n es) d).1,π (goS (Zh n es) d).2):=by
 have l1:=v.lt I.r1;have c:((Zh n fs).getD (π d.2) []).length=2:=by rw[abg I hA hB l1.2];exact h2
 obtain⟨a,b,e,ne,k1,k2,f⟩:=aa9 I.r1 hA h2;obtain⟨a',l,e',ne',g,h,i⟩:=aa9 I.r2 hB c;have j:=(k1.lt I.r1).2;have k:=(k2.lt I.r1).2;have ia:=(I.Jp d.2 a l1.2 j).2 k1;have ib:=(I.Jp d.2 b l1.2 k).2 k2;have inj:=I.inj;have hd:=f d.1 v.symm;unfold goS;rw[e,e'];simp only[af1,af2];rcases hd with hd|hd
 .rw [if_pos (show ((a : Int) = (d.1 : Int)) by omega)]
  split<;>simp<;>grind
 .rw [if_neg (show ¬ ((a : Int) = (d.1 : Int)) by omega)]
  split<;>simp<;>grind
theorem ae3 (b:n<=200) {c v:Nat} (a:Jp es c v) (e:((Zh n es).getD c []).length≠2):aaj (Zh n fs) (π c,π v)=(π (aaj (Zh n es) (c,v)).1,(aaj (Zh n es) (c,v)).2):=by
 obtain⟨K,j,h2,h3,f⟩:=ab6 I.r1 hA b a e;have ha:=aa5 I.r1 hA (d:=(c,v)) a;have st:∀i,i<=K->it (goS (Zh n fs)) i (π c,π v)=(π (it (goS (Zh n es)) i (c,v)).1,π (it (goS (Zh n es)) i (c,v)).2):=by
  intro i
  induction i with
  |zero=>intro _;rfl
  |succ i g=>
   intro hi;show goS (Zh n fs) (it (goS (Zh n fs)) i (π c,π v))=_;rw[g NH];exact goS_iso I hA hB (ha i fun q k=>h2 q NH) (h2 i NH)
 have h:∀i,i<=K->(it (goS (Zh n es)) i (c,v)).2<n:=fun i hi=>((ha i pw).lt I.r1).2;rw[f,aaj,aek _ K 40001 _ _ NH (by grind [abg]) (by rw[st K (qL0 _),abg I hA hB pw];exact h3),st K (qL0 _),BS]
omit I hA hB in
theorem aaJ (rows:AM) (cs:II):aai rows cs=cs.flatMap fun c=>(aa0 rows c).map fun w=>(c,w):=by simp[aai,aa0,Function.comp_def]
omit I hA hB in
theorem ac0 {α β:Type} {f g:α->List β} {l:List α} (h:∀a∈l,(f a).Perm (g a)):(l.flatMap f).Perm (l.flatMap g):=by
 induction l with
 |nil=>exact .refl _
 |cons a l b=>
  exact(by grind [List.Perm.append])
def aec {cs a:II} (e:∀c∈cs,c<n) (f:a.Perm (cs.map π)):(aai (Zh n fs) a).Perm ((aai (Zh n es) cs).map fun d=>(π d.1,π d.2)):=by
 rw[aaJ,aaJ];refine(f.flatMap_right _).trans ?_;rw[List.flatMap_map,List.map_flatMap];refine ac0 fun c b=>?_;have:=(aea I hA hB (e c b)).map fun w=>(π c,w);rw[KG]at this;rw[KG];exact this
end
end Go.Fw
namespace Go.Fw
open Go.Proofs
theorem aca {α:Type} [BEq α] [LawfulBEq α] {ks:List α} (nd:ks.Nodup):∀L:List α,(ks.map fun k=>L.count k).sum<=L.length
 |[]=>by
  have:∀l:List α,(l.map fun k=>([]:List α).count k).sum=0:=fun l=>by
   induction l with
   |nil=>rfl
   |cons a l b=>rw[wI,MY,b];rfl
  rw[this];exact aal _
 |x::L=>by
  have b:=aca nd L;have one:∀l:List α,l.Nodup->(l.map fun k=>(x::L).count k).sum<=(l.map fun k=>L.count k).sum+1/\(x∉l->(l.map fun k=>(x::L).count k).sum=(l.map fun k=>L.count k).sum):=fun l=>by
   induction l with
   |nil=>intro _;exact pw
   |cons a l b=>
    intro nd;obtain⟨c,nl⟩:=ZT.1 nd;obtain⟨d,h2⟩:=b nl;simp only[wI,MY,afG];by_cases e:x=a
    .subst e
     have:=h2 c;simp only[afG]at this;simp only[beq_self_eq_true,if_true];exact(by grind [List.mem_cons_self])
    .have e' : (x == a) = false := by simpa using e
     simp only[afG]at d h2;rw[e'];simp only[xH,if_false,bC];exact(by grind [List.mem_cons_of_mem])
  have:=(one ks nd).1;rw[vg];omega
def acb (rows:AM) (d:Nat×Nat):aaD rows d=GW d.1 (aaj rows d).1:=rfl
def aaA {a b c d:Nat}:GW a b=GW c d↔(a=c/\b=d)\/(a=d/\b=c):=by rw[bj,bj,qy];omega
def Thr (W:Pr->Nat) (cs A B:II):Prop:=(A++B).Perm cs/\A.length=3/\B.length=3/\∀a∈A,∀b∈B,W (GW a b)=2
theorem Thr.swap {W:Pr->Nat} {cs A B:II} (T:Thr W cs A B):Thr W cs B A:=
 ⟨Dl.trans T.1,T.2.2.1,T.2.1,fun b hb a ha=>by rw[aag];exact T.2.2.2 a ha b hb⟩
theorem Thr.zero {L:List Pr} {cs A B:II} (nd:cs.Nodup) (T:Thr (fun p=>L.count p) cs A B) (t:L.length<=18) {p:Pr} (u:∀a∈A,∀b∈B,p≠GW a b):L.count p=0:=by
 obtain⟨g,h2,h3,v⟩:=T;have c:=(g.nodup_iff).2 nd;rw[si]at c;obtain⟨nA,nB,h⟩:=c;have i:(A.flatMap fun a=>B.map fun b=>GW a b).Nodup:=by
  rw[kc,qk];refine⟨fun a ha=>?_,?_⟩
  .rw [Hs]
   exact(by grind [abS])
  .refine (kc.1 nA).imp_of_mem fun {a a'} ha mi ne x j y m e => ?_
   obtain⟨b,hb,rfl⟩:=HV.1 j;obtain⟨n,sZ,rfl⟩:=HV.1 m;rcases aaA.1 e with⟨q,-⟩|⟨q,-⟩
   .exact ne q
   .exact h a ha n sZ q
 have o:(p::A.flatMap fun a=>B.map fun b=>GW a b).Nodup:=pw;have:=aca o L;rw[wI,MY]at this;have w:((A.flatMap fun a=>B.map fun b=>GW a b).map fun k=>L.count k).sum=18:=by
  have r:∀a∈A,((B.map fun b=>GW a b).map fun k=>L.count k).sum=6:=fun a ha=>by
   rw[KG];have:∀l:II,(∀b∈l,b∈B)->(l.map ((fun k=>L.count k)∘fun b=>GW a b)).sum=2*l.length:=by
    intro l
    induction l with
    |nil=>intro _;rfl
    |cons b l d=>
     intro f;have h2:L.count (GW a b)=2:=pw;rw[wI,MY,d pw];simp only[Function.comp,h2,vg];omega
   rw[this B fun b hb=>hb,h3]
  have s:∀l:II,(∀a∈l,a∈A)->((l.flatMap fun a=>B.map fun b=>GW a b).map fun k=>L.count k).sum=6*l.length:=by
   intro l
   induction l with
   |nil=>intro _;rfl
   |cons a l d=>
    intro f;rw[acw,j3,agh,r a (f a Ma),d pw,vg];omega
  rw[s A fun a ha=>ha,h2]
 omega
theorem abV {L:List Pr} {cs:II} (nd:cs.Nodup) (s:cs.length=6) (ha:cs.Pairwise (·<·)) (t:L.length<=18):aaV (fun p=>L.count p) cs=true↔∃A B,Thr (fun p=>L.count p) cs A B:=by
 have hf:cs.headD 0∈cs:=by
  cases cs with
  |nil=>cases s
  |cons a l=>simp
 have hle:∀c∈cs,cs.headD 0<=c:=fun c g=>by
  cases cs with
  |nil=>cases g
  |cons a l=>
   rcases WA.1 g with rfl|q
   .exact qL0 _
   .exact(by grind [List.pairwise_cons])
 have u:aaV (fun p=>L.count p) cs=((cs.filter fun(c:Nat)=>L.count (((cs.headD 0:Nat):Int),(c:Int))==0).length==3&&!(cs.filter fun(c:Nat)=>L.count (((cs.headD 0:Nat):Int),(c:Int))!=0).contains (cs.headD 0)&&aba (fun p=>L.count p) (cs.filter fun(c:Nat)=>L.count (((cs.headD 0:Nat):Int),(c:Int))==0) (cs.filter fun(c:Nat)=>L.count (((cs.headD 0:Nat):Int),(c:Int))!=0)):=rfl;rw[u];generalize cs.headD 0=f at*;have pf:∀c∈cs,(((f:Nat):Int),((c:Nat):Int))=GW f c:=by grind [bj]
 have v:cs.filter (fun(c:Nat)=>L.count ((f:Int),(c:Int))==0)=cs.filter fun c=>decide (L.count (GW f c)=0):=qH pw;have w:cs.filter (fun(c:Nat)=>L.count ((f:Int),(c:Int))!=0)=cs.filter fun c=>!decide (L.count (GW f c)=0):=qH fun c g=>by rw[pf c g];rfl
 rw[v,w];have d:(cs.filter (fun c=>decide (L.count (GW f c)=0))++cs.filter fun c=>!decide (L.count (GW f c)=0)).Perm cs:=agb _ _;constructor
 .intro h
  rw[Yi,Yi]at h;obtain⟨⟨x,h2⟩,h3⟩:=h;have l3:(cs.filter fun c=>decide (L.count (GW f c)=0)).length=3:=by simpa using x
  have ls:=d.length_eq;rw[vZ]at ls;refine⟨_,_,d,l3,NH,fun a j b k=>?_⟩;have:=LH.1 (LH.1 h3 a j) b k;rw[uu]at this;rcases this with q|q
  .have e : a = b := by simpa using q
   subst e;have y:=(VU.1 j).2;have o:=(VU.1 k).2;rw[y]at o;cases o
  .exact of_decide_eq_true q
 .rintro ⟨A, B, T⟩
  have go:∀A B,Thr (fun p=>L.count p) cs A B->f∈A->((cs.filter fun c=>decide (L.count (GW f c)=0)).length==3&&!(cs.filter fun c=>!decide (L.count (GW f c)=0)).contains f&&aba (fun p=>L.count p) (cs.filter fun c=>decide (L.count (GW f c)=0)) (cs.filter fun c=>!decide (L.count (GW f c)=0)))=true:=fun A B T i=>by
   have m:=(T.1.nodup_iff).2 nd;rw[si]at m;obtain⟨nA,nB,n⟩:=m;have mem:∀c,c∈cs↔c∈A\/c∈B:=fun c=>by rw[<-T.1.mem_iff,Sb]
   have C:∀c∈A,L.count (GW f c)=0:=fun c g=>T.zero nd t fun a ha b hb e=>by
    rcases aaA.1 e with⟨-,q⟩|⟨q,-⟩
    .exact n c g b hb q
    .exact n f i b hb q
   have z:∀c∈B,L.count (GW f c)≠0:=fun c g e=>by
    have:L.count (GW f c)=2:=T.2.2.2 f i c g;omega
   have r:(cs.filter fun c=>decide (L.count (GW f c)=0)).Perm A:=aaZ (nd.filter _) nA fun c=>by
    rw[VU,mem,decide_eq_true_eq];exact⟨pw,pw⟩
   have pB:(cs.filter fun c=>!decide (L.count (GW f c)=0)).Perm B:=aaZ (nd.filter _) nB fun c=>by
    rw[VU,mem,aeH,decide_eq_false_iff_not];exact⟨pw,pw⟩
   rw[Yi,Yi];refine⟨⟨by rw[r.length_eq,T.2.1];rfl,?_⟩,?_⟩
   .rw [aeH, agc]
    intro h;have:=pB.mem_iff.1 (Po.1 h);exact n f i f this rfl
   .refine LH.2 fun a ha => LH.2 fun b hb => ?_
    rw[uu];right;have:L.count (GW a b)=2:=T.2.2.2 a (r.mem_iff.1 ha) b (pB.mem_iff.1 hb);exact decide_eq_true this
  rcases(T.1.mem_iff.2 hf |> Sb.1)with q|q
  .exact go A B T q
  .exact go B A T.swap q
section
variable {es fs : List Pr} {π : Nat → Nat} (I : H9 200 es fs π) (hA : D3 es) (hB : D3 fs)
include I hA hB
omit hA hB in
theorem aed {cs:II} (b:∀c∈cs,c<200/\((Zh 200 es).getD c []).length≠2) {d:Nat×Nat} (hd:d∈aai (Zh 200 es) cs):Jp es d.1 d.2/\((Zh 200 es).getD d.1 []).length≠2/\d.1∈cs:=by
 rw[aaJ,QD]at hd;obtain⟨c,a,hd⟩:=hd;obtain⟨w,hw,rfl⟩:=HV.1 hd;exact(by grind [aaf,H9.r1])
omit hB in
theorem oth_lt {d:Nat×Nat} (h:Jp es d.1 d.2) (a:((Zh 200 es).getD d.1 []).length≠2):(aaj (Zh 200 es) d).1<200:=by
 obtain⟨K,e,h2,h3,b⟩:=ab6 I.r1 hA (qL0 _) (c:=d.1) (v:=d.2) h a;have:=aa5 I.r1 hA (d:=(d.1,d.2)) h K h2;rw[show d=(d.1,d.2)from rfl,b];exact(this.lt I.r1).2
def strN_iso {cs a:II} (b:∀c∈cs,c<200/\((Zh 200 es).getD c []).length≠2) (e:a.Perm (cs.map π)):aaO (Zh 200 fs) a=aaO (Zh 200 es) cs:=by
 have h:=((aec I hA hB (fun c h=>(b c h).1) e).map fun d=>(aaj (Zh 200 fs) d).2+1).sum_nat;unfold aaO;rw[h,KG];refine congrArg List.sum (Uz fun d hd=>?_);obtain⟨f,h2,-⟩:=aed I b hd;have:=ae3 I hA hB (qL0 _) (c:=d.1) (v:=d.2) f h2;simp only[Function.comp,this]
def aee {cs f:II} (g:∀c∈cs,c<200/\((Zh 200 es).getD c []).length≠2) (j:f.Perm (cs.map π)) {a b:Nat} (ha:a<200) (hb:b<200):aaE (Zh 200 fs) f (GW (π a) (π b))=aaE (Zh 200 es) cs (GW a b):=by
 have h:=((aec I hA hB (fun c h=>(g c h).1) j).map (aaD (Zh 200 fs))).count_eq (GW (π a) (π b));unfold aaE;rw[h,KG,List.count,afH,List.count,afH];refine List.countP_congr fun d hd=>?_;obtain⟨i,h2,h3⟩:=aed I g hd;have e:=ae3 I hA hB (qL0 _) (c:=d.1) (v:=d.2) i h2;have l1:=(g d.1 h3).1;have l2:=oth_lt I hA i h2;have inj:∀{x y},x<200->y<200->(π x=π y↔x=y):=fun k l=>⟨I.inj _ _ k l,fun q=>by rw[q]⟩;simp only[Function.comp,acb,e,beq_iff_eq];rw[aaA,aaA,inj l1 ha,inj l2 hb,inj l1 hb,inj l2 ha]
theorem each_iso {cs d:II} (e:∀c∈cs,c<200/\((Zh 200 es).getD c []).length≠2) (g:d.Perm (cs.map π)):aba (aaE (Zh 200 fs) d) d d=aba (aaE (Zh 200 es) cs) cs cs:=by
 rw[acN];unfold aba;simp only[LH,uu,beq_iff_eq];have W:=fun{a b}=>aee I hA hB e g (a:=a) (b:=b);constructor
 .intro h a ha b hb
  have:=h (π a) pw (π b) pw;have w:=W (e a ha).1 (e b hb).1;rcases this with q|q
  .exact .inl (I.inj _ _ (e a ha).1 (e b hb).1 q)
  .right
   have f:aaE (Zh 200 fs) d (GW (π a) (π b))=2:=q;rw[w]at f;exact f
 .intro h a' mi i sZ
  obtain⟨a,ha,rfl⟩:=HV.1 (g.mem_iff.1 mi);obtain⟨b,hb,rfl⟩:=HV.1 (g.mem_iff.1 sZ);have w:=W (e a ha).1 (e b hb).1;rcases h a ha b hb with q|q
  .exact .inl (by rw[q])
  .right
   have f:aaE (Zh 200 es) cs (GW a b)=2:=q;rw[<-w]at f;exact f
end
def acH (rows:AM):(aac rows).Pairwise (·<·):=pz.filter _
def abu {es:List Pr} {c:Nat} (h:c∈aac (Zh 200 es)):c<200/\((Zh 200 es).getD c []).length≠2:=by
 rw[aac,VU,uV,Xq]at h;refine⟨h.1,fun e=>?_⟩;have:=h.2;rw[aax,e]at this;cases this
def H9.flip {n:Nat} {es fs:List Pr} {π:Nat->Nat} (I:H9 n es fs π):∃σ,H9 n fs es σ:=by
 obtain⟨σ,h,-⟩:=I.inv;exact⟨σ,h⟩
theorem ae4 {es fs:List Pr} {π:Nat->Nat} (I:H9 200 es fs π) (hA:D3 es) (hB:D3 fs) {cs d:II} (e:∀c∈cs,c<200/\((Zh 200 es).getD c []).length≠2) (f:d.Perm (cs.map π)) {A B:II} (T:Thr (aaE (Zh 200 es) cs) cs A B):Thr (aaE (Zh 200 fs) d) d (A.map π) (B.map π):=by
 obtain⟨g,h2,h3,h⟩:=T;refine⟨?_,by rw[eR];exact h2,by rw[eR];exact h3,fun a' mi i sZ=>?_⟩
 .rw[<-j3];exact(g.map π).trans f.symm
 .obtain ⟨a, ha, rfl⟩ := HV.1 mi
  obtain⟨b,hb,rfl⟩:=HV.1 sZ;rw[aee I hA hB e f (e a pw).1 (e b pw).1];exact h a ha b hb
theorem kind_iso {es fs:List Pr} {π:Nat->Nat} (I:H9 200 es fs π) (hA:D3 es) (hB:D3 fs) (v:fs.length=es.length):aaT fs=aaT es:=by
 have b:=aeb I hA hB;have d:(Zh 200 fs).any aaR=(Zh 200 es).any aaR:=by
  have half:∀{es fs:List Pr} {π:Nat->Nat},H9 200 es fs π->D3 es->D3 fs->(Zh 200 es).any aaR=true->(Zh 200 fs).any aaR=true:=fun{es fs π} I hA hB h=>by
   obtain⟨r,w,hb⟩:=b7.1 h;obtain⟨i,hi,rfl⟩:=Bn.1 w;have f:i<200:=by rw[Xq]at hi;exact hi
   have t:π i<(Zh 200 fs).length:=by rw[Xq];exact I.lt i f
   have e:=abg I hA hB f;rw[D4 t,D4 hi]at e;refine b7.2 ⟨_,Og t,?_⟩;unfold aaR at hb ⊢;rw[e];exact hb
  obtain⟨σ,J⟩:=I.flip;rw[acN];exact pw
 have hlen:(aac (Zh 200 fs)).length=(aac (Zh 200 es)).length:=by rw[b.length_eq,eR]
 have n:∀c∈aac (Zh 200 es),_:=fun c h=>abu h;have u:∀E,(E=4\/E=3/\(aac (Zh 200 es)).length=6)->abc (Zh 200 fs) (aac (Zh 200 fs)) fs.length E=abc (Zh 200 es) (aac (Zh 200 es)) es.length E:=fun E x=>by
  have g:(aac (Zh 200 fs)).any (fun c=>((Zh 200 fs).getD c []).length !=E)=(aac (Zh 200 es)).any fun c=>((Zh 200 es).getD c []).length !=E:=by
   rw[acN,b7,b7];constructor
   .rintro ⟨c', o, q⟩
    obtain⟨c,p,rfl⟩:=HV.1 (b.mem_iff.1 o);exact(by grind [abg])
   .rintro ⟨c, p, q⟩
    exact(by grind [abg])
  unfold abc;rw[g,strN_iso I hA hB n b,v,each_iso I hA hB n b];by_cases ca:(aac (Zh 200 es)).any (fun c=>((Zh 200 es).getD c []).length !=E)=true
  .rw[if_pos ca,if_pos ca]
  rcases x with rfl|⟨rfl,k⟩
  .rfl
  have j:∀c∈aac (Zh 200 es),((Zh 200 es).getD c []).length=3:=by grind [List.any_eq_true]
  have a:∀c∈aac (Zh 200 fs),((Zh 200 fs).getD c []).length=3:=by grind [abg]
  have y:=abV (L:=(aai (Zh 200 es) (aac (Zh 200 es))).map (aaD (Zh 200 es))) (cs:=aac (Zh 200 es)) (Tn.filter _) k (acH _) (by rw[eR,aa6 j,k];decide);have z:=abV (L:=(aai (Zh 200 fs) (aac (Zh 200 fs))).map (aaD (Zh 200 fs))) (cs:=aac (Zh 200 fs)) (Tn.filter _) (hlen.trans k) (acH _) (by rw[eR,aa6 a,hlen,k];decide);have s:aaV (aaE (Zh 200 fs) (aac (Zh 200 fs))) (aac (Zh 200 fs))=aaV (aaE (Zh 200 es) (aac (Zh 200 es))) (aac (Zh 200 es)):=by
   rw[acN];refine z.trans (Iff.trans ?_ y.symm);constructor
   .rintro ⟨A, B, T⟩
    obtain⟨σ,J⟩:=I.flip;exact⟨_,_,ae4 J hB hA (fun c h=>abu h) (aeb J hB hA) T⟩
   .rintro ⟨A, B, T⟩
    exact⟨_,_,ae4 I hA hB n b T⟩
  rw[s]
 rw[abm,abm,d,hlen];by_cases l:(aac (Zh 200 es)).length=5
 .rw[if_pos l,if_pos l,u 4 (.inl rfl)]
 rw[if_neg l,if_neg l];by_cases m:(aac (Zh 200 es)).length=6
 .rw[if_pos m,if_pos m,u 3 pw]
 .rw[if_neg m,if_neg m]
end Go.Fw
