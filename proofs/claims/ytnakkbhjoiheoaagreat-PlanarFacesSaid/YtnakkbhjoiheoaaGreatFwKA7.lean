/- A text. -/
import Derived.Test.YtnakkbhjoiheoaaGreatFwKA5
import Derived.Test.YtnakkbhjoiheoaaGreatFwKA6
set_option linter.all false
set_option maxRecDepth 99999
set_option maxHeartbeats 9999999
open Go.Proofs
open Option renaming some→Z
open Bool renaming false→fF
open List renaming range→rG
open Go renaming Value→vV
namespace Go.Fw
section
attribute [local irreducible] Jz JL vq cQ
variable {a j:Nat}
def acJ(a j:Nat):xLP:=(rG (j-(a+1))).map fun t=>((a:Int),((a+1+t:Nat):Int))
def afP(f n:Nat):Nat->xLP
 |0=>[]
 |k+1=>afP f n k++acJ (f+k) n
def afy(h:a+1<=j):acJ a (j+1)=acJ a j++[((a:Int),(j:Int))]:=by unfold acJ;rw[show j+1-(a+1)=(j-(a+1))+1 by omega,rY,MY];simp;omega
def ad4(a j:Nat):(acJ a j).length<=j:=by simp[acJ]
def ad5(f n:Nat):∀k,(afP f n k).length<=n*k
 |0=>qL0 _
 |k+1=>by have:=ad5 f n k;have:=ad4 (f+k) n;rw[afP,ZT,Nat.mul_add];omega
attribute [local instance] Classical.propDecidable
theorem agf{on on':Nat->Bool}(b:∀u,on u=fF->on' u=fF){es:xLP}{u w:Nat}(h:Cn on es u w):Cn on' es u w:=by
 induction h with
 |refl h=>exact .refl (b _ h)
 |step _ a o c=>exact .step c a (b _ o)
def agI{on:Nat->Bool}{es:xLP}{S:Nat->Prop}{x0 c:Nat}(h:Cn on es x0 c)(e:S x0)(b:¬S c):∃x y,S x/\¬S y/\Jp es x y/\Cn (fun u=>on u||decide (S u)) es y c:=by
 induction h with
 |refl _=>exact absurd e b
 |@step w x h a o f=>
  have d:(on x||decide (S x))=fF:=by rw[o,WA b];rfl
  by_cases hw:S w
  .exact⟨w,x,hw,b,a,.refl d⟩
  .obtain⟨p,q,g,h2,h3,i⟩:=f hw;exact⟨p,q,g,h2,h3,.step i a d⟩
theorem first_in{on:Nat->Bool}{es:xLP}{t a w:Nat}(ne:a≠t)(h:Cn on es a w):Cn (fun u=>on u||decide (u=t)) es a w\/∃z,Jp es z t/\Cn (fun u=>on u||decide (u=t)) es a z:=by
 induction h with
 |refl h=>exact .inl (.refl (by rw[h,WA ne];rfl))
 |@step w x h a o b=>
  rcases b with q|q
  .by_cases e:x=t
   .subst e;exact pw
   .exact .inl (.step q a (by rw[o,WA e];rfl))
  .exact .inr q
def abb(n:Nat)(es:xLP)(k:Int):xLP:=es.filter fun p=>decide (cQ n es p=k)
section
variable{n:Nat}{es:List Pr}(hr:aV n es)
theorem aaw{k:Int}{p:Pr}:p∈abb n es k↔p∈es/\cQ n es p=k:=by simp[abb]
def ajm(k:Int):(abb n es k).Sublist es:=EP
include hr
def agh(k:Int):aV n (abb n es k):=fun p a=>hr p (aaw.1 a).1
theorem abM{k:Int}{u w:Nat}:Jp (abb n es k) u w↔Jp es u w/\cQ n es (GW u w)=k:=by
 constructor
 .intro h;have a:=aaw.1 (H4 (agh hr k) h);exact⟨h.imp (by grind[aaw]) (by grind[aaw]),a.2⟩
 .rintro⟨a,h2⟩;have b:=aaw.2 ⟨H4 hr a,h2⟩;have ne:u≠w:=fun e=>by subst e;exact Xa hr a
  rcases ah2 ne with c|c
  .left;rwa[GW,Int.min_eq_left NH,Int.max_eq_right NH]at b
  .right;rwa[GW,Int.min_eq_right NH,Int.max_eq_left NH]at b
theorem blk_path{v a c:Nat}(ha:Jp es v a)(o:Jp es v c)(h:Cn (wo v) es a c):Cn (wo v) (abb n es (cQ n es (GW v a))) a c:=by
 generalize p:cQ n es (GW v a)=K;have nva:a≠v:=by grind[Xa]
 refine uV fun r=>?_;have d:Cn (wo v) (abb n es K) a a:=.refl (iO nva);obtain⟨x,y,l,s,b,f⟩:=agI (S:=fun u=>Cn (wo v) (abb n es K) a u) h d r;have g:y≠v:=by grind[Cn.off1]
 have key:cQ n es (GW x y)=K:=by
  have off:∀u,(wo v u||decide (Cn (wo v) (abb n es K) a u))=fF->wo x u=fF:=by grind[of_decide_eq_false]
  have i:v≠x:=by grind[Cn.AB]
  have m:Cn (wo x) es y v:=.step (agf off f) o.symm (iO i);by_cases e:x=a
  .subst e;rw[(dR hr b ha.symm).2 m,so];exact p
  .rcases first_in (fj e) l with q|⟨z,t,q⟩
   .have:=q.AB;simp at this
   .obtain⟨j,k⟩:=(abM hr).1 t;have w:Cn (wo x) es a z:=by
     have:Cn (wo x) (abb n es K) a z:=by grind[agf]
     exact(by grind[Cn.mono,aaw])
    have ya:Cn (wo x) es y z:=(Cn.step m ha pw).trans w;rw[(dR hr b j.symm).2 ya,so];exact k
 exact s (.step l (by grind[abM]) (iO g))
theorem blk_one{k:Int}{p q:Pr}(b:p∈abb n es k)(d:q∈abb n es k):cQ n (abb n es k) p=cQ n (abb n es k) q:=by
 have hb:=agh hr k
 have:=adg hr (fun r=>if r∈abb n es k then cQ n (abb n es k) r else-1) (fun v a c ha f h=>?_) (aaw.1 b).1 (aaw.1 d).1 (by grind[aaw])
 .rw[Z6 b,Z6 d]at this;exact this
 have e:=(dR hr ha f).2 h;have m1:GW v a∈abb n es k↔cQ n es (GW v a)=k:=by rw[aaw];exact(by grind[H4])
 have m2:GW v c∈abb n es k↔cQ n es (GW v c)=k:=by rw[aaw];exact(by grind[H4])
 by_cases c1:cQ n es (GW v a)=k
 .have c2:cQ n es (GW v c)=k:=e▸c1;rw[Z6 (m1.2 c1),Z6 (m2.2 c2)];refine(dR hb (by grind[abM]) (by grind[abM])).2 ?_;have:=blk_path hr ha f h;rwa[c1]at this
 .rw[abe (fun q=>c1 (m1.1 q)),abe (fun q=>c1 (by rw[e];exact m2.1 q))]
theorem key_mono{c:xLP}(hs:∀p∈c,p∈es){n':Nat}(d:aV n' c){p q:Pr}(e:p∈c)(f:q∈c)(h:cQ n' c p=cQ n' c q):cQ n es p=cQ n es q:=adg d (fun r=>cQ n es r) (fun v a b ha hb g=>(dR hr (ha.imp (hs _) (hs _)) (hb.imp (hs _) (hs _))).2 (g.mono hs)) e f h
end
theorem aaP{n:Nat}{es b:xLP}:b∈vq n es↔∃p∈es,b=abb n es (cQ n es p):=by
 rw[aaB,Gw];constructor
 .rintro⟨k,c,rfl⟩;obtain⟨p,a,rfl⟩:=((lQ (cQ n es) _ es rfl).2 k).1 c;exact⟨p,a,rfl⟩
 .rintro⟨p,a,rfl⟩;exact⟨cQ n es p,((lQ (cQ n es) _ es rfl).2 _).2 ⟨p,a,rfl⟩,rfl⟩
theorem ae0{n:Nat}{es:xLP}(h:∀p∈es,∀q∈es,cQ n es p=cQ n es q){b:xLP}(hb:b∈vq n es):b=es:=by obtain⟨p,a,rfl⟩:=aaP.1 hb;exact pz.2 (by grind[decide_eq_true])
theorem aht{n:Nat}{es:xLP}(h:∀p∈es,∀q∈es,cQ n es p=cQ n es q)(a:es≠[]):es∈vq n es:=by obtain⟨p,l,rfl⟩:=eR a;exact aaP.2 ⟨p,Ma,(pz.2 (by grind[decide_eq_true])).symm⟩
def aeo(n:Nat)(b:xLP):Prop:=bX ⟨(n:Int),b⟩/\b≠[]/\∀p∈b,∀q∈b,cQ n b p=cQ n b q
theorem aaQ{n:Nat}{es b:xLP}(hr:bX ⟨(n:Int),es⟩)(hb:b∈vq n es):aeo n b:=by obtain⟨p,d,rfl⟩:=aaP.1 hb;exact⟨hr.sub (ajm _),List.ne_nil_of_mem (aaw.2 ⟨d,rfl⟩),fun a ha c e=>blk_one hr.GD ha e⟩
theorem abc{n:Nat}{b:xLP}(h:aeo n b):aak n b↔aaV n b:=⟨fun q=>q.2 b (aht h.2.2 h.2.1),fun q=>⟨h.1,fun c a=>by rw[ae0 h.2.2 a];exact q⟩⟩
theorem acp{n:Nat}{es:xLP}(hr:bX ⟨(n:Int),es⟩):aak n es↔∀b∈vq n es,aak n b:=⟨fun q b hb=>(abc (aaQ hr hb)).2 (q.2 b hb),fun q=>⟨hr,(by grind[abc,aaQ])⟩⟩
section
variable{n:Nat}{b:List Pr}(hR:aV n b)
def acw(n:Nat)(b:xLP):II:=aag n b++(rG n).filter fun(v:Nat)=>!b.any fun p=>aO p (v:Int)
def toV(n:Nat)(b:xLP)(u:Nat):Nat:=(acw n b).idxOf u
def ofV(n:Nat)(b:xLP)(i:Nat):Nat:=(acw n b).getD i 0
theorem acx:(acw n b).Perm (rG n):=by exact List.filter_append_perm _ _
def adn:(acw n b).length=n:=by rw[(acx (n:=n) (b:=b)).length_eq,iU]
theorem ordL_nd:(acw n b).Nodup:=by grind[acx]
def ads{u:Nat}:u∈acw n b↔u<n:=by rw[(acx (n:=n) (b:=b)).mem_iff,K4]
theorem toV_lt{u:Nat}(h:u<n):toV n b u<n:=by have:=afI (ads (b:=b)|>.2 h);rwa[adn]at this
def afz{i:Nat}(h:i<n):ofV n b i<n:=by
 have a:i<(acw n b).length:=by rw[adn];exact h
 have:ofV n b i=(acw n b)[i]:=D4 a;rw[this];exact ads.1 (aev a)
theorem abk{u:Nat}(h:u<n):ofV n b (toV n b u)=u:=by have c:=ads (b:=b)|>.2 h;have a:=afI c;unfold ofV toV;rw[D4 a];exact List.getElem_idxOf a
theorem toV_ofV{i:Nat}(h:i<n):toV n b (ofV n b i)=i:=by
 have a:i<(acw n b).length:=by rw[adn];exact h
 have e:ofV n b i=(acw n b)[i]:=D4 a;rw[e];exact List.Nodup.idxOf_getElem ordL_nd i a
def ren_V(n:Nat)(b:xLP):Ren n (toV n b) (ofV n b):=⟨fun _ h=>toV_lt h,fun _ h=>afz h,fun _ h=>toV_ofV h,fun _ h=>abk h⟩
theorem toV_idx{u:Nat}(h:u∈aag n b):toV n b u=abD n b (u:Int)/\toV n b u<(aag n b).length:=by
 have a:=afI h;have e:toV n b u=(aag n b).idxOf u:=by unfold toV acw;rw[List.idxOf_append,Z6 h]
 refine⟨?_,by rw[e];exact a⟩;rw[e];refine idx_eq (n:=n) (b:=b) ?_;rw[kz,bC,CA a];simp[List.getElem_idxOf a]
include hR
theorem aaJ{u:Nat}:u∈aag n b↔∃w,Jp b u w:=by
 rw[aeT];constructor
 .rintro⟨f,p,e,h⟩;obtain⟨a,c,ha,g,d,rfl⟩:=pair_ex hR e;have h':u=a\/u=c:=by simp only[aO,bj,Cj,vg]at h;omega
  rcases h' with rfl|rfl
  .exact⟨c,d⟩
  .exact⟨a,d.symm⟩
 .rintro⟨w,h⟩;refine⟨(h.lt hR).1,GW u w,H4 hR h,?_⟩;simp only[aO,bj,Cj,vg];omega
theorem aep{x y:Int}:(x,y)∈aat n b↔∃u w:Nat,((u:Int),(w:Int))∈b/\x=(toV n b u:Int)/\y=(toV n b w:Int):=by
 unfold aat;rw[Gw];constructor
 .rintro⟨p,a,e⟩;obtain⟨c,h2,h3⟩:=hR p a;obtain⟨f,d⟩:=p;obtain⟨u,rfl⟩:=Sb c;obtain⟨w,rfl⟩:=Sb (show 0<=d by omega);injection e with g h;have m1:=(toV_idx ((aaJ hR).2 ⟨w,.inl a⟩)).1;have m2:=(toV_idx ((aaJ hR).2 ⟨u,.inr a⟩)).1;exact pw
 .rintro⟨u,w,a,rfl,rfl⟩;have m1:=(toV_idx ((aaJ hR).2 ⟨w,.inl a⟩)).1;have m2:=(toV_idx ((aaJ hR).2 ⟨u,.inr a⟩)).1;exact pw
theorem abR{v w:Nat}:Jp (aat n b) v w↔v<n/\w<n/\Jp b (ofV n b v) (ofV n b w):=by
 have one:∀v w:Nat,((v:Int),(w:Int))∈aat n b->v<n/\w<n/\((ofV n b v:Int),(ofV n b w:Int))∈b:=fun v w h=>by obtain⟨u,x,c,a,h2⟩:=(aep hR).1 h;have l1:=(show Jp b u x from .inl c).lt hR;obtain rfl:v=toV n b u:=NH;obtain rfl:w=toV n b x:=NH;rw[abk l1.1,abk l1.2];exact⟨toV_lt l1.1,toV_lt l1.2,c⟩
 constructor
 .rintro(h|h)
  .obtain⟨a,h2,h3⟩:=one _ _ h;exact⟨a,h2,.inl h3⟩
  .obtain⟨a,h2,h3⟩:=one _ _ h;exact⟨h2,a,.inr h3⟩
 .rintro⟨a,h2,h3|h3⟩
  .exact .inl (by grind[aep,toV_ofV])
  .exact .inr (by grind[aep,toV_ofV])
theorem adj_to{u w:Nat}(h:Jp b u w):Jp (aat n b) (toV n b u) (toV n b w):=by have l:=h.lt hR;exact(by grind[abR,toV_lt,abk])
theorem vert_lt{u w:Nat}(h:Jp b u w):toV n b u<(aag n b).length:=by grind[toV_idx,aaJ]
omit hR in
theorem aeq{x y:Nat}(e:x∈aag n b)(d:x<y):abD n b (x:Int)<abD n b (y:Int):=by
 have f:∀l:II,x∈l->l.countP (fun(v:Nat)=>decide ((v:Int)<(x:Int)))<l.countP fun(v:Nat)=>decide ((v:Int)<(y:Int)):=by
  intro l
  induction l with
  |nil=>intro h;cases h
  |cons a l g=>
   intro h;have mono:l.countP (fun(v:Nat)=>decide ((v:Int)<(x:Int)))<=l.countP fun(v:Nat)=>decide ((v:Int)<(y:Int)):=List.countP_mono_left pw;rw[ai9,ai9];rcases Og.1 h with rfl|q
   .rw[abe Ma,Z6 (by simpa using d)];omega
   .have:=g q;by_cases c:(a:Int)<(x:Int)
    .rw[Z6 (by simpa using c),Z6 (by simp only[vg];omega)];omega
    .rw[abe (by simpa using c)];split<;>omega
 exact f _ e
omit hR in
theorem ad6(d:bX ⟨(n:Int),b⟩):bX ⟨((aag n b).length:Int),aat n b⟩:=by
 have hR:=d.GD;have e:(aag n b).length<=n:=VU (Vn _ _) Ma;have f:∀p∈b,∃u w:Nat,p=((u:Int),(w:Int))/\u<w/\u∈aag n b/\w∈aag n b:=fun p a=>by obtain⟨k,h2,h3⟩:=hR p a;obtain⟨m,l⟩:=p;obtain⟨u,rfl⟩:=Sb k;obtain⟨w,rfl⟩:=Sb (show 0<=l by omega);exact⟨u,w,rfl,NH,(aaJ hR).2 ⟨w,.inl a⟩,(aaJ hR).2 ⟨u,.inr a⟩⟩
 refine bX.of (VU e (by have:(n:Int)<=200:=d.n1;omega)) (by rw[aat,wI];exact d.len) (fun q g=>?_) ?_
 .obtain⟨p,a,rfl⟩:=Gw.1 g;obtain⟨u,w,rfl,i,j,hw⟩:=f p a;have k:=aeq j i;have h2:=toV_idx hw;rw[h2.1]at h2;exact pw
 .have ha:D3 b:=d.q9;rw[Nl]at ha ⊢;unfold aat;rw[DF];refine ha.imp_of_mem fun{p q} a g c=>?_;obtain⟨u,w,rfl,-,j,hw⟩:=f p a;obtain⟨x,y,rfl,-,o,r⟩:=f q g;simp only at c ⊢;rcases c with h|⟨h,h'⟩
  .left;have:=aeq j (show u<x by omega);omega
  .right;have:=aeq hw (show w<y by omega);obtain rfl:u=x:=NH;exact pw
theorem afA:XU (aag n b).length (eN (aag n b).length (aat n b))↔XU n (eN n b):=by
 have g:(aag n b).length<=n:=VU (Vn _ _) Ma;have d:∀v w,Jp (aat n b) v w->v<(aag n b).length:=fun v w h=>by obtain⟨c,h2,h3⟩:=(abR hR).1 h;have:=vert_lt hR h3;rwa[toV_ofV c]at this
 have GD:∀{m},(∀v w,Jp (aat n b) v w->v<m)->aV m (aat n b):=fun{m} h p i=>by obtain⟨q,e,rfl⟩:=Gw.1 i;obtain⟨c,h2,h3⟩:=hR q e;obtain⟨o,j⟩:=q;obtain⟨u,rfl⟩:=Sb c;obtain⟨w,rfl⟩:=Sb (show 0<=j by omega);have k:=(aaJ hR).2 ⟨w,.inl e⟩;have:=aeq k (show u<w by omega);have ha:Jp (aat n b) (abD n b (w:Int)) (abD n b (u:Int)):=.inr pw;have:=h _ _ ha;exact pw
 have r:=GD d;have f:aV n (aat n b):=by grind[Nat.lt_of_lt_of_le]
 have l:XU (aag n b).length (eN (aag n b).length (aat n b))↔XU n (eN n (aat n b)):=by
  have c:XU (aag n b).length (eN (aag n b).length (aat n b))↔XU (aag n b).length (eN n (aat n b)):=(by grind[XU.congr,vD]);rw[c,<-XU.mores (by grind[vD]) (n-(aag n b).length),show(aag n b).length+(n-(aag n b).length)=n by omega]
 rw[l];have N:=ren_V n b;constructor
 .intro h;refine h.ren (p:=ofV n b) (q:=toV n b) ⟨N.ql,N.pl,N.qp,N.pq⟩ fun v w=>?_;rw[vD hR,vD f];constructor
  .intro a;exact⟨(a.lt hR).1,(a.lt hR).2,adj_to hR a⟩
  .rintro⟨c,h2,h3⟩;have:=((abR hR).1 h3).2.2;rwa[abk c,abk h2]at this
 .intro h;refine h.ren N fun v w=>?_;rw[vD hR,vD f];exact abR hR
end
section
variable{n:Nat}{b:List Pr}(O:aeo n b)
include O
theorem aeo.bp{u w x y:Nat}(d:Jp b u w)(h2:Jp b x y):Pu b u x:=by
 have hR:=O.1.GD;have:=adg hR (fun p=>Pu b u p.1.toNat) (fun v a c ha e _=>?_) (H4 hR d) (H4 hR h2) (O.2.2 _ (H4 hR d) _ (H4 hR h2))
 .have c1:∀{v a},Jp b v a->Pu b v (GW v a).1.toNat:=fun{v a} h=>by
   rw[bj];rcases Nat.le_total v a with q|q
   .rw[af9 q];exact Pu.refl _ _
   .rw[ah8 q];exact abu h
  have:=this▸c1 d;exact this.trans (c1 h2).symm
 .have c1:∀{v a},Jp b v a->Pu b v (GW v a).1.toNat:=fun{v a} h=>by
   rw[bj];rcases Nat.le_total v a with q|q
   .rw[af9 q];exact Pu.refl _ _
   .rw[ah8 q];exact abu h
  exact(by grind[Cn.trans,Cn.symm])
theorem aeo.Bi{v a c:Nat}(ha:Jp b v a)(d:Jp b v c):Cn (wo v) b a c:=(dR O.1.GD ha d).1 (O.2.2 _ (H4 O.1.GD ha) _ (H4 O.1.GD d))
theorem aeo.two(A:2<=b.length):zW (aag n b).length (aat n b):=by
 have hR:=O.1.GD;have f:∀{v},v<(aag n b).length->v<n:=fun h=>ahe h (VU (Vn _ _) Ma);have back:∀{v},v<(aag n b).length->ofV n b v∈aag n b:=fun{v} h=>by
  have:ofV n b v=(aag n b)[v]:=by unfold ofV acw;rw[xD,Eh h,CA h];rfl
  rw[this];exact aev h
 have d:∀{on on':Nat->Bool}{u w},(∀x,x<n->on x=fF->on' (toV n b x)=fF)->u<n->Cn on b u w->Cn on' (aat n b) (toV n b u) (toV n b w):=fun{on on' u w} q g h=>by
  induction h with
  |refl o=>exact .refl (q _ g o)
  |step _ a o r=>exact .step r (adj_to hR a) (by grind[Jp.lt])
 have h3:3<=(aag n b).length:=by
  have j:=ad6 O.1;have B:(aat n b).length=b.length:=by rw[aat,wI]
  refine uV fun k=>?_;have e:∀p∈aat n b,p=((0:Int),(1:Int)):=fun p s=>by have h:=j.GD p s;obtain⟨C,D⟩:=p;exact(by grind[Prod.ext])
  have l:0<(aat n b).length:=NH;have i:1<(aat n b).length:=NH;have:=qH.1 (Nl.1 j.q9) 0 1 l i WY;rw[e _ (aev l),e _ (aev i)]at this;simp at this
 have bp:∀u v,u<(aag n b).length->v<(aag n b).length->Pu (aat n b) u v:=fun u v g m=>by obtain⟨w,hw⟩:=(aaJ hR).1 (back g);obtain⟨y,t⟩:=(aaJ hR).1 (back m);have:=d (on:=offA) (on':=offA) pw (afz (f g)) (O.bp hw t);rwa[toV_ofV (f g),toV_ofV (f m)]at this
 refine⟨h3,(by grind[ahc]),fun v ⟨a,c,ha,k,z⟩=>z ?_⟩;obtain⟨E,a1,i⟩:=(abR hR).1 ha;obtain⟨_,c1,h2⟩:=(abR hR).1 k;have:=d (on:=wo (ofV n b v)) (on':=wo v) (by grind[abk]) (afz a1) (O.Bi i h2);rwa[toV_ofV a1,toV_ofV c1]at this
theorem aeo.flat:aaV n b↔b.length<9\/XU n (eN n b):=by
 unfold aaV;rw[afA O.1.GD];by_cases c:b.length<9
 .exact pw
 .constructor
  .rintro(h|h)
   .exact .inl h
   .exact .inr h.2.2
  .rintro(h|h)
   .exact .inl h
   .exact .inr ⟨ad6 O.1,O.two NH,h⟩
end
theorem acb{n:Nat}{es a:xLP}(hs:a.Sublist es)(h:aak n es):aak n a:=by
 have f:=h.1;have d:=f.sub hs;have hR:=f.GD;have i:=d.GD;refine(acp d).2 fun b hb=>(abc (aaQ d hb)).2 ?_;have O:=aaQ d hb;obtain⟨p,j,rfl⟩:=aaP.1 hb;have hB:abb n es (cQ n es p)∈vq n es:=by grind[aaP]
 have g:=aaQ f hB;have sub:(abb n a (cQ n a p)).Sublist (abb n es (cQ n es p)):=by
  have e:abb n a (cQ n a p)=(a.filter fun q=>decide (cQ n es q=cQ n es p)).filter fun q=>decide (cQ n a q=cQ n a p):=by
   rw[aeP];refine EH fun q l=>?_;by_cases c:cQ n a q=cQ n a p
   .rw[qL7 c,qL7 (by grind[key_mono])];rfl
   .rw[WA c];rfl
  rw[e];exact EP.trans (hs.filter _)
 have hf:=(g.flat).1 (h.2 _ hB);refine O.flat.2 ?_;rcases hf with q|q
 .exact(by grind[List.Sublist.length_le])
 .refine .inr (q.less (fun v w k=>?_) (fun v w k=>?_))
  .rw[vD g.1.GD];exact((vD O.1.GD).1 k).imp (fun x=>sub.subset x) (fun x=>sub.subset x)
  .exact(vD O.1.GD).2 ((vD O.1.GD).1 k).symm
end
theorem perm_of{l m:II}(a:l.Nodup)(h2:m.Nodup)(h:∀x,x∈l↔x∈m):l.Perm m:=by grind[List.perm_ext_iff_of_nodup]
def abE(rows:AM)(v:Nat):II:=(rows.getD v []).map (·.toNat)
section
variable{n:Nat}{es fs:List Pr}{π:Nat->Nat}
theorem rowU_mem(hR:aV n es){v w:Nat}:w∈abE (Zh n es) v↔Jp es v w:=by
 unfold abE;rw[Gw];constructor
 .rintro⟨x,a,rfl⟩;obtain⟨w,rfl,_⟩:=Ru hR a;exact(by grind[EW])
 .intro h;exact⟨(w:Int),(EW hR v w).2 h,Ma⟩
def rowU_nd(hR:aV n es)(hA:D3 es)(v:Nat):(abE (Zh n es) v).Nodup:=by unfold abE;rw[jf,DF];refine(KW es hR hA v).imp_of_mem fun{x y} b c h=>?_;obtain⟨a,rfl,_⟩:=Ru hR b;omega
variable(I:H9 n es fs π)(hA:D3 es)(hB:D3 fs)
include I hA hB
end
section
variable{es fs:List Pr}{π:Nat->Nat}(I:H9 200 es fs π)(hA:D3 es)(hB:D3 fs)
include I hA hB
end
section
attribute [local irreducible] Kp MQ lU KO1 KO KN KX KE VK Kl ZJ TC aab
section
variable{n:Nat}{es:List Pr}{s:Nat}{L:RZ}(hr:aV n es)(R:RA n es s L)(hc:∀p∈es,Closed L p)
include hr R hc
end
section
variable{n:Nat}{es:List Pr}(hR:aV n es)(hA:D3 es)
include hR hA
end
section
variable{es:List Pr}(hR:aV 200 es)(hA:D3 es){cs:II}(hc:∀c∈cs,c<200/\((Zh 200 es).getD c []).length≠2)
include hR hA hc
end
structure UpK (L L':xLP) (a b v:Nat):Prop where
 r1:aV 200 L
 r2:aV 200 L'
 a1:D3 L
 a2:D3 L'
 ab:Jp L a b
 iso:∀w,¬Jp L v w
 up:∀x y,Jp L' x y↔upA (Jp L) a b v x y
 len:L'.length=L.length+1
section
variable{L L':List Pr}{a b v:Nat}(U:UpK L L' a b v)
include U
end
attribute [local instance] Classical.propDecidable
section
variable{n:Nat}{E:Nat->II}(hE:V7 n E){H:Nat->Nat->Prop}{F:Cs}{a b:Nat}{inn:II}
include hE
end
structure KeyK (es:xLP) (E:Nat) (ks:xLP):Prop where
 e3:3<=E
 e4:E<=4
 deg:∀c∈aad (Zh 200 es),((Zh 200 es).getD c []).length=E
 two:∀v w,Jp es v w->v∉aad (Zh 200 es)->((Zh 200 es).getD v []).length=2
 all:aaU (Zh 200 es) (aad (Zh 200 es))=2*es.length
 nd:ks.Nodup
 len:(aaj (Zh 200 es) (aad (Zh 200 es))).length=2*ks.length
 n9:9<=ks.length
 w2:∀k∈ks,aaI (Zh 200 es) (aad (Zh 200 es)) k=2
 ends:∀k∈ks,∃a b,a∈aad (Zh 200 es)/\b∈aad (Zh 200 es)/\a≠b/\k=GW a b
section
variable{es:List Pr}(hr:bX ⟨((200:Nat):Int),es⟩){E:Nat}{ks:List Pr}(K:KeyK es E ks)
include hr K
end
section
variable{n:Nat}{c:II}(nd:c.Nodup)(lt:∀v∈c,v<n)
include nd lt
end
end
section
variable{es:List Pr}{s t:Nat}{c:II}
end
section
variable{n:Nat}{es left:List Pr}{th:II}(hr:bX ⟨(n:Int),es⟩)(T2:zW n es)
include hr T2
end
section
variable{n:Nat}{es left:List Pr}{th:II}(hr:bX ⟨(n:Int),es⟩)
include hr
end
section
variable{n:Nat}{es:List Pr}(hr:bX ⟨(n:Int),es⟩)(T2:zW n es)
include hr T2
end
theorem RL.remK{u:vV}{x:RZ}:∀{l:II}{h:aai},RL RP h u x->(∀b∈l,blk u≠Z b)->RL RP (rem l h) u x
 |[],_,r,_=>r
 |a::l,h,r,hb=>(RL.remK r pw).killI (hb a Ma)
section
variable{r hq:aai}{X n:Nat}{xv tv lv:vV}{us:List vV}{rows:AM}{th:II}{left:List Pr}
end
section
attribute [local irreducible] Jz JL vq cQ
variable {G:GM} {n:Nat}
def adD{α:Type}:∀(l:List α)(i j:Nat),j<i->((l.eraseIdx i).eraseIdx j).Sublist (l.eraseIdx j)
 |[],i,j,_=>by simp
 |a::l,i+1,0,_=>by rw[WL,qL215,qL215];exact agP l i
 |a::l,i+1,j+1,h=>by rw[WL,WL,WL];exact(adD l i j NH).cons₂ a
def aes{n:Nat}:∀(f i:Nat)(l:xLP),¬aak n l->(∀j,j<i->j<l.length->aak n (l.eraseIdx j))->l.length<=i+f->(aeH n f i l).Sublist l/\¬aak n (aeH n f i l)/\∀j,j<(aeH n f i l).length->aak n ((aeH n f i l).eraseIdx j)
 |0,i,l,h,a,d=>⟨afK _,h,fun j q=>a j (by have:j<l.length:=q;omega) q⟩
 |f+1,i,l,h,a,d=>by
  rw[aeH];by_cases c:i<l.length
  rotate_left
  .rw[abe c];exact⟨afK _,h,fun j q=>a j NH q⟩
  rw[Z6 c];by_cases p:aak n (l.eraseIdx i)
  .rw[Z6 p];exact aes f (i+1) l h (fun j q b=>by
    by_cases e:j=i
    .rw[e];exact p
    .exact a j NH b) NH
  .rw[abe p];have g:(l.eraseIdx i).length=l.length-1:=by rw[TN,Z6 c]
   obtain⟨k,h2,h3⟩:=aes f i (l.eraseIdx i) p (fun j q b=>acb (adD l i j q) (a j q NH)) NH;exact⟨k.trans (agP l i),h2,h3⟩
def fnd_some(h:¬aak G.n.toNat G.es):(abv G).Sublist G.es/\¬aak G.n.toNat (abv G)/\∀j,j<(abv G).length->aak G.n.toNat ((abv G).eraseIdx j):=by rw[abv,abe h];exact aes _ 0 _ h (fun j q=>absurd q (adQ _)) NH
def fnd_none(h:aak G.n.toNat G.es):abv G=[]:=by rw[abv,Z6 h]
def ahu(a:bX ⟨(n:Int),[]⟩):aak n []:=⟨a,fun b hb=>by obtain⟨p,c,-⟩:=aaP.1 hb;cases c⟩
def fnd_nil(a:bX G):abv G=[]↔aak G.n.toNat G.es:=by
 refine⟨fun h=>uV fun q=>?_,fnd_none⟩;obtain⟨c,h2,-⟩:=fnd_some q;rw[h]at h2;have b:=a.n0;have e:G=⟨((G.n.toNat:Nat):Int),G.es⟩:=by obtain⟨n,es⟩:=G;simp only at b ⊢;rw[Int.toNat_of_nonneg b]
 rw[e]at a;exact h2 (ahu (a.sub (List.nil_sublist _)))
end
section
attribute [local instance] Classical.propDecidable
attribute [local irreducible] Jz JL vq cQ aaN
structure TwF (K:Int) (N:Nat) (l:xLP):Prop where
 r:bX ⟨(N:Int),l⟩
 kind:aaz l=K
 less:∀i,i<l.length->aak N (l.eraseIdx i)
section
variable{K:Int}{N:Nat}{l:List Pr}(T:TwF K N l)(hK:K≠0)
include T hK
end
end
section
attribute [local instance] Classical.propDecidable
attribute [local irreducible] Jz JL vq cQ
variable {b:List Pr} {n:Nat}
def afQ(a:bX ⟨(n:Int),b⟩)(h:b.length<9):XU n (eN n b):=by have hR:aV (n+3) b:=a.GD.up NH;have R:=MG hR a.q9;have lt:∀v w,w∈eN (n+3) b v->w<n+3:=fun v w q=>R.lt w v (R.sy v w q);refine(acv a.GD (zd n 3)).1 (few_plan (n:=n+3) NH _ (fun v w=>w∈eN (n+3) b v) rfl ?_ lt R.sy R.ir);have c:=(afa (fun v=>(lst (n+3) (fun v w=>w∈eN (n+3) b v) v).length) (fun v=>(eN (n+3) b v).length) (rG (n+3)) fun v _=>tf ((aej lt R.sy R.ir).nd v) fun w hw=>(aaD lt).1 hw).1;rw[<-Vq (n+3) (eN (n+3) b),Ud R a.q9.nodup hR fun v w=>vD hR]at c;unfold szA;simp only at c;omega
def aem(O:aeo n b):aak n b↔XU n (eN n b):=by rw[abc O,O.flat];exact⟨fun h=>h.elim (afQ O.1) id,.inr⟩
section
variable{l:List Pr}(k:YG ((200:Nat):Int) l)
include k
variable(no2:∀u:Nat,u<200->(endsK l (u:Int)).length≠2)
include no2
end
theorem ajZ{l:II}{y:Nat}(nd:l.Nodup)(h:∀w,w∈l↔w=y):l=[y]:=by have a:l.Perm [y]:=pw;grind[List.perm_singleton]
def ai5(x y v:Nat):II:=if v=x then[y]else if v=y then[x]else[]
theorem mem_oneR{x y v w:Nat}(ne:x≠y):w∈ai5 x y v↔(v=x/\w=y)\/(v=y/\w=x):=by grind[ai5]
theorem ajn{n x y:Nat}(a:x<n)(c:y<n)(ne:x≠y):V7 n (ai5 x y):=by
 refine⟨fun v=>?_,fun v w h=>?_,fun v w h=>?_,fun v h=>?_⟩
 all_goals grind[ai5]
theorem ahx{n x y:Nat}(d:x<n)(g:y<n)(ne:x≠y):Flat n (ai5 x y):=by
 have P:=(agx (n:=n+3) (A:=fun _ _=>False) NH fun _ _ q=>q).aac (v:=x) (a:=y) (fun _ q=>q) NH NH ne;obtain⟨R,r,f,m⟩:=P;have e:R=ai5 x y:=by
  funext v;unfold ai5;by_cases c:v=x
  .subst c;rw[Z6 rfl];exact ajZ (r.nd v) fun w=>by grind
  rw[abe c];by_cases h2:v=y
  .subst h2;rw[Z6 rfl];exact ajZ (r.nd v) fun w=>by grind
  rw[abe h2];exact ff.2 pw
 grind[ajn,adV]
theorem V7.upto{n m:Nat}{r:Nat->II}(R:V7 m r)(h:m<=n):V7 n r:=⟨R.nd,fun v w q=>ahe (R.lt v w q) h,R.sy,R.ir⟩
theorem aiX{m:Nat}{r:Nat->II}(R:V7 m r):∀k:Nat,Flat m r->Flat (m+k) r
 |0,f=>f
 |k+1,f=>(adV (by grind[V7.upto])).2 (aiX R k f)
noncomputable def ag2(n:Nat)(b:xLP)(v:Nat):RZ:=
 if b.length=1 then(if(v:Int)=(b.headD (0,0)).1 then[(b.headD (0,0)).2]else if(v:Int)=(b.headD (0,0)).2 then[(b.headD (0,0)).1]else[])
 else if v∈aag n b then(((ajk (aag n b).length (aat n b)).getD []).getD (abD n b (v:Int)) []).map fun j=>(((aag n b).getD j.toNat 0:Nat):Int)else[]
noncomputable def acr(n:Nat)(b:xLP)(v:Nat):II:=(ag2 n b v).map Int.toNat
structure ah0 (n:Nat) (b:xLP):Prop where
 Rl:V7 n (acr n b)
 flat:Flat n (acr n b)
 mem:∀v w,w∈acr n b v↔Jp b v w
 nat:∀v,ag2 n b v=(acr n b v).map fun(w:Nat)=>(w:Int)
section
variable{n:Nat}{b:List Pr}(O:aeo n b)
include O
theorem aeo.rowOne(a:b.length=1):ah0 n b:=by
 have hR:=O.1.GD;obtain⟨p,rfl⟩:=abW.1 a;obtain⟨a1,a2,d⟩:=hR p Ma;obtain⟨f,c⟩:=p;obtain⟨x,rfl⟩:=Sb a1;obtain⟨y,rfl⟩:=Sb (show 0<=c by omega);have ne:x≠y:=NH;have e:acr n [((x:Int),(y:Int))]=ai5 x y:=by grind[acr,ag2,ai5]
 refine⟨by grind[ajn],by grind[ahx],fun v w=>?_,fun v=>?_⟩
 .rw[e,mem_oneR ne];grind[Jp]
 .unfold acr ag2;by_cases c1:(v:Int)=(x:Int)
  .simp[c1]
  .all_goals grind
theorem aeo.rowMany(h2:2<=b.length){rs:AM}(o:ajk (aag n b).length (aat n b)=Z rs)(G:Av (aag n b).length (aat n b) rs)(hf:Flat (aag n b).length (Xl rs)):ah0 n b:=by
 have hR:=O.1.GD;have i:=ad6 O.1;have a:=i.GD;have c:=G.jD a i.q9;have g:(aag n b).length<=n:=by have:=Vn (fun v=>b.any fun p=>aO p ((v:Nat):Int)) (rG n);rw[iU]at this;exact this
 have N:=(ren_V n b).flip;have d:=c.upto g;have l:Flat n (Xl rs):=by grind[aiX,Nat.add_sub_cancel']
 have m:∀j,j<(aag n b).length->ofV n b j=(aag n b).getD j 0:=by grind[ofV,acw]
 have row:∀v,v∈aag n b->ag2 n b v=(rs.getD (abD n b (v:Int)) []).map fun j=>(((aag n b).getD j.toNat 0:Nat):Int):=by grind[ag2]
 have k:∀v,v∉aag n b->ag2 n b v=[]:=by grind[ag2]
 have e:acr n b=uH n (ofV n b) (toV n b) (Xl rs):=by
  funext v;unfold acr;by_cases f:v∈aag n b
  .have h:=(aeT.1 f).1;rw[row v f];unfold uH;rw[Z6 h,(toV_idx (b:=b) f).1,Xl,FD,FD];grind[List.map_congr_left,Av.nat,Int.toNat_natCast]
  grind[uH,abk,Xl,Av.len]
 refine⟨by grind[aef],by grind[pd],fun v w=>?_,fun v=>?_⟩
 .rw[e,uX N d,G.mem a,abR hR];grind[abk,Jp.lt,toV_lt]
 .unfold acr;by_cases f:v∈aag n b
  .rw[row v f];simp
  grind
end
theorem ahz{n:Nat}{es:xLP}(j:bX ⟨(n:Int),es⟩){k:Int}(hb:abb n es k∈vq n es){r:Nat->II}(hA:∀v w,w∈r v->Jp es v w/\cQ n es (GW v w)≠k){x y:Nat}(p:∃w,Jp (abb n es k) x w)(q:∃w,Jp (abb n es k) y w)(ne:x≠y)(c:Cr r x y):False:=by
 have hR:=j.GD;have O:=aaQ j hb;obtain⟨G,f⟩:=p;obtain⟨H,g⟩:=q;obtain⟨z,z',rfl,A,I,B⟩:=agI (S:=fun u=>u=x) (O.bp f g) rfl (fj ne);obtain⟨l,nd,⟨t,m⟩,⟨s,J⟩,o,-⟩:=uF c;cases t with
 |nil=>grind
 |cons a t=>
  have K:=hA _ _ (o 0 z a (by rw[m];rfl) (by rw[m];rfl));have L:z∉a::t:=pw;have walk:∀(i u:Nat),(a::t)[i]?=Z u->Cn (wo z) es a u:=fun i=>by
   induction i with
   |zero=>intro u d;injection d with d;subst d;exact .refl pw
   |succ i C=>intro u d;have D:=(Ny.1 d).1;have hi:i<(a::t).length:=NH;have E:=C _ (BS hi);refine .step E (hA _ _ (o (i+1) _ u pw pw)).1 pw
  have h:y∈a::t:=pw;obtain⟨i,hi⟩:=yM.1 h;have c1:=walk i y hi;have c2:Cn (wo z) es z' y:=Cn.mono (fun e F=>(aaw.1 F).1) (agf (fun u d=>iO fun e=>by grind) B);grind[abM,dR,Cn.trans,Cn.symm]
noncomputable def ag3(n:Nat)(bs:List xLP):AM:=(rG n).map fun v=>bs.flatMap fun b=>ag2 n b v
theorem aic(n:Nat)(bs:List xLP):(ag3 n bs).length=n:=by simp[ag3]
theorem aiB{n:Nat}{bs:List xLP}{v:Nat}(a:v<n):(ag3 n bs).getD v []=bs.flatMap fun b=>ag2 n b v:=by grind[ag3]
theorem aj0{n:Nat}{es:xLP}(a:bX ⟨(n:Int),es⟩):∀(pre:RZ),pre.Nodup->(∀k∈pre,abb n es k∈vq n es/\ah0 n (abb n es k))->
  V7 n (fun v=>pre.flatMap fun k=>acr n (abb n es k) v)/\Flat n (fun v=>pre.flatMap fun k=>acr n (abb n es k) v)/\∀v w,w∈(pre.flatMap fun k=>acr n (abb n es k) v)↔∃k∈pre,Jp (abb n es k) v w:=by
 have hR:=a.GD;have key:∀(m:Nat)(pre:RZ),pre.length=m->pre.Nodup->(∀k∈pre,abb n es k∈vq n es/\ah0 n (abb n es k))->
  V7 n (fun v=>pre.flatMap fun k=>acr n (abb n es k) v)/\Flat n (fun v=>pre.flatMap fun k=>acr n (abb n es k) v)/\∀v w,w∈(pre.flatMap fun k=>acr n (abb n es k) v)↔∃k∈pre,Jp (abb n es k) v w:=by
  intro m
  induction m with
  |zero=>
   intro pre g _ _;obtain rfl:=QD g;have P:=agx (n:=n+3) (A:=fun _ _=>False) NH fun _ _ q=>q;obtain⟨R,r,f,m⟩:=P;have e:R=fun v=>([]:RZ).flatMap fun k=>acr n (abb n es k) v:=by funext v;exact ff.2 pw
   rw[e]at f;have i:∀N,V7 N (fun v=>([]:RZ).flatMap fun k=>acr n (abb n es k) v):=fun N=>⟨fun v=>by simp,pw,pw,pw⟩;exact⟨i n,(by grind[adV]),pw⟩
  |succ m j=>
   intro pre C nd h;obtain⟨pre,k,rfl⟩:∃l k,pre=l++[k]:=⟨pre.dropLast,pre.getLast pw,(Fu _).symm⟩;obtain⟨n1,-,n3⟩:=aaf.1 nd;obtain⟨o,p,d⟩:=j pre pw n1 pw;obtain⟨hb,B⟩:=h k Ma;have H:abC n (fun v=>pre.flatMap fun k=>acr n (abb n es k) v) (acr n (abb n es k)) fun z=>∃w,Jp (abb n es k) z w:=by refine⟨o,B.Rl,(by grind[ah0.mem]),fun x y s t ne c=>?_⟩;refine ahz a hb (fun v w q=>?_) s t ne c;obtain⟨D,u,q⟩:=(d v w).1 q;grind[abM]
   have e:(fun v=>(pre++[k]).flatMap fun k=>acr n (abb n es k) v)=aar (fun v=>pre.flatMap fun k=>acr n (abb n es k) v) (acr n (abb n es k)):=by grind[aar]
   rw[e];refine⟨H.Rl,H.flat p B.flat,fun v w=>?_⟩;have:((pre++[k]).flatMap fun k=>acr n (abb n es k) v)=aar (fun v=>pre.flatMap fun k=>acr n (abb n es k) v) (acr n (abb n es k)) v:=by simp[aar]
   rw[this,aaT,d,B.mem];grind
 grind
theorem cert_ok{n:Nat}{es:xLP}(c:bX ⟨(n:Int),es⟩)(h:∀b∈vq n es,ah0 n b):Av n es (ag3 n (vq n es))/\Flat n (Xl (ag3 n (vq n es))):=by
 have hR:=c.GD;obtain⟨a,f⟩:=lQ (cQ n es) _ es rfl;have eb:vq n es=(CY (cQ n es) es).map fun k=>abb n es k:=aaB n es;have g:∀k∈CY (cQ n es) es,abb n es k∈vq n es/\ah0 n (abb n es k):=pw;obtain⟨e,m,i⟩:=aj0 c _ a g;have row:∀v,(vq n es).flatMap (fun b=>ag2 n b v)=((CY (cQ n es) es).flatMap fun k=>acr n (abb n es k) v).map fun(w:Nat)=>(w:Int):=fun v=>by
  rw[eb,List.flatMap_map,List.map_flatMap];have o:∀L:RZ,(∀k∈L,ag2 n (abb n es k) v=(acr n (abb n es k) v).map fun(w:Nat)=>(w:Int))->(L.flatMap fun k=>ag2 n (abb n es k) v)=L.flatMap fun k=>(acr n (abb n es k) v).map fun(w:Nat)=>(w:Int):=fun L=>by
   induction L<;>grind
  grind[ah0.nat]
 have p:Xl (ag3 n (vq n es))=fun v=>(CY (cQ n es) es).flatMap fun k=>acr n (abb n es k) v:=by
  funext v;unfold Xl;by_cases d:v<n
  .rw[aiB d,row v,FD];exact(vY pw).trans (aeZ _)
  .rw[xD,V3 (by grind[aic])];symm;refine ff.2 fun w hw=>?_;have:=e.lt v w hw;omega
 have mem:∀v w,w∈((CY (cQ n es) es).flatMap fun k=>acr n (abb n es k) v)↔Jp es v w:=fun v w=>by
  rw[i];constructor
  .grind[abM]
  .intro q;exact⟨cQ n es (GW v w),(by grind[H4]),(by grind[abM])⟩
 refine⟨⟨aic _ _,fun v d=>?_⟩,pw⟩;rw[aiB d,row v];have j:((CY (cQ n es) es).flatMap fun k=>acr n (abb n es k) v).Perm (abE (Zh n es) v):=perm_of (e.nd v) (rowU_nd hR c.q9 v) (by grind[rowU_mem]);have l:=j.map fun(w:Nat)=>(w:Int);refine l.trans (List.Perm.of_eq ?_);unfold abE;rw[FD];refine(vY fun x r=>?_).trans (aeZ _);grind[Ru]
end
end Go.Fw
