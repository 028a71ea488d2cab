/- A text. -/
import Derived.Test.YtkccdnmaaelbiaaGreatFwEmb23
set_option linter.all false
set_option maxRecDepth 99999
set_option maxHeartbeats 9999999
namespace Go.Fw
section
attribute [local instance] Classical.propDecidable
variable {a b c k v:Nat}
def aay (h:v<k):nx (List.range k) v=if v+1=k then 0 else v+1:=by
 have nd:=@LH k;split
 .rename_i e
  cases v with
  |zero=>subst e;rfl
  |succ v=>
   have a:List.range k=0::((List.range v).map (·+1)++[v+1]):=by rw[<-e,List.range_succ_eq_map,Uz,Yi];rfl
   rw[a]at nd ⊢;refine vB fun q=>?_;have b:0::((List.range v).map (·+1)++[v+1])=(0::(List.range v).map (·+1))++[v+1]:=rfl;rw[b,Z6]at nd;exact nd.2.2 _ q _ Ma rfl
 .exact(aZ nd (Bc h) (Bc NH)).1
def sw (k v:Nat):Nat:=if v+1=k then 0 else v+1
def tw (k v:Nat):Nat:=if v=0 then k-1 else v-1
def dwR (k v:Nat):II:=if v<k then[sw k v,k,tw k v,k+1]else if v=k then List.range k else if v=k+1 then(List.range k).reverse else[]
def nx4 {a b c d:Nat} (nd:[a,b,c,d].Nodup):nx [a,b,c,d] a=b/\nx [a,b,c,d] b=c/\nx [a,b,c,d] c=d/\nx [a,b,c,d] d=a:=by
 refine⟨(aZ nd (i:=0) rfl rfl).1,(aZ nd (i:=1) rfl rfl).1,(aZ nd (i:=2) rfl rfl).1,?_⟩;refine vB (p:=[b,c]) ?_;simp at nd ⊢;omega
def nx3 (nd:[a,b,c].Nodup):nx [a,b,c] a=b/\nx [a,b,c] b=c/\nx [a,b,c] c=a:=by
 refine⟨(aZ nd (i:=0) rfl rfl).1,(aZ nd (i:=1) rfl rfl).1,?_⟩;refine vB (p:=[b]) ?_;simp at nd ⊢;omega
def aab (h3:3<=k) (h:v<k):sw k v<k/\tw k v<k/\tw k (sw k v)=v/\sw k (tw k v)=v/\sw k v≠v/\tw k v≠v/\sw k v≠tw k v:=by
 unfold sw tw
 split<;>split<;>(try split)<;>(try split)<;>omega
end
end Go.Fw
namespace Go.Fw
attribute [local instance] Classical.propDecidable
def dF1 (k v:Nat):II:=[v,sw k v,k+1]
def dF2 (k v:Nat):II:=[sw k v,v,k]
def dwF (k:Nat):Cs:=(List.range k).map (dF1 k)++(List.range k).map (dF2 k)
def dfd (k x y:Nat):II:=if x<k then(if y=sw k x then dF1 k x else if y=k then dF2 k x else if y=tw k x then dF2 k (tw k x)else dF1 k (tw k x))else if x=k then dF2 k (tw k y)else dF1 k y
section
variable {k : Nat}
def aaZ {v:Nat} (h3:3<=k) (h:v<k):nx (dwR k v) (sw k v)=k/\nx (dwR k v) k=tw k v/\nx (dwR k v) (tw k v)=k+1/\nx (dwR k v) (k+1)=sw k v:=by
 obtain⟨a,b,_,_,_,_,c⟩:=aab h3 h;have nd:[sw k v,k,tw k v,k+1].Nodup:=by simp;omega
 unfold dwR;rw[if_pos h];exact nx4 nd
def dw_k {v:Nat} (h:v<k):nx (dwR k k) v=sw k v:=by
 unfold dwR;rw[if_neg (aaT k),if_pos rfl,aay h];rfl
def dw_k1 {v:Nat} (h3:3<=k) (h:v<k):nx (dwR k (k+1)) v=tw k v:=by
 obtain⟨_,b,_,d,_⟩:=aab h3 h;have e:dwR k (k+1)=(List.range k).reverse:=by unfold dwR;rw[if_neg NH,if_neg NH,if_pos rfl]
 rw[e];have:=c7 (@LH k) (y:=tw k v) (Og.2 b);rw[aay b]at this
 have a:(if tw k v+1=k then 0 else tw k v+1)=v:=d
 rw[a]at this;exact this
def aaf {v:Nat} (h3:3<=k) (h:v<k):(nx (dF1 k v) v=sw k v/\nx (dF1 k v) (sw k v)=k+1/\nx (dF1 k v) (k+1)=v/\(dF1 k v).Nodup)/\(nx (dF2 k v) (sw k v)=v/\nx (dF2 k v) v=k/\nx (dF2 k v) k=sw k v/\(dF2 k v).Nodup):=by
 obtain⟨a,b,_,_,e,_⟩:=aab h3 h;have n1:[v,sw k v,k+1].Nodup:=by simp;omega
 have c:[sw k v,v,k].Nodup:=by simp;omega
 obtain⟨d,f,g⟩:=nx3 n1;obtain⟨i,j,l⟩:=nx3 c;exact⟨⟨d,f,g,n1⟩,i,j,l,c⟩
def aad {f:II}:f∈dwF k↔∃v,v<k/\(f=dF1 k v\/f=dF2 k v):=by
 unfold dwF;rw[Sb,Eh,Eh];constructor
 .rintro (⟨v, h, rfl⟩ | ⟨v, h, rfl⟩)
  .exact⟨v,Og.1 h,.inl rfl⟩
  .exact⟨v,Og.1 h,.inr rfl⟩
 .rintro ⟨v, h, rfl | rfl⟩
  .exact .inl ⟨v,Og.2 h,rfl⟩
  .exact .inr ⟨v,Og.2 h,rfl⟩
def aaU (h3:3<=k) {f:II} (hf:f∈dwF k) {x:Nat} (g:x∈f):f=dfd k x (nx f x):=by
 obtain⟨v,h,rfl|rfl⟩:=aad.1 hf
 .obtain ⟨⟨i, j, l, _⟩, _⟩ := aaf h3 h
  obtain⟨a,b,c,d,e,o,p⟩:=aab h3 h;obtain⟨a',q,c',r,e',m,n⟩:=aab h3 a;simp only[dF1,WA,Db,or_false]at g;rcases g with rfl|rfl|rfl
  .rw[i];unfold dfd;rw[if_pos h,if_pos rfl]
  .rw[j];unfold dfd;rw[if_pos a,if_neg NH,if_neg NH,if_neg NH,c]
  .rw[l];unfold dfd;rw[if_neg NH,if_neg NH]
 .obtain ⟨_, i, j, l, _⟩ := aaf h3 h
  obtain⟨a,b,c,d,e,o,p⟩:=aab h3 h;obtain⟨a',q,c',r,e',m,n⟩:=aab h3 a;simp only[dF2,WA,Db,or_false]at g;rcases g with rfl|rfl|rfl
  .rw[i];unfold dfd;rw[if_pos a,if_neg NH,if_neg NH,if_pos c.symm,c]
  .rw[j];unfold dfd;rw[if_pos h,if_neg NH,if_pos rfl]
  .rw[l];unfold dfd;rw[if_neg NH,if_pos rfl,c]
end
end Go.Fw
namespace Go.Fw
attribute [local instance] Classical.propDecidable
section
variable {k : Nat}
def aac (h3:3<=k) {v w:Nat}:w∈dwR k v↔(v<k/\(w=sw k v\/w=k\/w=tw k v\/w=k+1))\/((v=k\/v=k+1)/\w<k):=by
 unfold dwR;by_cases c:v<k
 .rw[if_pos c];simp[c];omega
 rw[if_neg c];by_cases c2:v=k
 .rw[if_pos c2];simp[c2]
 rw[if_neg c2];by_cases a:v=k+1
 .rw[if_pos a];simp[a];omega
 .rw[if_neg a];simp[c,c2,a]
def aaA (h3:3<=k):V7 (k+2) (dwR k):=by
 refine⟨fun v=>?_,fun v w h=>?_,fun v w h=>?_,fun v h=>?_⟩
 .unfold dwR
  split
  .rename_i h
   have:=aab h3 h;simp;omega
  .split
   .exact LH
   .split
    .exact Gv LH
    .simp
 .have:=(aac h3).1 h;omega
 .rcases (aac h3).1 h with ⟨a, b⟩ | ⟨a, b⟩
  .have q := aab h3 a
   rw[aac h3];rcases b with e|e|e|e<;>rw[e]
   .exact .inl ⟨q.1,.inr (.inr (.inl q.2.2.1.symm))⟩
   .exact .inr ⟨.inl rfl,a⟩
   .exact .inl ⟨q.2.1,.inl q.2.2.2.1.symm⟩
   .exact .inr ⟨.inr rfl,a⟩
  .rw [aac h3]
   exact .inl ⟨b,NH⟩
 .rcases (aac h3).1 h with ⟨a, b⟩ | ⟨a, b⟩
  .have q:=aab h3 a;omega
  .omega
def dw_fo (h3:3<=k):FO (dwR k) (dwF k):=by
 refine⟨fun f hf=>?_,fun f hf=>?_,fun f hf x i=>?_,fun f hf x i=>?_,fun x y r=>?_,fun f hf g hg v s h2 e=>?_,?_⟩
 .obtain ⟨v, h, rfl | rfl⟩ := aad.1 hf
  .exact(aaf h3 h).1.2.2.2
  .exact(aaf h3 h).2.2.2.2
 .obtain⟨v,h,rfl|rfl⟩:=aad.1 hf<;>simp[dF1,dF2]
 .obtain ⟨v, h, rfl | rfl⟩ := aad.1 hf
  .obtain ⟨⟨j, l, m, _⟩, _⟩ := aaf h3 h
   obtain⟨a,b,c,d,e,o,p⟩:=aab h3 h;simp only[dF1,WA,Db,or_false]at i;rcases i with rfl|rfl|rfl
   .rw[j,aac h3];exact .inl ⟨h,.inl rfl⟩
   .rw[l,aac h3];exact .inl ⟨a,NH⟩
   .rw[m,aac h3];exact .inr ⟨.inr rfl,h⟩
  .obtain ⟨_, j, l, m, _⟩ := aaf h3 h
   obtain⟨a,b,c,d,e,o,p⟩:=aab h3 h;simp only[dF2,WA,Db,or_false]at i;rcases i with rfl|rfl|rfl
   .rw[j,aac h3];exact .inl ⟨a,.inr (.inr (.inl c.symm))⟩
   .rw[l,aac h3];exact .inl ⟨h,NH⟩
   .rw[m,aac h3];exact .inr ⟨.inl rfl,a⟩
 .obtain ⟨v, h, rfl | rfl⟩ := aad.1 hf
  .obtain ⟨⟨j, l, m, _⟩, _⟩ := aaf h3 h
   obtain⟨a,b,c,d,e,o,p⟩:=aab h3 h;simp only[dF1,WA,Db,or_false]at i;rcases i with rfl|rfl|rfl
   .rw[j,l];have:=(aaZ h3 a).2.2.1;rwa[c]at this
   .rw[l,m,dw_k1 h3 a,c]
   .rw[m,j];exact(aaZ h3 h).2.2.2
  .obtain ⟨_, j, l, m, _⟩ := aaf h3 h
   obtain⟨a,b,c,d,e,o,p⟩:=aab h3 h;simp only[dF2,WA,Db,or_false]at i;rcases i with rfl|rfl|rfl
   .rw[j,l];exact(aaZ h3 h).1
   .rw[l,m,dw_k h]
   .rw[m,j];have:=(aaZ h3 a).2.1;rwa[c]at this
 .rcases (aac h3).1 r with ⟨a, b⟩ | ⟨a, b⟩
  .have q := aab h3 a
   rcases b with e|e|e|e<;>rw[e]
   .exact⟨dF1 k x,aad.2 ⟨x,a,.inl rfl⟩,by simp[dF1],(aaf h3 a).1.1⟩
   .exact⟨dF2 k x,aad.2 ⟨x,a,.inr rfl⟩,by simp[dF2],(aaf h3 a).2.2.1⟩
   .have := (aaf h3 q.2.1).2.1
    rw[q.2.2.2.1]at this;exact⟨dF2 k (tw k x),aad.2 ⟨_,q.2.1,.inr rfl⟩,by simp[dF2,q.2.2.2.1],this⟩
   .have := (aaf h3 q.2.1).1.2.1
    rw[q.2.2.2.1]at this;exact⟨dF1 k (tw k x),aad.2 ⟨_,q.2.1,.inl rfl⟩,by simp[dF1,q.2.2.2.1],this⟩
  .have q := aab h3 b
   rcases a with e|e
   .rw [e]
    have:=(aaf h3 q.2.1).2.2.2.1;rw[q.2.2.2.1]at this;exact⟨dF2 k (tw k y),aad.2 ⟨_,q.2.1,.inr rfl⟩,by simp[dF2],this⟩
   .rw [e]
    exact⟨dF1 k y,aad.2 ⟨y,b,.inl rfl⟩,by simp[dF1],(aaf h3 b).1.2.2.1⟩
 .rw[aaU h3 hf s,aaU h3 hg h2,e]
 .unfold dwF
  rw[Z6];refine⟨?_,?_,fun f hf g hg e=>?_⟩
  .rw [EU, vY]
   exact(EU.1 LH).imp fun n e=>n (by injection e)
  .rw [EU, vY]
   exact(EU.1 LH).imp fun n e=>n (by injection e with _ e;injection e)
  .obtain ⟨v, _, rfl⟩ := Eh.1 hf
   obtain⟨w,_,rfl⟩:=Eh.1 hg;injection e with _ e;injection e with _ e;injection e with e;omega
end
end Go.Fw
namespace Go.Fw
section
attribute [local instance] Classical.propDecidable
variable {k:Nat}
def aar {f:Nat->Nat} {c:Nat}:∀X:II,(∀x∈X,f x=c)->(X.map f).sum=c*X.length
 |[],_=>rfl
 |x::X,h=>by rw[QD,C4,aar X fun y a=>h y (kc _ a),h x iy,Ry,Nat.mul_succ];omega
def aa0 (h3:3<=k):vy (k+2) (dwR k) (dwF k):=by
 have R:=aaA h3;have d:∀v,v<k+2->Cr (dwR k) k v:=fun v a=>by
  by_cases c:v<k
  .exact Cr.one ((aac h3).2 (.inr ⟨.inl rfl,c⟩))
  by_cases c2:v=k
  .rw[c2];exact .refl _
  .have : v = k + 1 := NH
   rw[this];exact(Cr.one (r:=dwR k) (b:=0) ((aac h3).2 (.inr ⟨.inl rfl,NH⟩))).step ((aac h3).2 (.inl ⟨NH,NH⟩))
 have lt:∀{v},dwR k v≠[]->v<k+2:=fun h=>by obtain⟨x,f⟩:=WB h;exact R.lt _ _ f
 refine⟨R,dw_fo h3,fun v w a hw=>((d v (lt a)).symm R).trans (d w (lt hw)),?_,?_⟩
 .have g:(kV (k+2) (dwR k)).length=k+2:=by
   have:kV (k+2) (dwR k)=List.range (k+2):=KG.2 fun v a=>by
    have a:=Og.1 a
    refine decide_eq_true (Ce (x:=if v<k then k else 0) ((aac h3).2 ?_))
    split<;>omega
   rw[this,gK]
  have i:(dl (k+2) (dwR k)).length=6*k:=by
   rw[Vq,Uz,Uz,Yi,Yi,Zt,Zt,aar (c:=4) (List.range k) fun v a=>by unfold dwR;rw[if_pos (Og.1 a)];rfl];have j:(dwR k k).length=k:=by unfold dwR;rw[if_neg (aaT k),if_pos rfl,gK]
   have l:(dwR k (k+1)).length=k:=by unfold dwR;rw[if_neg NH,if_neg NH,if_pos rfl,Ah,gK]
   simp[j,l];omega
  have m:(dwF k).length=2*k:=by unfold dwF;simp;omega
  unfold iI;rw[g,i,m];omega
 .have : dF1 k 0 ∈ dwF k := aad.2 ⟨0, NH, .inl rfl⟩
  exact fun e=>by rw[e]at this;cases this
def aaI (h3:3<=k):XU (k+2) (dwR k):=⟨dwR k,aaA h3,(aa0 h3).flat,fun _ _=>Iff.rfl⟩
end
end Go.Fw
namespace Go.Fw
attribute [local instance] Classical.propDecidable
def jJ (R:Nat->II) (H:Nat->Nat->Prop) (v w x y:Nat):Prop:=
 (v=x/\w=y)\/(v=y/\w=x)\/∃a b,(a=v\/a=w)/\(b=x\/b=y)/\off R H a/\off R H b/\Cr (Mm R H) a b
section
variable {n : Nat} {R : Nat → List Nat} {H H' : Nat → Nat → Prop}
def IV (d:V7 n R) {v w a:Nat} (hw:w∈R v) (ha:a=v\/a=w) (c:off R H a):QI R H v w=(0,lo R H a,0):=by
 rcases ha with rfl|rfl
 .exact M6 c
 .rw[RX d hw];exact M6 c
def Uu (f:V7 n R) {v w x y:Nat} (hw:w∈R v) (i:y∈R x):QI R H v w=QI R H x y↔jJ R H v w x y:=by
 constructor
 .intro e
  have d:∀{v w:Nat},(∃a,(a=v\/a=w)/\off R H a)\/(¬off R H v/\¬off R H w):=fun{v w}=>by
   by_cases c1:off R H v
   .exact .inl ⟨v,.inl rfl,c1⟩
   by_cases c2:off R H w
   .exact .inl ⟨w,.inr rfl,c2⟩
   .exact .inr ⟨c1,c2⟩
  rcases d (v:=v) (w:=w)with⟨a,ha,h⟩|⟨c1,c2⟩
  .rw [IV f hw ha h] at e
   rcases d (v:=x) (w:=y)with⟨b,hb,g⟩|⟨j,k⟩
   .rw [IV f i hb g] at e
    have l:lo R H a=lo R H b:=by injection e with _ e;injection e
    exact .inr (.inr ⟨a,b,ha,hb,h,g,(fX f).1 l⟩)
   .rw [rj j k] at e
    have:=congrArg Prod.fst e;simp at this
  .rw [rj c1 c2] at e
   rcases d (v:=x) (w:=y)with⟨b,hb,g⟩|⟨j,k⟩
   .rw [IV f i hb g] at e
    have:=congrArg Prod.fst e;simp at this
   .rw [rj j k] at e
    injection e with _ e;injection e with l m;by_cases q:v=x
    .exact .inl ⟨q,NH⟩
    .exact .inr (.inl ⟨NH,NH⟩)
 .rintro (⟨rfl, rfl⟩ | ⟨rfl, rfl⟩ | ⟨a, b, ha, hb, h, g, c⟩)
  .rfl
  .exact RX f hw
  .rw[IV f hw ha h,IV f i hb g,(fX f).2 c]
def aah (c:∀x y,H x y->H' x y) {v:Nat} (h:off R H' v):off R H v:=fun w hw q=>h w hw (c _ _ q)
def uf (c:∀x y,H x y->H' x y) {v w:Nat} (h:w∈Mm R H' v):w∈Mm R H v:=by
 obtain⟨d,h2,h3⟩:=EM.1 h;exact EM.2 ⟨d,aah c h2,aah c h3⟩
theorem jJ.mono (d:∀x y,H x y->H' x y) {v w x y:Nat} (h:jJ R H' v w x y):jJ R H v w x y:=by
 rcases h with h|h|⟨a,b,ha,hb,e,f,c⟩
 .exact .inl h
 .exact .inr (.inl h)
 .exact .inr (.inr ⟨a,b,ha,hb,aah d e,aah d f,c.mono fun v w=>uf d⟩)
theorem jJ.symm (e:V7 n R) {v w x y:Nat} (h:jJ R H v w x y):jJ R H x y v w:=by
 rcases h with⟨d,h2⟩|⟨d,h2⟩|⟨a,b,ha,hb,f,g,c⟩
 .exact .inl ⟨d.symm,h2.symm⟩
 .exact .inr (.inl ⟨h2.symm,d.symm⟩)
 .exact .inr (.inr ⟨b,a,hb,ha,g,f,c.symm (QM e)⟩)
variable {a b : Nat} {inn : List Nat}
abbrev XZ (H:Nat->Nat->Prop) (a:Nat) (inn:II) (b:Nat):Nat->Nat->Prop:=fun x y=>H x y\/Ay a inn b x y
def OH {x y:Nat} (h:H x y):XZ H a inn b x y:=.inl h
theorem Ka.chain (W:Ka R H a inn b):∀(i x y:Nat),inn[0]?=some x->inn[i]?=some y->Cr (Mm R H) x y
 |0,x,y,c,h2=>by rw[c]at h2;injection h2 with h2;subst h2;exact .refl _
 |i+1,x,y,c,h2=>by
  have l:=(vT.1 h2).1;have d:inn[i]?=some (inn[i]'(by omega)):=BS NH
  have h:=W.chain i x _ c d;have g:∀(j z:Nat),inn[j]?=some z->(nr a inn b)[j+1]?=some z:=fun j z f=>by
   have k:=(vT.1 f).1;show(a::(inn++[b]))[j+1]?=some z;rw[U9,si k];exact f
  have e:=W.UQ (i+1) _ _ (g i _ d) (g (i+1) _ h2);exact h.step (EM.2 ⟨e.1,W.off _ (Gc d),W.off _ (Gc h2)⟩)
def Ka.QC (W:Ka R H a inn b) (d:V7 n R) (hs:∀v w,H v w->H w v) {v:Nat} (f:v∈inn):QI R H a ((inn++[b]).headD 0)=(0,lo R H v,0):=by
 cases hi:inn with
 |nil=>rw[hi]at f;cases f
 |cons c t=>
  have h:c∈inn:=by rw[hi];simp
  have e:((c::t++[b]):II).headD 0=c:=rfl;rw[e];have j:c∈R a:=by have:=(W.fst d hs).1;rw[hi]at this;exact this
  rw[IV d j (.inr rfl) (W.off c h)];obtain⟨i,g⟩:=qy.1 f;rw[(fX d).2 (W.chain i c v (by rw[hi];rfl) g)]
def Ka.PW (W:Ka R H a inn b) (c:V7 n R) (hs:∀v w,H v w->H w v) {x y:Nat} (h:Ay a inn b x y):QI R H x y=QI R H a ((inn++[b]).headD 0):=by
 have d:=W.wE c hs h;by_cases f:x∈inn
 .rw[W.QC c hs f];exact IV c d.1 (.inl rfl) (W.off x f)
 by_cases cy:y∈inn
 .rw[W.QC c hs cy];exact IV c d.1 (.inr rfl) (W.off y cy)
 have g:=dC h;have i:=dC (Ef h);have ne:x≠y:=fun e=>c.ir y (by rw[e]at d;exact d.1);have ab:=W.ab;rcases g with rfl|rfl|g
 .rw[W.Fp.1 h]
 .have e := d.1
  rcases i with rfl|rfl|i
  .rw[RX c e];exact congrArg (QI R H _) (W.Fp.1 (Ef h))
  .exact absurd rfl ne
  .exact absurd i cy
 .exact absurd g f
def yw (W:Ka R H a inn b) (j:V7 n R) {v:Nat}:off R (XZ H a inn b) v↔off R H v/\v∉inn:=by
 constructor
 .intro h
  refine⟨aah (fun _ _=>OH) h,fun k=>?_⟩;obtain⟨i,p,f,g⟩:=qm (a:=a) (b:=b) (.inr k);exact h p (j.sy _ _ (W.UQ i _ _ f g).1) (.inr (.inr ⟨i,f,g⟩))
 .rintro ⟨c, h2⟩ w hw (q | q)
  .exact c w hw q
  .rcases dC q with rfl | rfl | q
   .obtain⟨z,d,e⟩:=W.JX;exact c z d e
   .obtain⟨z,d,e⟩:=W.sN;exact c z d e
   .exact h2 q
def jJ.keep (W:Ka R H a inn b) (f:V7 n R) (hs:∀v w,H v w->H w v) {v w x y:Nat} (hw:w∈R v) (m:QI R H v w≠QI R H a ((inn++[b]).headD 0)) (h:jJ R H v w x y):jJ R (XZ H a inn b) v w x y:=by
 rcases h with h|h|⟨c,d,j,o,k,p,q⟩
 .exact .inl h
 .exact .inr (.inl h)
 have e:∀z,Cr (Mm R H) c z->z∉inn:=fun z i r=>m (by rw[IV f hw j k,W.QC f hs r,(fX f).2 i]);have main:∀z,Cr (Mm R H) c z->off R (XZ H a inn b) z->Cr (Mm R (XZ H a inn b)) c z:=fun z i=>by
  induction i with
  |refl=>exact fun _=>.refl _
  |@step y z s h2 t=>
   intro u;obtain⟨m1,m2,_⟩:=EM.1 h2;have l:off R (XZ H a inn b) y:=(yw W f).2 ⟨m2,e _ s⟩;exact(t l).step (EM.2 ⟨m1,l,u⟩)
 have g:off R (XZ H a inn b) d:=(yw W f).2 ⟨p,e _ q⟩;exact .inr (.inr ⟨c,d,j,o,(yw W f).2 ⟨k,e _ (.refl _)⟩,g,main d q g⟩)
end
end Go.Fw
namespace Go.Fw
attribute [local instance] Classical.propDecidable
section
variable {n : Nat} {R : Nat → List Nat} {H : Nat → Nat → Prop} {F G : List (List Nat)}
def JY (a:V7 n R) (hs:∀v w,H v w->H w v) (D:QG R) (h2:∃p q,p≠q/\¬off R H p/\¬off R H q):
  (∀u x,QP R H u x->∃z y,QP R H z y/\u≠z/\QI R H u x=QI R H z y)/\∀v w,w∈R v->¬H v w->∃u x,QP R H u x/\QI R H v w=QI R H u x:=by
 obtain⟨p,q,j,l,B⟩:=h2;have b:∀{v w},w∈R v->R v≠[]:=fun h e=>by rw[e]at h;cases h
 have s:∀{v},¬off R H v->R v≠[]:=fun h=>by obtain⟨w,k,_⟩:=Q7 h;exact b k
 have mk:∀{r:Nat->II} {v w:Nat},(∀v w,w∈r v->w∈R v)->Cr r v w->off R H v->¬off R H w->∃u x,QP R H u x/\QI R H u x=(0,lo R H v,0)/\x∈R u/\u∈r x:=fun{r v w} sub m C hw=>by
  rcases tq a sub m C with h|⟨y,z,f,h2,h3,g⟩
  .exact absurd h.2 hw
  .have A := a.sy _ _ (sub _ _ g)
   exact⟨z,y,⟨h3,A,fun k=>h2 z (sub _ _ g) (hs _ _ k)⟩,by rw[Jn h3 h2,(fX a).2 f],A,g⟩
 refine⟨fun u x d=>?_,fun v w hw E=>?_⟩
 .by_cases c : off R H x
  .have:∃t,t≠u/\¬off R H t:=by
    by_cases e:p=u
    .exact⟨q,fun k=>j (e.trans k.symm),B⟩
    .exact⟨p,e,l⟩
   obtain⟨t,I,i⟩:=this;have o:x≠u:=fun e=>d.on (e▸c);have m:=D.Z7 u x t o I (b (a.sy _ _ d.mem)) (s i);obtain⟨z,y,f,h2,_,g⟩:=mk (fun v w h=>(EM.1 h).1) m c i;exact⟨z,y,f,fun e=>(EM.1 g).2.2 e.symm,by rw[h2,Jn d.on c]⟩
  .exact⟨x,u,⟨c,a.sy _ _ d.mem,fun k=>d.nh (hs _ _ k)⟩,fun e=>a.ir u (e▸d.mem),RX a d.mem⟩
 .by_cases c : off R H v
  .obtain ⟨z, y, f, h2, _⟩ := mk (fun _ _ h => h) (D.bp v p (b hw) (s l)) c l
   exact⟨z,y,f,by rw[h2,M6 c]⟩
  .exact⟨v,w,⟨c,hw,E⟩,rfl⟩
theorem vy.perm (g:vy n R F) (h:F.Perm G):vy n R G:=
 ⟨g.Rl,g.O.perm h,g.bp,by have:=g.num;unfold iI at this ⊢;rw[<-h.length_eq];exact this,fun e=>g.ne (by rw[e]at h;exact h.eq_nil)⟩
theorem Ctx.perm (C:Ctx n R H F) (h:F.Perm G):Ctx n R H G:=⟨C.Rl,C.sym,C.fl,C.O.perm h,C.bp⟩
theorem PU.perm {E:Nat->II} (I:PU n E H F) (h:F.Perm G):PU n E H G:=
 ⟨I.sub,by obtain⟨r,g,a⟩:=I.XK;exact⟨r,g.perm h,a⟩,fun q=>by obtain⟨R,b,h2⟩:=I.full q;exact⟨R,b,h2.perm h⟩⟩
def PU.sym {E:Nat->II} (I:PU n E H F):∀v w,H v w->H w v:=fun v w h=>by
 obtain⟨r,g,a⟩:=I.XK;exact(a _ _).1 (g.Rl.sy _ _ ((a _ _).2 h))
def PU.Ck {E:Nat->II} (I:PU n E H F) {f:II} (hf:f∈F) {u:Nat} (b:u∈f):¬off E H u:=fun q=>by
 obtain⟨r,g,c⟩:=I.XK;have a:=(c _ _).1 (g.O.df g.Rl hf b);exact q _ (I.sub _ _ a) a
def PU.O0 {E:Nat->II} (I:PU n E H F) {f:II} (hf:f∈F):f.Nodup/\∀u∈f,u<n:=by
 obtain⟨r,g,b⟩:=I.XK;exact⟨g.O.nd f hf,fun u a=>g.Rl.lt _ _ (g.O.df g.Rl hf a)⟩
theorem PU.nodup {E:Nat->II} (I:PU n E H F):F.Nodup:=by
 obtain⟨r,g,a⟩:=I.XK;exact g.O.nodup
end
end Go.Fw
