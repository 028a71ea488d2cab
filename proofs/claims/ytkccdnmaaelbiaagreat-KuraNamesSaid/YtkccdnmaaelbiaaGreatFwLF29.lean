/- A text. -/
import Derived.Test.YtkccdnmaaelbiaaGreatFwLT16
set_option linter.all false
set_option maxRecDepth 99999
set_option maxHeartbeats 9999999
namespace Go.Fw
open Go.Proofs
attribute [local instance] Classical.propDecidable
section
variable {n : Nat} {es : List Pr} {rs : List (List Int)}
theorem Tk (d:aV n es) (G:Av n es rs) {a b:Nat}:Cr (Xl rs) a b↔Pu es a b:=by
 constructor
 .intro h
  induction h with
  |refl=>grind [Pu.refl]
  |step _ e c=>exact c.step ((G.mem d).1 e) rfl
 .intro h
  induction h with
  |refl _=>exact .refl _
  |step _ h2 _ c=>exact c.step ((G.mem d).2 h2)
theorem IL (c:aV n es) (ha:D3 es) (G:Av n es rs):iJ n (Xl rs)=(Es n es).length:=by
 have R:=G.jD c ha;rw[iJ,Yy (M1 _).symm (Cr.eqv R _),zE (lt:=fun a b=>a<b) (fun a b h g=>absurd h (Nat.lt_asymm g)) _ _ rfl (uA n),Es];congr 1;refine fj fun v d=>?_;rw[decide_eq_decide];rw[ZT]at d;constructor
 .intro h u e f
  exact h u (ZT.2 NH) ((Tk c G).2 f.symm) e
 grind [Tk,Cn.symm]
theorem pL (d:aV n es) (ha:D3 es) (G:Av n es rs):((List.range n).filter fun v=>decide (Xl rs v=[])).length=((Es n es).filter fun a=>decide (Gn es es a=0)).length:=by
 refine(yR (Hs.sublist fR) ((qD n es).sublist fR) fun v=>?_).length_eq;rw[eR,eR,ZT,QO,decide_eq_true_eq,decide_eq_true_eq];constructor
 .rintro ⟨b, j⟩
  have k:∀w,¬Jp es v w:=fun w hw=>by
   have:=(G.mem d).2 hw;grind
  have g:∀u,Pu es v u->u=v:=fun u i=>j9 fun f=>by
   obtain⟨w,hw⟩:=(FV i (ff f)).1
   grind
  refine⟨⟨b,fun u i l=>?_⟩,?_⟩
  .grind [Cn.symm]
  .refine qL210 fun m => ?_
   have q:=(MP d b).1 m;have h2:(Ic n es v).length=1:=Cq (by grind [Ic,List.filter_sublist]) (x:=v) (mY.2 ⟨b,Pu.refl es v⟩) fun y o=>g y (mY.1 o).2;omega
 .rintro ⟨⟨b, _⟩, j⟩
  refine⟨b,Lm.2 fun w hw=>?_⟩;have c:=(G.mem d).1 hw;have:∃e∈es,Pu es v e.1.toNat:=by
   rcases c with h|h
   .exact⟨_,h,by simpa using Pu.refl es v⟩
   .exact⟨_,h,by simpa using acd (.inr h)⟩
  obtain⟨e,p,g⟩:=this;have:0<Gn es es v:=by
   unfold Gn VF;exact JR (eR.2 ⟨p,pw⟩)
  omega
theorem U3 {l:II} (h:l.length=1) {x y:Nat} (a:x∈l) (b:y∈l):x=y:=by
 match l,h with
 |[z],_=>grind
theorem sumz:∀(l:II) (f:Nat->Nat),(l.map f).sum=0↔∀a∈l,f a=0
 |[],f=>by simp
 |a::l,f=>by
  rw[vY,PN];have b:=sumz l f
  grind
def Va (f g:Nat->Nat):∀l:II,(∀a∈l,f a=g a)->(l.map f).sum=(l.map g).sum
 |[],_=>rfl
 |a::l,h=>by rw[vY,vY,PN,PN,h a VU,Va f g l fun b hb=>h b (kc _ hb)]
theorem En (i:aV n es) (ha:D3 es) (G:Av n es rs):z8 n es rs↔Flat n (Xl rs):=by
 have R:=G.jD i ha
 have key:∀a,a∈Es n es->∃g,(Ic n es a).length+(sA es (IN n rs) a+if Gn es es a=0 then 1 else 0)+2*g=Gn es es a+2/\(g=0↔(0<Gn es es a->(Ic n es a).length+sA es (IN n rs) a=Gn es es a+2)):=fun a j=>by
  by_cases c:0<Gn es es a
  .grind [T8]
  .refine ⟨0, ?_, pw⟩
   have s:Gn es es a=0:=NH;rw[if_pos s,s];have z:¬1<(Ic n es a).length:=fun q=>c ((MP i (QO.1 j).1).2 q);have h2:0<(Ic n es a).length:=JR (mY.2 ⟨(QO.1 j).1,Pu.refl es a⟩);have h3:sA es (IN n rs) a=0:=by
    refine qL210 fun t=>?_;unfold sA VF at t;obtain⟨f,hf⟩:=sL t;rw[eR,decide_eq_true_eq]at hf;obtain⟨m,b⟩:=hf;unfold IN at m;obtain⟨A,o,rfl⟩:=yM.1 m;rw[vf,yM]at o;obtain⟨d,hd,rfl⟩:=o;have p:=((gQ R).1 hd).1;rw[(JE R ((IP R).2 p)).1,Sb]at b;have k:=(G.mem i).1 p;have:d.2=d.1:=by
     have e:(Ic n es a).length=1:=NH;exact U3 e (mY.2 ⟨Pu.lt i (show Pu es a d.2 from b.step k rfl) (QO.1 j).1,b.step k rfl⟩) (mY.2 ⟨b.lt i (QO.1 j).1,b⟩)
    grind [V7.ir]
   omega
 obtain⟨g,hg⟩:=aax (r:=fun a g=>a∈Es n es->(Ic n es a).length+(sA es (IN n rs) a+if Gn es es a=0 then 1 else 0)+2*g=Gn es es a+2/\(g=0↔(0<Gn es es a->(Ic n es a).length+sA es (IN n rs) a=Gn es es a+2))) fun a=>by
  by_cases j:a∈Es n es
  .grind
  .exact⟨0,fun h=>absurd h j⟩
 have S:=Va _ _ (Es n es) fun a j=>(hg a j).1
 rw[aS (fun a=>(Ic n es a).length+(sA es (IN n rs) a+if Gn es es a=0 then 1 else 0)),aS (fun a=>(Ic n es a).length),aS (fun a=>sA es (IN n rs) a),aS (fun a=>Gn es es a) (fun _=>2),yr i,Rr i,lJ i ha G,Qs]at S
 have u:((Es n es).map fun _=>2).sum=2*(Es n es).length:=by
  have:∀l:II,(l.map fun _=>2).sum=2*l.length:=fun l=>by
   induction l<;>grind
  exact this _
 have e3:((Es n es).map fun a=>2*g a).sum=2*((Es n es).map g).sum:=by
  have:∀l:II,(l.map fun a=>2*g a).sum=2*(l.map g).sum:=fun l=>by
   induction l<;>grind
  exact this _
 rw[u,e3]at S;have x:mj n (Xl rs)=(IN n rs).length+((Es n es).filter fun a=>decide (Gn es es a=0)).length:=by grind [mj.eq_1,yp,pL,IN.eq_1,vf.eq_1]
 have y:(dl n (Xl rs)).length=2*es.length:=Ud R (ha.nodup) i fun v w=>G.mem i
 grind [z8,sumz,Flat.eq_1,IL]
end
end Go.Fw
namespace Go.Fw
open Go.Proofs
attribute [local instance] Classical.propDecidable
structure zW (n:Nat) (es:List Pr):Prop where
 n3:3<=n
 one:(Es n es).length=1
 Bi:∀v,¬Fo.iE es v
section
variable {n : Nat} {es : List Pr}
theorem zW.bp (T:zW n es) {u v:Nat} (a:u<n) (b:v<n):Pu es u v:=uh T.one a b
theorem nb_of (hR:aV n es) {u v:Nat} (h:Pu es u v) (a:u≠v):∃w,Jp es v w:=by
 cases h<;>grind [Jp.symm]
theorem zW.ne (T:zW n es) (hR:aV n es) {v:Nat} (a:v<n):∃w,Jp es v w:=by
 have h3:=T.n3;by_cases c:v=0
 .exact nb_of hR (T.bp (u:=1) NH a) NH
 .exact nb_of hR (T.bp (u:=0) NH a) NH
theorem cnW (hR:aV n es) {c a b:Nat} (h:Cn (wo c) es a b):Cr (Om (fun x y=>x≠c/\y≠c) (eN n es)) a b:=by
 induction h with
 |refl=>exact .refl _
 |@step x y i h2 h3 d=>
  have f:x≠c:=fun e=>by grind [Cn.AB]
  have g:y≠c:=fun e=>by grind
  exact d.step (EM.2 ⟨(vD hR).2 h2,f,g⟩)
theorem aU (hR:aV n es) {v:Nat}:eN n es v≠[]↔∃w,Jp es v w:=by
 constructor
 .intro h
  obtain⟨w,l,e⟩:=iy h;exact⟨w,(vD hR).1 (by rw[e];simp)⟩
 .rintro ⟨w, h⟩ e
  have:=(vD hR).2 h
  grind
theorem zW.Z7 (T:zW n es) (hR:aV n es):QG (eN n es):=by
 have lt:∀{v},eN n es v≠[]->v<n:=fun h=>by obtain⟨w,hw⟩:=(aU hR).1 h;exact(hw.lt hR).1
 refine⟨fun v w d hw=>(Tk hR (qG n es)).2 (T.bp (lt d) (lt hw)),fun c v w g h2 d hw=>cnW hR ?_⟩;by_cases f:c<n
 .obtain ⟨a, h3, l⟩ := KH (T.bp f (lt d)) g
  obtain⟨b,i,m⟩:=KH (T.bp f (lt hw)) h2;have n1:a≠c:=fun e=>by grind [Xa]
  have o:b≠c:=fun e=>by grind [Xa]
  have j:Cn (wo c) es a b:=j9 fun q=>T.Bi c ⟨a,b,h3,i,q⟩
  grind [woV_con,Cn.symm,Cn.trans]
 .have:∀{a b},Pu es a b->a≠c->Cn (wo c) es a b:=fun h ha=>by
   induction h with
   |refl=>exact .refl (iO ha)
   |step _ a _ k=>exact .step k a (iO fun e=>f (by have:=(a.lt hR).2;omega))
  grind [zW.bp]
def zW.es_ne (T:zW n es) (hR:aV n es):es≠[]:=fun e=>by
 obtain⟨w,hw⟩:=T.ne hR (v:=0) (by have:=T.n3;omega);rw[e]at hw;rcases hw with h|h<;>cases h
theorem Uv (b:bX ⟨(n:Int),es⟩) (h3:3<=n) (c:(Es n es).length=1):(vq n es).length=1↔zW n es:=by
 have hR:=b.GD;constructor
 .intro d
  refine⟨h3,c,fun v a=>?_⟩;have:=(YH hR v).2 a
  grind [Sq]
 .intro T
  have K:=afQ b ⟨T.es_ne hR,c⟩;have e:JL n es=[]:=Lm.2 fun v a=>T.Bi v ((OI hR v).1 a).2
  grind [mR,Er,Lk.len]
theorem zW.less (T:zW n es) (hR:aV n es) {a b:Nat} {rest:List Pr} (ha:a<n) (hb:b<n) (d:a≠b) (e:∀x y,Jp es x y->¬((x=a/\y=b)\/(x=b/\y=a))->Jp rest x y):Pu rest b a:=by
 have D:=T.Z7 hR;have h3:=T.n3;obtain⟨t,i,f,g⟩:∃t,t<n/\t≠a/\t≠b:=by
  by_cases l:a≠0/\b≠0
  .exact⟨0,NH,NH,NH⟩
  by_cases c1:a≠1/\b≠1
  .exact⟨1,NH,NH,NH⟩
  .exact⟨2,NH,NH,NH⟩
 have key:∀{c x y:Nat},(c=a\/c=b)->Cr (Om (fun x y=>x≠c/\y≠c) (eN n es)) x y->Pu rest x y:=fun{c x y} m h=>by
  induction h with
  |refl=>grind [Pu.refl]
  |@step u w o h2 j=>
   obtain⟨k1,k2,p⟩:=EM.1 h2;refine .step j (e _ _ ((vD hR).1 k1) ?_) rfl
   grind
 have ne:∀{v},v<n->eN n es v≠[]:=fun k=>(aU hR).2 (T.ne hR k);have q:=key (.inl rfl) (D.Z7 a b t (ff d) f (ne hb) (ne i));have r:=key (.inr rfl) (D.Z7 b t a g d (ne i) (ne ha))
 grind [Cn.trans]
theorem Na (hR:aV n es) {b:Nat} {L:RZ} (F:ai n es b L):∀(k v:Nat),L[v]?=some (k:Int)->∃l:II,pthM (Zh n es) L k v=aab l/\l.length=k+1/\l[0]?=some v/\l[k]?=some b/\
  (∀(i x:Nat),l[i]?=some x->L[x]?=some ((k-i:Nat):Int))/\∀(i x y:Nat),l[i]?=some x->l[i+1]?=some y->Jp es x y
 |0,v,h=>by
  have hb:=F.zero v h;subst hb;refine⟨[v],rfl,rfl,rfl,rfl,fun i x o=>?_,fun i x y _ a=>by simp at a⟩
  grind
 |k+1,v,h=>by
  obtain⟨w,ha,hw⟩:=F.pre v _ h NH;have c:L.getD v 0=((k+1:Nat):Int):=pw;cases hf:((Zh n es).getD v []).find? (fun w=>decide (L.getD w.toNat 0=L.getD v 0-1))with
  |none=>
   grind [EW,Int.toNat_natCast]
  |some x=>
   have f:=qL195 hf;have h2:=List.find?_some hf;obtain⟨u,rfl,p⟩:=Ru hR f;have d:=CA (show u<L.length by grind [ai.len]);rw[decide_eq_true_eq,Sb,vg,d,c]at h2;have e:L[u]?=some (k:Int):=pw;obtain⟨l,g,j,e3,e4,q,r⟩:=Na hR F k u e;refine⟨v::l,?_,by simp[j],rfl,pw,fun i y a=>?_,fun i y z a m=>?_⟩
   .rw [pthM, hf]
    simp only[Sb];rw[g];rfl
   .cases i with
    |zero=>grind
    |succ i=>
     grind
   .cases i with
    |zero=>
     grind [EW]
    |succ i=>
     rw[MY]at a m
     grind
theorem iS (w:bX ⟨(n:Int),es⟩) {a b:Nat} {rest:List Pr} (r:es=((a:Int),(b:Int))::rest) (F:ai n rest b (NY (Zh n rest) n b)) (C:Pu rest b a):
  ∃l,DO n rest a b=aab l/\Ho n es l:=by
 have hR:=w.GD;have d:aV n rest:=fun p M=>hR p pw;have s:(((a:Int),(b:Int)):Pr)∈es:=by rw[r];simp
 have t:=(hR _ s).2.1;simp only at t;have u:=(hR _ s).2.2;simp only at u;have nd:es.Nodup:=w.q9.nodup;have f:=CA (show a<(NY (Zh n rest) n b).length by grind [ai.len]);have g:=(F.pos a _ f).2 C;obtain⟨k,D⟩:=yY g;have m:(NY (Zh n rest) n b)[a]?=some (k:Int):=by rw[f,D]
 obtain⟨l,E,N,e3,e4,z,A⟩:=Na d F k a m;have G:k≠0:=fun e=>by grind
 have H:k≠1:=fun e=>by
  subst e;have:=A 0 a b e3 e4;rw[r,xD]at nd;rcases this with h|h
  .exact nd.1 h
  .have:=(d _ h).2.1;grind
 have o:l.Nodup:=by
  rw[IE,qH];intro i j hi q I e;have B:=z i _ (XJ hi);have h2:=z j _ (XJ q)
  grind
 refine⟨l,?_,o,NH,fun v J=>?_⟩
 .unfold DO
  rw[vg,m];exact E
 .obtain ⟨j, q, rfl⟩ := acY.1 J
  rw[Qy o q];have sub:∀{x y},Jp rest x y->Jp es x y:=fun h=>by rw[r];exact h.imp (kc _) (kc _)
  by_cases c:j+1<l.length
  .have e : l[(j + 1) % l.length]'(C4 _ NH) = l[j + 1] := getElem_congr_idx (Bn c)
   rw[e];exact sub (A j _ _ (XJ q) (XJ c))
  .have K : j = k := NH
   subst K;have e:l[(j+1)%l.length]'(C4 _ NH)=l[0]:=getElem_congr_idx (by grind [Nat.mod_self])
   rw[e];have B:l[j]=b:=pw;have L:l[0]=a:=pw;rw[B,L];exact .inr s
end
end Go.Fw
namespace Go.Fw
open Go.Proofs
attribute [local instance] Classical.propDecidable
noncomputable def runM (n:Nat) (rows:AM):Nat->kR->Option kR
  |0,S=>some S
  |k+1,S=>if S.left=[]then some S else match AU n rows S with
    |some a=>runM n rows k a
    |none=>none
def ZO (f:II):List (Nat×Nat×Nat):=(List.range f.length).map fun i=>(f.getD i 0,f.getD ((i+f.length-1)%f.length) 0,f.getD ((i+1)%f.length) 0)
def XN (T:AM) (t:Nat×Nat×Nat):AM:=T.set t.1 ((T.getD t.1 []).set t.2.1 (t.2.2:Int))
def N4 (n:Nat) (Jv:Cs):AM:=(Jv.flatMap ZO).foldl XN (List.replicate n (List.replicate n (-1)))
def itI (T:RZ):Nat->Int->Int
 |0,u=>u
 |k+1,u=>T.getD (itI T k u).toNat 0
def lH (T:AM) (rows:AM) (v:Nat):RZ:=(List.range (rows.getD v []).length).map fun k=>itI (T.getD v []) k ((rows.getD v []).getD 0 0)
def xY (n:Nat) (rows:AM) (Jv:Cs):AM:=(List.range n).map (lH (N4 n Jv) rows)
def zl (n:Nat) (es:List Pr):II:=(DO n (es.drop 1) (es.getD 0 (0,0)).1.toNat (es.getD 0 (0,0)).2.toNat).map Int.toNat
noncomputable def RB (n:Nat) (es:List Pr):kR:=Mw n es (zl n es) (MF n (Qw n (sortP (ZH (zl n es)))) es)
noncomputable def embM (n:Nat) (es:List Pr):Option AM:=(runM n (Zh n es) es.length (RB n es)).map fun S=>xY n (Zh n es) S.Jv
section
variable {n : Nat} {es : List Pr} {H : Nat → Nat → Prop} {S : kR}
theorem UK (hR:aV n es) (hA:D3 es) (D:QG (eN n es)):∀(k:Nat) (H:Nat->Nat->Prop) (S:kR),Z8 n es H S->OW es H<=k->
  (runM n (Zh n es) k S=none/\¬XU n (eN n es))\/∃a b,runM n (Zh n es) k S=some a/\Z8 n es b a/\a.left=[]
 |0,H,S,I,h=>by
  refine .inr ⟨S,H,rfl,I,?_⟩;refine j9 fun q=>?_;obtain⟨p,l,e⟩:=iy q;have P:=I.Aa p (by rw[e];simp);obtain⟨x,t,i⟩:=iy P.ne;have f:x∈p.zp:=by rw[i];simp
  obtain⟨v,w,e3,d,j⟩:=P.UQ hR f;have m:x∈es.filter fun e=>decide (¬H e.1.toNat e.2.toNat):=by
   rw[eR];refine⟨P.sub.subset f,?_⟩;rw[e3,Ix d];simpa using j.2
  have o:(es.filter fun e=>decide (¬H e.1.toNat e.2.toNat)).length=0:=Nat.le_zero.1 h
  grind
 |k+1,H,S,I,h=>by
  rw[runM];by_cases c:S.left=[]
  .grind
  .rw [if_neg c]
   rcases I.lay hR hA D c with⟨g,h2⟩|⟨a,b,g,h2,h3⟩
   .grind
   .rw [g]
    exact UK hR hA D k b a h2 NH
def MC (T:AM) (v u:Nat):Int:=(T.getD v []).getD u 0
theorem sQ {T:AM} {t:Nat×Nat×Nat} (h:T.length=n/\∀v,v<n->(T.getD v []).length=n):(XN T t).length=n/\∀v,v<n->((XN T t).getD v []).length=n:=by grind [XN]
theorem Ms {T:AM} {t:Nat×Nat×Nat} (h:T.length=n/\∀v,v<n->(T.getD v []).length=n) (a:t.1<n) (h2:t.2.1<n) (v u:Nat):MC (XN T t) v u=if t.1=v/\t.2.1=u then(t.2.2:Int)else MC T v u:=by grind [MC,XN]
theorem Vx {G:Nat->Nat->Nat}:∀(a:List (Nat×Nat×Nat)) (T:AM),(T.length=n/\∀v,v<n->(T.getD v []).length=n)->(∀t∈a,t.1<n/\t.2.1<n/\t.2.2=G t.1 t.2.1)->
  ((a.foldl XN T).length=n/\∀v,v<n->((a.foldl XN T).getD v []).length=n)/\∀v u,(MC T v u=(G v u:Int)\/∃t∈a,t.1=v/\t.2.1=u)->MC (a.foldl XN T) v u=(G v u:Int)
 |[],T,h,_=>⟨h,fun v u q=>by grind⟩
 |t::a,T,h,hg=>by
  obtain⟨c,d,e⟩:=hg t Ma;obtain⟨k1,k2⟩:=Vx a (XN T t) (sQ h) fun t b=>hg t (by simp[b])
  grind [Ms]
theorem XM {f:II} (nd:f.Nodup) {i:Nat} (hi:i<f.length):f.getD ((i+f.length-1)%f.length) 0=pv f (f.getD i 0):=by
 have a:(i+f.length-1)%f.length<f.length:=C4 _ NH;have b:=dN nd a;have e:((i+f.length-1)%f.length+1)%f.length=i:=by rw[Nat.mod_add_mod,show i+f.length-1+1=i+f.length by omega,NC,Bn hi]
 grind [c7]
theorem vh {f:II} (nd:f.Nodup) {t:Nat×Nat×Nat} (h:t∈ZO f):t.1∈f/\t.2.1=pv f t.1/\t.2.2=nx f t.1:=by grind [ZO,XM,dN]
theorem wA {f:II} (nd:f.Nodup) {v:Nat} (h:v∈f):(v,pv f v,nx f v)∈ZO f:=by
 obtain⟨i,hi,rfl⟩:=acY.1 h;refine yM.2 ⟨i,ZT.2 hi,?_⟩
 grind [XM,dN]
def HN {T:RZ} {g:Nat->Nat} {P:Nat->Prop} (a:∀u,P u->T.getD u 0=(g u:Int)) (b:∀u,P u->P (g u)) {u:Nat} (c:P u):∀k,itI T k (u:Int)=((it g k u:Nat):Int)/\P (it g k u)
 |0=>⟨rfl,c⟩
 |k+1=>by
  obtain⟨e,p⟩:=HN a b c k;refine⟨?_,b _ p⟩;rw[itI,e,Sb,a _ p];rfl
theorem circ_ok (s:bX ⟨(n:Int),es⟩) (B:zW n es) {r:Nat->II} {F:Cs} (G:vy n r F) (fl:Flat n r) (m:∀x y,y∈r x↔y∈eN n es x):
  Av n es (xY n (Zh n es) F)/\Flat n (Xl (xY n (Zh n es) F)):=by
 have hR:=s.GD;have hA:=s.q9;have z:=MG hR hA;have A:∀f∈F,f.Nodup:=G.O.nd;let b:Nat->Nat->Nat:=fun v u=>nx (r v) u;have o:∀t∈F.flatMap ZO,t.1<n/\t.2.1<n/\t.2.2=b t.1 t.2.1:=fun t C=>by
  obtain⟨f,hf,h⟩:=Cg.1 C;obtain⟨d,h2,h3⟩:=vh (A f hf) h;obtain⟨M,N,Q⟩:=G.O.pv hf d;have hi:=G.O.df G.Rl hf d;refine⟨G.Rl.lt _ _ hi,by rw[h2];exact G.Rl.lt _ _ (G.Rl.sy _ _ hi),?_⟩
  grind
 have D:(List.replicate n (List.replicate n (-1:Int))).length=n/\∀v,v<n->((List.replicate n (List.replicate n (-1:Int))).getD v []).length=n:=pw;obtain⟨-,E⟩:=Vx (F.flatMap ZO) _ D o;have p:∀v u,u∈r v->MC (N4 n F) v u=(b v u:Int):=fun v u j=>by
  refine E v u (.inr ?_);obtain⟨f,hf,I,e⟩:=G.O.cover u v (G.Rl.sy _ _ j);have a:v∈f:=by grind [ZP]
  refine⟨_,Cg.2 ⟨f,hf,wA (A f hf) a⟩,rfl,?_⟩
  grind [c7]
 have row:∀v,v<n->∃u c,eN n es v=u::c/\(Zh n es).getD v []=(u:Int)::aab c/\u∈r v:=fun v a=>by
  obtain⟨w,hw⟩:=B.ne hR a;obtain⟨u,c,e⟩:=iy ((aU hR).2 ⟨w,hw⟩);have hb:=(qG n es).back hR v;refine⟨u,c,e,?_,(m v u).2 (by rw[e];simp)⟩;rw[<-hb];show(eN n es v).map _=_;rw[e];rfl
 have eH:∀v,v<n->∃l:II,lH (N4 n F) (Zh n es) v=aab l/\Cyc (r v) l:=fun v a=>by
  obtain⟨u,c,J,K,j⟩:=row v a;have hlen:((Zh n es).getD v []).length=(r v).length:=by
   have d:(eN n es v).length=((Zh n es).getD v []).length:=by grind [aab]
   rw[<-d];exact(yR (z.nd v) (G.Rl.nd v) fun x=>(m v x).symm).length_eq
  refine⟨(List.range (r v).length).map fun k=>it (b v) k u,?_,aaZ G.Rl G.O (next:=b) (fun f hf x i=>(G.O.pv hf i).2.2) j⟩
  unfold lH;rw[hlen,K];show _=((List.range (r v).length).map fun k=>it (b v) k u).map fun(x:Nat)=>(x:Int);rw[FD];refine KG fun k _=>?_;show itI _ k ((u:Int))=_;exact(HN (g:=b v) (P:=fun x=>x∈r v) (fun x i=>p v x i) (fun x i=>ZP i) j k).1
 have get:∀v,v<n->(xY n (Zh n es) F).getD v []=lH (N4 n F) (Zh n es) v:=fun v a=>by grind [xY]
 have q:∀v,v<n->∃l:II,(xY n (Zh n es) F).getD v []=aab l/\Xl (xY n (Zh n es) F) v=l/\Cyc (r v) l:=fun v a=>by
  obtain⟨l,d,h2⟩:=eH v a;refine⟨l,(get v a).trans d,?_,h2⟩;unfold Xl;rw[get v a,d,aab,FD]
  conv=>rhs;rw[<-List.map_id l]
  grind [List.map_congr_left]
 have len:(xY n (Zh n es) F).length=n:=by simp[xY]
 have R:Av n es (xY n (Zh n es) F):=⟨len,fun v a=>by
  obtain⟨l,d,h2,h3⟩:=q v a;rw[d];have L:l.Perm (eN n es v):=h3.perm.symm.trans (yR (G.Rl.nd v) (z.nd v) fun x=>m v x);have:=L.map fun(x:Nat)=>(x:Int);rw[(qG n es).back hR v]at this;exact this⟩
 refine⟨R,?_⟩;have same:pP r (Xl (xY n (Zh n es) F)):=fun v=>by
  by_cases a:v<n
  .grind
  .have J : r v = [] := Lm.2 fun w hw => a (G.Rl.lt _ _ hw)
   grind [Xl,xY,Cyc.refl]
 exact(same.flat G.Rl).1 fl
theorem Mz (l:II):(aab l).map Int.toNat=l:=by
 rw[aab,FD]
 conv=>rhs;rw[<-List.map_id l]
 grind [List.map_congr_left]
theorem JM (c:bX ⟨(n:Int),es⟩) {a b:Nat} {rest:List Pr} (d:es=((a:Int),(b:Int))::rest) (F:ai n rest b (NY (Zh n rest) n b)) (e:Pu rest b a):
  DO n rest a b=aab (zl n es)/\Ho n es (zl n es):=by grind [iS,zl,Mz]
def XU.qE {E E':Nat->II} (h:∀v w,w∈E v↔w∈E' v):XU n E↔XU n E':=
 ⟨fun⟨R,a,h2,h3⟩=>⟨R,a,h2,fun v w=>(h3 v w).trans (h v w)⟩,fun⟨R,a,h2,h3⟩=>⟨R,a,h2,fun v w=>(h3 v w).trans (h v w).symm⟩⟩
def Vg (hR:aV n es) (hA:D3 es) {rs:AM} (G:Av n es rs) (fl:Flat n (Xl rs)):XU n (eN n es):=⟨Xl rs,G.jD hR hA,fl,fun v w=>by rw[G.mem hR,vD hR]⟩
theorem many_no (b:bX ⟨(n:Int),es⟩) (a:zW n es) (h:3*n<es.length+6):¬XU n (eN n es):=fun⟨R,c,h2,h3⟩=>by
 have hR:=b.GD;have D:=(a.Z7 hR).same h3;have ne:∀v,v<n->R v≠[]:=fun v d e=>by
  obtain⟨w,hw⟩:=a.ne hR d;have:=(h3 v w).2 ((vD hR).2 hw)
  grind
 have:=(UU c h2 D a.n3 ne).1;have hA:D3 es:=b.q9
 grind [Ud,D3.nodup,vD]
end
end Go.Fw
namespace Go.Fw
section
attribute [local irreducible] Kp MQ lU rS KO KN KX KE VK Kl ZJ TC aat
open Go.Proofs
variable {c i j m t:Nat}
def Ls (d:LA) (a b:Nat) (h:AHeap):AC Tryz.prog d 91 [.int .i64 (a:Int),.int .i64 (b:Int)] h fun x h'=>x=UI (GW a b)/\Le h h':=by
 refine AC.vE ⟨Tryz.func91,rfl,WY⟩ Tryz.ntmps91 Tryz.results91 fun c=>?_;simp only[Br,Nat.reduceAdd];obtain⟨e,f,l1,w1,g⟩:=Tt c [.int .i64 0,.int .i64 0]
 have i:h.own h.next=none:=(Le.refl h).next c (qL0 _)
 have st:=gD (p:=(min (a:Int) (b:Int),max (a:Int) (b:Int))) g
 have oo:=AHeap.Y3 e h.next (.cells (xM (min (a:Int) (b:Int),max (a:Int) (b:Int))))
 have ld:=uM oo;simp only[HO,Nat.reduceLT,↓reduceIte,Nat.reduceEqDiff,reduceCtorEq,uy,f,Dv,z6,xe,st,ld];exact⟨rfl,l1.put _ i⟩
theorem JG (h:0<m):((c:Int)+1).tmod (m:Int)=(((c+1)%m:Nat):Int):=pw
theorem ke (hi:i<m) (a:j<m) (b:t<=(j+m-i)%m):(i+t)%m=j↔t=(j+m-i)%m:=by
 have c:(j+m-i)%m<m:=C4 _ NH;have e:(i+(j+m-i)%m)%m=j:=by grind [Nat.add_mod_mod,Nat.add_mod_right,Nat.mod_eq_of_lt]
 constructor
 .intro h
  have:=po hi (show t<m by omega)
  grind
 grind
theorem Ra (z:LA) (v:Value) (f:II) (i j:Nat) (h:AHeap) (p:RL RP h v (aab f)) (hi:i<f.length) (A:j<f.length) (Q:f.length<=1000):
  AC Tryz.prog z 142 [v,.int .i64 (i:Int),.int .i64 (j:Int)] h fun x h'=>GI h' x (aab (Qk f i j))/\Le h h'/\Z2 h x:=by
 refine AC.vE ⟨Tryz.func142,rfl,WY⟩ Tryz.ntmps142 Tryz.results142 fun a=>?_;simp only[Br,Nat.reduceAdd];have B:(aab f).length=f.length:=y6 f;have y:=fun g=>p.DH g;rw[B]at y;have ad:∀c,c<f.length->aIndexAddr Tryz.prog 49 v (.int .i64 (c:Int))=some (.pointer (some (elemAddr v c))):=fun c q=>p.TA c NH;have ld:∀g,Le h g->∀c,c<f.length->aload Tryz.prog g 3 (elemAddr v c)=some (.int .i64 ((f.getD c 0:Nat):Int)):=fun g C c q=>by rw[(p.le Nn.RP C).Uc c NH,sY q,D4 q]
 obtain⟨E,F,l1,w1,G⟩:=Tt a [.int .i64 ((f.getD i 0:Nat):Int)];simp only[HO,Nat.reduceLT,↓reduceIte,Nat.reduceEqDiff,reduceCtorEq,ad i hi,ld h (Le.refl _) i hi,DQ,F]
 have nB:h.own h.next=none:=(Le.refl h).next a (qL0 _)
 have D:(j+f.length-i)%f.length<f.length:=C4 _ NH;let L:Nat->II:=fun t=>(List.range (t+1)).map fun t=>f.getD ((i+t)%f.length) 0;have H:L 0=[f.getD i 0]:=by grind [Nat.mod_eq_of_lt]
 have I:GI E (.slice (some ⟨h.next,0,none⟩) 1 1) (aab (L 0)):=by rw[H];exact GS.full G rfl (show 1<1000000000000 by decide)
 refine aat.intro (fun k fr n=>∃(t:Nat) (o:Value),k=(j+f.length-i)%f.length-t/\t<=(j+f.length-i)%f.length/\fr=mkF [(0,v),(1,.int .i64 (((i+t)%f.length:Nat):Int)),(2,.int .i64 (j:Int)),(7,o)]/\GI n o (aab (L t))/\Le h n/\Z2 h o)
  ((j+f.length-i)%f.length) [(0,v),(1,.int .i64 (i:Int)),(2,.int .i64 (j:Int)),(7,.slice (some ⟨h.next,0,none⟩) 1 1)] fD
  ⟨0,_,rfl,Og _,by rw[rY,Bn hi],I,l1,fun b hb=>by grind [blk]⟩ ?_
 rintro k fr n r ⟨t,o,rfl,J,rfl,g,leq,ap⟩;have st:=ke hi A J;have R:(i+t)%f.length<f.length:=C4 _ NH;by_cases c:(i+t)%f.length=j
 .have d : decide ((((i + t) % f.length : Nat) : Int) = (j : Int)) = true := decide_eq_true NH
  refine Sk (XC @bne.eq_1.{0} d) ?_
  grind [Qk]
 .have d : decide ((((i + t) % f.length : Nat) : Int) = (j : Int)) = false := decide_eq_false NH
  have s:t<(j+f.length-i)%f.length:=pw;have aw:=Tw ((i+t)%f.length) NH;have K:((i+t)%f.length+1)%f.length=(i+(t+1))%f.length:=by rw[Nat.mod_add_mod];rfl
  have e:(i+(t+1))%f.length<f.length:=C4 _ NH;have M:¬((f.length:Int)=0):=NH;have N:=JG (c:=(i+t)%f.length) (m:=f.length) NH;rw[K]at N;have u:(((((i+t)%f.length+1:Nat):Int))).tmod (f.length:Int)=(((i+(t+1))%f.length:Nat):Int):=pw;have w:awrap .i64 (((i+(t+1))%f.length:Nat):Int)=(((i+(t+1))%f.length:Nat):Int):=cT _ NH NH;obtain⟨l,S,T,e4,O,U,V,l4,hf,-⟩:=g.push r ((f.getD ((i+(t+1))%f.length) 0:Nat):Int) (by grind [y6]);obtain⟨l5,P⟩:=hf h leq ap;simp only[HO,Nat.reduceLT,↓reduceIte,Nat.reduceEqDiff,reduceCtorEq,bne,d,aw,y,M,u,w,ad _ e,ld n leq _ e,e4,O];refine tn ((j+f.length-i)%f.length-(t+1)) [(0,v),(1,.int .i64 (((i+(t+1))%f.length:Nat):Int)),(2,.int .i64 (j:Int)),(7,l)] NH fD ⟨t+1,l,rfl,s,rfl,?_,l5,P⟩;have:L (t+1)=L t++[f.getD ((i+(t+1))%f.length) 0]:=by grind [List.range_succ]
  grind [aab]
variable {h:AHeap} {v:Value} {xs:RZ}
theorem GI.tail (g:GI h v xs) (hi:i<=xs.length):
  ∃u,aSlice Tryz.prog 49 v (some (.int .i64 (i:Int))) none none=some u/\((i=xs.length/\xO u 0)\/(i<xs.length/\∃cap,u=.slice (some (elemAddr v i)) (xs.length-i) cap)):=by
 obtain⟨k,⟨rfl,d⟩|⟨id,c,cap,rfl,l,m,f⟩⟩:=g
 .have : i = 0 := NH
  subst this;refine⟨.slice none 0 0,?_,.inl ⟨d.symm,⟨none,0,rfl,Ma⟩⟩⟩;have:¬RA<=0:=by decide
  simp[aSlice,Ac,Mb,this,aBounds,aBound]
 .have h2 : (0 : Int) <= (i : Int) := NH
  have h3:(i:Int)<=(xs.length:Int):=NH;have b:UA Tryz.prog 3=1:=Ji;rcases f with rfl|⟨rfl,j⟩
  .refine ⟨.slice (some (Ip ⟨id, 0, none⟩ i)) (xs.length - i) (RA + 1), by simp [aSlice, Ac, Mb, b, aBounds, aBound, h2, h3], ?_⟩
   by_cases c:i=xs.length
   .exact .inl ⟨c,⟨_,_,by rw[c,pz],Ma⟩⟩
   .exact .inr ⟨NH,_,rfl⟩
  .have a : ¬ RA <= xs.length := iu.2 (Ki j WY)
   refine⟨.slice (if xs.length=i then some ⟨id,0,none⟩else some (Ip ⟨id,0,none⟩ i)) (xs.length-i) (xs.length-i),by simp[aSlice,Ac,Mb,b,aBounds,aBound,h2,h3,a],?_⟩
   by_cases c:i=xs.length
   .refine .inl ⟨c,⟨_,_,by rw[c,pz],Ma⟩⟩
   .exact .inr ⟨NH,_,by rw[if_neg (fun e=>c e.symm)];rfl⟩
theorem Ao (g:GI h v xs) (hi:i<xs.length):elemAddr (.slice (some (elemAddr v i)) (xs.length-i) c) j=elemAddr v (i+j):=by
 obtain⟨a,⟨rfl,b⟩|⟨id,c,cap,rfl,d,e,f⟩⟩:=g
 all_goals grind [fA,Ub]
theorem rev_w (h:m<=100000) (a:2*j<=m):awrap .i64 ((m:Int)-1-(j:Int)-1)=(m:Int)-1-((j+1:Nat):Int):=by grind [ie]
def rev_2 (h:2*j+1<m):2*(j+1)<=m:=NH
theorem xB (U:LA) (u v:Value) (xs:RZ) (i:Nat) (h:AHeap) (g:GI h v xs) (hn:xs.length<=100000) (L:(i=xs.length/\xO u 0)\/(i<xs.length/\∃cap,u=.slice (some (elemAddr v i)) (xs.length-i) cap)):
  AC Tryz.prog U 94 [u] h fun _ h'=>GI h' v (xs.take i++(xs.drop i).reverse)/\(∀f,Le f h->Z2 f v->Le f h')/\∀b o,h.own b=some o->blk v≠some b->h'.own b=some o:=by
 have V:i<=xs.length:=pw;have n:(xs.drop i).length=xs.length-i:=xj;have lu:∀w,aLen Tryz.prog w 49 u=some (.int .i64 ((xs.drop i).length:Int)):=fun w=>by
  rcases L with⟨e,a,c,rfl,_⟩|⟨_,cap,rfl⟩
  .rw[Jg Ac w,n,e,pz]
  .rw[Jg Ac w,n]
 refine AC.vE ⟨afJ,rfl,WY⟩ Tryz.ntmps94 Tryz.results94 fun W=>?_;simp only[Br,Nat.reduceAdd];have X:awrap .i64 (((xs.drop i).length:Int)-1)=((xs.drop i).length:Int)-1-((0:Nat):Int):=by grind [ie]
 simp only[HO,Nat.reduceLT,↓reduceIte,Nat.reduceEqDiff,reduceCtorEq,lu,X];refine aat.intro (fun k fr y=>∃(j:Nat) (ys:RZ),k=(xs.drop i).length-j/\2*j<=(xs.drop i).length/\fr=mkF [(0,u),(2,.int .i64 j),(3,.int .i64 (((xs.drop i).length:Int)-1-(j:Int)))]/\eD (xs.drop i) ys j/\GI y v (xs.take i++ys)/\(∀f,Le f h->Z2 f v->Le f y)/\∀b o,h.own b=some o->blk v≠some b->y.own b=some o)
  (xs.drop i).length [(0,u),(2,.int .i64 (0:Nat)),(3,.int .i64 (((xs.drop i).length:Int)-1-((0:Nat):Int)))] fD
  ⟨0,xs.drop i,rfl,Og _,rfl,eD.zero _,by grind [List.take_append_drop],fun f z _=>z,fun b o hb _=>hb⟩ ?_
 rintro k fr y A ⟨j,ys,rfl,Y,rfl,R,M,Z,kq⟩;have B:(xs.drop i).length<=100000:=NH;generalize ag:xs.drop i=ds at*;by_cases c:2*j+1<ds.length
 .have d : decide ((j : Int) < (ds.length : Int) - 1 - (j : Int)) = true := decide_eq_true NH
  have C:(ds.length:Int)-1-(j:Int)=((ds.length-1-j:Nat):Int):=NH;have N:j<ys.length:=by rw[R.1];omega
  have h2:ds.length-1-j<ys.length:=by rw[R.1];omega
  have D:i<xs.length:=NH;obtain⟨_,cap,rfl⟩:=L.resolve_left fun q=>by omega
  have tl:(xs.take i).length=i:=pw;have ll:(xs.take i++ys).length=xs.length:=by rw[Eh,tl,R.1];omega
  have E:i+j<(xs.take i++ys).length:=pw;have O:i+(ds.length-1-j)<(xs.take i++ys).length:=pw;have Q:=GI.rl M;have r:∀p:Nat,p<xs.length-i->aIndexAddr Tryz.prog 49 (.slice (some (elemAddr v i)) (xs.length-i) cap) (.int .i64 (p:Int))=some (.pointer (some (elemAddr v (i+p)))):=fun p F=>by rw[Wc (P:=Tryz.prog) Ac Mb Ji p F,<-Ao g D (c:=cap)];rfl
  have G:=r j NH;have s:=r (ds.length-1-j) NH;have ld1:=Q.Uc _ E;have t:=Q.Uc _ O;have ge:∀p (F:i+p<(xs.take i++ys).length) (H:p<ys.length),(xs.take i++ys)[i+p]=ys[p]:=fun p F H=>by
   rw[List.getElem_append_right NH];exact getElem_congr_idx NH
  rw[ge _ E N]at ld1;rw[ge _ O h2]at t;have st:∀(I:RZ) p x,(xs.take i++I).set (i+p) x=xs.take i++I.set p x:=fun I p x=>by grind [List.set_append_right,Nat.add_sub_cancel_left]
  obtain⟨h5,e5,S,w5,l5,k5⟩:=GI.store M A E ys[ds.length-1-j];rw[st]at S;obtain⟨h6,e6,T,w6,l6,k6⟩:=GI.store S w5 (i:=i+(ds.length-1-j)) pw ys[j];rw[st]at T;have R6:=R.step c N h2;have J:=Tw j NH;have K:=rev_w (m:=ds.length) (j:=j) B Y;rw[<-C]at s;refine Sk d ?_;refine gh (tA [0,1,2,3,4,5,6,7,8,9,10,11,12] (JQ 13 [0,1,4,5,6,7,11,12] (tA [14] (JQ 15 [0,1,2,3,4,5,6,7,8,9,10,11,12,13,14] .done)))) ?_;simp only[HO,Nat.reduceLT,↓reduceIte,Nat.reduceEqDiff,reduceCtorEq,Nat.reduceBEq,Qg,G,s,ld1,t,e5,e6,J,K];exact tn (ds.length-(j+1)) [(0,.slice (some (elemAddr v i)) (xs.length-i) cap),(2,.int .i64 (j+1:Nat)),(3,.int .i64 ((ds.length:Int)-1-((j+1:Nat):Int)))] NH fD
   ⟨j+1,_,rfl,rev_2 c,rfl,R6,T,fun f z af=>l6 f (l5 f (Z f z af) af) af,fun b o hb l=>k6 b o (k5 b o (kq b o hb l) l) l⟩
 .have d : decide ((j : Int) < (ds.length : Int) - 1 - (j : Int)) = false := decide_eq_false NH
  refine Sk d ?_
  grind [eD.fin]
end
end Go.Fw
