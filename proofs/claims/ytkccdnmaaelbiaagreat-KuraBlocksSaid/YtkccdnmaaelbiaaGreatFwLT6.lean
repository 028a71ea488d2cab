/- A text. -/
import Derived.Test.YtkccdnmaaelbiaaGreatFwLT3
import Derived.Test.YtkccdnmaaelbiaaGreatFwLZ7
import Derived.Test.YtkccdnmaaelbiaaGreatFwLI7
set_option linter.all false
set_option maxRecDepth 99999
set_option maxHeartbeats 9999999
namespace Go.Fw
variable {a b c n u v:Nat} {es:List Pr} {ls:List Lw} {num:Nat->Nat} {o:II} {up:Nat->Option Nat} {α:Type}
def CB (S:abG n es ls o num up) (a:v<n) (c:up v=some u):((Ro ls v).2.2<(Ro ls u).1↔ym es num up u v):=by
 have b:=((S.fo.Kd v u a c).1.lt S.fo.rD).1;obtain⟨x,d,h2⟩:=S.low v a;rw[d,S.fO u b,<-S.fo.agm a c h2];omega
theorem Of (S:abG n es ls o num up) (a:v<n):(0<=(Ro ls v).2.1/\∃u,up v=some u/\(Ro ls v).2.1=(u:Int))\/(¬0<=(Ro ls v).2.1/\up v=none):=by
 by_cases c:0<=(Ro ls v).2.1
 .obtain ⟨u, b⟩ := yY c
  exact .inl ⟨c,u,by rw[<-S.ups v a,b,PB],b⟩
 .exact .inr ⟨c,by rw[<-S.ups v a];grind [HH]⟩
def Cl (n:Nat) (es:List Pr) (v:Nat):Nat:=((hdM (Jz n es).1 (Jz n es).2 n).getD v 0).toNat
theorem hd_fold (S:abG n es ls o num up):∀k,k<=n->
  ∃hd:Nat->Nat,(∀(j v:Nat),j<k->o[j]?=some v->((o.take k).foldl (rQ ls) (List.replicate n 0)).getD v 0=(hd v:Int)/\
   (up v=none->hd v=v)/\(∀u,up v=some u->ym es num up u v->hd v=hd u)/\(∀u,up v=some u->¬ym es num up u v->hd v=v)):=by
 intro k
 induction k with
 |zero=>intro _;exact⟨id,fun j v h=>by omega⟩
 |succ k G=>
  intro R;obtain⟨hd,H⟩:=G NH;have m:k<o.length:=by rw[S.Em];omega
  have y:o.take (k+1)=o.take k++[o[k]]:=EL m;have b:=CA m;generalize o[k]=w at y b;have f:=(S.mem w).1 (Gc b);have T:((o.take k).foldl (rQ ls) (List.replicate n 0)).length=n:=by grind [Cc]
  have g:(o.take (k+1)).foldl (rQ ls) (List.replicate n 0)=rQ ls ((o.take k).foldl (rQ ls) (List.replicate n 0)) w:=pw;rw[g];generalize (o.take k).foldl (rQ ls) (List.replicate n 0)=L at*;have z:∀(j v:Nat),j<k->o[j]?=some v->v≠w:=fun j v E d e=>by grind [List.getElem?_inj,abG.nd]
  have p:∀u,up w=some u->∃j,j<k/\o[j]?=some u:=fun u a=>by
   obtain⟨F,h2⟩:=S.fo.Kd w u f a;obtain⟨j,E⟩:=IE.1 ((S.mem u).2 (F.lt S.fo.rD).1)
   grind [abG.ord]
  let x:Nat:=match up w with
   |none=>w
   |some u=>if 0<=(Ro ls w).2.1/\(Ro ls w).2.2<(Ro ls (Ro ls w).2.1.toNat).1 then hd u else w
  have I:(rQ ls L w).getD w 0=(x:Int)/\(∀v,v≠w->(rQ ls L w).getD v 0=L.getD v 0)/\(up w=none->x=w)/\(∀u,up w=some u->ym es num up u w->x=hd u)/\(∀u,up w=some u->¬ym es num up u w->x=w):=by
   rcases Of S f with⟨c,u,a,J⟩|⟨c,a⟩
   .have t : x = if 0 <= (Ro ls w).2.1 /\ (Ro ls w).2.2 < (Ro ls (Ro ls w).2.1.toNat).1 then hd u else w := pw
    have hb:=CB S f a;by_cases q:ym es num up u w
    .have l : 0 <= (Ro ls w).2.1 /\ (Ro ls w).2.2 < (Ro ls (Ro ls w).2.1.toNat).1 := ⟨c, by grind [Int.toNat_natCast]⟩
     obtain⟨j,r,s⟩:=p u a;have A:=(H j u r s).1;have B:=z j u r s;rw[t,if_pos l];refine⟨?_,fun v d=>?_,fun e=>pw,fun u' e _=>pw,fun u' e nb=>pw⟩
     .unfold rQ;rw[if_pos l,cA,if_pos ⟨rfl,pw⟩,J,Sb,cA,if_neg (fun h=>B h.1.symm)];exact A
     .unfold rQ;rw[if_pos l,cA,if_neg (fun h=>d h.1.symm),cA,if_neg (fun h=>d h.1.symm)]
    .have l : ¬ (0 <= (Ro ls w).2.1 /\ (Ro ls w).2.2 < (Ro ls (Ro ls w).2.1.toNat).1) := fun h => q (hb.1 (by grind [Int.toNat_natCast]))
     rw[t,if_neg l];refine⟨?_,fun v d=>?_,fun _=>rfl,fun u' e nb=>pw,fun u' e _=>rfl⟩
     .grind [rQ]
     grind [rQ]
   .have t : x = w := pw
    have l:¬(0<=(Ro ls w).2.1/\(Ro ls w).2.2<(Ro ls (Ro ls w).2.1.toNat).1):=fun h=>c h.1;rw[t];refine⟨?_,fun v d=>?_,fun _=>rfl,fun u' e=>pw,fun u' e=>pw⟩
    .grind [rQ]
    grind [rQ]
  obtain⟨K,U,M,V,N⟩:=I
  refine⟨fun v=>if v=w then x else hd v,fun j v E d=>?_⟩
  by_cases e:v=w
  .subst e
   simp only[if_pos];refine⟨K,M,fun u a hb=>?_,N⟩;obtain⟨i,O,P⟩:=p u a
   grind
  .have C : j < k := pw
   obtain⟨F,h2,h3,Q⟩:=H j v C d;simp only[if_neg e];refine⟨pw,h2,fun u a hb=>?_,Q⟩;have D:=(S.mem v).1 (Gc d);obtain⟨W,X⟩:=S.fo.Kd v u D a;have:u≠w:=fun e'=>by grind [abG.ord]
   grind
theorem FY (S:abG n es (Jz n es).1 (Jz n es).2 num up):Fo.aam n es num up (Cl n es)/\∀v,v<n->(hdM (Jz n es).1 (Jz n es).2 n).getD v 0=(Cl n es v:Int):=by
 obtain⟨hd,H⟩:=hd_fold S n (Ny _);rw[HV (by grind [abG.Em])]at H;have ex:∀v,v<n->∃j,j<n/\(Jz n es).2[j]?=some v:=fun v a=>by
  obtain⟨j,f⟩:=IE.1 ((S.mem v).2 a)
  grind [abG.Em]
 have e:∀v,v<n->Cl n es v=hd v:=fun v a=>by grind [Cl,hdM]
 have d:∀v,v<n->(hdM (Jz n es).1 (Jz n es).2 n).getD v 0=(Cl n es v:Int):=fun v a=>by
  obtain⟨j,c,h2⟩:=ex v a;have:=(H j v c h2).1;rw[e v a];exact this
 refine⟨⟨fun v a b=>?_,fun v u a b hb=>?_,fun v u a b hb=>?_⟩,d⟩
 .grind
 .obtain ⟨j, c, h2⟩ := ex v a
  rw[e v a,e u ((S.fo.Kd v u a b).1.lt S.fo.rD).1];grind
 grind
theorem keyE_hd (S:abG n es (Jz n es).1 (Jz n es).2 num up) (ha:a<n) (d:c<n):cQ n es ((a:Int),(c:Int))=(Cl n es (Fo.lower num a c):Int):=by
 have e:pK (Jz n es).1 ((a:Int),(c:Int))=Fo.lower num a c:=by
  simp only[pK,Sb,Fo.lower,S.fO a ha,S.fO c d]
  grind
 have b:Fo.lower num a c<n:=by grind [Fo.lower]
 rw[cQ,e,(FY S).2 _ b]
theorem Ab (h:num a≠num b):Fo.lower num a b=Fo.lower num b a:=by grind [Fo.lower]
theorem jm (S:abG n es (Jz n es).1 (Jz n es).2 num up) (h:Jp es a b):cQ n es (GW a b)=(Cl n es (Fo.lower num a b):Int):=by
 have c:=S.fo.JD h;have d:=h.lt S.fo.rD
 grind [bj,keyE_hd,Ab]
theorem dR (c:aV n es) (ha:Jp es v a) (hb:Jp es v b):cQ n es (GW v a)=cQ n es (GW v b)↔Cn (wo v) es a b:=by
 obtain⟨num,up,S⟩:=Ob c;rw[jm S ha,jm S hb,<-S.fo.Hp (FY S).1 ha hb]
 grind
def acq (k:aV n es) (of:Pr->α) (j:∀v a b,Jp es v a->Jp es v b->Cn (wo v) es a b->of (GW v a)=of (GW v b)) {p q:Pr} (i:p∈es) (l:q∈es) (h:cQ n es p=cQ n es q):of p=of q:=by
 obtain⟨num,up,S⟩:=Ob k;have ex:∀p∈es,∃a b:Nat,Jp es a b/\p=GW a b:=fun p i=>by
  have e:=k p i;obtain⟨x,y⟩:=p;simp only at e;obtain⟨a,rfl⟩:=yY e.1;obtain⟨c,rfl⟩:=yY (show 0<=y by omega);exact⟨a,c,.inl i,by unfold GW;rw[Int.min_eq_left NH,Int.max_eq_right NH]⟩
 obtain⟨a,b,f,rfl⟩:=ex p i;obtain⟨c,d,g,rfl⟩:=ex q l;rw[jm S f,jm S g]at h;exact S.fo.link2 (FY S).1 (fun x y=>of (GW x y)) (fun x y=>by rw[so]) j f g (Int.ofNat.inj h)
def fkS (key:Pr->Int) (ks:RZ) (p:Pr):RZ:=if key p∈ks then ks else ks++[key p]
def CY (key:Pr->Int) (es:List Pr):RZ:=es.foldl (fkS key) []
def Mr (key:Pr->Int) (es:List Pr) (p:Pr):CY key (es++[p])=fkS key (CY key es) p:=by simp[CY]
theorem lQ (key:Pr->Int):∀(k:Nat) (es:List Pr),es.length=k->(CY key es).Nodup/\∀x,x∈CY key es↔∃p∈es,key p=x:=by
 intro k
 induction k with
 |zero=>grind [CY]
 |succ k a=>
  intro es h;obtain⟨es,p,rfl⟩:∃es' p,es=es'++[p]:=by
   rcases MA es with rfl|⟨es',p,h'⟩
   all_goals grind
  obtain⟨b,h2⟩:=a es (by simpa using h);rw[Mr];unfold fkS;by_cases q:key p∈CY key es
  .grind
  .rw [if_neg q]
   refine⟨?_,fun x=>?_⟩
   .grind
   grind
theorem HK (F:Int->List Pr) (f:Int) (p:Pr):∀(ks:RZ),ks.Nodup->addG (ks.map fun k=>(k,F k)) f p=if f∈ks then ks.map (fun k=>(k,if k=f then F k++[p]else F k))else ks.map (fun k=>(k,F k))++[(f,[p])]
 |[],_=>by simp[addG]
 |k::ks,a=>by
  rw[eR]at a;have b:=HK F f p ks a.2
  grind [addG,List.map_congr_left]
theorem ba (key:Pr->Int) (es:List Pr):∀m,m<=es.length->grpsM (fun p _=>key p) es [] m=(CY key (es.take m)).map fun k=>(k,(es.take m).filter fun p=>decide (key p=k))
 |0,_=>by simp[grpsM,CY]
 |m+1,h=>by
  have b:m<es.length:=h;have c:=CA b;have a:es.take (m+1)=es.take m++[es[m]]:=EL b;generalize es[m]=p at c a;obtain⟨d,h2⟩:=lQ key _ (es.take m) rfl;rw[dh c Ma,ba key es m NH,HK _ _ _ _ d,a,Mr];unfold fkS;by_cases q:key p∈CY key (es.take m)
  .grind
  .rw [if_neg q, if_neg q, pz]
   congr 1
   .grind [List.map_congr_left]
   grind [List.filter_eq_nil_iff]
theorem aai (n:Nat) (es:List Pr):vq n es=(CY (cQ n es) es).map fun k=>es.filter fun p=>decide (cQ n es p=k):=by rw[vq,ba _ _ _ (Ny _),mV,vu];rfl
theorem Iq (key:Pr->Int):∀(k:Nat) (es:List Pr),es.length=k->∀(i j:Nat) a b,i<j->(CY key es)[i]?=some a->(CY key es)[j]?=some b->∃(x:Nat) (p:Pr),es[x]?=some p/\key p=a/\∀(y:Nat) q,es[y]?=some q->key q=b->x<y:=by
 intro k
 induction k with
 |zero=>grind [CY]
 |succ k g=>
  intro es h i j a b f hi d;obtain⟨es,p,rfl⟩:∃es' p,es=es'++[p]:=by
   rcases MA es with rfl|⟨es',p,h'⟩
   all_goals grind
  have g:=g es (by simpa using h);obtain⟨w,h2⟩:=lQ key _ es rfl;rw[Mr]at hi d;have lift:∀a b,(∃(x:Nat) (p:Pr),es[x]?=some p/\key p=a/\∀(y:Nat) q,es[y]?=some q->key q=b->x<y)->∃(x:Nat) (r:Pr),(es++[p])[x]?=some r/\key r=a/\∀(y:Nat) q,(es++[p])[y]?=some q->key q=b->x<y:=by
   rintro a b ⟨x,r,o,t,z⟩;have n:=(qL0.1 o).1;refine⟨x,r,pw,t,fun y q l A=>?_⟩;by_cases c:y<es.length
   .rw[AE c]at l;grind
   .omega
  unfold fkS at hi d;by_cases q:key p∈CY key es
  .rw[if_pos q]at hi d;exact lift a b (g i j a b f hi d)
  .rw [if_neg q] at hi d
   rcases To j (CY key es).length with c|c
   .rw [AE c] at d
    rw[AE NH]at hi;exact lift a b (g i j a b f hi d)
   .have m := (qL0.1 d).1
    simp at m;have:j=(CY key es).length:=NH;subst this;rw[Z6 (Ny _)]at d;simp at d;subst d;rw[AE f]at hi;obtain⟨r,u,e⟩:=(h2 a).1 (Gc hi);obtain⟨x,n⟩:=IE.1 u;have v:=(qL0.1 n).1;refine⟨x,r,pw,e,fun y s l hs=>?_⟩;by_cases c:y<es.length
    .rw [AE c] at l
     exact absurd ((h2 _).2 ⟨s,Gc l,hs⟩) q
    .omega
open Classical in
theorem Mo {n:Nat} {es:List Pr} {ls:List Lw} {o:II} {num:Nat->Nat} {up:Nat->Option Nat} (S:abG n es ls o num up) (v:Nat) (e:v<n):∀(l:II),(∀x∈l,x<n)->∀c:RZ,c.length=n->
  (l.foldl (zD ls) c).getD v 0=c.getD v 0+((l.filter fun x=>decide (up x=some v/\¬ym es num up v x)).length:Int)
 |[],_,c,_=>by simp
 |w::l,d,c,i=>by
  have a:=d w Ma;rw[Yq,Mo S v e l (fun x f=>d x (by simp[f])) _ (by grind [AX])]
  have key:(zD ls c w).getD v 0=c.getD v 0+if up w=some v/\¬ym es num up v w then 1 else 0:=by
   rcases Of S a with⟨h,u,b,j⟩|⟨h,b⟩
   .have hb := CB S a b
    have g:=((S.fo.Kd w u a b).1.lt S.fo.rD).1;unfold zD;by_cases q:ym es num up u w
    .grind
    grind
   grind [zD]
  grind
theorem Cv (s:aV n es) {v:Nat} (o:v<n):yg (Jz n es).1 (cntM (Jz n es).1 (Jz n es).2 n) v=true↔Fo.iE es v:=by
 classical
 obtain⟨num,up,S⟩:=Ob s;rw[S.fo.agn v o];have q:=Mo S v o (Jz n es).2 (fun x t=>(S.mem x).1 t) (List.replicate n 0) Ma;have u:(List.replicate n (0:Int)).getD v 0=0:=pw;rw[u,Int.zero_add]at q;have b:=S.nd.sublist (vZ (p:=fun x=>decide (up x=some v/\¬ym es num up v x)));have a:∀x,x∈(Jz n es).2.filter (fun x=>decide (up x=some v/\¬ym es num up v x))↔x<n/\up x=some v/\¬ym es num up v x:=fun x=>by rw[EP,S.mem,decide_eq_true_eq]
 have e:(Ro (Jz n es).1 v).2.1>=0↔up v≠none:=by grind [Of]
 have j:cntM (Jz n es).1 (Jz n es).2 n=(Jz n es).2.foldl (zD (Jz n es).1) (List.replicate n 0):=rfl;simp only[yg,aa1,bC,decide_eq_true_eq,j,q,e];generalize (Jz n es).2.filter (fun x=>decide (up x=some v/\¬ym es num up v x))=L at*;constructor
 .rintro (h | ⟨w, h2⟩)
  .match L, h, b, a with
   |[],h,_,_=>simp at h
   |[_],h,_,_=>simp at h
   |x::y::r,_,b,a=>
    obtain⟨a1,a2,z⟩:=(a x).1 Ma;obtain⟨A,B,C⟩:=(a y).1 Ma
    grind
  .match L, w, a with
   |[],h,_=>simp at h
   |x::r,_,a=>
    obtain⟨a1,a2,z⟩:=(a x).1 Ma
    grind
 .rintro (⟨c, d, f, k, ne, g, l, i, m⟩ | ⟨c, f, g, i, D⟩)
  .have m1 := (a c).2 ⟨f, g, i⟩
   have m2:=(a d).2 ⟨k,l,m⟩;left
   match L,m1,m2 with
   |[],m1,_=>simp at m1
   |[x],m1,m2=>grind
   |x::y::r,_,_=>grind
  grind
theorem OI (a:aV n es) (v:Nat):v∈JL n es↔v<n/\Fo.iE es v:=by grind [JL.eq_1,Cv]
def woE (es:List Pr) (p:Pr):List Pr:=es.filter fun q=>decide (q≠p)
def ab9 (b:aV n es) (d:a<c) (x y:Nat):Jp (woE es ((a:Int),(c:Int))) x y↔Jp es x y/\¬isE a c x y:=by
 have e:∀(x y:Nat),((x:Int),(y:Int))=((a:Int),(c:Int))↔x=a/\y=c:=fun x y=>by rw[Og];omega
 simp only[Jp,woE,EP,decide_eq_true_eq,ne_eq,e,isE];constructor
 .rintro (⟨h, k⟩ | ⟨h, k⟩)
  .have := b _ h; simp only at this
   exact⟨.inl h,NH⟩
  .have := b _ h; simp only at this
   exact⟨.inr h,NH⟩
 .rintro ⟨h | h, k⟩
  .exact .inl ⟨h,NH⟩
  .exact .inr ⟨h,NH⟩
def Br (es:List Pr) (p:Pr):Prop:=p∈es/\¬Pu (woE es p) p.1.toNat p.2.toNat
theorem Ml:∀(a b:List Pr),a.Pairwise (fun x y=>x.1<y.1\/x.1=y.1/\x.2<y.2)->b.Pairwise (fun x y=>x.1<y.1\/x.1=y.1/\x.2<y.2)->(∀x,x∈a↔x∈b)->a=b
 |[],[],_,_,_=>rfl
 |[],y::b,_,_,h=>by have:=(h y).2 Ma;simp at this
 |x::a,[],_,_,h=>by have:=(h x).1 Ma;simp at this
 |x::a,y::b,ha,hb,h=>by
  rw[acT]at ha hb;have e:x=y:=pw;subst e;rw[Ml a b ha.2 hb.2 fun z=>?_]
  grind
def brB_mem (l:aV n es) (p:Pr):p∈(Jz n es).2.filterMap (brB (Jz n es).1)↔Br es p:=by
 obtain⟨num,up,S⟩:=Ob l;have lw:∀v,v<n->∃x:Nat,(Ro (Jz n es).1 v).2.2=(x:Int)/\Iw es num up (pJ up) v x:=S.low;let o:Nat->Nat:=fun v=>(Ro (Jz n es).1 v).2.2.toNat;have s:∀v,v<n->Iw es num up (pJ up) v (o v):=fun v f=>by
  obtain⟨x,t,h2⟩:=lw v f;have:o v=x:=by show(Ro (Jz n es).1 v).2.2.toNat=x;rw[t];simp
  rw[this];exact h2
 have r:∀v,v<n->(Ro (Jz n es).1 v).2.2=(o v:Int):=fun v f=>by
  obtain⟨x,t,_⟩:=lw v f;show _=(((Ro (Jz n es).1 v).2.2.toNat:Nat):Int);rw[t];simp
 have hb:∀v,v<n->∀u,up v=some u->brB (Jz n es).1 v=if o v=num v then some (GW u v)else none:=fun v f u d=>by
  rcases Of S f with⟨h,u',b,C⟩|⟨h,b⟩
  .rw [d] at b; injection b with b; subst b
   unfold brB;by_cases q:o v=num v
   .rw[if_pos q,if_pos ⟨h,by rw[r v f,S.fO v f,q]⟩,C];rfl
   .rw[if_neg q,if_neg (fun k=>q (by have:=k.2;rw[r v f,S.fO v f]at this;omega))]
  .rw[d]at b;cases b
 have w:∀v,v<n->up v=none->brB (Jz n es).1 v=none:=fun v f d=>by
  rcases Of S f with⟨h,u',b,C⟩|⟨h,_⟩
  .rw[d]at b;cases b
  .unfold brB;rw[if_neg (fun k=>h k.1)]
 rw[List.mem_filterMap];constructor
 .rintro ⟨v, f, g⟩
  have m:=(S.mem v).1 f;cases d:up v with
  |none=>rw[w v m d]at g;cases g
  |some u=>
   rw[hb v m u d]at g;split at g
   .rename_i q
    injection g with g;subst g;have i:=S.fo.Kd v u m d;refine⟨H4 l i.1,?_⟩;rw[bj];simp only[Sb];have D:=i.1.lt l;have z:=S.fo.JD i.1;have E:u≠v:=fun e=>z (by rw[e]);rcases aeY u v with k|k
    .rw [Ua k, pC k]
     exact(S.fo.acj s i.1 (fun x y=>ab9 l NH x y)).2 (.inl ⟨d,q⟩)
    .rw [NC k, Nat.max_eq_left k]
     exact(S.fo.acj s i.1.symm (fun x y=>ab9 l NH x y)).2 (.inr ⟨d,q⟩)
   .cases g
 .rintro ⟨g, A⟩
  have j:=l p g;obtain⟨x,y⟩:=p;simp only at j A;obtain⟨a,rfl⟩:=yY j.1;obtain⟨c,rfl⟩:=yY (show 0<=y by omega);simp only[Sb]at A;have B:a<c:=NH;rcases(S.fo.acj s (.inl g) (fun x y=>ab9 l B x y)).1 A with⟨d,q⟩|⟨d,q⟩
  .refine ⟨c, (S.mem c).2 NH, ?_⟩
   rw[hb c NH a d,if_pos q,bj,Ua NH,pC NH]
  .refine ⟨a, (S.mem a).2 NH, ?_⟩
   rw[hb a NH c d,if_pos q,bj,NC NH,Nat.max_eq_left NH]
open Classical in
theorem acL {n:Nat} {es:List Pr} (r:aV n es) (ha:D3 es):aaR n es=es.filter fun p=>decide (Br es p):=by
 obtain⟨num,up,S⟩:=Ob r;refine Ml _ _ ?_ ?_ fun p=>?_
 .have nd:(aaR n es).Nodup:=by
   rw[aaR,(YA _).nodup_iff];rw[List.Nodup,List.pairwise_filterMap];refine(si.1 S.nd).imp_of_mem ?_;intro v w z hw l p c q d e;subst e;have f:=(S.mem v).1 z;have g:=(S.mem w).1 hw;unfold brB at c d;split at c
   .split at d
    .rename_i s h2
     rcases Of S f with⟨_,u,A,B⟩|⟨h,_⟩
     .rcases Of S g with ⟨_, t, C, m⟩ | ⟨h, _⟩
      .injection c with c; injection d with d
       rw[B]at c;rw[m]at d;rw[<-d]at c;injection c with E F;have k1:=(S.fo.Kd v u f A).2;have k2:=(S.fo.Kd w t g C).2;have:(u=t/\v=w)\/(u=w/\v=t):=NH;rcases this with⟨_,e⟩|⟨rfl,rfl⟩
       .exact l e
       .omega
      .exact h h2.1
     .exact h s.1
    .cases d
   .cases c
  have:=List.Pairwise.and (VH ((Jz n es).2.filterMap (brB (Jz n es).1))) (si.1 nd);refine this.imp fun h=>?_;rename_i a b;obtain⟨s,h2⟩:=h;have:¬(a.1=b.1/\a.2=b.2):=fun k=>h2 (mT k.1 k.2);omega
 .have:es.Pairwise fun x y=>x.1<y.1\/x.1=y.1/\x.2<y.2:=by
   rw[K4];intro i j hi D o;exact ha.lt o (BS hi) (BS D)
  exact this.filter _
 .rw [aaR, Wb, brB_mem r, EP, decide_eq_true_eq]
  exact⟨fun h=>⟨h.1,h⟩,fun h=>h.2⟩
end Go.Fw
namespace Go.Fw
open Go.Proofs
attribute [local instance] Classical.propDecidable
def ZH (l:II):List Pr:=(List.range l.length).map fun i=>GW (l.getD i 0) (l.getD ((i+1)%l.length) 0)
theorem dN {l:II} (nd:l.Nodup) {j:Nat} (a:j<l.length):nx l (l.getD j 0)=l.getD ((j+1)%l.length) 0:=by grind [Qy]
theorem Ba {l:II} (nd:l.Nodup) {v w:Nat}:GW v w∈ZH l↔Ei l v w:=by
 unfold ZH;rw[jf];constructor
 .rintro ⟨i, hi, e⟩
  rw[ZT]at hi;have b:l.getD i 0∈l:=pw;rcases Dc e with⟨a,h2⟩|⟨a,h2⟩
  .rw[<-a,<-h2];exact .inl ⟨b,dN nd hi⟩
  .rw[<-a,<-h2];exact .inr ⟨b,dN nd hi⟩
 .have go:∀{v w},v∈l->nx l v=w->∃i∈List.range l.length,GW (l.getD i 0) (l.getD ((i+1)%l.length) 0)=GW v w:=fun{v w} c e=>by
   obtain⟨i,hi,rfl⟩:=FD.1 c;refine⟨i,ZT.2 hi,?_⟩
   grind [dN]
  rintro(⟨a,h2⟩|⟨a,h2⟩)
  all_goals grind [so]
structure Ho (n:Nat) (es:List Pr) (l:II):Prop where
 nd:l.Nodup
 h3:3<=l.length
 Jp:∀v∈l,Jp es v (nx l v)
noncomputable def Mw (n:Nat) (es:List Pr) (l:II) (L:RZ):kR:=
 ⟨tV (List.replicate n false) l,[l,l.reverse],(LJ n es (sortP (ZH l)) L).map fun f=>⟨f.zp,f.Fm,zh [l,l.reverse] f.Fm [0,1]⟩⟩
section
variable {n : Nat} {es : List Pr} {l : List Nat} {L : List Int}
theorem Ho.lt (R:Ho n es l) (hR:aV n es) {v:Nat} (a:v∈l):v<n:=((R.Jp v a).lt hR).1
theorem Ho.ik (R:Ho n es l) (hR:aV n es) {e:Pr} (a:e∈ZH l):e∈es:=by grind [ZH,dN,Ho.nd,aak,Ho.Jp]
theorem Ho.nodup (R:Ho n es l):(ZH l).Nodup:=by
 unfold ZH;rw[si,DF];refine(si.1 qH).imp_of_mem fun{i j} hi b a e=>?_
 grind [dN,Ho.nd,Dc,List.getElem_inj,aag,Ho.h3,c7]
theorem Ho.web (R:Ho n es l) (hR:aV n es):CU es (sortP (ZH l)):=by
 refine⟨fun i p q hi a=>?_,fun p b=>R.ik hR ((Wb _ _).1 b)⟩;have c:=VH (ZH l);have h2:=si.1 ((YA (ZH l)).nodup_iff.2 R.nodup);have h:=(c.and h2);rw[K4]at h;obtain⟨a1,d⟩:=qL0.1 hi;obtain⟨a2,e⟩:=qL0.1 a;have:=h i (i+1) a1 a2 NH;rw[d,e]at this;rw[Hv]
 grind
theorem Ho.mem (R:Ho n es l) {v w:Nat}:GW v w∈sortP (ZH l)↔Ei l v w:=by rw[Wb,Ba R.nd]
theorem rng_on (nd:l.Nodup) {v:Nat}:(∃w,Ei l v w)↔v∈l:=by
 constructor
 .rintro ⟨w, h | h⟩
  all_goals grind [ZP]
 .intro h;exact⟨_,.inl ⟨h,rfl⟩⟩
theorem Ho.offl (R:Ho n es l) (hR:aV n es) {v:Nat}:¬off (eN n es) (Ei l) v↔v∈l:=by
 constructor
 .grind [Q7,rng_on,Ho.nd]
 .intro h q
  exact q _ ((vD hR).2 (R.Jp v h)) (.inl ⟨h,rfl⟩)
theorem Ho.wOn (R:Ho n es l) {v:Nat}:onW (sortP (ZH l)) v↔v∈l:=by
 unfold onW;constructor
 .rintro ⟨e, a, h⟩
  rw[Wb]at a;unfold ZH at a
  grind [Sl,Nat.mod_lt]
 .intro h
  refine⟨GW v (nx l v),R.mem.2 (.inl ⟨h,rfl⟩),?_⟩
  grind [Sl]
theorem Ho.fOn (R:Ho n es l) {v:Nat} (a:v<n):Qw n (sortP (ZH l)) v=true↔v∈l:=by grind [Cb,Ho.wOn]
theorem Ho.start (R:Ho n es l) (hR:aV n es) (hA:D3 es) (H:wx n (Qw n (sortP (ZH l))) es L):Z8 n es (Ei l) (Mw n es l L):=by
 have F:=MG hR hA;have hs:∀v w,Ei l v w->Ei l w v:=fun v w h=>ki h;have z:∀v,v<n->(Qw n (sortP (ZH l)) v=true↔¬off (eN n es) (Ei l) v):=fun v o=>by rw[R.fOn o,R.offl hR]
 have T:=Yn (n:=n) (web:=sortP (ZH l)) (same:=FW (Qw n (sortP (ZH l))) es) hA.nodup fun j M e e' r A _ _=>K2 hR hA.nodup H r A;have s:∀v w,GW v w∈es->GW v w∉sortP (ZH l)->Un (eN n es) (Ei l) v w:=fun v w k h2=>by
  refine⟨(vD hR).2 (Mf (fun e=>?_) k),fun q=>h2 (R.mem.2 q)⟩;subst e;have:=(hR _ k).2.1
  grind [bj]
 have B:LJ n es (sortP (ZH l)) L=((grpsM (Zo n (Qw n (sortP (ZH l))) L) es (sortP (ZH l)) es.length).map (·.2)).map fun g=>⟨g,YJ (Qw n (sortP (ZH l))) g⟩:=by
  unfold LJ;rw[vu];rfl
 refine⟨PU.start R.nd R.h3 F fun v o=>(vD hR).2 (R.Jp v o),?_,fun v o=>?_,fun p m=>?_,fun v w t=>?_,?_,?_⟩
 .show (tV (List.replicate n false) l).length = n
  grind [Pe]
 .show Wg (tV (List.replicate n false) l) v = true ↔ _
  grind [mQ,Ho.offl]
 .obtain ⟨f, hf, rfl⟩ := jf.1 m
  rw[B]at hf;obtain⟨g,hg,rfl⟩:=jf.1 hf;clear hf m;have a:=T.sub g hg;have one:∀{v w x y:Nat},Un (eN n es) (Ei l) x y->GW v w∈g->(GW x y∈g↔QI (eN n es) (Ei l) x y=QI (eN n es) (Ei l) v w):=fun{v w x y} b C=>
   Nj hR hA hs (fun e r=>r) z T s (fun v w x y t _ _ _=>⟨un_in hR t,fun q=>t.2 (R.mem.1 q)⟩) hg b C
  have un:∀{v w},GW v w∈g->Un (eN n es) (Ei l) v w:=fun h=>s _ _ (a.subset h) (T.inP g hg _ h);have G:=feet_eq (web:=sortP (ZH l)) hR fun p m=>a.subset m;have I:∀u:Nat,(u:Int)∈YJ (Qw n (sortP (ZH l))) g↔¬off (eN n es) (Ei l) u/\∃w,Un (eN n es) (Ei l) u w/\GW u w∈g:=fun u=>by
   rw[G,E7];constructor
   .rintro ⟨v, o, e, k, h2⟩
    obtain rfl:u=v:=NH;obtain⟨e,r,b⟩:=DX.1 h2;obtain⟨p,m,J⟩:=DX.1 k;refine⟨(R.offl hR).2 (R.wOn.1 ⟨p,m,by grind [aO]⟩),?_⟩;obtain⟨c,d,rfl,D,hd⟩:=jB hR (a.subset r);have N:((c:Int),(d:Int))=GW c d:=(Ix D).symm;simp only[aO,aa1,decide_eq_true_eq]at b;rcases b with b|b
    .obtain rfl : c = u := NH
     grind
    grind [so]
   .rintro ⟨k, w, h2, h3⟩
    obtain⟨p,m,b⟩:=R.wOn.2 ((R.offl hR).1 k);refine⟨u,F.lt _ _ h2.1,rfl,DX.2 ⟨p,m,by grind [aO]⟩,DX.2 ⟨_,h3,?_⟩⟩
    grind [GW,aO]
  refine⟨T.ne g hg,a,fun v w h=>(un h).2,fun v w x y _ b h=>one b h,I,fun x b=>?_,?_,fun i=>?_,?_⟩
  .grind [E7]
  .simp only
   rw[G,aab,si,DF];unfold cX;exact(si.1 (qH.sublist vZ)).imp fun h e=>h NH
  .simp only
   rw[WV];have K:(Mw n es l L).Jv.length=2:=rfl;rw[K];constructor
   .rintro ⟨k, h2⟩
    refine⟨?_,h2⟩;simp at k;omega
   .rintro ⟨k, h2⟩
    refine⟨?_,h2⟩;simp;omega
  .exact aeN vZ Ma
 .have C := un_in hR t
  obtain⟨g,hg,E⟩:=T.cov _ C fun q=>t.2 (R.mem.1 q);refine⟨⟨g,YJ (Qw n (sortP (ZH l))) g,zh [l,l.reverse] (YJ (Qw n (sortP (ZH l))) g) [0,1]⟩,?_,E⟩;show _∈(LJ n es (sortP (ZH l)) L).map _
  grind
 .show ((LJ n es (sortP (ZH l)) L).map _).Pairwise _
  grind [cK.TE]
 .show 2 + OW es (Ei l) <= es.length + 2
  grind [OW]
end
end Go.Fw
