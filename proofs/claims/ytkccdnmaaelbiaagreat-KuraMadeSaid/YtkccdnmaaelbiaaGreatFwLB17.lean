/- A text. -/
import Derived.Test.YtkccdnmaaelbiaaGreatFwLB14
set_option linter.all false
set_option maxRecDepth 99999
set_option maxHeartbeats 9999999
namespace Go.Fw
section
open Go.Proofs
variable {F i:Nat} {es ps web:List Pr} {fr:Pr->Nat->Int} {gs:List Gr} {h:AHeap} {p:Pr} {xs:RZ}
theorem RY (gs:List Gr) (f:Int) (p:Pr):Ea (addG gs f p)=if f∈Ea gs then Ea gs else Ea gs++[f]:=by
 induction gs<;>grind [Ea,addG]
theorem sF (h:(Ea gs).Nodup) (f:Int) (p:Pr):(Ea (addG gs f p)).Nodup:=by grind [RY]
theorem addG_ne (h:∀g∈gs,g.2≠[]) (f:Int) (p:Pr):∀g∈addG gs f p,g.2≠[]:=by
 induction gs with
 |nil=>grind [addG]
 |cons g gs b=>
  obtain⟨k,l⟩:=g;intro x a;by_cases c:k=f
  .simp only [addG, if_pos c, WA] at a
   rcases a with rfl|a
   .simp
   grind
  grind [addG]
theorem NI {f:Int} {l:List Pr}:∀{gs:List Gr} {i:Nat},(Ea gs).Nodup->gs[i]?=some (f,l)->lstG gs f=l
 |[],i,_,e=>by simp at e
 |(k,l')::gs,0,_,e=>by grind [lstG]
 |(k,l')::gs,i+1,h,e=>by
  simp only[Ea,wI,ZT]at h;have b:f∈Ea gs:=HV.2 ⟨(f,l),Gc (by simpa using e),rfl⟩;have a:¬k=f:=fun e=>h.1 pw;rw[lstG,if_neg a];exact NI h.2 (by simpa using e)
theorem rV {f:Int}:∀{gs:List Gr},(∀g∈gs,g.2≠[])->(f∈Ea gs↔lstG gs f≠[])
 |[],_=>by simp[Ea,lstG]
 |(k,l)::gs,h=>by
  by_cases c:k=f
  .subst c;have a:l≠[]:=h (k,l) Ma;grind [Ea,lstG]
  .have c' : ¬ f = k := fun h => c h.symm
   have:=rV (f:=f) (gs:=gs) fun g hg=>h g (by simp[hg])
   grind [lstG.eq_2,Ea]
def Ft (f:Int):∀(gs:List Gr) (m:Nat),(∀g∈gs,g.2.length<=m)->(lstG gs f).length<=m
 |[],m,_=>by simp[lstG]
 |(k,l)::gs,m,h=>by
  by_cases c:k=f
  .rw[lstG,if_pos c];exact h (k,l) Ma
  .rw[lstG,if_neg c];exact Ft f gs m fun g hg=>h g (by simp[hg])
theorem Zk (f:Int) (p:Pr):∀(gs:List Gr) (m:Nat),(∀g∈gs,g.2.length<=m)->∀g∈addG gs f p,g.2.length<=m+1
 |[],m,_=>fun g hg=>by grind [addG]
 |(k,l)::gs,m,h=>fun g hg=>by
  have a:=h (k,l) Ma;by_cases c:k=f
  .grind [addG]
  .simp only [addG, if_neg c, WA] at hg
   rcases hg with rfl|hg
   .grind
   .exact Zk f p gs m (fun g hg=>h g (by simp[hg])) g hg
def grpsM (fr:Pr->Nat->Int) (es web:List Pr):Nat->List Gr
  |0=>[]
  |i+1=>match es[i]? with
    |some p=>if p∈web then grpsM fr es web i else addG (grpsM fr es web i) (fr p i) p
    |none=>grpsM fr es web i
theorem JJ (h:es[i]?=some p) (hw:p∈web):grpsM fr es web (i+1)=grpsM fr es web i:=by grind [grpsM]
theorem dh (h:es[i]?=some p) (hw:p∉web):grpsM fr es web (i+1)=addG (grpsM fr es web i) (fr p i) p:=by grind [grpsM]
theorem Pt (fr:Pr->Nat->Int) (es web:List Pr) (i:Nat):(Ea (grpsM fr es web i)).Nodup/\(∀g∈grpsM fr es web i,g.2≠[])/\(∀g∈grpsM fr es web i,g.2.length<=i)/\(grpsM fr es web i).length<=i/\∀g∈grpsM fr es web i,∀p∈g.2,p∈es:=by
  have a:∀(gs:List Gr) (f:Int) (p:Pr),(∀g∈gs,∀q∈g.2,q∈es)->p∈es->∀g∈addG gs f p,∀q∈g.2,q∈es:=by
    intro gs f p
    induction gs with
    |nil=>grind [addG]
    |cons g gs m=>
      obtain⟨k,l⟩:=g;intro h e x d;by_cases c:k=f
      · simp only [addG, if_pos c, WA] at d
        rcases d with rfl|d
        · intro q j; simp only [Sb, jf] at j
          rcases j with j|rfl
          .exact h (k,l) Ma q j
          .exact e
        grind
      · simp only [addG, if_neg c, WA] at d
        rcases d with rfl|d
        .exact h _ Ma
        .exact m (fun g hg=>h g (by simp[hg])) e x d
  have b:∀(gs:List Gr) (f:Int) (p:Pr),(addG gs f p).length<=gs.length+1:=by
    intro gs f p
    induction gs<;>grind [addG]
  induction i with
  |zero=>simp[grpsM,Ea]
  |succ i m=>
    obtain⟨n,h2,h3,r,o⟩:=m;have up:∀g∈grpsM fr es web i,g.2.length<=i+1:=fun g hg=>by grind
    cases e:es[i]? with
    | none => have : grpsM fr es web (i + 1) = grpsM fr es web i := by grind [grpsM]
              rw[this];grind
    |some p=>
      by_cases c:p∈web
      .rw[JJ e c];grind
      · rw [dh e c]
        exact⟨sF n _ _,addG_ne h2 _ _,Zk _ _ _ _ h3,pw,a _ _ _ o (Gc e)⟩
structure FM where
 zp:List Pr
 Fm:RZ
def FL (h:AHeap) (v:Value) (c:List FM):Prop:=∃cs,CS 2 h v c.length cs/\∀(i:Nat) f,c[i]?=some f->∃a b,cs[i*2]?=some a/\cs[i*2+1]?=some b/\PR h a f.zp/\RL RP h b f.Fm
def zB:UA Tryz.prog 122=2:=Ji
theorem mkFr (h:AHeap) (n:Nat) (d:n<=100000):∃c,aMakeSlice Tryz.prog h 118 (.int .i64 (n:Int)) (.int .i64 (n:Int))=some (.slice (some ⟨h.next,0,none⟩) n n,h.alloc (.cells c))/\c.length=n*2:=by
 have e:azero Tryz.prog 122=some (.agg #[.slice none 0 0,.slice none 0 0]):=Ji;have hb:(Tryz.prog.bytesOf 122).ble 1000=true:=Ji;have a:(Tryz.prog.bytesOf 122:Int)*n<=140737488355328:=by
  have:Tryz.prog.bytesOf 122*n<=1000*1000000:=kS (qL226 hb) NH;have h2:((Tryz.prog.bytesOf 122*n:Nat):Int)<=1000000000:=NH;rw[Int.natCast_mul]at h2;omega
 have b:(n:Int)<=140737488355328:=NH;have f:(Value.agg #[.slice none 0 0,.slice none 0 0]).cells=#[.slice none 0 0,.slice none 0 0]:=rfl;have g:(zrow [Value.slice none 0 0,Value.slice none 0 0] n).all (·.oneCell')=true:=by
  clear a b d
  induction n with
  |zero=>rfl
  |succ n i=>simp only[zrow,ti,i,afw];rfl
 refine⟨zrow [.slice none 0 0,.slice none 0 0] n,?_,by grind [jY]⟩;simp[aMakeSlice,qS24,yo,e,f,zB,a,b,IF,g,Fw.flat]
def stFr {c:List Value} {a b:Value} (d:h.own F=some (.cells c)) (hi:i*2+2<=c.length) (ha:PR h a ps) (hb:RL RP h b xs):
  aStore Tryz.prog h 122 (.pointer (some ⟨F,i*2,none⟩)) (.agg #[a,b])=some (h.put F (.cells ((c.set (i*2) a).set (i*2+1) b))):=by
 have e:=ha.sl.one;have h2:=hb.one;have f:(Value.agg #[a,b]).cells=#[a,b]:=rfl;simp[aStore,d,f,zB,putCells,yo,e,h2,hi]
theorem wP:∀(a b:RZ),a.Pairwise (·<·)->b.Pairwise (·<·)->(∀x,x∈a↔x∈b)->a=b
 |[],[],_,_,_=>rfl
 |[],y::b,_,_,h=>by have:=(h y).2 Ma;simp at this
 |x::a,[],_,_,h=>by have:=(h x).1 Ma;simp at this
 |x::a,y::b,ha,hb,h=>by
  rw[Ry]at ha hb;have e:x=y:=by
   have c:=(h x).1 Ma;have h2:=(h y).2 Ma
   grind
  subst e;rw[wP a b ha.2 hb.2 fun z=>?_]
  grind
theorem jn (l:RZ) (x:Int):x∈Lib.compact l↔x∈l:=by
 simp only[Lib.compact,Lib.compactUpTo,HV,VU,uV];constructor
 .grind
 .intro b
  obtain⟨j,a,rfl⟩:=Bn.1 b
  induction j with
  |zero=>exact⟨0,⟨a,by simp[Lib.keeps]⟩,pw⟩
  |succ j d=>
   by_cases c:l[j+1]=l[j]
   .grind
   .refine ⟨j + 1, ⟨a, ?_⟩, pw⟩
    simp only[Lib.keeps,decide_eq_true_eq,Nat.add_sub_cancel]
    grind
theorem bT {l:RZ} (h:l.Pairwise (·<=·)):(Lib.compact l).Pairwise (·<·):=by
 simp only[Lib.compact,Lib.compactUpTo];rw[Hs];have f:((List.range l.length).filter (Lib.keeps l.toArray)).Pairwise (·<·):=by grind [List.pairwise_lt_range]
 refine ff ?_ f;intro i j hi c g;rw[VU,uV]at hi c;obtain⟨b,a⟩:=c;simp only[Lib.keeps,decide_eq_true_eq]at a;rw[getElem!_pos _ i (by simp;omega),getElem!_pos _ j pw]at*;rcases a with d|d
 .omega
 .rw [getElem!_pos _ (j - 1) (by simp; omega)] at d
  rw[V3]at h;simp only[dJ]at*;have h2:=h (j-1) j NH b NH;by_cases e:i=j-1
  .grind
  .have:=h i (j-1) NH NH NH;omega
theorem Wv (l:RZ) (x:Int):x∈qC l↔x∈l:=by simp[qC]
theorem aQ (l:RZ):(qC l).Pairwise (·<=·):=by grind [List.pairwise_mergeSort,qC]
end
variable {es:List Pr} {n s u v w:Nat} {o:II} {up:RZ}
abbrev offA:Nat->Bool:=fun _=>false
abbrev Pu (es:List Pr):Nat->Nat->Prop:=Cn offA es
theorem Pu.refl (es:List Pr) (u:Nat):Pu es u u:=Cn.refl rfl
theorem abp (h:Jp es u w):Pu es u w:=.step (.refl rfl) h rfl
theorem Pu.lt {n:Nat} {es:List Pr} (b:aV n es) {u w:Nat} (h:Pu es u w) (c:u<n):w<n:=by
 induction h with
 |refl _=>exact c
 |step _ a _ _=>exact(a.lt b).2
theorem du.bp (d:du n es s o up):∀v∈o,Pu es s v:=by
 induction d with
 |start=>grind [Pu.refl]
 |step d c ha _ _ _ b=>
  intro x a;rw[Sb,jf]at a;rcases a with a|rfl
  .exact b x a
  .exact .step (b _ (Gc c)) ha rfl
theorem du.head (d:du n es s o up):o[0]?=some s:=by
 induction d<;>grind
theorem du.nodup (d:du n es s o up):o.Nodup:=by
 induction d<;>grind
theorem Oc.mem (d:Oc n es s o up) (v:Nat):v∈o↔Pu es s v:=by
 refine⟨d.KP.bp v,fun h=>?_⟩
 induction h with
 |refl _=>exact Gc d.KP.head
 |step _ a _ b=>exact d.full _ b _ a
open Classical in
noncomputable def Ic (n:Nat) (es:List Pr) (v:Nat):II:=(List.range n).filter fun w=>decide (Pu es v w)
open Classical in
noncomputable def Es (n:Nat) (es:List Pr):II:=(List.range n).filter fun v=>decide (∀u,u<v->¬Pu es u v)
noncomputable def Gx (n:Nat) (es:List Pr) (k:Nat):Cs:=((Es k es).map (Ic n es))
theorem mY:w∈Ic n es v↔w<n/\Pu es v w:=by simp[Ic]
theorem QO:v∈Es n es↔v<n/\∀u,u<v->¬Pu es u v:=by simp[Es]
theorem yP (k:Nat) (es:List Pr):(Es (k+1) es=Es k es++[k]/\∀u,u<k->¬Pu es u k)\/(Es (k+1) es=Es k es/\∃u,u<k/\Pu es u k):=by grind [Es,List.range_succ]
theorem vH (k:Nat) (es:List Pr):(Es k es).length<=k:=by grind [Es]
theorem uA (n:Nat):(List.range n).Pairwise (·<·):=by grind [List.pairwise_iff_getElem]
theorem SU (n:Nat) (es:List Pr) (v:Nat):(Ic n es v).Pairwise (·<·):=(uA n).filter _
theorem fM (b:aV n es) (d:Oc n es s o up) (hs:s<n):qC (aaa o)=aaa (Ic n es s):=by
 have c:(aaa (Ic n es s)).Pairwise (·<·):=by grind [aaa.eq_1,SU]
 have e:(qC (aaa o)).Pairwise (·<·):=by
  have nd:(qC (aaa o)).Nodup:=by
   have a:(qC (aaa o)).Perm (aaa o):=List.mergeSort_perm _ _;rw[a.nodup_iff,aaa];have:=d.KP.nodup
   grind
  have:=List.Pairwise.and (aQ (aaa o)) (kc.1 nd)
  grind
 grind [wP,Wv,aaa,mY,Oc.mem,Pu.lt]
end Go.Fw
namespace Go.Fw
inductive pJ (up:Nat->Option Nat):Nat->Nat->Prop
 |refl (a:Nat):pJ up a a
 |step {a b c:Nat}:pJ up a b->up c=some b->pJ up a c
theorem pJ.one {up:Nat->Option Nat} {b c:Nat} (h:up c=some b):pJ up b c:=.step (.refl b) h
theorem pJ.trans {up:Nat->Option Nat} {a b c:Nat} (h:pJ up a b) (k:pJ up b c):pJ up a c:=by
 induction k with
 |refl=>exact h
 |step _ e d=>exact .step d e
theorem pJ.chain {up:Nat->Option Nat} {a b c:Nat} (h:pJ up a c) (k:pJ up b c):pJ up a b\/pJ up b a:=by
 induction h with
 |refl=>exact .inr k
 |@step x c h e d=>
  cases k with
  |refl=>exact .inl (h.step e)
  |@step y _ k e'=>grind
theorem pJ.child {up:Nat->Option Nat} {a b:Nat} (h:pJ up a b) (ne:a≠b):∃c,up c=some a/\pJ up c b:=by
 induction h with
 |refl=>grind
 |@step x c h e f=>
  by_cases q:a=x
  .subst q;exact⟨c,e,.refl c⟩
  .obtain⟨d,g,h2⟩:=f q;exact⟨d,g,h2.step e⟩
theorem pJ.last {up:Nat->Option Nat} {a b:Nat} (h:pJ up a b) (ne:a≠b):∃c,up b=some c/\pJ up a c:=by
 cases h<;>grind
structure Fo (n:Nat) (es:List Pr) (num:Nat->Nat) (up:Nat->Option Nat):Prop where
 rD:aV n es
 inj:∀u v,u<n->v<n->num u=num v->u=v
 Kd:∀v u,v<n->up v=some u->Jp es u v/\num u<num v
 iA:∀a b,Jp es a b->num a<num b->pJ up a b
abbrev wo (v:Nat):Nat->Bool:=fun x=>x==v
theorem iO {v x:Nat} (h:x≠v):wo v x=false:=pw
def ym (es:List Pr) (num:Nat->Nat) (up:Nat->Option Nat) (v c:Nat):Prop:=∃x w,pJ up c x/\Jp es x w/\num w<num v
def Nt (es:List Pr) (up:Nat->Option Nat) (u w:Nat):Prop:=Jp es u w/\up u≠some w/\up w≠some u
structure Iw (es:List Pr) (num:Nat->Nat) (up:Nat->Option Nat) (D:Nat->Nat->Prop) (v:Nat) (x:Nat):Prop where
 self:x<=num v
 back:∀u w,D v u->Nt es up u w->x<=num w
 some_:x=num v\/∃u w,D v u/\Nt es up u w/\x=num w
namespace Fo
variable {n : Nat} {es : List Pr} {num : Nat → Nat} {up : Nat → Option Nat}
theorem yO (F:Fo n es num up) {a b:Nat} (h:pJ up a b) (hb:b<n):a<n/\(a=b\/num a<num b):=by
 induction h with
 |refl=>grind
 |@step x c h e d=>
  obtain⟨f,h2⟩:=F.Kd c x hb e;obtain⟨h3,g⟩:=d (f.lt F.rD).1
  grind
theorem JD (F:Fo n es num up) {a b:Nat} (h:Jp es a b):num a≠num b:=by
 intro e;have:=F.inj a b (h.lt F.rD).1 (h.lt F.rD).2 e;rcases h with h|h<;>have:=F.rD _ h<;>simp only at this<;>omega
def along (F:Fo n es num up) {a b v:Nat} (h:pJ up a b) (hb:b<n) (d:∀x,pJ up a x->pJ up x b->x≠v):Cn (wo v) es a b:=by
 induction h with
 |refl=>exact .refl (iO (d _ (.refl _) (.refl _)))
 |@step x c h e g=>
  obtain⟨f,h2⟩:=F.Kd c x hb e;exact .step (g (f.lt F.rD).1 fun y h3 i=>d y h3 (i.step e)) f (iO (d c (h.step e) (.refl c)))
def WU (F:Fo n es num up) {a v:Nat} (h:pJ up a v) (ne:a≠v) (b:v<n):num a<num v:=(F.yO h b).2.resolve_left ne
theorem xG (F:Fo n es num up) {a b v:Nat} (d:v<n) (ha:pJ up a v) (f:a≠v) (hb:pJ up b v) (nb:b≠v):Cn (wo v) es a b:=by
 have key:∀{a b:Nat},pJ up a b->pJ up b v->b≠v->Cn (wo v) es a b:=by
  intro a b h hb nb;have c:=(F.yO hb d).1;refine F.along h c fun x _ g e=>?_
  grind [Fo.yO]
 grind [pJ.chain,Cn.symm]
theorem below (F:Fo n es num up) {c a v:Nat} (ha:a<n) (d:up c=some v) (h:pJ up c a):Cn (wo v) es c a:=by
 have b:=(F.yO h ha).1;refine F.along h ha fun x g f e=>?_;subst e;have i:=(F.Kd c x b d).2
 grind [Fo.yO]
theorem CJ (F:Fo n es num up) {c v:Nat} (b:c<n) (d:up c=some v) (h:ym es num up v c):∃w,pJ up w v/\w≠v/\Cn (wo v) es c w:=by
 obtain⟨x,w,i,h2,h3⟩:=h;have j:=(h2.lt F.rD).1;have k:=((F.Kd c v b d).1.lt F.rD).1;have f:pJ up v x:=(pJ.one d).trans i;have g:num w<num x:=by grind [Fo.yO]
 have a:w≠v:=fun e=>by grind
 have ha:=F.iA w x h2.symm g;rcases ha.chain f with h|h
 .exact⟨w,h,a,(F.below j d i).step h2 (iO a)⟩
 grind [Fo.yO]
theorem UT (F:Fo n es num up) {c v x:Nat} (b:c<n) (j:up c=some v) (h:¬ym es num up v c) (k:Cn (wo v) es c x):pJ up c x/\x<n:=by
 induction k with
 |refl _=>exact⟨.refl _,b⟩
 |@step x y k a o m=>
  obtain⟨l,s⟩:=m;have p:=(a.lt F.rD).2;refine⟨?_,p⟩;have g:y≠v:=pw;by_cases q:num y<num x
  .have h2 := F.iA y x a.symm q
   rcases l.chain h2 with h3|h3
   .exact h3
   .by_cases e : y = c
    .grind
    .obtain ⟨d, f, r⟩ := h3.last e
     rw[j]at f;injection f with f;subst f;have i:=((F.Kd c v b j).1.lt F.rD).1;exact absurd ⟨x,y,l,a,F.WU r g i⟩ h
  grind [Fo.JD,pJ.trans,Fo.iA]
theorem low_bey (F:Fo n es num up) {c v x:Nat} (f:c<n) (i:up c=some v) (L:Iw es num up (pJ up) c x):x<num v↔ym es num up v c:=by
 have j:=(F.Kd c v f i).2;constructor
 .intro h
  rcases L.some_ with a|⟨u,w,a,h2,h3⟩
  .omega
  .exact⟨u,w,a,h2.1,NH⟩
 .rintro ⟨u, w, a, h2, h3⟩
  have g:=(h2.lt F.rD).1;have l:=(F.yO a g).2;have:=L.back u w a ⟨h2,fun e=>?_,fun e=>?_⟩
  .omega
  .by_cases q : c = u
   .grind
   .obtain ⟨d, b, k⟩ := a.last q
    rw[e]at b;injection b with b;subst b;rcases(F.yO k (h2.lt F.rD).2).2 with h|h
    all_goals grind
  .have := (F.Kd w u (h2.lt F.rD).2 e).2
   grind
structure abb (n:Nat) (es:List Pr) (num:Nat->Nat) (up:Nat->Option Nat) (hd:Nat->Nat):Prop where
 root:∀v,v<n->up v=none->hd v=v
 on:∀v u,v<n->up v=some u->ym es num up u v->hd v=hd u
 new:∀v u,v<n->up v=some u->¬ym es num up u v->hd v=v
variable {hd : Nat → Nat}
def US (F:Fo n es num up) (H:abb n es num up hd):∀(k v:Nat),num v<=k->v<n->pJ up (hd v) v/\hd (hd v)=hd v:=by
 intro k
 induction k with
 |zero=>
  intro v c b;have hh:hd v=v:=by
   cases a:up v with
   |none=>exact H.root v b a
   |some u=>have:=(F.Kd v u b a).2;omega
  rw[hh];exact⟨.refl v,hh⟩
 |succ k d=>
  intro v c b;cases a:up v with
  |none=>rw[H.root v b a];exact⟨.refl v,H.root v b a⟩
  |some u=>
   have e:=F.Kd v u b a;by_cases hb:ym es num up u v
   .rw [H.on v u b a hb]
    obtain⟨h2,h3⟩:=d u NH (e.1.lt F.rD).1;exact⟨h2.step a,h3⟩
   .rw[H.new v u b a hb];exact⟨.refl v,H.new v u b a hb⟩
def lower (num:Nat->Nat) (x y:Nat):Nat:=if num y<num x then x else y
theorem zP (F:Fo n es num up) (H:abb n es num up hd) {c v a:Nat} (j:up c=some v) (ha:pJ up c a) (f:Jp es v a):hd a=hd c:=by
 have g:=(f.lt F.rD).2;have i:=(F.yO ha g).1;have k:=(F.Kd c v i j).2;have key:∀z,pJ up c z->pJ up z a->hd z=hd c:=by
  intro z l
  induction l with
  |refl=>intro _;rfl
  |@step b z hb e m=>
   intro d;have h:=(F.yO d g).1;have o:=((F.Kd z b h e).1.lt F.rD).1;rw[H.on z b h e ⟨a,v,d,f.symm,?_⟩]
   .exact m ((pJ.one e).trans d)
   grind [Fo.yO]
 exact key a ha (.refl a)
theorem Hp (F:Fo n es num up) (H:abb n es num up hd) {v a b:Nat} (ha:Jp es v a) (hb:Jp es v b):hd (lower num v a)=hd (lower num v b)↔Cn (wo v) es a b:=by
 have u:=(ha.lt F.rD).1;have J:∀c,up c=some v->c<n->hd v≠c:=fun c j g e=>by
  have C:=(F.US H (num v) v (qL0 _) u).1;have h2:=(F.Kd c v g j).2
  grind [Fo.yO]
 have mixed:∀{a b:Nat},Jp es v a->Jp es v b->num a<num v->num v<num b->(hd v=hd b↔Cn (wo v) es a b):=by
  intro a b ha hb C h2;have l:=(hb.lt F.rD).2;have D:=F.iA a v ha.symm C;have E:a≠v:=fun e=>by grind
  obtain⟨c,j,z⟩:=(F.iA v b hb h2).child pw;have g:=(F.yO z l).1;have L:=(F.Kd c v g j).2;rw[F.zP H j z hb];by_cases q:ym es num up v c
  .rw [H.on c v g j q]
   obtain⟨w,A,B,s⟩:=F.CJ g j q;exact⟨fun _=>((F.xG u D E A B).trans s.symm).trans (F.below l j z),fun _=>rfl⟩
  grind [Fo.abb.new,Fo.UT,Fo.below,Cn.trans,Cn.symm,Fo.yO]
 have M:=F.JD ha;have nb:=F.JD hb;rcases GK M with C|C<;>rcases GK nb with h2|h2
 .have N : lower num v a = a := by grind [Fo.lower]
  have O:lower num v b=b:=by grind [Fo.lower]
  rw[N,O];have t:=(ha.lt F.rD).2;have l:=(hb.lt F.rD).2;obtain⟨c,j,r⟩:=(F.iA v a ha C).child pw;obtain⟨d,f,o⟩:=(F.iA v b hb h2).child pw;have g:=(F.yO r t).1;have m:=(F.yO o l).1;rw[F.zP H j r ha,F.zP H f o hb];by_cases q:ym es num up v c
  .rw [H.on c v g j q]
   obtain⟨w,A,B,s⟩:=F.CJ g j q;by_cases p:ym es num up v d
   .rw [H.on d v m f p]
    obtain⟨x,P,Q,G⟩:=F.CJ m f p;exact⟨fun _=>(((F.below t j r).symm.trans s).trans (by grind [Fo.xG])).trans (G.symm.trans (F.below l f o)),fun _=>rfl⟩
   .rw [H.new d v m f p]
    refine⟨pw,fun k=>?_⟩;have h3:=F.UT m f p (((F.below l f o).trans k.symm).trans ((F.below t j r).symm.trans s));have R:=F.WU A B u;have K:=(F.Kd d v m f).2
    grind [Fo.yO]
  .rw [H.new c v g j q]
   have toA:Cn (wo v) es a b->pJ up c b:=by grind [Fo.UT,Fo.below,Cn.trans]
   have same:pJ up c b->c=d:=fun h=>by
    rcases h.chain o with h'|h'
    .by_cases e : c = d
     .exact e
     .obtain ⟨y, i, I⟩ := h'.last e
      rw[f]at i;injection i with i;subst i;have K:=(F.Kd c v g j).2
      grind [Fo.yO]
    .by_cases e : d = c
     .exact e.symm
     .obtain ⟨y, i, I⟩ := h'.last e
      rw[j]at i;injection i with i;subst i;have K:=(F.Kd d v m f).2
      grind [Fo.yO]
   constructor
   .intro e
    by_cases p:ym es num up v d
    .grind [Fo.abb.on]
    .rw [H.new d v m f p] at e; subst e
     exact(F.below t j r).symm.trans (F.below l j o)
   grind [Fo.abb.new]
 .grind [Fo.lower,Cn.symm]
 all_goals grind [Fo.lower,Fo.xG,Fo.iA,Jp.symm]
def iE (es:List Pr) (v:Nat):Prop:=∃a b,Jp es v a/\Jp es v b/\¬Cn (wo v) es a b
theorem cut_iff (F:Fo n es num up) (v:Nat) (u:v<n):
  iE es v↔(∃c d,c<n/\d<n/\c≠d/\up c=some v/\up d=some v/\¬ym es num up v c/\¬ym es num up v d)\/(∃c,c<n/\up c=some v/\¬ym es num up v c/\up v≠none):=by
 constructor
 .rintro ⟨a, b, ha, hb, A⟩
  have I:=F.JD ha;have nb:=F.JD hb;have mixed:∀{a b:Nat},Jp es v a->Jp es v b->num a<num v->num v<num b->¬Cn (wo v) es a b->∃c,c<n/\up c=some v/\¬ym es num up v c/\up v≠none:=by
   intro a b ha hb B h2 A;have h:=(hb.lt F.rD).2;have C:=F.iA a v ha.symm B;have D:a≠v:=fun e=>by grind
   obtain⟨c,g,z⟩:=(F.iA v b hb h2).child pw;have f:=(F.yO z h).1;refine⟨c,f,g,fun q=>?_,?_⟩
   .obtain ⟨w, l, m, o⟩ := F.CJ f g q
    exact A (((F.xG u C D l m).trans o.symm).trans (F.below h g z))
   grind [pJ.last]
  rcases GK I with B|B<;>rcases GK nb with h2|h2
  .have r := (ha.lt F.rD).2
   have h:=(hb.lt F.rD).2;obtain⟨c,g,s⟩:=(F.iA v a ha B).child pw;obtain⟨d,i,t⟩:=(F.iA v b hb h2).child pw;have f:=(F.yO s r).1;have j:=(F.yO t h).1;have E:∀{w},pJ up w v->w≠v->up v≠none:=by grind [pJ.last]
   by_cases q:ym es num up v c
   .obtain ⟨w, l, m, o⟩ := F.CJ f g q
    refine .inr ⟨d,j,i,fun p=>?_,E l m⟩;obtain⟨x,J,K,G⟩:=F.CJ j i p;exact A ((((F.below r g s).symm.trans o).trans (by grind [Fo.xG])).trans (G.symm.trans (F.below h i t)))
   .by_cases p : ym es num up v d
    .grind [Fo.CJ]
    .refine .inl ⟨c, d, f, j, fun e => ?_, g, i, q, p⟩
     subst e;exact A ((F.below r g s).symm.trans (F.below h g t))
  .grind [Cn.symm]
  all_goals grind [Fo.xG,Fo.iA,Jp.symm]
 .rintro (⟨c, d, f, j, ne, g, i, q, p⟩ | ⟨c, f, g, q, P⟩)
  .refine ⟨c, d, (by grind [Fo.Kd]), (by grind [Fo.Kd]), fun k => ?_⟩
   have h3:=F.UT f g q k;obtain⟨y,L,M⟩:=h3.1.last ne;have N:=(F.Kd c v f g).2
   grind [Fo.yO]
  .cases O : up v with
   |none=>grind
   |some p=>
    have H:=F.Kd v p u O;refine⟨c,p,(by grind [Fo.Kd]),H.1.symm,fun k=>?_⟩;have h3:=F.UT f g q k;have N:=(F.Kd c v f g).2
    grind [Fo.yO]
end Fo
end Go.Fw
namespace Go.Fw
def isE (a b x y:Nat):Prop:=x=a/\y=b\/x=b/\y=a
namespace Fo
variable {n : Nat} {es : List Pr} {num : Nat → Nat} {up : Nat → Option Nat} {hd : Nat → Nat}
theorem link (F:Fo n es num up) (H:abb n es num up hd) {α:Type} (of:Nat->Nat->α) (c:∀x y,of x y=of y x) (e:∀v a b,Jp es v a->Jp es v b->Cn (wo v) es a b->of v a=of v b):
  ∀(k x y:Nat),num x<=k->Jp es x y->num y<num x->∃u,up (hd x)=some u/\of x y=of (hd x) u:=by
 intro k
 induction k with
 |zero=>grind
 |succ k o=>
  intro x y A h2 h3;have f:=(h2.lt F.rD).1;have hA:=F.iA y x h2.symm h3;obtain⟨u,g,r⟩:=hA.last pw;have h:=F.Kd x u f g;have i:=(h.1.lt F.rD).1;have s:of x y=of x u:=by grind [Jp.symm,Fo.xG,pJ.one]
  by_cases q:ym es num up u x
  .have hh := H.on x u f g q
   obtain⟨w,j,l,_⟩:=F.CJ f g q;obtain⟨p,t,_⟩:=j.last l;have d:=F.Kd u p i t;obtain⟨u',m,z⟩:=o u p NH d.1.symm d.2;rw[hh];refine⟨u',m,?_⟩;rw[s,c x u,<-z];refine e u x p h.1 d.1.symm ((F.Hp H h.1 d.1.symm).1 ?_)
   grind [Fo.lower]
  grind [Fo.abb.new]
theorem link2 (F:Fo n es num up) (H:abb n es num up hd) {α:Type} (of:Nat->Nat->α) (c:∀x y,of x y=of y x) (d:∀v a b,Jp es v a->Jp es v b->Cn (wo v) es a b->of v a=of v b)
  {x y x' f:Nat} (h:Jp es x y) (h':Jp es x' f) (e:hd (lower num x y)=hd (lower num x' f)):of x y=of x' f:=by
 have key:∀{x y:Nat},Jp es x y->∃u,up (hd (lower num x y))=some u/\of x y=of (hd (lower num x y)) u:=by
  intro x y h;have:=F.JD h;unfold lower;split
  .rename_i q;exact F.link H of c d (num x) x y (qL0 _) h q
  .obtain ⟨u, g, h2⟩ := F.link H of c d (num y) y x (qL0 _) h.symm NH
   exact pw
 obtain⟨u,g,h2⟩:=key h;obtain⟨u',h3,i⟩:=key h';rw[<-e,g]at h3;injection h3 with h3;subst h3;rw[h2,i,e]
end Fo
theorem B6 {n:Nat} {es:List Pr} (a:aV n es):∀(v:Nat),v<n->∃h∈Es n es,Pu es h v:=by
 intro v
 induction v using Nat.strongRecOn with
 |ind v b=>
  intro c;by_cases q:∀u,u<v->¬Pu es u v
  .exact⟨v,(by grind [QO]),Pu.refl es v⟩
  grind [Cn.trans]
theorem rf {n:Nat} {es:List Pr} {a b:Nat} (ha:a∈Es n es) (hb:b∈Es n es) (h:Pu es a b):a=b:=by grind [QO,Cn.symm]
theorem qD (n:Nat) (es:List Pr):(Es n es).Nodup:=by grind [Es,List.nodup_range]
end Go.Fw
namespace Go.Fw
section
open Go.Proofs
variable {h:AHeap} {i:Nat} {v:Value} {xs:RZ}
theorem GI.store (g:GI h v xs) (a:WF h) (hi:i<xs.length) (x:Int):∃h',aStore Tryz.prog h 3 (.pointer (some (elemAddr v i))) (.int .i64 x)=some h'/\GI h' v (xs.set i x)/\WF h'/\(∀f,Le f h->Z2 f v->Le f h')/\(∀b o,h.own b=some o->blk v≠some b->h'.own b=some o):=by
 obtain⟨m,⟨rfl,n⟩|⟨id,c,cap,rfl,j,p,q⟩⟩:=g
 .omega
 .have k : xs.length <= c.length := pw
  have st:=QB (P:=Tryz.prog) (t:=3) (x:=.int .i64 x) Mb Ji j (off:=i) NH rfl rfl;refine⟨h.put id (.cells (c.set i (.int .i64 x))),?_,⟨by simp[Bp],.inr ⟨id,_,cap,Ma,AHeap.Y3 _ _ _,?_,pw⟩⟩,a.put _ (a.lt j),fun f l af=>l.put _ (af id rfl),fun b o hb d=>?_⟩
  .grind [fA,Ip]
  .grind [List.take_set,yy]
  .rw[AHeap.By _ _ _ _ (fun e=>d (by rw[e];rfl))];exact hb
end
section
attribute [local irreducible] Kp MQ lU rS KO KN KX KE VK Kl ZJ TC aab
open Go.Proofs
variable {F m n:Nat} {g h h':AHeap} {v:Value} {xs:RZ}
def alloc35 (h:AHeap):aAlloc Tryz.prog h 59=some (.pointer (some ⟨h.next,0,none⟩),h.alloc (.cells [.slice none 0 0])):=rfl
def alloc39 (h:AHeap):aAlloc Tryz.prog h 49=some (.pointer (some ⟨h.next,0,none⟩),h.alloc (.cells [.slice none 0 0])):=rfl
def newVar (hw:WF h) {t:TypeId} {d:TypeDesc} {z x:Value} (ha:∀g:AHeap,aAlloc Tryz.prog g t=some (.pointer (some ⟨g.next,0,none⟩),g.alloc (.cells [z]))) (e:Tryz.prog.underlying t=some d) (hs:UA Tryz.prog t=1) (f:x.cells=#[x]) (i:x.oneCell'=true):
  ∃a b,aAlloc Tryz.prog h t=some (.pointer (some ⟨h.next,0,none⟩),a)/\aStore Tryz.prog a t (.pointer (some ⟨h.next,0,none⟩)) x=some b/\Le h b/\WF b/\b.own h.next=some (.cells [x]):=by
 obtain⟨a,j,l1,w1,c⟩:=Tt hw [z]
 have k:h.own h.next=none:=(Le.refl h).next hw (qL0 _)
 refine⟨a,_,by rw[ha,j],QB e hs c Ma f i,l1.put _ k,w1.put _ (w1.lt c),AHeap.Y3 _ _ _⟩
theorem qA {a:Addr} (b:a.spot=none->a.block≠F):(h.kill F).read a=h.read a:=by
 unfold AHeap.read;cases hs:a.spot with
 |none=>grind [AHeap.xJ]
 |some _=>rfl
theorem RS.kill {h:AHeap} {v:Value} {vs:List Value} {F:Nat} (r:RS h v vs) (hb:blk v≠some F):RS (h.kill F) v vs:=by
 refine⟨r.sl,fun i x g=>?_⟩;have f:=r.get i x g;obtain⟨a,c,rfl,hs⟩:=r.sl;obtain⟨a,rfl⟩:=Gw.1 (hs pw);rw[fA]at f ⊢;rw[qA];exact f;intro d;obtain⟨b,o,s⟩:=a;simp only[Ip]at d ⊢;subst d;intro e;subst e;exact hb rfl
def RL.killI (r:RL RP h v xs) (hb:blk v≠some F):RL RP (h.kill F) v xs:=by
 obtain⟨vs,r,a,b⟩:=r;exact⟨vs,r.kill hb,a,b⟩
theorem Le.ON (e:Le h h') (F:Nat) (o:fK):Le (h.kill F) ((h'.put F o).kill F):=⟨e.ext,fun i a hi=>by grind [AHeap.Dg,AHeap.xJ,AHeap.By,Le.own]⟩
theorem Le.Qx (e:Le g h) (n:g.own F=Option.none) (o:fK):Le g ((h.put F o).kill F):=⟨e.ext,fun i a hi=>by grind [AHeap.xJ,AHeap.By,Le.own]⟩
def build41 {a b:Value} (ha:xO a n) (hb:xO b m):aBuild Tryz.prog 122 [(0,a),(1,b)]=some (.agg #[a,b]):=by
 obtain⟨_,_,rfl,_⟩:=ha;obtain⟨_,_,rfl,_⟩:=hb;kernel_rfl
def LJ (n:Nat) (es web:List Pr) (L:RZ):List FM:=
 (grpsM (Zo n (fun u=>(Cb n web).getD u false) L) es web es.length).map fun g=>⟨g.2,YJ (fun u=>(Cb n web).getD u false) g.2⟩
theorem iN (W0:LA) (v wv:Value) (G:GM) (web:List Pr) (h:AHeap) (hg:GR h v G) (hw:PR h wv web) (hn:web.length<=1000):
  AC Tryz.prog W0 96 [v,wv] h fun x h'=>Le h h'/\∃lv e,x=.tuple #[lv,.int .i64 e]/\
   ((¬bX G/\lv=.slice none 0 0/\e=20)\/(bX G/\¬CU G.es web/\lv=.slice none 0 0/\e=2)\/
    (bX G/\CU G.es web/\e=0/\∃L,wx G.n.toNat (fun u=>(Cb G.n.toNat web).getD u false) G.es L/\FL h' lv (LJ G.n.toNat G.es web L))):=by
 have aH:=hg;obtain⟨gn,es⟩:=G
 obtain⟨ev,rfl,hp⟩:=hg.open
 refine AC.vE ⟨Tryz.func96,rfl,WY⟩ Tryz.ntmps96 Tryz.results96 fun cp=>?_;simp only[Br,Nat.reduceAdd];obtain⟨h1,b1,N,dV,-,lA⟩:=r8 (n:=gn) cp hp
 generalize h.next=B at*
 have cq:=lA h1 (Le.refl _);refine Sk (XC b1 cq.1) ?_;refine TC.intro PJ ⟨qv,rfl,WY⟩ (ak W0 _ _ h1 (aH.le N)) ?_;rintro x h2 dZ ⟨⟨bb,rfl,cx⟩,I⟩;cases bb with
 |false=>
  refine Uy ?_
  grind [Le.trans]
 |true=>
 have hr:=cx.1 rfl;have h0:0<=gn:=hr.n0;obtain⟨n,rfl⟩:=yY h0;have dO:(n:Int)<=200:=hr.n1;have dQ:es.length<=594:=hr.len;have hR:=hr.GD;have cz:=lA h2 I;refine Sk cz.1 ?_;refine TC.intro PJ ⟨Tryz.func134,rfl,WY⟩ (j5 W0 _ wv _ web h2 (aH.le (N.trans I)) (hw.le (N.trans I)) hr hn) ?_;rintro x h3 cC ⟨⟨ov,nv,bo,rfl,bk,cE,Z⟩,aJ⟩;obtain⟨ec,h4,e4,cM,P,ed,o4⟩:=newVar cC alloc35 Uh Ji bk.1 bk.2;refine Sk (XC e4 cM) ?_;cases bo with
 |false=>
  refine Uy ?_
  grind [Le.trans]
 |true=>
 have bm:=cE.1 rfl;obtain⟨br,cN⟩:=Z rfl;have cP:=lA h4 ((I.trans aJ).trans P);have aq:=cN.le Nn.sJ P
 have lO:∀g,Le h4 g->aload Tryz.prog g 59 ⟨h3.next,0,none⟩=some nv:=fun g l=>by rw[Fq Uh rfl (l.own _ _ o4)];rfl
 have cR:=lO h4 (Le.refl _)
 generalize h3.next=O at*
 have bx:=((N.trans I).trans aJ).trans P;refine Sk (XC cP.1 cR) ?_;have aK:(Cb n web).length=n:=Qe n web;refine TC.intro PJ ⟨Tryz.func135,rfl,WY⟩ (tS W0 _ nv n es (Cb n web) h4 (aH.le bx) hr aq aK) ?_;rintro tv h5 cU ⟨L,hL,hT,cZ⟩;have c3:=hL.sl.cells;obtain⟨ee,d,e6,c4,bB,aP,o6⟩:=newVar cU alloc39 Ac Ji c3 hL.one
 have lT:∀g,Le d g->aload Tryz.prog g 49 ⟨h5.next,0,none⟩=some tv:=fun g l=>by rw[Fq Ac rfl (l.own _ _ o6)];rfl
 generalize h5.next=T at*
 have m:=cZ.trans bB;have Q:Le h1 d:=((I.trans aJ).trans P).trans m;have ar:=N.trans Q;have bF:=hp.le ar;have dS:=br.le Nn.sJ (P.trans m);have av:=aq.le Nn.sJ m;have c5:=hL.le Nn.RP bB
 obtain⟨w,e7,r,z,o7⟩:∃w,d.alloc (.map [])=w/\Le d w/\WF w/\w.own d.next=some (.map []):=⟨_,rfl,(Le.refl d).alloc aP _,aP.alloc _,AHeap.zT _ _⟩
 obtain⟨h8,e8,ae,c6,o8⟩:=Tt z []
 have bH:aBuildSlice Tryz.prog w 49 0 []=some (.slice (some ⟨w.next,0,none⟩) 0 0,h8):=by rw[<-e8];rfl
 have nM:d.own d.next=none:=(Le.refl d).next aP (qL0 _)
 have nC:d.own w.next=none:=r.next z (qL0 _)
 have bI:w.next≠d.next:=fun e=>by have:=z.lt o7;omega
 have bN:=lA h8 (Q.trans (r.trans ae));have ll:=fun g=>hp.len g;refine Sk (aNd9 e6 c4 e7 bH @Di @Ip.eq_1 @BS bN.2.2 ll) ?_;have bQ:=ae.own _ _ o7
 generalize d.next=M at*
 generalize w.next=C at*
 let on:Nat->Bool:=fun u=>(Cb n web).getD u false;let fr:Pr->Nat->Int:=Zo n on L;have R0:aaB d h8 M [] (grpsM fr es web 0):=⟨bQ,rfl,fun j u g s=>by simp at s,fun j u s=>by simp at s,fun j k u u' b _ s=>by simp at s,fun j u s=>by simp at s,r.trans ae,nM⟩;have gC:GI h8 (.slice (some ⟨C,0,none⟩) 0 0) (Ea (grpsM fr es web 0)):=GS.full o8 rfl WY;refine lIn (fun k S hh=>∃(i:Nat) (cv:Value) (us:List Value),k=es.length-i/\i<=es.length/\S=mkF [(6,ov),(7,.pointer (some ⟨O,0,none⟩)),(10,.func (.func 136) #[] #[.pointer (some ⟨B,0,none⟩),.pointer (some ⟨O,0,none⟩),.pointer (some ⟨T,0,none⟩)]),(11,.map (some M)),(12,cv),(38,ev),(39,.int .i64 es.length),(40,.int .i64 i)]/\
   aaB d hh M us (grpsM fr es web i)/\GI hh cv (Ea (grpsM fr es web i))/\blk cv≠some M/\(∀(j:Nat) u b,us[j]?=some u->blk u=some b->blk cv≠some b)/\Z2 d cv) ⟨0,_,[],rfl,aal _,rfl,R0,gC,by grind [blk],fun j u b s=>by simp at s,fun b hb=>by grind [blk]⟩ ?_
 clear R0 gC bQ bN nC bI bH o8 c6 ae e8 o7 z r e7;rintro k S hh U ⟨i,cv,us,rfl,hi,rfl,R,gc,nc,dc,ac⟩;have J:=R.le;refine Uy ?_;refine Kl.intro (fun ht=>?_) (fun hf=>?_)
 rotate_left
 .have c9 : es.length <= i := vp hf
  obtain rfl:i=es.length:=NH;obtain⟨nd,bW,az,da,aC⟩:=Pt fr es web es.length;generalize ag:grpsM fr es web es.length=gs at*;have lc:=fun g=>gc.rl.Uc g;have bZ:(Ea gs).length=gs.length:=by simp[Ea]
  rw[bZ]at lc;obtain⟨c0,mk,b0⟩:=mkFr hh gs.length NH;obtain⟨h9,e9,b2,db,o9⟩:=Tt U c0;rw[e9]at mk
  have nF:hh.own hh.next=none:=(Le.refl hh).next U (qL0 _)
  generalize hh.next=F at*
  simp only[HO,Nat.reduceLT,↓reduceIte,Nat.reduceEqDiff,reduceCtorEq,lc,mk];refine lIn (fun k S A=>∃(j:Nat) (cs:List Value),k=gs.length-j/\j<=gs.length/\S=mkF [(7,.pointer (some ⟨O,0,none⟩)),(11,.map (some M)),(16,.slice (some ⟨F,0,none⟩) gs.length gs.length),(73,cv),(74,.int .i64 gs.length),(75,.int .i64 j)]/\
    Le hh A/\A.own F=some (.cells cs)/\cs.length=gs.length*2/\∀(a:Nat) g,a<j->gs[a]?=some g->∃x y,cs[a*2]?=some x/\cs[a*2+1]?=some y/\PR (A.kill F) x g.2/\RL RP (A.kill F) y (YJ on g.2)) ⟨0,c0,rfl,aal _,rfl,b2,o9,b0,NH⟩ ?_
  clear e9 o9 db b2 mk b0 c0 h9;rintro k S A ef ⟨j,cs,rfl,hj,rfl,leq,oF,eg,V⟩;refine Uy ?_;refine Kl.intro (fun ht=>?_) (fun hf=>?_)
  rotate_left
  .have c9 : gs.length <= j := vp hf
   refine Uy ?_;refine⟨ar.trans (J.trans leq),_,_,rfl,.inr (.inr ⟨hr,bm,rfl,L,hT,?_⟩)⟩;have dd:LJ n es web L=gs.map fun g=>⟨g.2,YJ on g.2⟩:=by rw[<-ag];rfl
   show FL A _ (LJ n es web L);rw[dd];refine⟨cs,?_,fun a f ha=>?_⟩
   .have := CS.own (k := 2) (off := 0) (n := gs.length) (cap := gs.length) oF NH
    grind
   .rw [PN] at ha
    cases t:gs[a]? with
    |none=>grind
    |some g=>
     rw[t]at ha;simp at ha;subst ha;obtain⟨x,y,q1,q2,q3,q4⟩:=V a g pw t
     grind [PR.le,Le.Qz,RL.le,Nn.RP]
  have b3:j<gs.length:=CC ht;clear ht;have aj:=CA b3;generalize gs[j]=g at aj;obtain⟨f,l⟩:=g;have b4:(Ea gs)[j]?=some f:=by grind [Ea]
  have b5:=(Ny.1 b4).1;have de:=gc.rl.TA j b5;have b6:=(gc.rl.le Nn.RP leq).DH j b5;rw[(Ny.1 b4).2]at b6;have Rq:=R.up leq;obtain⟨u,dj,aT⟩:=R.look f;rw[NI nd aj]at aT;have s:aLookup Tryz.prog A 110 (.map (some M)) (.int .i64 f) false=some u:=by rw[<-dj];simp only[aLookup,qS7,Mb,Rq.oM,R.oM]
  have gu:=aT.le leq;have dk:=lO A (m.trans (J.trans leq));have b8:aV n l:=fun p hp=>hR p (aC _ (Gc aj) p hp);have b9:l.length<=1000:=pw;have dm:∀k:IntKind,aIndexAddr Tryz.prog 118 (.slice (some ⟨F,0,none⟩) gs.length gs.length) (.int k j)=some (.pointer (some ⟨F,j*2,none⟩)):=fun k=>by
   have h1:(j:Int)<(gs.length:Int):=NH;simp[aIndexAddr,qS24,yo,h1,zB,Ip]
  have Fm:=fQ W0 u nv n l (Cb n web) A gu.pr (av.le Nn.sJ (J.trans leq)) b8 aK b9;refine Sk (XC de b6) ?_;refine gh (tA [0,1,2,3,5,6,8] (.ch 4 [2,3] (JQ 7 [5,6] (JQ 9 [7,8] (tA [10,11] (JQ 12 [0,1,2,3,4,5,6,7,8,9,10,11] .done)))) (JQ 7 [5,6] (.ch 4 [2,3] (JQ 9 [7,8] (tA [10,11] (JQ 12 [0,1,2,3,4,5,6,7,8,9,10,11] .done))) (JQ 9 [7,8] (JQ 4 [2,3] (tA [10,11] (JQ 12 [0,1,2,3,4,5,6,7,8,9,10,11] .done)))))))) ?_;refine CO (XC s dk) ?_;refine⟨?_,?_,?_⟩
  all_goals
   refine VA.intro PJ ⟨Tryz.func137,rfl,WY⟩ Fm ?_;rintro y hz wz ⟨hy,lz,ay⟩;have dp:aLookup Tryz.prog hz 110 (.map (some M)) (.int .i64 f) false=some u:=by rw[<-s];simp only[aLookup,qS7,Mb,lz.own _ _ Rq.oM,Rq.oM]
   have dq:=stFr (lz.own _ _ oF) (show j*2+2<=cs.length by omega) (gu.pr.le lz) hy;have dv:Le hh (hz.put F (.cells ((cs.set (j*2) u).set (j*2+1) y))):=(leq.trans lz).put _ nF;have dw:=build41 gu.pr.sl hy.sl;refine CO (IX dp dw dm dq (Tw j NH)) ?_;refine lgA NH ⟨j+1,(cs.set (j*2) u).set (j*2+1) y,rfl,b3,rfl,dv,AHeap.Y3 _ _ _,pw,fun a g ha t=>?_⟩;have cc:blk y≠some F:=fun hb=>by have:=ay F hb;grind
   by_cases e:a=j
   .subst e
    rw[aj]at t;injection t with t;subst t;refine⟨u,y,pw,pw,aT.pr.le ((leq.trans lz).Qx nF _),?_⟩;refine RL.killI (F:=F) ?_ cc;have h1:=(hy.killI cc).le Nn.RP (h':=(hz.put F (.cells ((cs.set (a*2) u).set (a*2+1) y))).kill F) ((Le.refl hz).ON F _)
    grind [RL.le,Nn.RP,Le.Qz]
   .obtain ⟨x', y', q1, q2, q3, q4⟩ := V a g NH t
    exact⟨x',y',by rw[K4,if_neg NH,K4,if_neg NH];exact q1,by rw[K4,if_neg NH,K4,if_neg NH];exact q2,q3.le (lz.ON F _),q4.le Nn.RP (lz.ON F _)⟩
 have W:i<es.length:=CC ht;clear ht;have K:=CA W;generalize es[i]=p at K;have dz:=Gc K;obtain⟨p1,p2,p3⟩:=hR p dz;have dT:(ofM es web)[i]?=some (decide (p∈web)):=by grind [ofM]
 have cd:i<(ofM es web).length:=pw;have dA:=bF.le J;have ad:=hp.addr (k:=.i64) i W;have ld:=dA.load K;obtain⟨eh,w,e7,cf,r,z,o7⟩:=Ut U p
 have ei:d.own hh.next=none:=J.next U (qL0 _)
 have cg:hh.own hh.next=none:=(Le.refl hh).next U (qL0 _)
 have c:=J.trans r;have oA:∀k:IntKind,aIndexAddr Tryz.prog 59 ov (.int k (i:Int))=some (.pointer (some (elemAddr ov i))):=fun k=>br.LB i cd;have oL:aload Tryz.prog w 4 (elemAddr ov i)=some (.bool (decide (p∈web))):=by grind [RL.le,Nn.sJ,RL.W7]
 have R7:=R.up r;have X:=gc.le r
 have ej:hh.next≠M:=fun e=>by have:=R.oM;grind
 have dB:blk cv≠some hh.next:=fun e=>GS.Sy gc e cg
 have ek:∀(j:Nat) u,us[j]?=some u->blk u≠some hh.next:=fun j u s e=>by
  have ag:∃q,(grpsM fr es web i)[j]?=some q:=⟨_,CA (by grind [aaB.len])⟩;obtain⟨q,A⟩:=ag;exact GS.Sy (R.gp j u q s A) e cg
 generalize hh.next=E at*
 by_cases c1:p∈web
 .rw [decide_eq_true c1] at oL
  rw[<-JJ K c1]at R7 X;simp only[HO,Nat.reduceLT,↓reduceIte,Nat.reduceEqDiff,reduceCtorEq,ad,ld,e7,cf,oA,oL,Tw i NH];exact lgA NH ⟨i+1,cv,us,rfl,W,rfl,R7,X,nc,dc,ac⟩
 rw[decide_eq_false c1]at oL;simp only[HO,Nat.reduceLT,↓reduceIte,Nat.reduceEqDiff,reduceCtorEq,ad,ld,e7,cf,oA,oL];have ck:=lA w (Q.trans c);refine TC.intro PJ ⟨Tryz.func136,rfl,WY⟩ (zN W0 ev nv tv n es (Cb n web) L B O T i p w (bF.le c) (av.le Nn.sJ c) (c5.le Nn.RP c) hR aK hT.len ck.2.1 ck.2.2 (lO w (m.trans c)) (lT w c) K NH NH) ?_;rintro x h9-⟨rfl,rfl⟩;obtain⟨nd,bW,az,da,aC⟩:=Pt fr es web i;have aD:=dh (fr:=fr) K c1;have H:=RY (grpsM fr es web i) (fr p i) p;have cm:=rV (f:=fr p i) bW;have b9:=Ft (fr p i) _ _ az;have dE:Zo n (fun u=>(Cb n web).getD u false) L p i=fr p i:=rfl;rw[dE];generalize ag:grpsM fr es web i=gs at*;generalize fr p i=f at*;have bZ:(Ea gs).length<=1000:=by grind [Ea]
 obtain⟨u,s,gu⟩:=R7.look f;have lu:=fun g=>gu.pr.len g;have aW:∀(j:Nat) a b,us[j]?=some a->blk a=some b->∃o,h9.own b=some o:=fun j a b ha hb=>by
  have A:∃q,gs[j]?=some q:=⟨_,CA (by rw[<-R7.len];grind)⟩;obtain⟨q,A⟩:=A;exact N8.1 (GS.Sy (R7.gp j a q ha A) hb)
 by_cases c2:lstG gs f=[]
 .have dF : ∀ g, aLen Tryz.prog g 22 u = some (.int .i64 0) := fun g => by rw [lu g, c2]; rfl
  have dH:f∉Ea gs:=fun hm=>cm.1 hm c2;rw[if_neg dH]at H;obtain⟨aX,g4,g5,e4,e5,a6,w5,l4,dI,al⟩:=X.push z f NH;obtain⟨l5,a5⟩:=dI d c ac;have R5:aaB d g5 M us gs:=R7.keep l5 fun b o Y hb=>(al b o Y (by
   rcases hb with rfl|⟨j,a,ha,hb⟩
   .exact nc
   grind)).1
  obtain⟨dK,en⟩:=al E _ o7 dB;have a7:=(al M _ R7.oM nc).2;obtain⟨u2,dL,q4,q5,q6,a8,eu,eb,ea,em,Rn,wn,dM,kq⟩:=R5.push w5 f p (by rw[c2];simp);have bg:=uM dK;rw[<-H]at a6;have ku:∀(j:Nat) a b,us[j]?=some a->blk a=some b->blk aX≠some b:=fun j a b ha hb=>by
   obtain⟨o,Y⟩:=aW j a b ha hb;exact(al b o Y (dc j a b ha hb)).2
  have bh:GI q6 aX (Ea (addG gs f p)):=GS.kept a6 fun b o hb Y=>(kq b o Y (fun e=>a7 pw) (fun j a ha D=>ku j a b ha D hb)).2.1;simp only[HO,Nat.reduceLT,↓reduceIte,Nat.reduceEqDiff,reduceCtorEq,s,dF,e4,e5,eu,bg,eb,ea,em,Tw i NH];refine lgA NH ⟨i+1,aX,a8,rfl,W,rfl,?_⟩;rw[aD];refine⟨Rn,bh,a7,fun j a b ha hb hc=>?_,a5⟩;obtain⟨o,Y⟩:=N8.1 (GS.Sy a6 hc);exact(kq b o Y (fun e=>a7 pw) (fun j a ha D=>ku j a b ha D hc)).2.2 j a ha hb
 .have hz : (((lstG gs f).length : Nat) : Int) ≠ 0 := by grind [List.length_eq_zero_iff]
  rw[if_pos (cm.2 c2)]at H;obtain⟨u2,dL,q4,q5,q6,a8,eu,eb,ea,em,Rn,wn,dM,kq⟩:=R7.push z f p NH;obtain rfl:u=u2:=pw;have bg:=uM o7;have bh:GI q6 cv (Ea (addG gs f p)):=by
   rw[H];exact GS.kept X fun b o hb Y=>(kq b o Y (fun e=>nc pw) (fun j a ha D=>dc j a b ha D hb)).2.1
  simp only[HO,Nat.reduceLT,↓reduceIte,Nat.reduceEqDiff,reduceCtorEq,s,lu,eq_false hz,bg,eb,ea,em,Tw i NH];refine lgA NH ⟨i+1,cv,a8,rfl,W,rfl,?_⟩;rw[aD];refine⟨Rn,bh,nc,fun j a b ha hb hc=>?_,ac⟩;obtain⟨o,Y⟩:=N8.1 (GS.Sy X hc);exact(kq b o Y (fun e=>nc pw) (fun j a ha D=>dc j a b ha D hc)).2.2 j a ha hb
end
section
open Go.Proofs
def cX (web l:List Pr) (n:Nat):II:=(List.range n).filter fun v=>SZ web (v:Int)&&SZ l (v:Int)
variable {a b v:Value} {fs:List FM} {g h:AHeap} {i m n:Nat}
theorem FL.len (r:FL h v fs) (g:AHeap):aLen Tryz.prog g 118 v=some (.int .i64 fs.length):=by
 obtain⟨cs,c,_⟩:=r;obtain⟨a,k,rfl,_⟩:=c.sl;simp[aLen,qS24]
def qx (v:Value) (i:Nat):Addr:=elemAddr v (i*2)
theorem FL.addr (r:FL h v fs) {k:IntKind} (i:Nat) (hi:i<fs.length):aIndexAddr Tryz.prog 118 v (.int k i)=some (.pointer (some (qx v i))):=by
 obtain⟨cs,c,_⟩:=r;obtain⟨a,k,rfl,hs⟩:=c.sl;obtain⟨a,rfl⟩:=Gw.1 (hs NH);have b:(i:Int)<(fs.length:Int):=NH;simp[aIndexAddr,qS24,yo,b,qx,elemAddr,zB]
def ff0 (a:Addr):aField Tryz.prog 122 (.pointer (some a)) 0=some (.pointer (some (Ip a 0))):=rfl
def ff1 (a:Addr):aField Tryz.prog 122 (.pointer (some a)) 1=some (.pointer (some (Ip a 1))):=rfl
theorem FL.load (r:FL h v fs) {f:FM} (hf:fs[i]?=some f):
  ∃a b,(∀g,Le h g->aload Tryz.prog g 122 (qx v i)=some (.agg #[a,b]))/\PR h a f.zp/\RL RP h b f.Fm:=by
 obtain⟨cs,c,e⟩:=r;obtain⟨a,b,m,n,o,p⟩:=e i f hf;refine⟨a,b,fun g l=>?_,o,p⟩;have q:=l.read (c.get _ _ m);have s:=l.read (c.get _ _ n);obtain⟨ad,k,rfl,hs⟩:=c.sl;obtain⟨ad,rfl⟩:=Gw.1 (hs pw);have d:readN g (qx (.slice (some ad) fs.length k) i) 2=some [a,b]:=by
  refine ua [a,b] _ fun j x e=>?_
  grind [qx,fA,Ip]
 simp only[aload,yo,zB,d];rfl
theorem alloc41 (h:AHeap):aAlloc Tryz.prog h 122=some (.pointer (some ⟨h.next,0,none⟩),h.alloc (.cells [.slice none 0 0,.slice none 0 0])):=rfl
theorem new41' (hw:WF h) (ha:xO a n) (hb:xO b m):∃c h2,aAlloc Tryz.prog h 122=some (.pointer (some ⟨h.next,0,none⟩),c)/\aStore Tryz.prog c 122 (.pointer (some ⟨h.next,0,none⟩)) (.agg #[a,b])=some h2/\Le h h2/\WF h2/\h.own h.next=none/\h2.own h.next=some (.cells [a,b]):=by
 obtain⟨c,e,l1,w1,d⟩:=Tt hw [.slice none 0 0,.slice none 0 0]
 have f:h.own h.next=none:=(Le.refl h).next hw (qL0 _)
 have st:aStore Tryz.prog c 122 (.pointer (some ⟨h.next,0,none⟩)) (.agg #[a,b])=some (c.put h.next (.cells [a,b])):=by
  obtain⟨_,_,rfl,_⟩:=ha;obtain⟨_,_,rfl,_⟩:=hb;simp[aStore,d,Value.cells,zB,putCells,yo];exact⟨rfl,rfl⟩
 grind [alloc41,Le.put,WF.put,WF.lt,AHeap.Y3]
def eX {C:Nat} (c:g.own C=some (.cells [a,b])):aload Tryz.prog g 122 ⟨C,0,none⟩=some (.agg #[a,b])/\aload Tryz.prog g 22 ⟨C,0,none⟩=some a/\aload Tryz.prog g 49 ⟨C,1,none⟩=some b:=by
 refine⟨?_,?_,?_⟩
 .rw[Wx yo rfl zB c Ma];rfl
 .rw[Fq eY rfl c];rfl
 .rw[Fq Ac rfl c];rfl
end
end Go.Fw
namespace Go.Fw
open Go.Proofs
theorem Ty (p:Pr) (v:Int):aO p v=true↔p.1=v\/p.2=v:=by simp[aO]
theorem onE_iff (web:List Pr) (v:Nat):SZ web (v:Int)=true↔onW web v:=by simp[SZ,onW,Ty]
theorem Fh {n:Nat} {web:List Pr} {u:Nat} (a:u<n):(Cb n web).getD u false=SZ web (u:Int):=by grind [onE_iff,Cb]
section
variable {n : Nat} {es web : List Pr} {L : List Int}
abbrev Qw (n:Nat) (web:List Pr):Nat->Bool:=fun u=>(Cb n web).getD u false
end
end Go.Fw
namespace Go.Fw
section
open Go.Proofs
variable {n:Nat} {α:Type}
theorem feet_eq {es web l:List Pr} (hR:aV n es) (a:∀p∈l,p∈es):YJ (Qw n web) l=aaa (cX web l n):=by
 refine wP _ _ (bT (aQ _)) ?_ fun x=>?_
 .rw [aaa, Hs, cX]
  grind [List.Pairwise.imp,List.pairwise_lt_range]
 .rw [YJ, jn, Wv]
  simp only[BY,ftP,QD,VU,aaa,cX,HV,uV,Yi];constructor
  .rintro ⟨p, b, c, d⟩
   obtain⟨a1,a2,e⟩:=hR p (a p b)
   grind [Fh,SZ.eq_1,Ty]
  grind [SZ.eq_1,Ty,Fh]
def fullU (fr:Pr->Nat->Int) (es web:List Pr) (k:Int):Nat->List Pr
  |0=>[]
  |i+1=>match es[i]? with
    |some p=>if p∈web then fullU fr es web k i else if fr p i=k then fullU fr es web k i++[p]else fullU fr es web k i
    |none=>fullU fr es web k i
theorem U7 (gs:List Gr) (f k:Int) (p:Pr):lstG (addG gs f p) k=if f=k then lstG gs k++[p]else lstG gs k:=by
 induction gs<;>grind [addG,lstG]
theorem ZM (fr:Pr->Nat->Int) (es web:List Pr) (k:Int) (i:Nat):lstG (grpsM fr es web i) k=fullU fr es web k i:=by
 induction i with
 |zero=>rfl
 |succ i a=>
  cases b:es[i]?<;>grind [grpsM,fullU,U7]
theorem Zj (fr:Pr->Nat->Int) (es web:List Pr) (k:Int) (q:Pr) (i:Nat):q∈fullU fr es web k i↔∃j,j<i/\es[j]?=some q/\q∉web/\fr q j=k:=by
 induction i<;>grind [fullU]
theorem PE (F:List Pr->α) (gs:List Gr) (a:(Ea gs).Nodup):gs.map (fun g=>F g.2)=(Ea gs).map fun k=>F (lstG gs k):=by grind [Ea.eq_1,List.map_congr_left,List.mem_iff_getElem?,NI]
end
theorem Tz (gs:List Gr) (f k:Int) (p:Pr):k∈Ea (addG gs f p)↔k∈Ea gs\/k=f:=by
 induction gs<;>grind [addG,Ea]
theorem afY (fr:Pr->Nat->Int) (es web:List Pr) (k:Int) (i:Nat):k∈Ea (grpsM fr es web i)↔∃(j:Nat) (p:Pr),j<i/\es[j]?=some p/\p∉web/\fr p j=k:=by
 induction i with
 |zero=>simp[grpsM,Ea]
 |succ i a=>
  cases b:es[i]? with
  |none=>
   grind [grpsM]
  |some q=>
   by_cases c:q∈web
   .grind [JJ]
   .rw [dh b c, Tz, a]
    grind
variable {L:RZ} {es ps:List Pr} {n u w:Nat} {on:Nat->Bool}
theorem sW (fr:Pr->Nat->Int) (es web:List Pr) (k:Int):∀i,(fullU fr es web k i).Sublist (es.take i)
 |0=>by simp[fullU]
 |i+1=>by
  have a:=sW fr es web k i;simp only[fullU];cases b:es[i]? with
  |none=>grind
  |some p=>
   have:es.take (i+1)=es.take i++[p]:=by grind [List.take_add_one]
   grind
theorem E7 {web l:List Pr} {x:Int}:x∈aaa (cX web l n)↔∃v:Nat,v<n/\x=(v:Int)/\SZ web (v:Int)=true/\SZ l (v:Int)=true:=by grind [aaa,cX]
theorem DX {v:Int}:SZ ps v=true↔∃p∈ps,aO p v=true:=by simp[SZ]
theorem M9 (a:wx n on es L) (b:u<n) (hw:w<n) (c:on u=false) (d:on w=false):L.getD u 0=L.getD w 0↔Cn on es u w:=by grind [wx.same,wx.off]
end Go.Fw
namespace Go.Fw
open Go.Proofs
attribute [local instance] Classical.propDecidable
def Xl (rs:AM):Nat->II:=fun v=>(rs.getD v []).map Int.toNat
structure Av (n:Nat) (es:List Pr) (rs:AM):Prop where
 len:rs.length=n
 perm:∀v,v<n->(rs.getD v []).Perm ((Zh n es).getD v [])
section
variable {n : Nat} {es : List Pr} {rs : List (List Int)}
theorem Av.nat (c:aV n es) (G:Av n es rs) {v:Nat} {x:Int} (a:x∈rs.getD v []):v<n/\∃w:Nat,x=(w:Int)/\w<n/\Jp es v w:=by
 by_cases b:v<n
 .have d := (G.perm v b).mem_iff.1 a
  grind [Ru,EW]
 grind [Av.len]
theorem Av.mem (a:aV n es) (G:Av n es rs) {v w:Nat}:w∈Xl rs v↔Jp es v w:=by
 rw[Xl,HV];constructor
 .rintro ⟨x, b, rfl⟩
  obtain⟨_,w,rfl,_,h⟩:=G.nat a b;exact h
 .intro h
  have c:=(h.lt a).1;exact⟨(w:Int),(G.perm v c).mem_iff.2 (by grind [EW]),rfl⟩
theorem Av.back (a:aV n es) (G:Av n es rs) (v:Nat):(Xl rs v).map (fun(x:Nat)=>(x:Int))=rs.getD v []:=by
 rw[Xl,KG]
 conv=>rhs;rw[<-aeC (rs.getD v [])]
 refine Uz fun x b=>?_;obtain⟨_,w,rfl,_⟩:=G.nat a b;rfl
theorem Av.jD (a:aV n es) (ha:D3 es) (G:Av n es rs):V7 n (Xl rs):=by
 refine⟨fun v=>?_,fun v w h=>(((G.mem a).1 h).lt a).1,fun v w h=>(G.mem a).2 ((G.mem a).1 h).symm,fun v h=>Xa a ((G.mem a).1 h)⟩;by_cases b:v<n
 .have nd : (rs.getD v []).Nodup := (G.perm v b).nodup_iff.2 (by grind [KW, List.Pairwise.imp])
  grind [Xl.eq_1,List.Pairwise.imp_of_mem,Av.nat]
 grind [Xl.eq_1,Av.len]
end
theorem Qy {l:II} (nd:l.Nodup) {j:Nat} (a:j<l.length):nx l l[j]=l[(j+1)%l.length]'(C4 _ NH):=by
 have e:l=l.take j++l[j]::l.drop (j+1):=by grind [List.getElem_cons_drop,List.take_append_drop]
 have b:nx l l[j]=(l.drop (j+1)++(l.take j++[l[j]])).headD 0:=by grind [ZL]
 rw[b];by_cases c:j+1<l.length
 .grind [List.drop_eq_getElem_cons,List.headD_cons,Nat.mod_eq_of_lt]
 .rw [js NH, KV]
  have d:(j+1)%l.length=0:=by grind [Nat.mod_self]
  cases j with
  |zero=>grind
  |succ j=>
   cases l with
   |nil=>simp at a
   |cons x l=>simp only[d,TN,To,qL213,qL219]
end Go.Fw
