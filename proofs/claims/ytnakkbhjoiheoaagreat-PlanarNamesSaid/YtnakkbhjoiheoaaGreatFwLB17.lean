/- A text. -/
import Derived.Test.YtnakkbhjoiheoaaGreatFwLB9
set_option linter.all false
set_option maxRecDepth 99999
set_option maxHeartbeats 9999999
open Go.Proofs
open Option renaming some→Z,none→Y
open Bool renaming true→tT,false→fF
open List renaming replicate→rP,range→rG
open Go.Value renaming slice→sL,pointer→pT
open Go renaming Value→vV
open Go.Proofs.Tryz renaming prog→pG
open Go.Proofs.Tryz
open List
namespace Go.Fw
variable {F i:Nat} {es ps web:List Pr} {fr:Pr->Nat->Int} {gs:List Gr} {h:aai} {p:Pr} {xs:RZ}
theorem RY(gs:List Gr)(f:Int)(p:Pr):Ea (ab4 gs f p)=if f∈Ea gs then Ea gs else Ea gs++[f]:=by
 induction gs<;>grind[Ea,ab4]
theorem keysG_nd(h:(Ea gs).Nodup)(f:Int)(p:Pr):(Ea (ab4 gs f p)).Nodup:=by grind[RY]
theorem addG_ne(h:∀g∈gs,g.2≠[])(f:Int)(p:Pr):∀g∈ab4 gs f p,g.2≠[]:=by
 induction gs with
 |nil=>grind[ab4]
 |cons g gs b=>
  have⟨k,l⟩:=g;intro x a;by_cases c:k=f
  .simp only[ab4,Sb c,HV]at a;rcases a with rfl|a
   .simp
   grind
  grind[ab4]
theorem NI{f:Int}{l:xLP}:∀{gs:List Gr}{i:Nat},(Ea gs).Nodup->gs[i]?=Z (f,l)->acU gs f=l
 |[],i,_,e=>by simp at e
 |(k,l')::gs,0,_,e=>by grind[acU]
 |(k,l')::gs,i+1,h,e=>by simp only[Ea,AQ,eR]at h;have b:f∈Ea gs:=si.2 ⟨(f,l),BS (by simpa using e),rfl⟩;have a:¬k=f:=fun e=>h.1 hGr;rw[acU,WA a];exact NI h.2 (by simpa using e)
theorem rV{f:Int}:∀{gs:List Gr},(∀g∈gs,g.2≠[])->(f∈Ea gs↔acU gs f≠[])
 |[],_=>by simp[Ea,acU]
 |(k,l)::gs,h=>by
  by_cases c:k=f
  .subst c;have a:l≠[]:=h (k,l) Ma;grind[Ea,acU]
  .have c':¬f=k:=fun h=>c h.symm;have:=rV (f:=f) (gs:=gs) fun g hg=>h g (by simp[hg]);grind[acU.eq_2,Ea]
def Ft(f:Int):∀(gs:List Gr)(m:Nat),(∀g∈gs,g.2.length<=m)->(acU gs f).length<=m
 |[],m,_=>by simp[acU]
 |(k,l)::gs,m,h=>by
  by_cases c:k=f
  .rw[acU,Sb c];exact h (k,l) Ma
  .rw[acU,WA c];exact Ft f gs m fun g hg=>h g (by simp[hg])
theorem Zk(f:Int)(p:Pr):∀(gs:List Gr)(m:Nat),(∀g∈gs,g.2.length<=m)->∀g∈ab4 gs f p,g.2.length<=m+1
 |[],m,_=>fun g hg=>by grind[ab4]
 |(k,l)::gs,m,h=>fun g hg=>by
  have a:=h (k,l) Ma;by_cases c:k=f
  .grind[ab4]
  .simp only[ab4,WA c,HV]at hg;rcases hg with rfl|hg
   .grind
   .exact Zk f p gs m (fun g hg=>h g (by simp[hg])) g hg
def aaX(fr:Pr->Nat->Int)(es web:xLP):Nat->List Gr
  |0=>[]
  |i+1=>match es[i]? with
    |some p=>if p∈web then aaX fr es web i else ab4 (aaX fr es web i) (fr p i) p
    |none=>aaX fr es web i
theorem JJ(h:es[i]?=Z p)(hw:p∈web):aaX fr es web (i+1)=aaX fr es web i:=by grind[aaX]
theorem dh(h:es[i]?=Z p)(hw:p∉web):aaX fr es web (i+1)=ab4 (aaX fr es web i) (fr p i) p:=by grind[aaX]
theorem Pt(fr:Pr->Nat->Int)(es web:xLP)(i:Nat):(Ea (aaX fr es web i)).Nodup/\(∀g∈aaX fr es web i,g.2≠[])/\(∀g∈aaX fr es web i,g.2.length<=i)/\(aaX fr es web i).length<=i/\∀g∈aaX fr es web i,∀p∈g.2,p∈es:=by
  have a:∀(gs:List Gr)(f:Int)(p:Pr),(∀g∈gs,∀q∈g.2,q∈es)->p∈es->∀g∈ab4 gs f p,∀q∈g.2,q∈es:=by
    intro gs f p
    induction gs with
    |nil=>grind[ab4]
    |cons g gs m=>
      have⟨k,l⟩:=g;intro h e x d;by_cases c:k=f
      · simp only[ab4,Sb c,HV]at d
        rcases d with rfl|d
        · intro q j;simp only[vZ,iy]at j
          rcases j with j|rfl
          .exact h (k,l) Ma q j
          .exact e
        grind
      · simp only[ab4,WA c,HV]at d
        rcases d with rfl|d
        .exact h _ Ma
        .exact m (fun g hg=>h g (by simp[hg])) e x d
  have b:∀(gs:List Gr)(f:Int)(p:Pr),(ab4 gs f p).length<=gs.length+1:=by
    intro gs f p
    induction gs<;>grind[ab4]
  induction i with
  |zero=>simp[aaX,Ea]
  |succ i m=>
    have⟨n,h2,h3,r,o⟩:=m;have up:∀g∈aaX fr es web i,g.2.length<=i+1:=fun g hg=>by grind
    cases e:es[i]? with
    | none => have:aaX fr es web (i+1)=aaX fr es web i:=by grind[aaX]
              rw[this];grind
    |some p=>
      by_cases c:p∈web
      .rw[JJ e c];grind
      · rw[dh e c]
        exact⟨keysG_nd n _ _,addG_ne h2 _ _,Zk _ _ _ _ h3,hGr,a _ _ _ o (BS e)⟩
structure FM where
 zp:xLP
 Fm:RZ
def FL(h:aai)(v:vV)(c:List FM):Prop:=∃cs,CS 2 h v c.length cs/\∀(i:Nat) f,c[i]?=Z f->∃a b,cs[i*2]?=Z a/\cs[i*2+1]?=Z b/\PR h a f.zp/\RL RP h b f.Fm
def zB:UA pG 165=2:=Ji
theorem mkFr(h:aai)(n:Nat)(d:n<=100000):∃c,abl pG h 161 n n=Z (sL (Z h.next) n n,h.alloc (.cells c))/\c.length=n*2:=by
 have e:acd pG 165=Z (.agg #[.slice Y 0 0,.slice Y 0 0]):=Ji;have hb:(pG.bytesOf 165).ble 1000=tT:=Ji;have a:(pG.bytesOf 165:Int)*n<=140737488355328:=by have:pG.bytesOf 165*n<=1000*1000000:=af7 (qL255 hb) NH;have h2:((pG.bytesOf 165*n:Nat):Int)<=1000000000:=NH;rw[Int.natCast_mul]at h2;omega
 have b:(n:Int)<=140737488355328:=NH;have f:(vV.agg #[.slice Y 0 0,.slice Y 0 0]).cells=#[.slice Y 0 0,.slice Y 0 0]:=rfl;have g:(acY [vV.slice Y 0 0,vV.slice Y 0 0] n).all (·.oneCell')=tT:=by
  clear a b d
  induction n with
  |zero=>rfl
  |succ n i=>simp only[acY,akb,i,amg];rfl
 refine⟨acY [.slice Y 0 0,.slice Y 0 0] n,?_,by grind[jY]⟩;simp[abl,qS24,sU,e,f,zB,a,b,IF,g,Fw.flat]
def stFr{c:xLV}{a b:vV}(d:h.own F=Z (.cells c))(hi:i*2+2<=c.length)(ha:PR h a ps)(hb:RL RP h b xs):
  aaK pG h 165 (pT (Z ⟨F,i*2,Y⟩)) (.agg #[a,b])=Z (h.put F (.cells ((c.set (i*2) a).set (i*2+1) b))):=by
 have e:=ha.sl.one;have h2:=hb.one;have f:(vV.agg #[a,b]).cells=#[a,b]:=rfl;simp[aaK,d,f,zB,putCells,sU,e,h2,hi]
theorem afY:∀(a b:RZ),a.Pairwise (·<·)->b.Pairwise (·<·)->(∀x,x∈a↔x∈b)->a=b
 |[],[],_,_,_=>rfl
 |[],y::b,_,_,h=>by have:=(h y).2 Ma;simp at this
 |x::a,[],_,_,h=>by have:=(h x).1 Ma;simp at this
 |x::a,y::b,ha,hb,h=>by
  rw[afC]at ha hb;have e:x=y:=by have c:=(h x).1 Ma;have h2:=(h y).2 Ma;grind
  subst e;rw[afY a b ha.2 hb.2 fun z=>?_];grind
theorem jn(l:RZ)(x:Int):x∈Lib.compact l↔x∈l:=by
 simp only[Lib.compact,Lib.compactUpTo,si,xD,Db];constructor
 .grind
 .intro b;obtain⟨j,a,rfl⟩:=Bx.1 b
  induction j with
  |zero=>exact⟨0,⟨a,by simp[Lib.keeps]⟩,hGr⟩
  |succ j d=>
   by_cases c:l[j+1]=l[j]
   .grind
   .refine⟨j+1,⟨a,?_⟩,hGr⟩;simp only[Lib.keeps,abV,Nat.add_sub_cancel];grind
theorem bT{l:RZ}(h:l.Pairwise (·<=·)):(Lib.compact l).Pairwise (·<·):=by
 simp only[Lib.compact,Lib.compactUpTo];rw[V3];have f:((rG l.length).filter (Lib.keeps l.toArray)).Pairwise (·<·):=by grind[pairwise_lt_range]
 refine DF ?_ f;intro i j hi c g;rw[xD,Db]at hi c;have⟨b,a⟩:=c;simp only[Lib.keeps,abV]at a;rw[getElem!_pos _ i (by simp;omega),getElem!_pos _ j hGr]at*;rcases a with d|d
 .omega
 .rw[getElem!_pos _ (j-1) (by simp;omega)]at d;rw[Yi]at h;simp only[qL207]at*;have h2:=h (j-1) j NH b NH;by_cases e:i=j-1
  .grind
  .have:=h i (j-1) NH NH NH;omega
theorem Wv(l:RZ)(x:Int):x∈qC l↔x∈l:=by simp[qC]
theorem aQ(l:RZ):(qC l).Pairwise (·<=·):=by grind[pairwise_mergeSort,qC]
variable {n s u v w:Nat} {o:II} {up:RZ}
abbrev offA:Nat->Bool:=fun _=>fF
abbrev Pu(es:xLP):Nat->Nat->Prop:=Cn offA es
theorem Pu.refl(es:xLP)(u:Nat):Pu es u u:=Cn.refl rfl
theorem abu(h:Jp es u w):Pu es u w:=.step (.refl rfl) h rfl
theorem Pu.lt{n:Nat}{es:xLP}(b:aV n es){u w:Nat}(h:Pu es u w)(c:u<n):w<n:=by
 induction h with
 |refl _=>exact c
 |step _ a _ _=>exact(a.lt b).2
theorem du.bp(d:du n es s o up):∀v∈o,Pu es s v:=by
 induction d with
 |start=>grind[Pu.refl]
 |step d c ha _ _ _ b=>
  intro x a;rw[vZ,iy]at a;rcases a with a|rfl
  .exact b x a
  .exact .step (b _ (BS c)) ha rfl
theorem du.head(d:du n es s o up):o[0]?=Z s:=by
 induction d<;>grind
theorem du.nodup(d:du n es s o up):o.Nodup:=by
 induction d<;>grind
theorem Oc.mem(d:Oc n es s o up)(v:Nat):v∈o↔Pu es s v:=by
 refine⟨d.KP.bp v,fun h=>?_⟩
 induction h with
 |refl _=>exact BS d.KP.head
 |step _ a _ b=>exact d.full _ b _ a
open Classical in
noncomputable def Ic(n:Nat)(es:xLP)(v:Nat):II:=(rG n).filter fun w=>decide (Pu es v w)
open Classical in
noncomputable def Es(n:Nat)(es:xLP):II:=(rG n).filter fun v=>decide (∀u,u<v->¬Pu es u v)
noncomputable def Gx(n:Nat)(es:xLP)(k:Nat):Cs:=((Es k es).map (Ic n es))
theorem mY:w∈Ic n es v↔w<n/\Pu es v w:=by simp[Ic]
theorem QO:v∈Es n es↔v<n/\∀u,u<v->¬Pu es u v:=by simp[Es]
theorem yP(k:Nat)(es:xLP):(Es (k+1) es=Es k es++[k]/\∀u,u<k->¬Pu es u k)\/(Es (k+1) es=Es k es/\∃u,u<k/\Pu es u k):=by grind[Es,range_succ]
theorem vH(k:Nat)(es:xLP):(Es k es).length<=k:=by grind[Es]
theorem uA(n:Nat):(rG n).Pairwise (·<·):=by grind[pairwise_iff_getElem]
theorem compL_asc(n:Nat)(es:xLP)(v:Nat):(Ic n es v).Pairwise (·<·):=(uA n).filter _
theorem sort_comp(b:aV n es)(d:Oc n es s o up)(hs:s<n):qC (kz o)=kz (Ic n es s):=by
 have c:(kz (Ic n es s)).Pairwise (·<·):=by grind[kz.eq_1,compL_asc]
 have e:(qC (kz o)).Pairwise (·<·):=by
  have nd:(qC (kz o)).Nodup:=by have a:(qC (kz o)).Perm (kz o):=alO _ _;rw[a.nodup_iff,kz];have:=d.KP.nodup;grind
  have:=List.Pairwise.and (aQ (kz o)) (AE.1 nd);grind
 grind[afY,Wv,kz,mY,Oc.mem,Pu.lt]
end Go.Fw
namespace Go.Fw
inductive pJ (up:Nat->Option Nat):Nat->Nat->Prop
 |refl (a:Nat):pJ up a a
 |step {a b c:Nat}:pJ up a b->up c=Z b->pJ up a c
theorem pJ.one{up:Nat->Option Nat}{b c:Nat}(h:up c=Z b):pJ up b c:=.step (.refl b) h
theorem pJ.trans{up:Nat->Option Nat}{a b c:Nat}(h:pJ up a b)(k:pJ up b c):pJ up a c:=by
 induction k with
 |refl=>exact h
 |step _ e d=>exact .step d e
theorem pJ.chain{up:Nat->Option Nat}{a b c:Nat}(h:pJ up a c)(k:pJ up b c):pJ up a b\/pJ up b a:=by
 induction h with
 |refl=>exact .inr k
 |@step x c h e d=>
  cases k with
  |refl=>exact .inl (h.step e)
  |@step y _ k e'=>grind
theorem pJ.child{up:Nat->Option Nat}{a b:Nat}(h:pJ up a b)(ne:a≠b):∃c,up c=Z a/\pJ up c b:=by
 induction h with
 |refl=>grind
 |@step x c h e f=>
  by_cases q:a=x
  .subst q;exact⟨c,e,.refl c⟩
  .obtain⟨d,g,h2⟩:=f q;exact⟨d,g,h2.step e⟩
theorem pJ.last{up:Nat->Option Nat}{a b:Nat}(h:pJ up a b)(ne:a≠b):∃c,up b=Z c/\pJ up a c:=by
 cases h<;>grind
structure Fo (n:Nat) (es:xLP) (num:Nat->Nat) (up:Nat->Option Nat):Prop where
 rD:aV n es
 inj:∀u v,u<n->v<n->num u=num v->u=v
 Kd:∀v u,v<n->up v=Z u->Jp es u v/\num u<num v
 anc:∀a b,Jp es a b->num a<num b->pJ up a b
abbrev wo(v:Nat):Nat->Bool:=fun x=>x==v
theorem iO{v x:Nat}(h:x≠v):wo v x=fF:=hGr
def ym(es:xLP)(num:Nat->Nat)(up:Nat->Option Nat)(v c:Nat):Prop:=∃x w,pJ up c x/\Jp es x w/\num w<num v
def Nt(es:xLP)(up:Nat->Option Nat)(u w:Nat):Prop:=Jp es u w/\up u≠Z w/\up w≠Z u
structure Iw (es:xLP) (num:Nat->Nat) (up:Nat->Option Nat) (D:Nat->Nat->Prop) (v:Nat) (x:Nat):Prop where
 self:x<=num v
 back:∀u w,D v u->Nt es up u w->x<=num w
 some_:x=num v\/∃u w,D v u/\Nt es up u w/\x=num w
namespace Fo
variable{n:Nat}{es:List Pr}{num:Nat->Nat}{up:Nat->Option Nat}
theorem yO(F:Fo n es num up){a b:Nat}(h:pJ up a b)(hb:b<n):a<n/\(a=b\/num a<num b):=by
 induction h with
 |refl=>grind
 |@step x c h e d=>have⟨f,h2⟩:=F.Kd c x hb e;have⟨h3,g⟩:=d (f.lt F.rD).1;grind
theorem JD(F:Fo n es num up){a b:Nat}(h:Jp es a b):num a≠num b:=by intro e;have:=F.inj a b (h.lt F.rD).1 (h.lt F.rD).2 e;rcases h with h|h<;>have:=F.rD _ h<;>simp only at this<;>omega
def along(F:Fo n es num up){a b v:Nat}(h:pJ up a b)(hb:b<n)(d:∀x,pJ up a x->pJ up x b->x≠v):Cn (wo v) es a b:=by
 induction h with
 |refl=>exact .refl (iO (d _ (.refl _) (.refl _)))
 |@step x c h e g=>have⟨f,h2⟩:=F.Kd c x hb e;exact .step (g (f.lt F.rD).1 fun y h3 i=>d y h3 (i.step e)) f (iO (d c (h.step e) (.refl c)))
def WU(F:Fo n es num up){a v:Nat}(h:pJ up a v)(ne:a≠v)(b:v<n):num a<num v:=(F.yO h b).2.resolve_left ne
theorem xG(F:Fo n es num up){a b v:Nat}(d:v<n)(ha:pJ up a v)(f:a≠v)(hb:pJ up b v)(nb:b≠v):Cn (wo v) es a b:=by
 have key:∀{a b:Nat},pJ up a b->pJ up b v->b≠v->Cn (wo v) es a b:=by intro a b h hb nb;have c:=(F.yO hb d).1;refine F.along h c fun x _ g e=>?_;grind[Fo.yO]
 grind[pJ.chain,Cn.symm]
theorem below(F:Fo n es num up){c a v:Nat}(ha:a<n)(d:up c=Z v)(h:pJ up c a):Cn (wo v) es c a:=by have b:=(F.yO h ha).1;refine F.along h ha fun x g f e=>?_;subst e;have i:=(F.Kd c x b d).2;grind[Fo.yO]
theorem CJ(F:Fo n es num up){c v:Nat}(b:c<n)(d:up c=Z v)(h:ym es num up v c):∃w,pJ up w v/\w≠v/\Cn (wo v) es c w:=by
 have⟨x,w,i,h2,h3⟩:=h;have j:=(h2.lt F.rD).1;have k:=((F.Kd c v b d).1.lt F.rD).1;have f:pJ up v x:=(pJ.one d).trans i;have g:num w<num x:=by grind[Fo.yO]
 have a:w≠v:=fun e=>by grind
 have ha:=F.anc w x h2.symm g;rcases ha.chain f with h|h
 .exact⟨w,h,a,(F.below j d i).step h2 (iO a)⟩
 grind[Fo.yO]
theorem UT(F:Fo n es num up){c v x:Nat}(b:c<n)(j:up c=Z v)(h:¬ym es num up v c)(k:Cn (wo v) es c x):pJ up c x/\x<n:=by
 induction k with
 |refl _=>exact⟨.refl _,b⟩
 |@step x y k a o m=>
  have⟨l,s⟩:=m;have p:=(a.lt F.rD).2;refine⟨?_,p⟩;have g:y≠v:=hGr;by_cases q:num y<num x
  .have h2:=F.anc y x a.symm q;rcases l.chain h2 with h3|h3
   .exact h3
   .by_cases e:y=c
    .grind
    .obtain⟨d,f,r⟩:=h3.last e;rw[j]at f;injection f with f;subst f;have i:=((F.Kd c v b j).1.lt F.rD).1;exact absurd ⟨x,y,l,a,F.WU r g i⟩ h
  grind[Fo.JD,pJ.trans,Fo.anc]
theorem low_bey(F:Fo n es num up){c v x:Nat}(f:c<n)(i:up c=Z v)(L:Iw es num up (pJ up) c x):x<num v↔ym es num up v c:=by
 have j:=(F.Kd c v f i).2;constructor
 .intro h;rcases L.some_ with a|⟨u,w,a,h2,h3⟩
  .omega
  .exact⟨u,w,a,h2.1,NH⟩
 .rintro⟨u,w,a,h2,h3⟩;have g:=(h2.lt F.rD).1;have l:=(F.yO a g).2;have:=L.back u w a ⟨h2,fun e=>?_,fun e=>?_⟩
  .omega
  .by_cases q:c=u
   .grind
   .obtain⟨d,b,k⟩:=a.last q;rw[e]at b;injection b with b;subst b;rcases(F.yO k (h2.lt F.rD).2).2 with h|h
    all_goals grind
  .have:=(F.Kd w u (h2.lt F.rD).2 e).2;grind
structure abi (n:Nat) (es:xLP) (num:Nat->Nat) (up:Nat->Option Nat) (hd:Nat->Nat):Prop where
 root:∀v,v<n->up v=Y->hd v=v
 on:∀v u,v<n->up v=Z u->ym es num up u v->hd v=hd u
 new:∀v u,v<n->up v=Z u->¬ym es num up u v->hd v=v
variable{hd:Nat->Nat}
def US(F:Fo n es num up)(H:abi n es num up hd):∀(k v:Nat),num v<=k->v<n->pJ up (hd v) v/\hd (hd v)=hd v:=by
 intro k
 induction k with
 |zero=>
  intro v c b;have hh:hd v=v:=by
   cases a:up v with
   |none=>exact H.root v b a
   |some u=>have:=(F.Kd v u b a).2;omega
  rw[hh];exact⟨.refl v,hh⟩
 |succ k d=>
  intro v c b;cases a:up v with
  |none=>rw[H.root v b a];exact⟨.refl v,H.root v b a⟩
  |some u=>
   have e:=F.Kd v u b a;by_cases hb:ym es num up u v
   .rw[H.on v u b a hb];have⟨h2,h3⟩:=d u NH (e.1.lt F.rD).1;exact⟨h2.step a,h3⟩
   .rw[H.new v u b a hb];exact⟨.refl v,H.new v u b a hb⟩
def lower(num:Nat->Nat)(x y:Nat):Nat:=if num y<num x then x else y
theorem zP(F:Fo n es num up)(H:abi n es num up hd){c v a:Nat}(j:up c=Z v)(ha:pJ up c a)(f:Jp es v a):hd a=hd c:=by
 have g:=(f.lt F.rD).2;have i:=(F.yO ha g).1;have k:=(F.Kd c v i j).2;have key:∀z,pJ up c z->pJ up z a->hd z=hd c:=by
  intro z l
  induction l with
  |refl=>intro _;rfl
  |@step b z hb e m=>
   intro d;have h:=(F.yO d g).1;have o:=((F.Kd z b h e).1.lt F.rD).1;rw[H.on z b h e ⟨a,v,d,f.symm,?_⟩]
   .exact m ((pJ.one e).trans d)
   grind[Fo.yO]
 exact key a ha (.refl a)
theorem Hp(F:Fo n es num up)(H:abi n es num up hd){v a b:Nat}(ha:Jp es v a)(hb:Jp es v b):hd (lower num v a)=hd (lower num v b)↔Cn (wo v) es a b:=by
 have u:=(ha.lt F.rD).1;have J:∀c,up c=Z v->c<n->hd v≠c:=fun c j g e=>by have C:=(F.US H (num v) v (qL0 _) u).1;have h2:=(F.Kd c v g j).2;grind[Fo.yO]
 have mixed:∀{a b:Nat},Jp es v a->Jp es v b->num a<num v->num v<num b->(hd v=hd b↔Cn (wo v) es a b):=by
  intro a b ha hb C h2;have l:=(hb.lt F.rD).2;have D:=F.anc a v ha.symm C;have E:a≠v:=fun e=>by grind
  have⟨c,j,z⟩:=(F.anc v b hb h2).child hGr;have g:=(F.yO z l).1;have L:=(F.Kd c v g j).2;rw[F.zP H j z hb];by_cases q:ym es num up v c
  .rw[H.on c v g j q];have⟨w,A,B,s⟩:=F.CJ g j q;exact⟨fun _=>((F.xG u D E A B).trans s.symm).trans (F.below l j z),fun _=>rfl⟩
  grind[Fo.abi.new,Fo.UT,Fo.below,Cn.trans,Cn.symm,Fo.yO]
 have M:=F.JD ha;have nb:=F.JD hb;rcases WL M with C|C<;>rcases WL nb with h2|h2
 .have N:lower num v a=a:=by grind[Fo.lower]
  have O:lower num v b=b:=by grind[Fo.lower]
  rw[N,O];have t:=(ha.lt F.rD).2;have l:=(hb.lt F.rD).2;have⟨c,j,r⟩:=(F.anc v a ha C).child hGr;have⟨d,f,o⟩:=(F.anc v b hb h2).child hGr;have g:=(F.yO r t).1;have m:=(F.yO o l).1;rw[F.zP H j r ha,F.zP H f o hb];by_cases q:ym es num up v c
  .rw[H.on c v g j q];have⟨w,A,B,s⟩:=F.CJ g j q;by_cases p:ym es num up v d
   .rw[H.on d v m f p];have⟨x,P,Q,G⟩:=F.CJ m f p;exact⟨fun _=>(((F.below t j r).symm.trans s).trans (by grind[Fo.xG])).trans (G.symm.trans (F.below l f o)),fun _=>rfl⟩
   .rw[H.new d v m f p];refine⟨hGr,fun k=>?_⟩;have h3:=F.UT m f p (((F.below l f o).trans k.symm).trans ((F.below t j r).symm.trans s));have R:=F.WU A B u;have K:=(F.Kd d v m f).2;grind[Fo.yO]
  .rw[H.new c v g j q];have toA:Cn (wo v) es a b->pJ up c b:=by grind[Fo.UT,Fo.below,Cn.trans]
   have same:pJ up c b->c=d:=fun h=>by
    rcases h.chain o with h'|h'
    .by_cases e:c=d
     .exact e
     .obtain⟨y,i,I⟩:=h'.last e;rw[f]at i;injection i with i;subst i;have K:=(F.Kd c v g j).2;grind[Fo.yO]
    .by_cases e:d=c
     .exact e.symm
     .obtain⟨y,i,I⟩:=h'.last e;rw[j]at i;injection i with i;subst i;have K:=(F.Kd d v m f).2;grind[Fo.yO]
   constructor
   .intro e;by_cases p:ym es num up v d
    .grind[Fo.abi.on]
    .rw[H.new d v m f p]at e;subst e;exact(F.below t j r).symm.trans (F.below l j o)
   grind[Fo.abi.new]
 .grind[Fo.lower,Cn.symm]
 all_goals grind[Fo.lower,Fo.xG,Fo.anc,Jp.symm]
def Cut2(es:xLP)(v:Nat):Prop:=∃a b,Jp es v a/\Jp es v b/\¬Cn (wo v) es a b
theorem cut_iff(F:Fo n es num up)(v:Nat)(u:v<n):
  Cut2 es v↔(∃c d,c<n/\d<n/\c≠d/\up c=Z v/\up d=Z v/\¬ym es num up v c/\¬ym es num up v d)\/(∃c,c<n/\up c=Z v/\¬ym es num up v c/\up v≠Y):=by
 constructor
 .rintro⟨a,b,ha,hb,A⟩;have I:=F.JD ha;have nb:=F.JD hb;have mixed:∀{a b:Nat},Jp es v a->Jp es v b->num a<num v->num v<num b->¬Cn (wo v) es a b->∃c,c<n/\up c=Z v/\¬ym es num up v c/\up v≠Y:=by
   intro a b ha hb B h2 A;have h:=(hb.lt F.rD).2;have C:=F.anc a v ha.symm B;have D:a≠v:=fun e=>by grind
   have⟨c,g,z⟩:=(F.anc v b hb h2).child hGr;have f:=(F.yO z h).1;refine⟨c,f,g,fun q=>?_,?_⟩
   .obtain⟨w,l,m,o⟩:=F.CJ f g q;exact A (((F.xG u C D l m).trans o.symm).trans (F.below h g z))
   grind[pJ.last]
  rcases WL I with B|B<;>rcases WL nb with h2|h2
  .have r:=(ha.lt F.rD).2;have h:=(hb.lt F.rD).2;have⟨c,g,s⟩:=(F.anc v a ha B).child hGr;have⟨d,i,t⟩:=(F.anc v b hb h2).child hGr;have f:=(F.yO s r).1;have j:=(F.yO t h).1;have E:∀{w},pJ up w v->w≠v->up v≠Y:=by grind[pJ.last]
   by_cases q:ym es num up v c
   .obtain⟨w,l,m,o⟩:=F.CJ f g q;refine .inr ⟨d,j,i,fun p=>?_,E l m⟩;have⟨x,J,K,G⟩:=F.CJ j i p;exact A ((((F.below r g s).symm.trans o).trans (by grind[Fo.xG])).trans (G.symm.trans (F.below h i t)))
   .by_cases p:ym es num up v d
    .grind[Fo.CJ]
    .refine .inl ⟨c,d,f,j,fun e=>?_,g,i,q,p⟩;subst e;exact A ((F.below r g s).symm.trans (F.below h g t))
  .grind[Cn.symm]
  all_goals grind[Fo.xG,Fo.anc,Jp.symm]
 .rintro(⟨c,d,f,j,ne,g,i,q,p⟩|⟨c,f,g,q,P⟩)
  .refine⟨c,d,(by grind[Fo.Kd]),(by grind[Fo.Kd]),fun k=>?_⟩;have h3:=F.UT f g q k;have⟨y,L,M⟩:=h3.1.last ne;have N:=(F.Kd c v f g).2;grind[Fo.yO]
  .cases O:up v with
   |none=>grind
   |some p=>have H:=F.Kd v p u O;refine⟨c,p,(by grind[Fo.Kd]),H.1.symm,fun k=>?_⟩;have h3:=F.UT f g q k;have N:=(F.Kd c v f g).2;grind[Fo.yO]
end Fo
end Go.Fw
namespace Go.Fw
def isE(a b x y:Nat):Prop:=x=a/\y=b\/x=b/\y=a
namespace Fo
variable{n:Nat}{es:List Pr}{num:Nat->Nat}{up:Nat->Option Nat}{hd:Nat->Nat}
theorem link(F:Fo n es num up)(H:abi n es num up hd){α:Type}(of:Nat->Nat->α)(c:∀x y,of x y=of y x)(e:∀v a b,Jp es v a->Jp es v b->Cn (wo v) es a b->of v a=of v b):
  ∀(k x y:Nat),num x<=k->Jp es x y->num y<num x->∃u,up (hd x)=Z u/\of x y=of (hd x) u:=by
 intro k
 induction k with
 |zero=>grind
 |succ k o=>
  intro x y A h2 h3;have f:=(h2.lt F.rD).1;have hA:=F.anc y x h2.symm h3;have⟨u,g,r⟩:=hA.last hGr;have h:=F.Kd x u f g;have i:=(h.1.lt F.rD).1;have s:of x y=of x u:=by grind[Jp.symm,Fo.xG,pJ.one]
  by_cases q:ym es num up u x
  .have hh:=H.on x u f g q;have⟨w,j,l,_⟩:=F.CJ f g q;have⟨p,t,_⟩:=j.last l;have d:=F.Kd u p i t;have⟨u',m,z⟩:=o u p NH d.1.symm d.2;rw[hh];refine⟨u',m,?_⟩;rw[s,c x u,<-z];refine e u x p h.1 d.1.symm ((F.Hp H h.1 d.1.symm).1 ?_);grind[Fo.lower]
  grind[Fo.abi.new]
theorem link2(F:Fo n es num up)(H:abi n es num up hd){α:Type}(of:Nat->Nat->α)(c:∀x y,of x y=of y x)(d:∀v a b,Jp es v a->Jp es v b->Cn (wo v) es a b->of v a=of v b){x y x' f:Nat}(h:Jp es x y)(h':Jp es x' f)(e:hd (lower num x y)=hd (lower num x' f)):of x y=of x' f:=by
 have key:∀{x y:Nat},Jp es x y->∃u,up (hd (lower num x y))=Z u/\of x y=of (hd (lower num x y)) u:=by
  intro x y h;have:=F.JD h;unfold lower;split
  .rename_i q;exact F.link H of c d (num x) x y (qL0 _) h q
  .obtain⟨u,g,h2⟩:=F.link H of c d (num y) y x (qL0 _) h.symm NH;exact hGr
 have⟨u,g,h2⟩:=key h;have⟨u',h3,i⟩:=key h';rw[<-e,g]at h3;injection h3 with h3;subst h3;rw[h2,i,e]
end Fo
theorem B6{n:Nat}{es:xLP}(a:aV n es):∀(v:Nat),v<n->∃h∈Es n es,Pu es h v:=by
 intro v
 induction v using Nat.strongRecOn with
 |ind v b=>
  intro c;by_cases q:∀u,u<v->¬Pu es u v
  .exact⟨v,(by grind[QO]),Pu.refl es v⟩
  grind[Cn.trans]
theorem rf{n:Nat}{es:xLP}{a b:Nat}(ha:a∈Es n es)(hb:b∈Es n es)(h:Pu es a b):a=b:=by grind[QO,Cn.symm]
theorem qD(n:Nat)(es:xLP):(Es n es).Nodup:=by grind[Es,nodup_range]
end Go.Fw
namespace Go.Fw
variable {h:aai} {i:Nat} {xs:RZ}
theorem GI.store{v:vV}(g:GI h v xs)(a:WF h)(hi:i<xs.length)(x:Int):∃h',aaK pG h 3 (pT (Z (aaq v i))) x=Z h'/\GI h' v (xs.set i x)/\WF h'/\(∀f,Le f h->Z2 f v->Le f h')/\(∀b o,h.own b=Z o->blk v≠Z b->h'.own b=Z o):=by
 obtain⟨m,⟨rfl,n⟩|⟨id,c,cap,rfl,j,p,q⟩⟩:=g
 .omega
 .have k:xs.length<=c.length:=hGr;have st:=QB (P:=pG) (t:=3) (x:=x) Ac Ji j (off:=i) NH rfl rfl;refine⟨h.put id (.cells (c.set i x)),?_,⟨by simp[Bp],.inr ⟨id,_,cap,Ma,aai.Y3 _ _ _,?_,hGr⟩⟩,a.put _ (a.lt j),fun f l af=>l.put _ (af id rfl),fun b o hb d=>?_⟩
  .grind[fA,Ip]
  .grind[take_set,yy]
  .rw[aai.By _ _ _ _ (fun e=>d (by rw[e];rfl))];exact hb
def cntP:RZ->Nat
 |[]=>0
 |x::r=>(if 0<=x then 1 else 0)+cntP r
structure RA (n:Nat) (es:xLP) (s:Nat) (L:RZ):Prop where
 len:L.length=n
 bp:∀(v:Nat)(x:Int),L[v]?=Z x->-1<=x/\(0<=x->Pu es s v)
 bd:∀(v:Nat)(x:Int),L[v]?=Z x->x<(cntP L:Int)
 at_:∃x,L[s]?=Z x/\0<=x
 s0:L[s]?=Z 0
 pre:∀(v:Nat)(x:Int),L[v]?=Z x->0<=x->(v=s/\x=0)\/∃(w:Nat)(y:Int),Jp es v w/\L[w]?=Z y/\0<=y/\y+1<=x
def relax(L:RZ)(a b:Nat):Bool:=decide (L.getD a 0>=0)&&(decide (L.getD b 0<0)||decide (L.getD b 0>L.getD a 0+1))
def Closed(L:RZ)(p:Pr):Prop:=relax L p.1.toNat p.2.toNat=fF/\relax L p.2.toNat p.1.toNat=fF
section
attribute [local irreducible] Kp MQ lU KO1 KO KN KX KE VK Kl ZJ TC aab
variable {F m n:Nat} {g h':aai} {v:Value}
def alloc35(h:aai):abO pG h 41=Z (pT (Z h.next),h.alloc (.cells [.slice Y 0 0])):=rfl
def alloc39(h:aai):abO pG h 28=Z (pT (Z h.next),h.alloc (.cells [.slice Y 0 0])):=rfl
def newVar(hw:WF h){t:TypeId}{d:TypeDesc}{z x:vV}(ha:∀g:aai,abO pG g t=Z (pT (Z g.next),g.alloc (.cells [z])))(e:pG.underlying t=Z d)(hs:UA pG t=1)(f:x.cells=#[x])(i:x.oneCell'=tT):
  ∃a b,abO pG h t=Z (pT (Z h.next),a)/\aaK pG a t (pT (Z h.next)) x=Z b/\Le h b/\WF b/\b.own h.next=Z (.cells [x]):=by
 have⟨a,j,l1,w1,c⟩:=Tt hw [z]
 have k:h.own h.next=Y:=(Le.refl h).next hw (qL0 _)
 refine⟨a,_,by rw[ha,j],QB e hs c Ma f i,l1.put _ k,w1.put _ (w1.lt c),aai.Y3 _ _ _⟩
theorem read_kill{a:Addr}(b:a.spot=Y->a.block≠F):(h.kill F).read a=h.read a:=by
 unfold aai.read;cases hs:a.spot with
 |none=>grind[aai.xJ]
 |some _=>rfl
theorem RS.kill{h:aai}{v:vV}{vs:xLV}{F:Nat}(r:RS h v vs)(hb:blk v≠Z F):RS (h.kill F) v vs:=by refine⟨r.sl,fun i x g=>?_⟩;have f:=r.get i x g;obtain⟨a,c,rfl,hs⟩:=r.sl;obtain⟨a,rfl⟩:=mJ.1 (hs hGr);rw[fA]at f ⊢;rw[read_kill];exact f;intro d;have⟨b,o,s⟩:=a;simp only[Ip]at d ⊢;subst d;intro e;subst e;exact hb rfl
def RL.killI(r:RL RP h v xs)(hb:blk v≠Z F):RL RP (h.kill F) v xs:=by have⟨vs,r,a,b⟩:=r;exact⟨vs,r.kill hb,a,b⟩
theorem Le.ON(e:Le h h')(F:Nat)(o:fK):Le (h.kill F) ((h'.put F o).kill F):=⟨e.ext,fun i a hi=>by grind[aai.Dg,aai.xJ,aai.By,Le.own]⟩
theorem Le.put_kill(e:Le g h)(n:g.own F=Option.none)(o:fK):Le g ((h.put F o).kill F):=⟨e.ext,fun i a hi=>by grind[aai.xJ,aai.By,Le.own]⟩
def build41{a b:vV}(ha:xO a n)(hb:xO b m):acB pG 165 [(0,a),(1,b)]=Z (.agg #[a,b]):=by obtain⟨_,_,rfl,_⟩:=ha;obtain⟨_,_,rfl,_⟩:=hb;kernel_rfl
def LJ(n:Nat)(es web:xLP)(L:RZ):List FM:=(aaX (Zo n (fun u=>(Cb n web).getD u fF) L) es web es.length).map fun g=>⟨g.2,YJ (fun u=>(Cb n web).getD u fF) g.2⟩
theorem iN(W0:LA)(v wv:vV)(G:GM)(web:xLP)(h:aai)(hg:GR h v G)(hw:PR h wv web)(hn:web.length<=1000):
  AC pG W0 130 [v,wv] h fun x h'=>Le h h'/\∃lv e,x=.tuple #[lv,.int .i64 e]/\
   ((¬bX G/\lv=.slice Y 0 0/\e=20)\/(bX G/\¬CU G.es web/\lv=.slice Y 0 0/\e=2)\/
    (bX G/\CU G.es web/\e=0/\∃L,wx G.n.toNat (fun u=>(Cb G.n.toNat web).getD u fF) G.es L/\FL h' lv (LJ G.n.toNat G.es web L))):=by
 have aH:=hg;have⟨gn,es⟩:=G
 obtain⟨ev,rfl,hp⟩:=hg.open
 refine AC.vF func130 ntmps130 results130 fun cg=>?_;obtain⟨h1,b1,N,dH,-,lA⟩:=r8 (n:=gn) cg hp
 generalize h.next=B at*
 have ck:=lA h1 (Le.refl _);refine Sk (XC b1 ck.1) ?_;refine kCi qS6 (ak W0 _ _ h1 (aH.le N)) ?_;rintro x h2 dI ⟨⟨bb,rfl,cm⟩,I⟩;cases bb with
 |false=>refine Uy ?_;grind[Le.trans]
 |true=>
 have hr:=cm.1 rfl;have h0:0<=gn:=hr.n0;obtain⟨n,rfl⟩:=qL7 h0;have dA:(n:Int)<=200:=hr.n1;have dB:es.length<=594:=hr.len;have hR:=hr.GD;have cp:=lA h2 I;refine Sk cp.1 ?_;refine kCi func159 (split_any W0 _ wv _ web h2 (aH.le (N.trans I)) (hw.le (N.trans I)) hr hn) ?_;rintro x h3 cq ⟨⟨ov,nv,bo,rfl,bg,cx,aa⟩,aJ⟩;have⟨dJ,h4,e4,cz,P,dL,o4⟩:=newVar cq alloc35 Uh Ji bg.1 bg.2;refine Sk (XC e4 cz) ?_;cases bo with
 |false=>refine Uy ?_;grind[Le.trans]
 |true=>
 have bh:=cx.1 rfl;have⟨bk,cC⟩:=aa rfl;have cE:=lA h4 ((I.trans aJ).trans P);have ar:=cC.le Nn.sJ P
 have lO:∀g,Le h4 g->aaC pG g 41 ⟨h3.next,0,Y⟩=Z nv:=fun g l=>by rw[Fq Uh rfl (l.own _ _ o4)];rfl
 have cJ:=lO h4 (Le.refl _)
 generalize h3.next=O at*
 have bm:=((N.trans I).trans aJ).trans P;refine Sk (XC cE.1 cJ) ?_;have aK:(Cb n web).length=n:=Qe n web;refine kCi func160 (tS W0 _ nv n es (Cb n web) h4 (aH.le bm) hr ar aK) ?_;rintro tv h5 cK ⟨L,hL,hT,cM⟩;have cN:=hL.sl.cells;have⟨dM,d,e6,cP,br,aL,o6⟩:=newVar cK alloc39 Mb Ji cN hL.one
 have lT:∀g,Le d g->aaC pG g 28 ⟨h5.next,0,Y⟩=Z tv:=fun g l=>by rw[Fq Mb rfl (l.own _ _ o6)];rfl
 generalize h5.next=T at*
 have m:=cM.trans br;have Q:Le h1 d:=((I.trans aJ).trans P).trans m;have av:=N.trans Q;have bx:=hp.le av;have dE:=bk.le Nn.sJ (P.trans m);have az:=ar.le Nn.sJ m;have cR:=hL.le Nn.RP br
 obtain⟨w,e7,r,z,o7⟩:∃w,d.alloc (.map [])=w/\Le d w/\WF w/\w.own d.next=Z (.map []):=⟨_,rfl,(Le.refl d).alloc aL _,aL.alloc _,aai.zT _ _⟩
 have⟨h8,e8,ae,cU,o8⟩:=Tt z []
 have bB:aas pG w 28 0 []=Z (sL (Z ⟨w.next,0,Y⟩) 0 0,h8):=by rw[<-e8];rfl
 have nM:d.own d.next=Y:=(Le.refl d).next aL (qL0 _)
 have nC:d.own w.next=Y:=r.next z (qL0 _)
 have bF:w.next≠d.next:=fun e=>by have:=z.lt o7;omega
 have bH:=lA h8 (Q.trans (r.trans ae));have ll:=fun g=>hp.len g;refine Sk (aNd9 e6 cP e7 bB @Di @Ip.eq_1 @EL bH.2.2 ll) ?_;have bI:=ae.own _ _ o7
 generalize d.next=M at*
 generalize w.next=C at*
 let on:Nat->Bool:=fun u=>(Cb n web).getD u fF;let fr:Pr->Nat->Int:=Zo n on L;have R0:aaE d h8 M [] (aaX fr es web 0):=⟨bI,rfl,fun j u g s=>by simp at s,fun j u s=>by simp at s,fun j k u u' b _ s=>by simp at s,fun j u s=>by simp at s,r.trans ae,nM⟩;have gC:GI h8 (sL (Z C) 0 0) (Ea (aaX fr es web 0)):=GS.full o8 rfl WY;refine lIn (fun k S hh=>∃(i:Nat)(cv:vV)(us:xLV),k=es.length-i/\i<=es.length/\S=mkF [(6,ov),(7,pT (Z O)),(10,.func (.func 161) #[] #[pT (Z B),pT (Z O),pT (Z T)]),(11,.map (Z M)),(12,cv),(38,ev),(39,es.length),(40,i)]/\
   aaE d hh M us (aaX fr es web i)/\GI hh cv (Ea (aaX fr es web i))/\blk cv≠Z M/\(∀(j:Nat) u b,us[j]?=Z u->blk u=Z b->blk cv≠Z b)/\Z2 d cv) ⟨0,_,[],rfl,aax _,rfl,R0,gC,by grind[blk],fun j u b s=>by simp at s,fun b hb=>by grind[blk]⟩ ?_
 clear R0 gC bI bH nC bF bB o8 cU ae e8 o7 z r e7;rintro k S hh U ⟨i,cv,us,rfl,hi,rfl,R,gc,nc,dc,ac⟩;have J:=R.le;refine Uy ?_;refine Kl.intro (fun ht=>?_) (fun hf=>?_)
 rotate_left
 .have cW:es.length<=i:=vp hf;obtain rfl:i=es.length:=NH;have⟨nd,bN,aC,cZ,aD⟩:=Pt fr es web es.length;generalize ai:aaX fr es web es.length=gs at*;have lc:=fun g=>gc.rl.TA g;have bQ:(Ea gs).length=gs.length:=by simp[Ea]
  rw[bQ]at lc;have⟨c0,mk,bW⟩:=mkFr hh gs.length NH;have⟨h9,e9,bY,c3,o9⟩:=Tt U c0;rw[e9]at mk
  have nF:hh.own hh.next=Y:=(Le.refl hh).next U (qL0 _)
  generalize hh.next=F at*
  simp only[HO,seval,lc,mk];refine lIn (fun k S A=>∃(j:Nat)(cs:xLV),k=gs.length-j/\j<=gs.length/\S=mkF [(7,pT (Z O)),(11,.map (Z M)),(16,sL (Z F) gs.length gs.length),(73,cv),(74,gs.length),(75,.int .i64 j)]/\
    Le hh A/\A.own F=Z (.cells cs)/\cs.length=gs.length*2/\∀(a:Nat) g,a<j->gs[a]?=Z g->∃x y,cs[a*2]?=Z x/\cs[a*2+1]?=Z y/\PR (A.kill F) x g.2/\RL RP (A.kill F) y (YJ on g.2)) ⟨0,c0,rfl,aax _,rfl,bY,o9,bW,NH⟩ ?_
  clear e9 o9 c3 bY mk bW c0 h9;rintro k S A dO ⟨j,cs,rfl,hj,rfl,leq,oF,dQ,V⟩;refine Uy ?_;refine Kl.intro (fun ht=>?_) (fun hf=>?_)
  rotate_left
  .have cW:gs.length<=j:=vp hf;refine Uy ?_;refine⟨av.trans (J.trans leq),_,_,rfl,.inr (.inr ⟨hr,bh,rfl,L,hT,?_⟩)⟩;have c4:LJ n es web L=gs.map fun g=>⟨g.2,YJ on g.2⟩:=by rw[<-ai];rfl
   show FL A _ (LJ n es web L);rw[c4];refine⟨cs,?_,fun a f ha=>?_⟩
   .have:=CS.own (k:=2) (off:=0) (n:=gs.length) (cap:=gs.length) oF NH;grind
   .rw[Q4]at ha;cases t:gs[a]? with
    |none=>grind
    |some g=>rw[t]at ha;simp at ha;subst ha;have⟨x,y,q1,q2,q3,q4⟩:=V a g hGr t;grind[PR.le,Le.Qz,RL.le,Nn.RP]
  have bZ:j<gs.length:=acb ht;clear ht;have aj:=CA bZ;generalize gs[j]=g at aj;have⟨f,l⟩:=g;have b0:(Ea gs)[j]?=Z f:=by grind[Ea]
  have b2:=(Ny.1 b0).1;have c5:=gc.rl.DH j b2;have b3:=(gc.rl.le Nn.RP leq).Uc j b2;rw[(Ny.1 b0).2]at b3;have Rq:=R.up leq;have⟨u,c6,aN⟩:=R.look f;rw[NI nd aj]at aN;have s:acR pG A 96 (.map (Z M)) (.int .i64 f) fF=Z u:=by rw[<-c6];simp only[acR,qS9,Ac,Rq.oM,R.oM]
  have gu:=aN.le leq;have c9:=lO A (m.trans (J.trans leq));have b4:aV n l:=fun p hp=>hR p (aD _ (BS aj) p hp);have b5:l.length<=1000:=hGr;have da:∀k:IntKind,aao pG 161 (sL (Z F) gs.length gs.length) (.int k j)=Z (pT (Z ⟨F,j*2,Y⟩)):=fun k=>by have h1:(j:Int)<(gs.length:Int):=NH;simp[aao,qS24,sU,h1,zB,Ip]
  have Fm:=feet_any W0 u nv n l (Cb n web) A gu.pr (az.le Nn.sJ (J.trans leq)) b4 aK b5;refine Sk (XC c5 b3) ?_;refine gh (tA [0,1,2,3,5,6,8] (.ch 4 [2,3] (JQ 7 [5,6] (JQ 9 [7,8] (tA [10,11] (JQ 12 [0,1,2,3,4,5,6,7,8,9,10,11] .done)))) (JQ 7 [5,6] (.ch 4 [2,3] (JQ 9 [7,8] (tA [10,11] (JQ 12 [0,1,2,3,4,5,6,7,8,9,10,11] .done))) (JQ 9 [7,8] (JQ 4 [2,3] (tA [10,11] (JQ 12 [0,1,2,3,4,5,6,7,8,9,10,11] .done)))))))) ?_;refine CO (XC s c9) ?_;refine⟨?_,?_,?_⟩
  all_goals
   refine kGi func162 Fm ?_;rintro y hz wz ⟨hy,lz,ay⟩;have db:acR pG hz 96 (.map (Z M)) (.int .i64 f) fF=Z u:=by rw[<-s];simp only[acR,qS9,Ac,lz.own _ _ Rq.oM,Rq.oM]
   have dd:=stFr (lz.own _ _ oF) (show j*2+2<=cs.length by omega) (gu.pr.le lz) hy;have de:Le hh (hz.put F (.cells ((cs.set (j*2) u).set (j*2+1) y))):=(leq.trans lz).put _ nF;have dg:=build41 gu.pr.sl hy.sl;refine CO (IX db dg da dd (aaa j NH)) ?_;refine lgA NH ⟨j+1,(cs.set (j*2) u).set (j*2+1) y,rfl,bZ,rfl,de,aai.Y3 _ _ _,hGr,fun a g ha t=>?_⟩;have b6:blk y≠Z F:=fun hb=>by have:=ay F hb;grind
   by_cases e:a=j
   .subst e;rw[aj]at t;injection t with t;subst t;refine⟨u,y,hGr,hGr,aN.pr.le ((leq.trans lz).put_kill nF _),?_⟩;refine RL.killI (F:=F) ?_ b6;have h1:=(hy.killI b6).le Nn.RP (h':=(hz.put F (.cells ((cs.set (a*2) u).set (a*2+1) y))).kill F) ((Le.refl hz).ON F _);grind[RL.le,Nn.RP,Le.Qz]
   .obtain⟨x',y',q1,q2,q3,q4⟩:=V a g NH t;exact⟨x',y',by rw[K4,WA NH,K4,WA NH];exact q1,by rw[K4,WA NH,K4,WA NH];exact q2,q3.le (lz.ON F _),q4.le Nn.RP (lz.ON F _)⟩
 have W:i<es.length:=acb ht;clear ht;have K:=CA W;generalize es[i]=p at K;have dj:=BS K;have⟨p1,p2,p3⟩:=hR p dj;have dF:(ofM es web)[i]?=Z (decide (p∈web)):=by grind[ofM]
 have b8:i<(ofM es web).length:=hGr;have dk:=bx.le J;have ad:=hp.addr (k:=.i64) i W;have ld:=dk.load K;have⟨dS,w,e7,b9,r,z,o7⟩:=Ut U p
 have dT:d.own hh.next=Y:=J.next U (qL0 _)
 have cc:hh.own hh.next=Y:=(Le.refl hh).next U (qL0 _)
 have c:=J.trans r;have oA:∀k:IntKind,aao pG 41 ov (.int k (i:Int))=Z (pT (Z (aaq ov i))):=fun k=>bk.LB i b8;have oL:aaC pG w 4 (aaq ov i)=Z (.bool (decide (p∈web))):=by grind[RL.le,Nn.sJ,RL.W7]
 have R7:=R.up r;have X:=gc.le r
 have dV:hh.next≠M:=fun e=>by have:=R.oM;grind
 have dm:blk cv≠Z hh.next:=fun e=>GS.Sy gc e cc
 have dW:∀(j:Nat) u,us[j]?=Z u->blk u≠Z hh.next:=fun j u s e=>by have ai:∃q,(aaX fr es web i)[j]?=Z q:=⟨_,CA (by grind[aaE.len])⟩;have⟨q,A⟩:=ai;exact GS.Sy (R.gp j u q s A) e cc
 generalize hh.next=E at*
 by_cases c1:p∈web
 .rw[Z6 c1]at oL;rw[<-JJ K c1]at R7 X;simp only[HO,seval,ad,ld,e7,b9,oA,oL,aaa i NH];exact lgA NH ⟨i+1,cv,us,rfl,W,rfl,R7,X,nc,dc,ac⟩
 rw[IE c1]at oL;simp only[HO,seval,ad,ld,e7,b9,oA,oL];have cd:=lA w (Q.trans c);refine kCi func161 (frag_any W0 ev nv tv n es (Cb n web) L B O T i p w (bx.le c) (az.le Nn.sJ c) (cR.le Nn.RP c) hR aK hT.len cd.2.1 cd.2.2 (lO w (m.trans c)) (lT w c) K NH NH) ?_;rintro x h9-⟨rfl,rfl⟩;have⟨nd,bN,aC,cZ,aD⟩:=Pt fr es web i;have aF:=dh (fr:=fr) K c1;have H:=RY (aaX fr es web i) (fr p i) p;have cf:=rV (f:=fr p i) bN;have b5:=Ft (fr p i) _ _ aC;have dp:Zo n (fun u=>(Cb n web).getD u fF) L p i=fr p i:=rfl;rw[dp];generalize ai:aaX fr es web i=gs at*;generalize fr p i=f at*;have bQ:(Ea gs).length<=1000:=by grind[Ea]
 have⟨u,s,gu⟩:=R7.look f;have lu:=fun g=>gu.pr.len g;have aP:∀(j:Nat) a b,us[j]?=Z a->blk a=Z b->∃o,h9.own b=Z o:=fun j a b ha hb=>by have A:∃q,gs[j]?=Z q:=⟨_,CA (by rw[<-R7.len];grind)⟩;have⟨q,A⟩:=A;exact uV.1 (GS.Sy (R7.gp j a q ha A) hb)
 by_cases c2:acU gs f=[]
 .have dq:∀g,aeh pG g 22 u=Z (.int .i64 0):=fun g=>by rw[lu g,c2];rfl
  have dr:f∉Ea gs:=fun hm=>cf.1 hm c2;rw[WA dr]at H;have⟨aT,g4,g5,e4,e5,aW,w5,l4,dv,aq⟩:=X.push z f NH;have⟨l5,a5⟩:=dv d c ac;have R5:aaE d g5 M us gs:=R7.keep l5 fun b o ho hb=>(aq b o ho (by
   rcases hb with rfl|⟨j,a,ha,hb⟩
   .exact nc
   grind)).1
  have⟨dw,dZ⟩:=aq E _ o7 dm;have aX:=(aq M _ R7.oM nc).2;have⟨u2,dy,q4,q5,q6,a6,eu,eb,ea,em,Rn,wn,dz,kq⟩:=R5.push w5 f p (by rw[c2];simp);have a7:=uM dw;rw[<-H]at aW;have ku:∀(j:Nat) a b,us[j]?=Z a->blk a=Z b->blk aT≠Z b:=fun j a b ha hb=>by have⟨o,ho⟩:=aP j a b ha hb;exact(aq b o ho (dc j a b ha hb)).2
  have a8:GI q6 aT (Ea (ab4 gs f p)):=GS.kept aW fun b o hb ho=>(kq b o ho (fun e=>aX hGr) (fun j a ha D=>ku j a b ha D hb)).2.1;simp only[HO,seval,s,dq,e4,e5,eu,a7,eb,ea,em,aaa i NH];refine lgA NH ⟨i+1,aT,a6,rfl,W,rfl,?_⟩;rw[aF];refine⟨Rn,a8,aX,fun j a b ha hb hc=>?_,a5⟩;have⟨o,ho⟩:=uV.1 (GS.Sy aW hc);exact(kq b o ho (fun e=>aX hGr) (fun j a ha D=>ku j a b ha D hc)).2.2 j a ha hb
 .have hz:(((acU gs f).length:Nat):Int)≠0:=by grind[length_eq_zero_iff]
  rw[Sb (cf.2 c2)]at H;have⟨u2,dy,q4,q5,q6,a6,eu,eb,ea,em,Rn,wn,dz,kq⟩:=R7.push z f p NH;obtain rfl:u=u2:=hGr;have a7:=uM o7;have a8:GI q6 cv (Ea (ab4 gs f p)):=by rw[H];exact GS.kept X fun b o hb ho=>(kq b o ho (fun e=>nc hGr) (fun j a ha D=>dc j a b ha D hb)).2.1
  simp only[HO,seval,s,lu,eq_false hz,a7,eb,ea,em,aaa i NH];refine lgA NH ⟨i+1,cv,a6,rfl,W,rfl,?_⟩;rw[aF];refine⟨Rn,a8,nc,fun j a b ha hb hc=>?_,ac⟩;have⟨o,ho⟩:=uV.1 (GS.Sy X hc);exact(kq b o ho (fun e=>nc hGr) (fun j a ha D=>dc j a b ha D hc)).2.2 j a ha hb
def cX(web l:xLP)(n:Nat):II:=(rG n).filter fun v=>onE web (v:Int)&&onE l (v:Int)
variable {a b:Value} {fs:List FM}
theorem FL.len(r:FL h v fs)(g:aai):aeh pG g 161 v=Z (.int .i64 fs.length):=by have⟨cs,c,_⟩:=r;obtain⟨a,k,rfl,_⟩:=c.sl;simp[aeh,qS24]
def aja(v:vV)(i:Nat):Addr:=aaq v (i*2)
theorem FL.addr(r:FL h v fs){k:IntKind}(i:Nat)(hi:i<fs.length):aao pG 161 v (.int k i)=Z (pT (Z (aja v i))):=by have⟨cs,c,_⟩:=r;obtain⟨a,k,rfl,hs⟩:=c.sl;obtain⟨a,rfl⟩:=mJ.1 (hs NH);have b:(i:Int)<(fs.length:Int):=NH;simp[aao,qS24,sU,b,aja,aaq,zB]
def ff0(a:Addr):aca pG 165 (pT (Z a)) 0=Z (pT (Z (Ip a 0))):=rfl
def ff1(a:Addr):aca pG 165 (pT (Z a)) 1=Z (pT (Z (Ip a 1))):=rfl
theorem FL.load(r:FL h v fs){f:FM}(hf:fs[i]?=Z f):
  ∃a b,(∀g,Le h g->aaC pG g 165 (aja v i)=Z (.agg #[a,b]))/\PR h a f.zp/\RL RP h b f.Fm:=by
 have⟨cs,c,e⟩:=r;have⟨a,b,m,n,o,p⟩:=e i f hf;refine⟨a,b,fun g l=>?_,o,p⟩;have q:=l.read (c.get _ _ m);have s:=l.read (c.get _ _ n);obtain⟨ad,k,rfl,hs⟩:=c.sl;obtain⟨ad,rfl⟩:=mJ.1 (hs hGr);have d:abN g (aja (sL (Z ad) fs.length k) i) 2=Z [a,b]:=by refine ag8 [a,b] _ fun j x e=>?_;grind[aja,fA,Ip]
 simp only[aaC,sU,zB,d];rfl
theorem alloc41(h:aai):abO pG h 165=Z (pT (Z h.next),h.alloc (.cells [.slice Y 0 0,.slice Y 0 0])):=rfl
theorem new41'(hw:WF h)(ha:xO a n)(hb:xO b m):∃c h2,abO pG h 165=Z (pT (Z h.next),c)/\aaK pG c 165 (pT (Z h.next)) (.agg #[a,b])=Z h2/\Le h h2/\WF h2/\h.own h.next=Y/\h2.own h.next=Z (.cells [a,b]):=by
 have⟨c,e,l1,w1,d⟩:=Tt hw [.slice Y 0 0,.slice Y 0 0]
 have f:h.own h.next=Y:=(Le.refl h).next hw (qL0 _)
 have st:aaK pG c 165 (pT (Z h.next)) (.agg #[a,b])=Z (c.put h.next (.cells [a,b])):=by obtain⟨_,_,rfl,_⟩:=ha;obtain⟨_,_,rfl,_⟩:=hb;simp[aaK,d,vV.cells,zB,putCells,sU];exact⟨rfl,rfl⟩
 grind[alloc41,Le.put,WF.put,WF.lt,aai.Y3]
def ld41{C:Nat}(c:g.own C=Z (.cells [a,b])):aaC pG g 165 ⟨C,0,Y⟩=Z (.agg #[a,b])/\aaC pG g 22 ⟨C,0,Y⟩=Z a/\aaC pG g 28 ⟨C,1,Y⟩=Z b:=by
 refine⟨?_,?_,?_⟩
 .rw[Wx sU rfl zB c Ma];rfl
 .rw[Fq eY rfl c];rfl
 .rw[Fq Mb rfl c];rfl
theorem Ty(p:Pr)(v:Int):aO p v=tT↔p.1=v\/p.2=v:=by simp[aO]
theorem onE_iff(web:xLP)(v:Nat):onE web (v:Int)=tT↔onW web v:=by simp[onE,onW,Ty]
theorem Fh{n:Nat}{web:xLP}{u:Nat}(a:u<n):(Cb n web).getD u fF=onE web (u:Int):=by grind[onE_iff,Cb]
section
variable{n:Nat}{es web:List Pr}{L:RZ}
abbrev Qw(n:Nat)(web:xLP):Nat->Bool:=fun u=>(Cb n web).getD u fF
end
variable {α:Type}
theorem feet_eq{es web l:xLP}(hR:aV n es)(a:∀p∈l,p∈es):YJ (Qw n web) l=kz (cX web l n):=by
 refine afY _ _ (bT (aQ _)) ?_ fun x=>?_
 .rw[kz,V3,cX];grind[List.Pairwise.imp,pairwise_lt_range]
 .rw[YJ,jn,Wv];simp only[BY,ftP,KG,xD,kz,cX,si,Db,Cg];constructor
  .rintro⟨p,b,c,d⟩;have⟨a1,a2,e⟩:=hR p (a p b);grind[Fh,onE.eq_1,Ty]
  grind[onE.eq_1,Ty,Fh]
def aez(fr:Pr->Nat->Int)(es web:xLP)(k:Int):Nat->xLP
  |0=>[]
  |i+1=>match es[i]? with
    |some p=>if p∈web then aez fr es web k i else if fr p i=k then aez fr es web k i++[p]else aez fr es web k i
    |none=>aez fr es web k i
theorem lstG_add(gs:List Gr)(f k:Int)(p:Pr):acU (ab4 gs f p) k=if f=k then acU gs k++[p]else acU gs k:=by
 induction gs<;>grind[ab4,acU]
theorem ZM(fr:Pr->Nat->Int)(es web:xLP)(k:Int)(i:Nat):acU (aaX fr es web i) k=aez fr es web k i:=by
 induction i with
 |zero=>rfl
 |succ i a=>
  cases b:es[i]?<;>grind[aaX,aez,lstG_add]
theorem full_mem(fr:Pr->Nat->Int)(es web:xLP)(k:Int)(q:Pr)(i:Nat):q∈aez fr es web k i↔∃j,j<i/\es[j]?=Z q/\q∉web/\fr q j=k:=by
 induction i<;>grind[aez]
theorem grps_map(F:xLP->α)(gs:List Gr)(a:(Ea gs).Nodup):gs.map (fun g=>F g.2)=(Ea gs).map fun k=>F (acU gs k):=by grind[Ea.eq_1,map_congr_left,mem_iff_getElem?,NI]
theorem keys_add(gs:List Gr)(f k:Int)(p:Pr):k∈Ea (ab4 gs f p)↔k∈Ea gs\/k=f:=by
 induction gs<;>grind[ab4,Ea]
theorem keys_mem(fr:Pr->Nat->Int)(es web:xLP)(k:Int)(i:Nat):k∈Ea (aaX fr es web i)↔∃(j:Nat)(p:Pr),j<i/\es[j]?=Z p/\p∉web/\fr p j=k:=by
 induction i with
 |zero=>simp[aaX,Ea]
 |succ i a=>
  cases b:es[i]? with
  |none=>grind[aaX]
  |some q=>
   by_cases c:q∈web
   .grind[JJ]
   .rw[dh b c,keys_add,a];grind
variable {L:RZ} {es ps:List Pr} {on:Nat->Bool} {u w:Nat}
theorem sW(fr:Pr->Nat->Int)(es web:xLP)(k:Int):∀i,(aez fr es web k i).Sublist (es.take i)
 |0=>by simp[aez]
 |i+1=>by
  have a:=sW fr es web k i;simp only[aez];cases b:es[i]? with
  |none=>grind
  |some p=>
   have:es.take (i+1)=es.take i++[p]:=by grind[take_add_one]
   grind
theorem E7{web l:xLP}{x:Int}:x∈kz (cX web l n)↔∃v:Nat,v<n/\x=(v:Int)/\onE web (v:Int)=tT/\onE l (v:Int)=tT:=by grind[kz,cX]
theorem DX{v:Int}:onE ps v=tT↔∃p∈ps,aO p v=tT:=by simp[onE]
theorem ajR(a:wx n on es L)(b:u<n)(hw:w<n)(c:on u=fF)(d:on w=fF):L.getD u 0=L.getD w 0↔Cn on es u w:=by grind[wx.same,wx.off]
attribute [local instance] Classical.propDecidable
def Xl(rs:AM):Nat->II:=fun v=>(rs.getD v []).map Int.toNat
structure Av (n:Nat) (es:xLP) (rs:AM):Prop where
 len:rs.length=n
 perm:∀v,v<n->(rs.getD v []).Perm ((Zh n es).getD v [])
section
variable{n:Nat}{es:List Pr}{rs:AM}
theorem Av.nat(c:aV n es)(G:Av n es rs){v:Nat}{x:Int}(a:x∈rs.getD v []):v<n/\∃w:Nat,x=(w:Int)/\w<n/\Jp es v w:=by
 by_cases b:v<n
 .have d:=(G.perm v b).mem_iff.1 a;grind[Ru,EW]
 grind[Av.len]
theorem Av.mem(a:aV n es)(G:Av n es rs){v w:Nat}:w∈Xl rs v↔Jp es v w:=by
 rw[Xl,si];constructor
 .rintro⟨x,b,rfl⟩;obtain⟨_,w,rfl,_,h⟩:=G.nat a b;exact h
 .intro h;have c:=(h.lt a).1;exact⟨(w:Int),(G.perm v c).mem_iff.2 (by grind[EW]),rfl⟩
theorem Av.back(a:aV n es)(G:Av n es rs)(v:Nat):(Xl rs v).map (fun(x:Nat)=>(x:Int))=rs.getD v []:=by
 rw[Xl,Lm]
 conv=>rhs;rw[<-alJ (rs.getD v [])]
 refine Uz fun x b=>?_;obtain⟨_,w,rfl,_⟩:=G.nat a b;rfl
theorem Av.jD(a:aV n es)(ha:D3 es)(G:Av n es rs):V7 n (Xl rs):=by
 refine⟨fun v=>?_,fun v w h=>(((G.mem a).1 h).lt a).1,fun v w h=>(G.mem a).2 ((G.mem a).1 h).symm,fun v h=>Xa a ((G.mem a).1 h)⟩;by_cases b:v<n
 .have nd:(rs.getD v []).Nodup:=(G.perm v b).nodup_iff.2 (by grind[KW,List.Pairwise.imp]);grind[Xl.eq_1,List.Pairwise.imp_of_mem,Av.nat]
 grind[Xl.eq_1,Av.len]
theorem Av.len_eq(G:Av n es rs){v:Nat}(a:v<n):(rs.getD v []).length=((Zh n es).getD v []).length:=(G.perm v a).length_eq
end
theorem ajw{l:II}(nd:l.Nodup){j:Nat}(a:j<l.length):nx l l[j]=l[(j+1)%l.length]'(aj3 _ NH):=by
 have e:l=l.take j++l[j]::l.drop (j+1):=by grind[getElem_cons_drop,take_append_drop]
 have b:nx l l[j]=(l.drop (j+1)++(l.take j++[l[j]])).headD 0:=by grind[ZL]
 rw[b];by_cases c:j+1<l.length
 .grind[drop_eq_getElem_cons,headD_cons,Nat.mod_eq_of_lt]
 .rw[alu NH,aiM];have d:(j+1)%l.length=0:=by grind[Nat.mod_self]
  cases j with
  |zero=>grind
  |succ j=>
   cases l with
   |nil=>simp at a
   |cons x l=>simp only[d,ak5,aj8,qL209,qL248]
structure wW where
 zp:xLP
 Fm:RZ
 fits:II
instance:Inhabited wW:=⟨⟨[],[],[]⟩⟩
structure ShM where
 on:List Bool
 Jv:Cs
 left:List wW
abbrev Wg(on:List Bool):Nat->Bool:=fun u=>on.getD u fF
def eJ(n:Nat)(f:II):List Bool:=(rG n).map fun v=>decide (v∈f)
def fitsB(Jv:Cs)(Fm:RZ)(f:Nat):Bool:=Fm.all fun v=>decide (v.toNat∈Jv.getD f [])
def zh(Jv:Cs)(Fm:RZ)(a:II):II:=a.filter (fitsB Jv Fm)
def LF(left:List wW)(i:Nat):Nat:=(left.getD i default).fits.length
def abx(left:List wW):Nat->Nat
 |0=>0
 |i+1=>if LF left i<LF left (abx left i)then i else abx left i
def dt(start:Nat)(st:RZ×II)(v by_:Nat):RZ×II:=if v≠start/\st.1.getD v 0<0 then(st.1.set v (by_:Int),st.2++[v])else st
def abY(start:Nat)(st:RZ×II)(e:Pr):RZ×II:=if e.1=(start:Int)then dt start st e.2.toNat start else if e.2=(start:Int)then dt start st e.1.toNat start else st
def SL(n start:Nat)(zp:xLP):RZ×II:=zp.foldl (abY start) (rP n (-1),[])
def abU(start:Nat)(st:RZ×II)(v:Nat)(row:RZ):RZ×II:=row.foldl (fun st w=>dt start st w.toNat v) st
def acz(rows:AM)(start:Nat)(s0:RZ×II):Nat->RZ×II
  |0=>s0
  |i+1=>match(acz rows start s0 i).2[i]? with
    |some v=>abU start (acz rows start s0 i) v (rows.getD v [])
    |none=>acz rows start s0 i
def XG(rows:AM)(on:List Bool)(start:Nat)(s0:RZ×II)(i:Nat):Bool:=
 match(acz rows start s0 i).2[i]? with
 |some v=>Wg on v
 |none=>tT
def traceM(fr:RZ)(start:Nat):Nat->Nat->II
 |0,_=>[start]
 |k+1,v=>if v=start then[start]else traceM fr start k (fr.getD v 0).toNat++[v]
def J6(n:Nat)(rows:AM)(on:List Bool)(p:wW):II:=
  if p.Fm.length<2 then[]else
  let start:=(p.Fm.headD 0).toNat;let s0:=SL n start p.zp
  match(rG (n+1)).find? (XG rows on start s0)with
  |some i=>match(acz rows start s0 i).2[i]? with
    |some v=>traceM (acz rows start s0 i).1 start n v
    |none=>[]
  |none=>[]
def Qk(f:II)(i j:Nat):II:=(rG ((j+f.length-i)%f.length+1)).map fun t=>f.getD ((i+t)%f.length) 0
def Dn(f:II)(v:Nat):Nat:=f.findIdx fun x=>decide (x=v)
def jc(way:II):II:=(way.drop 1).take (way.length-2)
def Ni(way:II):Nat:=way.getD (way.length-1) 0
def Ee(f way:II):II:=Qk f (Dn f (way.headD 0)) (Dn f (Ni way))++(jc way).reverse
def kP(f way:II):II:=Qk f (Dn f (Ni way)) (Dn f (way.headD 0))++jc way
def KI(n:Nat)(way:II):Nat->RZ
 |0=>rP n (-1)
 |i+1=>(KI n way i).set (way.getD i 0) (i:Int)
def aI(pl:RZ)(e:Pr):Bool:=let a:=pl.getD e.1.toNat 0;let b:=pl.getD e.2.toNat 0;decide (a<0)||decide (b<0)||(decide (a-b≠1)&&decide (b-a≠1))
def V8(n:Nat)(zp:xLP)(way:II):xLP:=zp.filter (aI (KI n way way.length))
def Uo(l:RZ)(x:Int):RZ:=if x∈l then l else l++[x]
def kZ(l:RZ):RZ:=l.foldl Uo []
noncomputable def MF(n:Nat)(on:Nat->Bool)(es:xLP):RZ:=(rG n).map fun v=>((((rG n).find? fun u=>decide (Cn on es u v)).getD 0:Nat):Int)
noncomputable def vX(n:Nat)(on:List Bool)(es:xLP):List wW:=(aaX (Zo n (Wg on) (MF n (Wg on) es)) es [] es.length).map fun g=>⟨g.2,kZ (BY (Wg on) g.2),[]⟩
def tV(on:List Bool)(way:II):List Bool:=way.foldl (fun o v=>o.set v tT) on
def GF(Jv:Cs)(f g:Nat)(q:wW):wW:=if f∈q.fits then{q with fits:=zh Jv q.Fm (q.fits++[g])}else q
noncomputable def AU(n:Nat)(rows:AM)(S:ShM):Option ShM:=
 let a:=abx S.left S.left.length;let p:=S.left.getD a default
 if p.fits.length=0 then Y else
 let way:=J6 n rows S.on p
 if way.length<2 then Y else
 let f:=p.fits.headD 0;let g:=S.Jv.length;let EI:=S.Jv.getD f [];let Jv:=S.Jv.set f (Ee EI way)++[kP EI way];let on:=tV S.on way
 Z ⟨on,Jv,(S.left.eraseIdx a).map (GF Jv f g)++(vX n on (V8 n p.zp way)).map fun q=>{q with fits:=zh Jv q.Fm (p.fits++[g])}⟩
structure BF (n start:Nat) (A:Nat->Prop) (B:Nat->Nat->Prop) (st:RZ×II):Prop where
 len:st.1.length=n
 nd:st.2.Nodup
 lt:∀v∈st.2,v<n/\v≠start
 mm:∀v,v<n->(v∈st.2↔0<=st.1.getD v 0)
 par:∀(k v:Nat),st.2[k]?=Z v->(st.1.getD v 0=(start:Int)/\A v)\/∃j u:Nat,j<k/\st.2[j]?=Z u/\st.1.getD v 0=(u:Int)/\B u v
section
variable{n start:Nat}{A:Nat->Prop}{B:Nat->Nat->Prop}{st:RZ×II}
theorem BF.zero:BF n start A B (rP n (-1),[]):=by refine⟨Ma,Ma,Ma,fun v a=>?_,hGr⟩;grind
theorem BF.meet(W:BF n start A B st){v by_:Nat}(i:v<n)(d:(by_=start/\A v)\/∃j:Nat,st.2[j]?=Z by_/\B by_ v):
  BF n start A B (dt start st v by_)/\(∃t,(dt start st v by_).2=st.2++t)/\(v=start\/v∈(dt start st v by_).2):=by
 unfold dt;split
 .have l:v∉st.2:=by grind[BF.mm]
  refine⟨⟨by simp[W.len],?_,fun x c=>?_,fun x c=>?_,fun k x a=>?_⟩,⟨_,rfl⟩,.inr Ma⟩
  .grind[BF.nd]
  .rcases vZ.1 c with h|h
   .exact W.lt x h
   grind
  .grind[BF.mm]
  .have hg:∀y,y∈st.2->(st.1.set v (by_:Int)).getD y 0=st.1.getD y 0:=hGr;by_cases e:k<st.2.length
   .rw[EP e]at a;have f:=BS a;rw[hg x f];rcases W.par k x a with h|⟨j,u,b,h2,h3⟩
    .exact .inl h
    .exact .inr ⟨j,u,b,hGr,h3⟩
   .rw[jf NH]at a;have:k-st.2.length=0:=hGr;rw[this]at a;simp at a;subst a;have g:(st.1.set v (by_:Int)).getD v 0=(by_:Int):=hGr;rw[g];rcases d with⟨rfl,h⟩|⟨j,b,h2⟩
    .grind
    .have m:=(Ny.1 b).1;exact .inr ⟨j,by_,NH,hGr,rfl,h2⟩
 .refine⟨W,⟨[],Ma⟩,?_⟩;grind[BF.mm]
theorem pre_mem{l t:II}{v:Nat}{s:II}(h:s=l++t)(a:v∈l):v∈s:=hGr
theorem Z5{l t:II}{v k:Nat}{s:II}(h:s=l++t)(a:l[k]?=Z v):s[k]?=Z v:=hGr
theorem BF.row{v j:Nat}:∀(row:RZ){st:RZ×II},BF n start A B st->st.2[j]?=Z v->(∀x∈row,∃w:Nat,x=(w:Int)/\w<n/\B v w)->
  BF n start A B (abU start st v row)/\(∃t,(abU start st v row).2=st.2++t)/\∀w:Nat,(w:Int)∈row->w=start\/w∈(abU start st v row).2
 |[],st,W,_,_=>⟨W,⟨[],by simp[abU]⟩,hGr⟩
 |x::row,st,W,a,b=>by
  obtain⟨w,rfl,hw,hB⟩:=b x Ma;have⟨c,⟨t1,d⟩,m1⟩:=W.meet (v:=w) (by_:=v) hw hGr;have⟨e,⟨g,i⟩,m2⟩:=c.row row (Z5 d a) hGr;have k:abU start st v ((w:Int)::row)=abU start (dt start st w v) v row:=rfl;refine⟨e,hGr,fun y f=>?_⟩;rcases HV.1 f with h|h
  .have:y=w:=NH;grind
  grind
theorem BF.Vk:∀(zp:xLP){st:RZ×II},BF n start A B st->(∀e∈zp,(∃a b:Nat,e=((a:Int),(b:Int))/\a<n/\b<n)/\(∀w:Nat,(e=((start:Int),(w:Int))\/e=((w:Int),(start:Int)))->A w))->
  BF n start A B (zp.foldl (abY start) st)/\(∃t,(zp.foldl (abY start) st).2=st.2++t)/\∀e∈zp,∀w:Nat,(e=((start:Int),(w:Int))\/e=((w:Int),(start:Int)))->w≠start->w∈(zp.foldl (abY start) st).2
 |[],st,W,_=>⟨W,⟨[],Ma⟩,hGr⟩
 |e::zp,st,W,c=>by
  obtain⟨⟨a,b,rfl,ha,hb⟩,hA⟩:=c e Ma;have s1:BF n start A B (abY start st ((a:Int),(b:Int)))/\(∃t,(abY start st ((a:Int),(b:Int))).2=st.2++t)/\∀w:Nat,((((a:Int),(b:Int)):Pr)=((start:Int),(w:Int))\/(((a:Int),(b:Int)):Pr)=((w:Int),(start:Int)))->w≠start->w∈(abY start st ((a:Int),(b:Int))).2:=by
   unfold abY;split
   .grind[BF.meet]
   .split
    .grind[BF.meet]
    .refine⟨W,⟨[],Ma⟩,fun w hw d=>?_⟩;grind
  have⟨f,⟨t1,g⟩,m1⟩:=s1;have⟨h,⟨i,j⟩,m2⟩:=f.Vk zp hGr;grind
theorem BF.jI(W:BF n start A B st):st.2.length<=n:=by have:=tf W.nd (B:=rG n) (by grind[BF.lt]);grind
theorem BF.trace(W:BF n start A B st):∀(fuel k v:Nat),k<fuel->st.2[k]?=Z v->
  ∃L:II,traceM st.1 start fuel v=start::(L++[v])/\(∀x∈L,∃j:Nat,j<k/\st.2[j]?=Z x/\∃y,B x y)/\L.Nodup/\A ((L++[v]).headD 0)/\∀(i x y:Nat),(L++[v])[i]?=Z x->(L++[v])[i+1]?=Z y->B x y
 |0,k,v,h,_=>by grind
 |fuel+1,k,v,h,a=>by
  have f:=W.lt v (BS a);have g:traceM st.1 start (fuel+1) v=traceM st.1 start fuel (st.1.getD v 0).toNat++[v]:=by grind[traceM.eq_2]
  rcases W.par k v a with⟨d,h2⟩|⟨j,u,d,h2,h3,l⟩
  .refine⟨[],?_,hGr,Ma,h2,fun i x y b c=>?_⟩
   .have:traceM st.1 start fuel (start:Int).toNat=[start]:=by
     cases fuel<;>grind[traceM.eq_1,traceM.eq_2]
    grind
   grind
  .obtain⟨L,m,o,nL,hA,ch⟩:=W.trace fuel j u NH h2;refine⟨L++[u],?_,fun x b=>?_,?_,?_,fun i x y b c=>?_⟩
   .grind
   .grind
   .grind[X6,BF.nd]
   .grind
   .by_cases q:i+1<(L++[u]).length
    .grind
    .have e:=(Ny.1 c).1;simp at e q;have hi:i=L.length:=NH;subst hi;grind[List.getElem?_append_right]
end
theorem Ix{a b:Nat}(h:a<b):GW a b=((a:Int),(b:Int)):=by grind[GW]
theorem cY{a b:Nat}(h:b<a):GW a b=((b:Int),(a:Int)):=by rw[so,Ix h]
theorem Mf{es:xLP}{a b:Nat}(c:a≠b)(h:GW a b∈es):Jp es a b:=by
 rcases WL c with k|k
 .rw[Ix k]at h;exact .inl h
 .rw[cY k]at h;exact .inr h
section
variable{n start:Nat}{es:List Pr}{on:List Bool}{A:Nat->Prop}{s0:RZ×II}
theorem PH(hR:aV n es)(W:BF n start A (fun u v=>Jp es u v/\Wg on u=fF) s0):∀i,(∀j,j<i->XG (Zh n es) on start s0 j=fF)->
  BF n start A (fun u v=>Jp es u v/\Wg on u=fF) (acz (Zh n es) start s0 i)/\(∃t,(acz (Zh n es) start s0 i).2=s0.2++t)/\
   ∀j,j<i->∃u:Nat,(acz (Zh n es) start s0 i).2[j]?=Z u/\Wg on u=fF/\∀w,Jp es u w->w=start\/w∈(acz (Zh n es) start s0 i).2
 |0,_=>⟨W,⟨[],by simp[acz]⟩,hGr⟩
 |i+1,hs=>by
  have⟨b,⟨t1,h⟩,c1⟩:=PH hR W i hGr;have hi:=hs i NH;unfold XG at hi;cases a:(acz (Zh n es) start s0 i).2[i]? with
  |none=>grind
  |some v=>
   have c:acz (Zh n es) start s0 (i+1)=abU start (acz (Zh n es) start s0 i) v ((Zh n es).getD v []):=by rw[acz,a]
   rw[c];have⟨d,⟨k,f⟩,c2⟩:=b.row ((Zh n es).getD v []) a (by grind[Ru,EW]);refine⟨d,hGr,fun j l=>?_⟩;by_cases e:j=i
   .grind[EW]
   .obtain⟨u,g,h2,h3⟩:=c1 j NH;exact⟨u,Z5 f g,h2,(by grind[pre_mem])⟩
theorem way_spec(hR:aV n es){p:wW}(hf:2<=p.Fm.length)(hs:(p.Fm.headD 0).toNat=start)(q:start<n)(r:∀e∈p.zp,e∈es):
    (∃inn b,J6 n (Zh n es) on p=nr start inn b/\(nr start inn b).Nodup/\b<n/\Wg on b=tT/\(∀x∈inn,Wg on x=fF)/\GW start ((inn++[b]).headD 0)∈p.zp/\
      ∀(i x y:Nat),(nr start inn b)[i]?=Z x->(nr start inn b)[i+1]?=Z y->Jp es x y)\/
    (J6 n (Zh n es) on p=[]/\∃M:II,(∀w,GW start w∈p.zp->w≠start->w∈M)/\∀u∈M,u≠start/\Wg on u=fF/\∀w,Jp es u w->w=start\/w∈M):=by
  have s:=(BF.zero (n:=n) (start:=start) (A:=fun w=>GW start w∈p.zp) (B:=fun u v=>Jp es u v/\Wg on u=fF)).Vk p.zp fun e z=>by have C:=hR e (r e z);have⟨a,ea⟩:=qL7 C.1;have⟨b,eb⟩:=qL7 (show 0<=e.2 by omega);grind[Ix,cY]
  have l:p.zp.foldl (abY start) (rP n (-1),[])=SL n start p.zp:=rfl;obtain⟨m,-,m0⟩:=s
  have wd:J6 n (Zh n es) on p=match(rG (n+1)).find? (XG (Zh n es) on start (SL n start p.zp))with
      |some i=>match(acz (Zh n es) start (SL n start p.zp) i).2[i]? with
        |some v=>traceM (acz (Zh n es) start (SL n start p.zp) i).1 start n v
        |none=>[]
      |none=>[]:=by grind[J6]
  rw[wd];cases f:(rG (n+1)).find? (XG (Zh n es) on start (SL n start p.zp))with
  |none=>have D:∀j,j<n+1->XG (Zh n es) on start (SL n start p.zp) j=fF:=hGr;obtain⟨g,-,c2⟩:=PH hR m (n+1) D;obtain⟨u,N,-⟩:=c2 n NH;grind[BF.jI]
  |some i=>
    rw[qL194]at f;have⟨g,⟨t,O⟩,c2⟩:=PH hR m i hGr;cases d:(acz (Zh n es) start (SL n start p.zp) i).2[i]? with
    |none=>
      refine .inr ⟨hGr,(acz (Zh n es) start (SL n start p.zp) i).2,fun w hw E=>?_,fun u F=>?_⟩
      .grind[cY,Ix]
      · have⟨j,G⟩:=Og.1 F
        have P:=List.getElem?_eq_none_iff.1 d;have H:=(Ny.1 G).1;have⟨u',Q,R,S⟩:=c2 j NH;grind[BF.lt]
    |some v=>
      have I:Wg on v=tT:=by grind[XG]
      have hi:i<n:=by grind[BF.jI]
      have⟨L,J,T,nL,hA,ch⟩:=g.trace n i v hi d;have h:=g.lt v (BS d);have c:∀x∈L,Wg on x=fF:=fun x o=>by grind
      have K:∀x∈L,x≠start:=fun x o=>by grind[BF.lt]
      refine .inl ⟨L,v,by simp only[d];exact J,?_,h.1,I,c,hA,fun k x y o U=>?_⟩
      .grind[nr.eq_1,nodup_cons,mem_singleton]
      · cases k with
        |zero=>grind[yT,Mf,BX]
        |succ k=>have e:nr start L v=start::(L++[v]):=rfl;grind
end
variable {A B f:II} {a b k s t v:Nat}
theorem ajS(nd:f.Nodup)(h:f[k]?=Z v):Dn f v=k:=by have⟨b,e⟩:=Ny.1 h;unfold Dn;rw[findIdx_eq b];refine⟨by simp[e],fun j c=>?_⟩;have a:j<f.length:=NH;simp only[TN];intro q;have:=X6 nd (Gc a) (by rw[h,q]);omega
theorem cyc_front{f g:II}{t:II}(h:Cyc f g)(e:g=a::t):∃u v,f=u++a::v/\g=(a::v)++u:=by obtain⟨u,v,rfl,rfl⟩:=h;cases v<;>grind
theorem rot_get{u v:II}(d:t<(u++v).length)(f:v≠[]):(v++u)[t]?=Z ((u++v).getD ((u.length+t)%(u++v).length) 0):=by
 have a:(u++v).length=u.length+v.length:=aaf;by_cases c:t<v.length
 .have b:(u.length+t)%(u++v).length=u.length+t:=by exact PN NH
  grind
 .have e:u.length+t=(t-v.length)+(u.length+v.length):=NH;have b:(u.length+t)%(u++v).length=t-v.length:=by rw[a,e,alv,PN NH]
  grind
theorem aeQ(hi:i<m)(hs:s<m):((i+s)%m+m-i)%m=s:=by
 by_cases c:i+s<m
 .rw[PN c,show i+s+m-i=s+m from by omega,alv,PN hs]
 .have:(i+s)%m=i+s-m:=by rw[Nat.mod_eq_sub_mod NH,PN NH]
  grind[Nat.mod_eq_of_lt]
theorem U1(nd:f.Nodup)(cy:Cyc f ((a::A)++(b::B))):Qk f (Dn f a) (Dn f b)=a::(A++[b]):=by
 have⟨u,v,d,j⟩:=cyc_front cy rfl;have k:((a::A)++(b::B)).length=f.length:=(cy.perm.length_eq).symm;have hi:Dn f a=u.length:=ajS nd hGr;have g:f.length=(u++a::v).length:=by rw[d]
 have h:u.length<f.length:=hGr;have get:∀t,t<f.length->((a::A)++(b::B))[t]?=Z (f.getD ((u.length+t)%f.length) 0):=by grind[rot_get]
 have sl:A.length+1<f.length:=hGr;have gb:=get (A.length+1) sl;rw[jf Ma,Vn,aiq,pz]at gb;injection gb with gb;have l:=aj3 (u.length+(A.length+1)) (show 0<f.length by omega);have i:Dn f b=(u.length+(A.length+1))%f.length:=by grind[ajS]
 unfold Qk;rw[hi,i,aeQ h sl];have e:a::(A++[b])=((a::A)++(b::B)).take (A.length+1+1):=by rw[take_append,abe Ma];simp[show A.length+1+1-(A.length+1)=1 from by omega]
 rw[e];apply EH;intro t;rw[Q4];by_cases c:t<A.length+1+1
 .rw[List.getElem?_range c,List.getElem?_take_of_lt c,get t NH];rfl
 grind
theorem cyc_two(ha:a∈f)(hb:b∈f)(d:a≠b):∃A B,Cyc f ((a::A)++(b::B)):=by have⟨c,e⟩:=Cyc.front ha;have:b∈a::c:=e.perm.mem_iff.1 hb;grind[sC]
theorem Oy(a b:Nat)(inn:II):jc (nr a inn b)=inn/\Ni (nr a inn b)=b/\(nr a inn b).headD 0=a:=by
 refine⟨?_,?_,rfl⟩
 .unfold jc;rw[Eo];show((inn++[b]).take (inn.length+2-2))=inn;simp
 grind[Ni,Eo,Fg]
def Gf{f A B inn:II}(nd:f.Nodup)(cy:Cyc f ((a::A)++(b::B))):
  Ee f (nr a inn b)=half a A b inn/\kP f (nr a inn b)=half b B a inn.reverse:=by
 have⟨c,d,e3⟩:=Oy a b inn;unfold Ee kP half;rw[c,d,e3,U1 nd cy,U1 nd cy.shift];simp
theorem set_perm{F:Cs}{f:Nat}{EI one:II}(h:F[f]?=Z EI)(nd:F.Nodup):(F.set f one).Perm (one::F.erase EI):=hGr
end
end Go.Fw
