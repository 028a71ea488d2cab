/- A text. -/
import Derived.Test.YtigllaheamfhaaaGreatFwLB13
set_option linter.all false
set_option maxRecDepth 99999
set_option maxHeartbeats 9999999
open Go.Proofs
open Option renaming some→Z,none→Y
open Bool renaming true→tT,false→fF
open List renaming replicate→rP,range→rG
open Go.Value renaming slice→sL,pointer→pT
open Go renaming Value→vV
open Go.Proofs.Tryz renaming prog→pG
open Go.Proofs.Tryz
open List
namespace Go.Fw
variable {es ps web:List Pr} {fr:Pr->Nat->Int} {gs:List Gr} {h:aai} {i:Nat} {p:Pr} {xs:RZ}
theorem RY(gs:List Gr)(f:Int)(p:Pr):Ea (ab4 gs f p)=if f∈Ea gs then Ea gs else Ea gs++[f]:=by
 induction gs<;>grind[Ea,ab4]
theorem keysG_nd(h:(Ea gs).Nodup)(f:Int)(p:Pr):(Ea (ab4 gs f p)).Nodup:=by grind[RY]
theorem addG_ne(h:∀g∈gs,g.2≠[])(f:Int)(p:Pr):∀g∈ab4 gs f p,g.2≠[]:=by
 induction gs with
 |nil=>grind[ab4]
 |cons g gs b=>
  have⟨k,l⟩:=g;intro x a;by_cases c:k=f
  .simp only[ab4,abe c,Og]at a;rcases a with rfl|a
   .simp
   grind
  grind[ab4]
theorem NI{f:Int}{l:xLP}:∀{gs:List Gr}{i:Nat},(Ea gs).Nodup->gs[i]?=Z (f,l)->acU gs f=l
 |[],i,_,e=>by simp at e
 |(k,l')::gs,0,_,e=>by grind[acU]
 |(k,l')::gs,i+1,h,e=>by simp only[Ea,QD,VU]at h;have b:f∈Ea gs:=aev.2 ⟨(f,l),BS (by simpa using e),rfl⟩;have a:¬k=f:=fun e=>h.1 hGr;rw[acU,abE a];exact NI h.2 (by simpa using e)
theorem rV{f:Int}:∀{gs:List Gr},(∀g∈gs,g.2≠[])->(f∈Ea gs↔acU gs f≠[])
 |[],_=>by simp[Ea,acU]
 |(k,l)::gs,h=>by
  by_cases c:k=f
  .subst c;have a:l≠[]:=h (k,l) Ma;grind[Ea,acU]
  .have c':¬f=k:=fun h=>c h.symm;have:=rV (f:=f) (gs:=gs) fun g hg=>h g (by simp[hg]);grind[acU.eq_2,Ea]
def Ft(f:Int):∀(gs:List Gr)(m:Nat),(∀g∈gs,g.2.length<=m)->(acU gs f).length<=m
 |[],m,_=>by simp[acU]
 |(k,l)::gs,m,h=>by
  by_cases c:k=f
  .rw[acU,abe c];exact h (k,l) Ma
  .rw[acU,abE c];exact Ft f gs m fun g hg=>h g (by simp[hg])
theorem Zk(f:Int)(p:Pr):∀(gs:List Gr)(m:Nat),(∀g∈gs,g.2.length<=m)->∀g∈ab4 gs f p,g.2.length<=m+1
 |[],m,_=>fun g hg=>by grind[ab4]
 |(k,l)::gs,m,h=>fun g hg=>by
  have a:=h (k,l) Ma;by_cases c:k=f
  .grind[ab4]
  .simp only[ab4,abE c,Og]at hg;rcases hg with rfl|hg
   .grind
   .exact Zk f p gs m (fun g hg=>h g (by simp[hg])) g hg
def aaX(fr:Pr->Nat->Int)(es web:xLP):Nat->List Gr
  |0=>[]
  |i+1=>match es[i]? with
    |some p=>if p∈web then aaX fr es web i else ab4 (aaX fr es web i) (fr p i) p
    |none=>aaX fr es web i
theorem JJ(h:es[i]?=Z p)(hw:p∈web):aaX fr es web (i+1)=aaX fr es web i:=by grind[aaX]
theorem dh(h:es[i]?=Z p)(hw:p∉web):aaX fr es web (i+1)=ab4 (aaX fr es web i) (fr p i) p:=by grind[aaX]
theorem Pt(fr:Pr->Nat->Int)(es web:xLP)(i:Nat):(Ea (aaX fr es web i)).Nodup/\(∀g∈aaX fr es web i,g.2≠[])/\(∀g∈aaX fr es web i,g.2.length<=i)/\(aaX fr es web i).length<=i/\∀g∈aaX fr es web i,∀p∈g.2,p∈es:=by
  have a:∀(gs:List Gr)(f:Int)(p:Pr),(∀g∈gs,∀q∈g.2,q∈es)->p∈es->∀g∈ab4 gs f p,∀q∈g.2,q∈es:=by
    intro gs f p
    induction gs with
    |nil=>grind[ab4]
    |cons g gs m=>
      have⟨k,l⟩:=g;intro h e x d;by_cases c:k=f
      · simp only[ab4,abe c,Og]at d
        rcases d with rfl|d
        · intro q j;simp only[aax,xD]at j
          rcases j with j|rfl
          .exact h (k,l) Ma q j
          .exact e
        grind
      · simp only[ab4,abE c,Og]at d
        rcases d with rfl|d
        .exact h _ Ma
        .exact m (fun g hg=>h g (by simp[hg])) e x d
  have b:∀(gs:List Gr)(f:Int)(p:Pr),(ab4 gs f p).length<=gs.length+1:=by
    intro gs f p
    induction gs<;>grind[ab4]
  induction i with
  |zero=>simp[aaX,Ea]
  |succ i m=>
    have⟨n,h2,h3,r,o⟩:=m;have up:∀g∈aaX fr es web i,g.2.length<=i+1:=fun g hg=>by grind
    cases e:es[i]? with
    | none => have:aaX fr es web (i+1)=aaX fr es web i:=by grind[aaX]
              rw[this];grind
    |some p=>
      by_cases c:p∈web
      .rw[JJ e c];grind
      · rw[dh e c]
        exact⟨keysG_nd n _ _,addG_ne h2 _ _,Zk _ _ _ _ h3,hGr,a _ _ _ o (BS e)⟩
structure FM where
 zp:xLP
 Fm:RZ
def FL(h:aai)(v:vV)(c:List FM):Prop:=∃cs,CS 2 h v c.length cs/\∀(i:Nat) f,c[i]?=Z f->∃a b,cs[i*2]?=Z a/\cs[i*2+1]?=Z b/\PR h a f.zp/\RL RP h b f.Fm
def zB:UA pG 127=2:=Ji
theorem mkFr(h:aai)(n:Nat)(d:n<=100000):∃c,abl pG h 123 n n=Z (sL (Z h.next) n n,h.alloc (.cells c))/\c.length=n*2:=by
 have e:acd pG 127=Z (.agg #[.slice Y 0 0,.slice Y 0 0]):=Ji;have hb:(pG.bytesOf 127).ble 1000=tT:=Ji;have a:(pG.bytesOf 127:Int)*n<=140737488355328:=by have:pG.bytesOf 127*n<=1000*1000000:=adE (qL231 hb) NH;have h2:((pG.bytesOf 127*n:Nat):Int)<=1000000000:=NH;rw[Int.natCast_mul]at h2;omega
 have b:(n:Int)<=140737488355328:=NH;have f:(vV.agg #[.slice Y 0 0,.slice Y 0 0]).cells=#[.slice Y 0 0,.slice Y 0 0]:=rfl;have g:(acY [vV.slice Y 0 0,vV.slice Y 0 0] n).all (·.oneCell')=tT:=by
  clear a b d
  induction n with
  |zero=>rfl
  |succ n i=>simp only[acY,qL217,i,qL241];rfl
 refine⟨acY [.slice Y 0 0,.slice Y 0 0] n,?_,by grind[jY]⟩;simp[abl,qS25,KT,e,f,zB,a,b,IF,g,Fw.flat]
def stFr{F i:Nat}{c:xLV}{a b:vV}(d:h.own F=Z (.cells c))(hi:i*2+2<=c.length)(ha:PR h a ps)(hb:RL RP h b xs):
  aaK pG h 127 (pT (Z ⟨F,i*2,Y⟩)) (.agg #[a,b])=Z (h.put F (.cells ((c.set (i*2) a).set (i*2+1) b))):=by
 have e:=ha.sl.one;have h2:=hb.one;have f:(vV.agg #[a,b]).cells=#[a,b]:=rfl;simp[aaK,d,f,zB,putCells,KT,e,h2,hi]
theorem afY:∀(a b:RZ),a.Pairwise (·<·)->b.Pairwise (·<·)->(∀x,x∈a↔x∈b)->a=b
 |[],[],_,_,_=>rfl
 |[],y::b,_,_,h=>by have:=(h y).2 Ma;simp at this
 |x::a,[],_,_,h=>by have:=(h x).1 Ma;simp at this
 |x::a,y::b,ha,hb,h=>by
  rw[ajX]at ha hb;have e:x=y:=by have c:=(h x).1 Ma;have h2:=(h y).2 Ma;grind
  subst e;rw[afY a b ha.2 hb.2 fun z=>?_];grind
theorem jn(l:RZ)(x:Int):x∈Lib.compact l↔x∈l:=by
 simp only[Lib.compact,Lib.compactUpTo,aev,K4,j3];constructor
 .grind
 .intro b;obtain⟨j,a,rfl⟩:=Yi.1 b
  induction j with
  |zero=>exact⟨0,⟨a,by simp[Lib.keeps]⟩,hGr⟩
  |succ j d=>
   by_cases c:l[j+1]=l[j]
   .grind
   .refine⟨j+1,⟨a,?_⟩,hGr⟩;simp only[Lib.keeps,vg,Nat.add_sub_cancel];grind
theorem amV{l:RZ}(h:l.Pairwise (·<=·)):(Lib.compact l).Pairwise (·<·):=by
 simp only[Lib.compact,Lib.compactUpTo];rw[Vn];have f:((rG l.length).filter (Lib.keeps l.toArray)).Pairwise (·<·):=by grind[pairwise_lt_range]
 refine ff ?_ f;intro i j hi c g;rw[K4,j3]at hi c;have⟨b,a⟩:=c;simp only[Lib.keeps,vg]at a;rw[getElem!_pos _ i (by simp;omega),getElem!_pos _ j hGr]at*;rcases a with d|d
 .omega
 .rw[getElem!_pos _ (j-1) (by simp;omega)]at d;rw[Lm]at h;simp only[qL187]at*;have h2:=h (j-1) j NH b NH;by_cases e:i=j-1
  .grind
  .have:=h i (j-1) NH NH NH;omega
theorem Wv(l:RZ)(x:Int):x∈qC l↔x∈l:=by simp[qC]
theorem aQ(l:RZ):(qC l).Pairwise (·<=·):=by grind[pairwise_mergeSort,qC]
variable {n s u v w:Nat} {o:II} {up:RZ}
abbrev offA:Nat->Bool:=fun _=>fF
abbrev Pu(es:xLP):Nat->Nat->Prop:=Cn offA es
theorem Pu.refl(es:xLP)(u:Nat):Pu es u u:=Cn.refl rfl
theorem abu(h:Jp es u w):Pu es u w:=.step (.refl rfl) h rfl
theorem Pu.lt{n:Nat}{es:xLP}(b:InR n es){u w:Nat}(h:Pu es u w)(c:u<n):w<n:=by
 induction h with
 |refl _=>exact c
 |step _ a _ _=>exact(a.lt b).2
theorem du.bp(d:du n es s o up):∀v∈o,Pu es s v:=by
 induction d with
 |start=>grind[Pu.refl]
 |step d c ha _ _ _ b=>
  intro x a;rw[aax,xD]at a;rcases a with a|rfl
  .exact b x a
  .exact .step (b _ (BS c)) ha rfl
theorem du.head(d:du n es s o up):o[0]?=Z s:=by
 induction d<;>grind
theorem du.nodup(d:du n es s o up):o.Nodup:=by
 induction d<;>grind
theorem Oc.mem(d:Oc n es s o up)(v:Nat):v∈o↔Pu es s v:=by
 refine⟨d.KP.bp v,fun h=>?_⟩
 induction h with
 |refl _=>exact BS d.KP.head
 |step _ a _ b=>exact d.full _ b _ a
open Classical in
noncomputable def Ic(n:Nat)(es:xLP)(v:Nat):II:=(rG n).filter fun w=>decide (Pu es v w)
open Classical in
noncomputable def Es(n:Nat)(es:xLP):II:=(rG n).filter fun v=>decide (∀u,u<v->¬Pu es u v)
noncomputable def Gx(n:Nat)(es:xLP)(k:Nat):Cs:=((Es k es).map (Ic n es))
theorem mY:w∈Ic n es v↔w<n/\Pu es v w:=by simp[Ic]
theorem QO:v∈Es n es↔v<n/\∀u,u<v->¬Pu es u v:=by simp[Es]
theorem yP(k:Nat)(es:xLP):(Es (k+1) es=Es k es++[k]/\∀u,u<k->¬Pu es u k)\/(Es (k+1) es=Es k es/\∃u,u<k/\Pu es u k):=by grind[Es,range_succ]
theorem vH(k:Nat)(es:xLP):(Es k es).length<=k:=by grind[Es]
theorem uA(n:Nat):(rG n).Pairwise (·<·):=by grind[pairwise_iff_getElem]
theorem compL_asc(n:Nat)(es:xLP)(v:Nat):(Ic n es v).Pairwise (·<·):=(uA n).filter _
theorem sort_comp(b:InR n es)(d:Oc n es s o up)(hs:s<n):qC (kz o)=kz (Ic n es s):=by
 have c:(kz (Ic n es s)).Pairwise (·<·):=by grind[kz.eq_1,compL_asc]
 have e:(qC (kz o)).Pairwise (·<·):=by
  have nd:(qC (kz o)).Nodup:=by have a:(qC (kz o)).Perm (kz o):=mergeSort_perm _ _;rw[a.nodup_iff,kz];have:=d.KP.nodup;grind
  have:=List.Pairwise.and (aQ (kz o)) (iy.1 nd);grind
 grind[afY,Wv,kz,mY,Oc.mem,Pu.lt]
end Go.Fw
namespace Go.Fw
inductive pJ (up:Nat->Option Nat):Nat->Nat->Prop
 |refl (a:Nat):pJ up a a
 |step {a b c:Nat}:pJ up a b->up c=Z b->pJ up a c
theorem pJ.one{up:Nat->Option Nat}{b c:Nat}(h:up c=Z b):pJ up b c:=.step (.refl b) h
theorem pJ.trans{up:Nat->Option Nat}{a b c:Nat}(h:pJ up a b)(k:pJ up b c):pJ up a c:=by
 induction k with
 |refl=>exact h
 |step _ e d=>exact .step d e
theorem pJ.chain{up:Nat->Option Nat}{a b c:Nat}(h:pJ up a c)(k:pJ up b c):pJ up a b\/pJ up b a:=by
 induction h with
 |refl=>exact .inr k
 |@step x c h e d=>
  cases k with
  |refl=>exact .inl (h.step e)
  |@step y _ k e'=>grind
theorem pJ.child{up:Nat->Option Nat}{a b:Nat}(h:pJ up a b)(ne:a≠b):∃c,up c=Z a/\pJ up c b:=by
 induction h with
 |refl=>grind
 |@step x c h e f=>
  by_cases q:a=x
  .subst q;exact⟨c,e,.refl c⟩
  .obtain⟨d,g,h2⟩:=f q;exact⟨d,g,h2.step e⟩
theorem pJ.last{up:Nat->Option Nat}{a b:Nat}(h:pJ up a b)(ne:a≠b):∃c,up b=Z c/\pJ up a c:=by
 cases h<;>grind
structure Fo (n:Nat) (es:xLP) (num:Nat->Nat) (up:Nat->Option Nat):Prop where
 rD:InR n es
 inj:∀u v,u<n->v<n->num u=num v->u=v
 Kd:∀v u,v<n->up v=Z u->Jp es u v/\num u<num v
 anc:∀a b,Jp es a b->num a<num b->pJ up a b
abbrev wo(v:Nat):Nat->Bool:=fun x=>x==v
theorem iO{v x:Nat}(h:x≠v):wo v x=fF:=hGr
def ym(es:xLP)(num:Nat->Nat)(up:Nat->Option Nat)(v c:Nat):Prop:=∃x w,pJ up c x/\Jp es x w/\num w<num v
def Nt(es:xLP)(up:Nat->Option Nat)(u w:Nat):Prop:=Jp es u w/\up u≠Z w/\up w≠Z u
structure Iw (es:xLP) (num:Nat->Nat) (up:Nat->Option Nat) (D:Nat->Nat->Prop) (v:Nat) (x:Nat):Prop where
 self:x<=num v
 back:∀u w,D v u->Nt es up u w->x<=num w
 some_:x=num v\/∃u w,D v u/\Nt es up u w/\x=num w
namespace Fo
variable{n:Nat}{es:List Pr}{num:Nat->Nat}{up:Nat->Option Nat}
theorem yO(F:Fo n es num up){a b:Nat}(h:pJ up a b)(hb:b<n):a<n/\(a=b\/num a<num b):=by
 induction h with
 |refl=>grind
 |@step x c h e d=>have⟨f,h2⟩:=F.Kd c x hb e;have⟨h3,g⟩:=d (f.lt F.rD).1;grind
theorem JD(F:Fo n es num up){a b:Nat}(h:Jp es a b):num a≠num b:=by intro e;have:=F.inj a b (h.lt F.rD).1 (h.lt F.rD).2 e;rcases h with h|h<;>have:=F.rD _ h<;>simp only at this<;>omega
def along(F:Fo n es num up){a b v:Nat}(h:pJ up a b)(hb:b<n)(d:∀x,pJ up a x->pJ up x b->x≠v):Cn (wo v) es a b:=by
 induction h with
 |refl=>exact .refl (iO (d _ (.refl _) (.refl _)))
 |@step x c h e g=>have⟨f,h2⟩:=F.Kd c x hb e;exact .step (g (f.lt F.rD).1 fun y h3 i=>d y h3 (i.step e)) f (iO (d c (h.step e) (.refl c)))
def WU(F:Fo n es num up){a v:Nat}(h:pJ up a v)(ne:a≠v)(b:v<n):num a<num v:=(F.yO h b).2.resolve_left ne
theorem xG(F:Fo n es num up){a b v:Nat}(d:v<n)(ha:pJ up a v)(f:a≠v)(hb:pJ up b v)(nb:b≠v):Cn (wo v) es a b:=by
 have key:∀{a b:Nat},pJ up a b->pJ up b v->b≠v->Cn (wo v) es a b:=by intro a b h hb nb;have c:=(F.yO hb d).1;refine F.along h c fun x _ g e=>?_;grind[Fo.yO]
 grind[pJ.chain,Cn.symm]
theorem below(F:Fo n es num up){c a v:Nat}(ha:a<n)(d:up c=Z v)(h:pJ up c a):Cn (wo v) es c a:=by have b:=(F.yO h ha).1;refine F.along h ha fun x g f e=>?_;subst e;have i:=(F.Kd c x b d).2;grind[Fo.yO]
theorem CJ(F:Fo n es num up){c v:Nat}(b:c<n)(d:up c=Z v)(h:ym es num up v c):∃w,pJ up w v/\w≠v/\Cn (wo v) es c w:=by
 have⟨x,w,i,h2,h3⟩:=h;have j:=(h2.lt F.rD).1;have k:=((F.Kd c v b d).1.lt F.rD).1;have f:pJ up v x:=(pJ.one d).trans i;have g:num w<num x:=by grind[Fo.yO]
 have a:w≠v:=fun e=>by grind
 have ha:=F.anc w x h2.symm g;rcases ha.chain f with h|h
 .exact⟨w,h,a,(F.below j d i).step h2 (iO a)⟩
 grind[Fo.yO]
theorem UT(F:Fo n es num up){c v x:Nat}(b:c<n)(j:up c=Z v)(h:¬ym es num up v c)(k:Cn (wo v) es c x):pJ up c x/\x<n:=by
 induction k with
 |refl _=>exact⟨.refl _,b⟩
 |@step x y k a o m=>
  have⟨l,s⟩:=m;have p:=(a.lt F.rD).2;refine⟨?_,p⟩;have g:y≠v:=hGr;by_cases q:num y<num x
  .have h2:=F.anc y x a.symm q;rcases l.chain h2 with h3|h3
   .exact h3
   .by_cases e:y=c
    .grind
    .obtain⟨d,f,r⟩:=h3.last e;rw[j]at f;injection f with f;subst f;have i:=((F.Kd c v b j).1.lt F.rD).1;exact absurd ⟨x,y,l,a,F.WU r g i⟩ h
  grind[Fo.JD,pJ.trans,Fo.anc]
theorem low_bey(F:Fo n es num up){c v x:Nat}(f:c<n)(i:up c=Z v)(L:Iw es num up (pJ up) c x):x<num v↔ym es num up v c:=by
 have j:=(F.Kd c v f i).2;constructor
 .intro h;rcases L.some_ with a|⟨u,w,a,h2,h3⟩
  .omega
  .exact⟨u,w,a,h2.1,NH⟩
 .rintro⟨u,w,a,h2,h3⟩;have g:=(h2.lt F.rD).1;have l:=(F.yO a g).2;have:=L.back u w a ⟨h2,fun e=>?_,fun e=>?_⟩
  .omega
  .by_cases q:c=u
   .grind
   .obtain⟨d,b,k⟩:=a.last q;rw[e]at b;injection b with b;subst b;rcases(F.yO k (h2.lt F.rD).2).2 with h|h
    all_goals grind
  .have:=(F.Kd w u (h2.lt F.rD).2 e).2;grind
structure abi (n:Nat) (es:xLP) (num:Nat->Nat) (up:Nat->Option Nat) (hd:Nat->Nat):Prop where
 root:∀v,v<n->up v=Y->hd v=v
 on:∀v u,v<n->up v=Z u->ym es num up u v->hd v=hd u
 new:∀v u,v<n->up v=Z u->¬ym es num up u v->hd v=v
variable{hd:Nat->Nat}
def US(F:Fo n es num up)(H:abi n es num up hd):∀(k v:Nat),num v<=k->v<n->pJ up (hd v) v/\hd (hd v)=hd v:=by
 intro k
 induction k with
 |zero=>
  intro v c b;have hh:hd v=v:=by
   cases a:up v with
   |none=>exact H.root v b a
   |some u=>have:=(F.Kd v u b a).2;omega
  rw[hh];exact⟨.refl v,hh⟩
 |succ k d=>
  intro v c b;cases a:up v with
  |none=>rw[H.root v b a];exact⟨.refl v,H.root v b a⟩
  |some u=>
   have e:=F.Kd v u b a;by_cases hb:ym es num up u v
   .rw[H.on v u b a hb];have⟨h2,h3⟩:=d u NH (e.1.lt F.rD).1;exact⟨h2.step a,h3⟩
   .rw[H.new v u b a hb];exact⟨.refl v,H.new v u b a hb⟩
def lower(num:Nat->Nat)(x y:Nat):Nat:=if num y<num x then x else y
theorem zP(F:Fo n es num up)(H:abi n es num up hd){c v a:Nat}(j:up c=Z v)(ha:pJ up c a)(f:Jp es v a):hd a=hd c:=by
 have g:=(f.lt F.rD).2;have i:=(F.yO ha g).1;have k:=(F.Kd c v i j).2;have key:∀z,pJ up c z->pJ up z a->hd z=hd c:=by
  intro z l
  induction l with
  |refl=>intro _;rfl
  |@step b z hb e m=>
   intro d;have h:=(F.yO d g).1;have o:=((F.Kd z b h e).1.lt F.rD).1;rw[H.on z b h e ⟨a,v,d,f.symm,?_⟩]
   .exact m ((pJ.one e).trans d)
   grind[Fo.yO]
 exact key a ha (.refl a)
theorem Hp(F:Fo n es num up)(H:abi n es num up hd){v a b:Nat}(ha:Jp es v a)(hb:Jp es v b):hd (lower num v a)=hd (lower num v b)↔Cn (wo v) es a b:=by
 have u:=(ha.lt F.rD).1;have J:∀c,up c=Z v->c<n->hd v≠c:=fun c j g e=>by have C:=(F.US H (num v) v (qL0 _) u).1;have h2:=(F.Kd c v g j).2;grind[Fo.yO]
 have mixed:∀{a b:Nat},Jp es v a->Jp es v b->num a<num v->num v<num b->(hd v=hd b↔Cn (wo v) es a b):=by
  intro a b ha hb C h2;have l:=(hb.lt F.rD).2;have D:=F.anc a v ha.symm C;have E:a≠v:=fun e=>by grind
  have⟨c,j,z⟩:=(F.anc v b hb h2).child hGr;have g:=(F.yO z l).1;have L:=(F.Kd c v g j).2;rw[F.zP H j z hb];by_cases q:ym es num up v c
  .rw[H.on c v g j q];have⟨w,A,B,s⟩:=F.CJ g j q;exact⟨fun _=>((F.xG u D E A B).trans s.symm).trans (F.below l j z),fun _=>rfl⟩
  grind[Fo.abi.new,Fo.UT,Fo.below,Cn.trans,Cn.symm,Fo.yO]
 have M:=F.JD ha;have nb:=F.JD hb;rcases adQ M with C|C<;>rcases adQ nb with h2|h2
 .have N:lower num v a=a:=by grind[Fo.lower]
  have O:lower num v b=b:=by grind[Fo.lower]
  rw[N,O];have t:=(ha.lt F.rD).2;have l:=(hb.lt F.rD).2;have⟨c,j,r⟩:=(F.anc v a ha C).child hGr;have⟨d,f,o⟩:=(F.anc v b hb h2).child hGr;have g:=(F.yO r t).1;have m:=(F.yO o l).1;rw[F.zP H j r ha,F.zP H f o hb];by_cases q:ym es num up v c
  .rw[H.on c v g j q];have⟨w,A,B,s⟩:=F.CJ g j q;by_cases p:ym es num up v d
   .rw[H.on d v m f p];have⟨x,P,Q,G⟩:=F.CJ m f p;exact⟨fun _=>(((F.below t j r).symm.trans s).trans (by grind[Fo.xG])).trans (G.symm.trans (F.below l f o)),fun _=>rfl⟩
   .rw[H.new d v m f p];refine⟨hGr,fun k=>?_⟩;have h3:=F.UT m f p (((F.below l f o).trans k.symm).trans ((F.below t j r).symm.trans s));have R:=F.WU A B u;have K:=(F.Kd d v m f).2;grind[Fo.yO]
  .rw[H.new c v g j q];have toA:Cn (wo v) es a b->pJ up c b:=by grind[Fo.UT,Fo.below,Cn.trans]
   have same:pJ up c b->c=d:=fun h=>by
    rcases h.chain o with h'|h'
    .by_cases e:c=d
     .exact e
     .obtain⟨y,i,I⟩:=h'.last e;rw[f]at i;injection i with i;subst i;have K:=(F.Kd c v g j).2;grind[Fo.yO]
    .by_cases e:d=c
     .exact e.symm
     .obtain⟨y,i,I⟩:=h'.last e;rw[j]at i;injection i with i;subst i;have K:=(F.Kd d v m f).2;grind[Fo.yO]
   constructor
   .intro e;by_cases p:ym es num up v d
    .grind[Fo.abi.on]
    .rw[H.new d v m f p]at e;subst e;exact(F.below t j r).symm.trans (F.below l j o)
   grind[Fo.abi.new]
 .grind[Fo.lower,Cn.symm]
 all_goals grind[Fo.lower,Fo.xG,Fo.anc,Jp.symm]
def Cut2(es:xLP)(v:Nat):Prop:=∃a b,Jp es v a/\Jp es v b/\¬Cn (wo v) es a b
theorem cut_iff(F:Fo n es num up)(v:Nat)(u:v<n):
  Cut2 es v↔(∃c d,c<n/\d<n/\c≠d/\up c=Z v/\up d=Z v/\¬ym es num up v c/\¬ym es num up v d)\/(∃c,c<n/\up c=Z v/\¬ym es num up v c/\up v≠Y):=by
 constructor
 .rintro⟨a,b,ha,hb,A⟩;have I:=F.JD ha;have nb:=F.JD hb;have mixed:∀{a b:Nat},Jp es v a->Jp es v b->num a<num v->num v<num b->¬Cn (wo v) es a b->∃c,c<n/\up c=Z v/\¬ym es num up v c/\up v≠Y:=by
   intro a b ha hb B h2 A;have h:=(hb.lt F.rD).2;have C:=F.anc a v ha.symm B;have D:a≠v:=fun e=>by grind
   have⟨c,g,z⟩:=(F.anc v b hb h2).child hGr;have f:=(F.yO z h).1;refine⟨c,f,g,fun q=>?_,?_⟩
   .obtain⟨w,l,m,o⟩:=F.CJ f g q;exact A (((F.xG u C D l m).trans o.symm).trans (F.below h g z))
   grind[pJ.last]
  rcases adQ I with B|B<;>rcases adQ nb with h2|h2
  .have r:=(ha.lt F.rD).2;have h:=(hb.lt F.rD).2;have⟨c,g,s⟩:=(F.anc v a ha B).child hGr;have⟨d,i,t⟩:=(F.anc v b hb h2).child hGr;have f:=(F.yO s r).1;have j:=(F.yO t h).1;have E:∀{w},pJ up w v->w≠v->up v≠Y:=by grind[pJ.last]
   by_cases q:ym es num up v c
   .obtain⟨w,l,m,o⟩:=F.CJ f g q;refine .inr ⟨d,j,i,fun p=>?_,E l m⟩;have⟨x,J,K,G⟩:=F.CJ j i p;exact A ((((F.below r g s).symm.trans o).trans (by grind[Fo.xG])).trans (G.symm.trans (F.below h i t)))
   .by_cases p:ym es num up v d
    .grind[Fo.CJ]
    .refine .inl ⟨c,d,f,j,fun e=>?_,g,i,q,p⟩;subst e;exact A ((F.below r g s).symm.trans (F.below h g t))
  .grind[Cn.symm]
  all_goals grind[Fo.xG,Fo.anc,Jp.symm]
 .rintro(⟨c,d,f,j,ne,g,i,q,p⟩|⟨c,f,g,q,P⟩)
  .refine⟨c,d,(by grind[Fo.Kd]),(by grind[Fo.Kd]),fun k=>?_⟩;have h3:=F.UT f g q k;have⟨y,L,M⟩:=h3.1.last ne;have N:=(F.Kd c v f g).2;grind[Fo.yO]
  .cases O:up v with
   |none=>grind
   |some p=>have H:=F.Kd v p u O;refine⟨c,p,(by grind[Fo.Kd]),H.1.symm,fun k=>?_⟩;have h3:=F.UT f g q k;have N:=(F.Kd c v f g).2;grind[Fo.yO]
end Fo
end Go.Fw
namespace Go.Fw
def isE(a b x y:Nat):Prop:=x=a/\y=b\/x=b/\y=a
namespace Fo
variable{n:Nat}{es:List Pr}{num:Nat->Nat}{up:Nat->Option Nat}{hd:Nat->Nat}
theorem link(F:Fo n es num up)(H:abi n es num up hd){α:Type}(of:Nat->Nat->α)(c:∀x y,of x y=of y x)(e:∀v a b,Jp es v a->Jp es v b->Cn (wo v) es a b->of v a=of v b):
  ∀(k x y:Nat),num x<=k->Jp es x y->num y<num x->∃u,up (hd x)=Z u/\of x y=of (hd x) u:=by
 intro k
 induction k with
 |zero=>grind
 |succ k o=>
  intro x y A h2 h3;have f:=(h2.lt F.rD).1;have hA:=F.anc y x h2.symm h3;have⟨u,g,r⟩:=hA.last hGr;have h:=F.Kd x u f g;have i:=(h.1.lt F.rD).1;have s:of x y=of x u:=by grind[Jp.symm,Fo.xG,pJ.one]
  by_cases q:ym es num up u x
  .have hh:=H.on x u f g q;have⟨w,j,l,_⟩:=F.CJ f g q;have⟨p,t,_⟩:=j.last l;have d:=F.Kd u p i t;have⟨u',m,z⟩:=o u p NH d.1.symm d.2;rw[hh];refine⟨u',m,?_⟩;rw[s,c x u,<-z];refine e u x p h.1 d.1.symm ((F.Hp H h.1 d.1.symm).1 ?_);grind[Fo.lower]
  grind[Fo.abi.new]
theorem link2(F:Fo n es num up)(H:abi n es num up hd){α:Type}(of:Nat->Nat->α)(c:∀x y,of x y=of y x)(d:∀v a b,Jp es v a->Jp es v b->Cn (wo v) es a b->of v a=of v b){x y x' f:Nat}(h:Jp es x y)(h':Jp es x' f)(e:hd (lower num x y)=hd (lower num x' f)):of x y=of x' f:=by
 have key:∀{x y:Nat},Jp es x y->∃u,up (hd (lower num x y))=Z u/\of x y=of (hd (lower num x y)) u:=by
  intro x y h;have:=F.JD h;unfold lower;split
  .rename_i q;exact F.link H of c d (num x) x y (qL0 _) h q
  .obtain⟨u,g,h2⟩:=F.link H of c d (num y) y x (qL0 _) h.symm NH;exact hGr
 have⟨u,g,h2⟩:=key h;have⟨u',h3,i⟩:=key h';rw[<-e,g]at h3;injection h3 with h3;subst h3;rw[h2,i,e]
end Fo
theorem B6{n:Nat}{es:xLP}(a:InR n es):∀(v:Nat),v<n->∃h∈Es n es,Pu es h v:=by
 intro v
 induction v using Nat.strongRecOn with
 |ind v b=>
  intro c;by_cases q:∀u,u<v->¬Pu es u v
  .exact⟨v,(by grind[QO]),Pu.refl es v⟩
  grind[Cn.trans]
theorem rf{n:Nat}{es:xLP}{a b:Nat}(ha:a∈Es n es)(hb:b∈Es n es)(h:Pu es a b):a=b:=by grind[QO,Cn.symm]
theorem qD(n:Nat)(es:xLP):(Es n es).Nodup:=by grind[Es,nodup_range]
end Go.Fw
namespace Go.Fw
section
attribute [local irreducible] Kp MQ lU KO1 KO KN KX KE VK Kl ZJ TC aab
def mtB(p:Pr)(a b:Int):Bool:=(decide (p.1=a)&&decide (p.2=b))||(decide (p.1=b)&&decide (p.2=a))
theorem aoP(p:Pr)(a b:Int):mtB p a b=tT↔p=(a,b)\/p=(b,a):=by grind[mtB]
theorem RHas_any(H:abw)(v:vV)(n a b:Nat)(es:xLP)(h:aai)(hg:GR h v ⟨(n:Int),es⟩)(I:bX ⟨(n:Int),es⟩):AC pG H 99 [v,a,b] h fun x h'=>x=.bool (decide (Jp es a b))/\Le h h':=by
  have w:=hg
  obtain⟨ev,rfl,u⟩:=hg.open
  have J:es.length<=594:=I.len;refine AC.vF func99 ntmps99 results99 fun y=>?_;obtain⟨O,P,d,Q,-,K⟩:=r8 (n:=(n:Int)) y u
  generalize h.next=B at*
  refine Sk P ?_;refine lIn (fun k fr f=>∃j:Nat,k=es.length-j/\j<=es.length/\fr=mkF [(1,a),(2,b),(3,pT (Z B)),(7,.int .i64 j)]/\Le O f/\∀p∈es.take j,mtB p a b=fF) ⟨0,rfl,Z6 _,rfl,Le.refl _,Ma⟩ ?_;rintro k fr f z ⟨j,rfl,V,rfl,leq,m⟩;have o:=K f leq;have hlen:=fun g=>u.len g;simp only[HO,seval,Di,Ip,Gc,o.2.2,hlen];refine Kl.intro (fun L=>?_) (fun hf=>?_)
  · have i:j<es.length:=acb L
    clear L;have l:=CA i;have r:es.take (j+1)=es.take j++[es[j]]:=XJ i;generalize es[j]=p at l r;have ad:=u.addr (k:=.i64) j i;have ld:=(u.le (d.trans leq)).load l;have⟨R,M,e4,A,s,S,N⟩:=Ut z p
    generalize f.next=E at*
    have T:=lK N;have mb:=HY N;have C:=K M (leq.trans s);have c:=leq.trans s;cases d1:decide (p.1=(a:Int))<;>cases d2:decide (p.2=(b:Int))<;>cases d3:decide (p.1=(b:Int))<;>cases d4:decide (p.2=(a:Int))
    all_goals
      simp only[HO,seval,Di,Ip,Gc,o.2.2,ad,ld,e4,A,Dh,Z0,T,mb,d1,d2,d3,d4,aaa j NH]
      first
        | have D:mtB p a b=fF:=by simp only[mtB,d1,d2,d3,d4];rfl
          exact lgA NH ⟨j+1,rfl,i,rfl,c,fun q f=>by
            rw[r,aax,xD]at f;rcases f with f|rfl
            .exact m q f
            .exact D⟩
        | have D:mtB p a b=tT:=by simp only[mtB,d1,d2,d3,d4];rfl
          refine Sk C.1 ?_;refine kCi apZ (agd H (.agg #[n,ev]) ⟨(n:Int),es⟩ M (w.le (d.trans c))) ?_;rintro x W X ⟨⟨U,rfl,F⟩,l5⟩;obtain rfl:U=tT:=F.2 I;refine Uy ?_;have t:Jp es a b:=by
            rcases(aoP p a b).1 D with e|e
            .exact .inl (e▸BS l)
            .exact .inr (e▸BS l)
          exact⟨by rw[EL t],(d.trans c).trans l5⟩
  · have G:es.length<=j:=vp hf
    rw[HV G]at m;refine Uy ?_;refine⟨?_,d.trans leq⟩;rw[Sb];rintro(h|h)
    all_goals grind[aoP]
theorem ami(g:abw)(v:vV)(n s:Nat)(es:xLP)(h:aai)(hg:GR h v ⟨(n:Int),es⟩)(k:bX ⟨(n:Int),es⟩)(hs:s<n):AC pG g 62 [v,s] h fun x h'=>x=.int .i64 0/\Le h h':=by
 have a:=hg
 obtain⟨ev,rfl,l⟩:=hg.open
 refine AC.vF func62 ntmps62 results62 fun b=>?_;obtain⟨i,m,c,o,-,j⟩:=r8 (n:=(n:Int)) b l
 generalize h.next=B at*
 have d:=j i (Le.refl _);refine Sk (XC m d.1) ?_;refine kCi apZ (agd g _ _ i (a.le c)) ?_;rintro x h2 w2 ⟨⟨p,rfl,e⟩,l2⟩;obtain rfl:p=tT:=e.2 k;have f:=j h2 l2;have d1:decide ((s:Int)<0)=fF:=Sb NH;have d2:decide ((s:Int)>=(n:Int))=fF:=Sb NH;refine Sk (bG @Ii @Ip.eq_1 @Gc f.2.1 d1 @d2) ?_;grind[Le.trans]
variable {h:aai} {i:Nat} {xs:RZ}
theorem GI.store{v:vV}(g:GI h v xs)(a:WF h)(hi:i<xs.length)(x:Int):∃h',aaK pG h 3 (pT (Z (aaq v i))) x=Z h'/\GI h' v (xs.set i x)/\WF h'/\(∀f,Le f h->Z2 f v->Le f h')/\(∀b o,h.own b=Z o->blk v≠Z b->h'.own b=Z o):=by
 obtain⟨m,⟨rfl,n⟩|⟨id,c,cap,rfl,j,p,q⟩⟩:=g
 .omega
 .have k:xs.length<=c.length:=hGr;have st:=QB (P:=pG) (t:=3) (x:=x) Ac Ji j (off:=i) NH rfl rfl;refine⟨h.put id (.cells (c.set i x)),?_,⟨by simp[Bp],.inr ⟨id,_,cap,Ma,aai.Y3 _ _ _,?_,hGr⟩⟩,a.put _ (a.lt j),fun f l af=>l.put _ (af id rfl),fun b o hb d=>?_⟩
  .grind[fA,Ip]
  .grind[take_set,yy]
  .rw[aai.By _ _ _ _ (fun e=>d (by rw[e];rfl))];exact hb
variable {L:RZ} {es:List Pr} {n s:Nat}
def wgt(n:Nat)(x:Int):Nat:=if x<0 then n else x.toNat
def phi(n:Nat):RZ->Nat
 |[]=>0
 |x::r=>wgt n x+phi n r
def ank:RZ->Nat
 |[]=>0
 |x::r=>(if 0<=x then 1 else 0)+ank r
def aoQ(n:Nat):∀(L:RZ)(i:Nat)(x y:Int),L[i]?=Z x->phi n (L.set i y)+wgt n x=phi n L+wgt n y
 |[],i,x,y,h=>by simp at h
 |z::r,0,x,y,h=>by simp at h;subst h;simp only[aoF,phi];omega
 |z::r,i+1,x,y,h=>by have:=aoQ n r i x y (by simpa using h);simp only[List.set_cons_succ,phi];omega
def amX:∀(L:RZ)(i:Nat)(x y:Int),L[i]?=Z x->ank (L.set i y)+(if 0<=x then 1 else 0)=ank L+(if 0<=y then 1 else 0)
 |[],i,x,y,h=>by simp at h
 |z::r,0,x,y,h=>by simp at h;subst h;simp only[aoF,ank];omega
 |z::r,i+1,x,y,h=>by have:=amX r i x y (by simpa using h);simp only[List.set_cons_succ,ank];omega
theorem ams:∀(L:RZ),ank L<=L.length
 |[]=>qL0 _
 |x::r=>by have:=ams r;simp only[ank,Fu];split<;>omega
structure RA (n:Nat) (es:xLP) (s:Nat) (L:RZ):Prop where
 len:L.length=n
 bp:∀(v:Nat)(x:Int),L[v]?=Z x->-1<=x/\(0<=x->Pu es s v)
 bd:∀(v:Nat)(x:Int),L[v]?=Z x->x<(ank L:Int)
 at_:∃x,L[s]?=Z x/\0<=x
 s0:L[s]?=Z 0
 pre:∀(v:Nat)(x:Int),L[v]?=Z x->0<=x->(v=s/\x=0)\/∃(w:Nat)(y:Int),Jp es v w/\L[w]?=Z y/\0<=y/\y+1<=x
def afI(L:RZ)(a b:Nat):Bool:=decide (L.getD a 0>=0)&&(decide (L.getD b 0<0)||decide (L.getD b 0>L.getD a 0+1))
theorem RA.step{n:Nat}{es:xLP}{s:Nat}{L:RZ}(R:RA n es s L){a b:Nat}(ha:Jp es a b)(h:a<n)(i:b<n)(p:afI L a b=tT):RA n es s (L.set b (L.getD a 0+1))/\phi n (L.set b (L.getD a 0+1))<phi n L:=by
 have f:=CA (show a<L.length by rw[R.len];exact h);have d:=CA (show b<L.length by rw[R.len];exact i);rw[afI,D4 (by rw[R.len];exact h),D4 (by rw[R.len];exact i)]at p;rw[D4 (by rw[R.len];exact h)];generalize L[a]'(by rw[R.len];exact h)=x at*
 generalize L[b]'(by rw[R.len];exact i)=y at*
 simp only[rY,Dj,vg]at p;have⟨C,j⟩:=p;have o:=amX L b y (x+1) d;have r:=aoQ n L b y (x+1) d;have I:=R.bd a x f;have J:=R.bp b y d;have u:=ams L;have l:=ams (L.set b (x+1));rw[Q9,R.len]at l;rw[R.len]at u;have g:b<L.length:=by rw[R.len];exact i
 have A:b≠s:=fun e=>by have:=R.s0;rw[<-e,d]at this;injection this with this;omega
 have B:a≠b:=fun e=>by rw[e,d]at f;injection f with f;omega
 refine⟨⟨by simp[R.len],fun v z c=>?_,fun v z c=>?_,?_,by rw[Tn,abE A];exact R.s0,fun v z c k=>?_⟩,?_⟩
 .rw[Tn]at c;by_cases e:b=v
  .subst e;rw[abe rfl,abe g]at c;injection c with c;subst c;exact⟨NH,fun _=>((R.bp a x f).2 C).step ha rfl⟩
  .rw[abE e]at c;exact R.bp v z c
 .rw[Tn]at c;have F:ank L<=ank (L.set b (x+1)):=by
   split at o<;>split at o<;>omega
  by_cases e:b=v
  .subst e;rw[abe rfl,abe g]at c;injection c with c;subst c;rcases j with j|j
   .rw[abE NH,abe NH]at o;omega
   .have:=R.bd b y d;omega
  .rw[abE e]at c;have:=R.bd v z c;omega
 .obtain⟨z,c,k⟩:=R.at_;by_cases e:b=s
  .subst e;exact⟨x+1,by rw[Tn,abe rfl,abe g],NH⟩
  .exact⟨z,by rw[Tn,abE e];exact c,k⟩
 .rw[Tn]at c;by_cases e:b=v
  .rw[abe e,abe g]at c;injection c with c;subst c e;exact .inr ⟨a,x,ha.symm,by rw[Tn,abE (EH B)];exact f,C,Int.le_refl _⟩
  .rw[abE e]at c;rcases R.pre v z c k with q|⟨w,t,D,m,G,H⟩
   .exact .inl q
   .by_cases E:b=w
    .subst E;rw[d]at m;injection m with m;subst m;exact .inr ⟨b,x+1,D,by rw[Tn,abe rfl,abe g],NH,NH⟩
    .exact .inr ⟨w,t,D,by rw[Tn,abE E];exact m,G,H⟩
 .unfold wgt at r;rcases j with j|j
  .rw[abE (by omega:¬x+1<0),abe j]at r;rw[abE NH,abe NH]at o;omega
  .rw[abE (by omega:¬x+1<0),abE (by omega:¬y<0)]at r;omega
def amY(L:RZ)(p:Pr):Prop:=afI L p.1.toNat p.2.toNat=fF/\afI L p.2.toNat p.1.toNat=fF
theorem RA.fin(d:InR n es)(R:RA n es s L)(b:∀p∈es,amY L p)(v:Nat)(x:Int)(c:L[v]?=Z x):0<=x↔Pu es s v:=by
 refine⟨(R.bp v x c).2,fun h=>?_⟩;have key:∀w,Pu es s w->0<=L.getD w 0:=by
  intro w h
  induction h with
  |refl _=>have⟨z,e,f⟩:=R.at_;rw[V3,e];exact f
  |@step u w _ ha _ g=>
   have i:=(ha.lt d).1;have a:afI L u w=fF:=by
    rcases ha with ha|ha
    .have:=(b _ ha).1;simpa using this
    .have:=(b _ ha).2;simpa using this
   simp only[afI,Bool.and_eq_false_iff,Bool.or_eq_false_iff,ah9]at a;rcases a with h|h
   .exact absurd g h
   .omega
 have:=key v h;rw[V3,c]at this;exact this
theorem amZ(W0:abw)(v:vV)(n s:Nat)(es:xLP)(h:aai)(hg:GR h v ⟨(n:Int),es⟩)(hr:bX ⟨(n:Int),es⟩)(hs:s<n):
    AC pG W0 43 [v,s] h fun x h'=>∃dv L,x=.tuple #[dv,.int .i64 0]/\GI h' dv L/\L.length=n/\(∀(v:Nat)(x:Int),L[v]?=Z x->(0<=x↔Pu es s v))/\Le h h'/\Z2 h dv/\RA n es s L/\∀p∈es,amY L p:=by
  have a6:=hg
  obtain⟨ev,rfl,hp⟩:=hg.open
  have bm:(n:Int)<=200:=hr.n1;have bo:es.length<=594:=hr.len;have hR:=hr.GD;refine AC.vF func43 ntmps43 results43 fun a7=>?_;obtain⟨P,b1,aq,br,-,lA⟩:=r8 (n:=(n:Int)) a7 hp
  generalize h.next=B at*
  have a8:=lA P (Le.refl _);refine Sk (XC b1 a8.1) ?_;refine kCi func62 (ami W0 _ n s es P (a6.le aq) hr hs) ?_;rintro x h2 w2 ⟨rfl,l2⟩;have ba:Z2 P (.slice Y 0 0):=fun b hb=>by cases hb
  refine Sk @bne.eq_1.{0} ?_
  refine lIn (fun k fr hq=>∃(j:Nat)(uv:vV),k=n-j/\j<=n/\fr=mkF [(1,s),(2,pT (Z B)),(7,uv),(8,j)]/\GI hq uv (rP j (-1))/\Le P hq/\Z2 P uv) ⟨0,_,rfl,Z6 _,rfl,GI.nil _,l2,ba⟩ ?_;rintro k fr hq aA ⟨j,uv,rfl,hj,rfl,gu,leq,au⟩;have aJ:=lA hq leq;refine Sk (xU @Ii @Ip.eq_1 @Gc aJ.2.1) ?_;refine Kl.intro (fun ht=>?_) (fun hf=>?_)
  · have N:j<n:=acb ht
    clear ht;have⟨v',h4,h5,e4,E,g5,w5,l4,f5,k5⟩:=gu.push aA (-1) (by simp;omega);have⟨l5,a5⟩:=f5 P leq au;refine Sk (Yb e4 E (aaa j NH)) ?_;exact lgA NH ⟨j+1,v',rfl,N,rfl,by rw[qL235];exact g5,l5,a5⟩
  have aB:n<=j:=vp hf;obtain rfl:j=n:=NH;clear aB hf hj;have aK:=gu.rl.DH s (by simpa using hs);have⟨h3,st,aL,w3,f3,k3⟩:=gu.store aA (i:=s) hGr 0;have aN:=f3 P leq au;simp only[HO,seval,aK,st];have R0:RA j es s ((rP j (-1)).set s 0):=by
    have hg:∀(v:Nat)(x:Int),((rP j (-1:Int)).set s 0)[v]?=Z x->v=s/\x=0\/x=-1:=fun v x hx=>by grind
    have hc:=amX (rP j (-1)) s (-1) 0 hGr;rw[abE NH,abe NH]at hc;have aP:((rP j (-1:Int)).set s 0)[s]?=Z 0:=hGr;refine⟨Ma,fun v x hx=>?_,fun v x hx=>?_,⟨0,aP,NH⟩,aP,fun v x hx h0=>.inl ((hg v x hx).resolve_right NH)⟩
    all_goals grind[Pu.refl]
  refine lIn (fun k fr hz=>∃(f:Bool)(L:RZ),k=phi j L*2+cond f 1 0/\fr=mkF [(2,pT (Z B)),(7,uv),(9,.bool f)]/\GI hz uv L/\Le P hz/\RA j es s L/\(f=fF->∀p∈es,amY L p)) ⟨tT,_,rfl,rfl,aL,aN,R0,Ma⟩ ?_;clear R0 aN f3 k3 aL w3 st aK aJ gu leq aA;clear h3 hq;rintro k fr hz bb ⟨f,L,rfl,rfl,gl,aC,R,aD⟩;cases f with
  |false=>refine Uy ?_;exact⟨uv,L,rfl,gl,R.len,R.fin hR (aD rfl),aq.trans aC,fun b hb=>aq.none (au b hb),R,aD rfl⟩
  |true=>
  clear aD;refine Uy ?_;have aT:∀g,Le P g->PR g ev es:=fun g l=>hp.le (aq.trans l);refine lIn (fun k fr hw=>∃(i:Nat)(f:Bool)(m:RZ),k=es.length-i/\i<=es.length/\fr=mkF [(2,pT (Z B)),(7,uv),(9,.bool f),(10,.int .i64 i)]/\GI hw uv m/\Le P hw/\RA j es s m/\(f=tT->phi j m<phi j L)/\(f=fF->m=L/\∀p∈es.take i,amY L p)) ⟨0,fF,L,rfl,Z6 _,rfl,gl,aC,R,Ma,fun _=>⟨rfl,Ma⟩⟩ ?_;clear gl bb aC;clear hz;rintro k fr hw ar ⟨i,f,m,rfl,hi,rfl,gl,O,R',aV,aE⟩;have aW:=lA hw O;have hlen:=fun g=>hp.len g;simp only[HO,seval,Di,Ip,Gc,aW.2.2,hlen];refine Kl.intro (fun ht=>?_) (fun hf=>?_)
  rotate_left
  · have aB:es.length<=i:=vp hf
    rw[HV aB]at aE;refine Uy ?_;refine lgA ?_ ⟨f,m,rfl,rfl,gl,O,R',fun e=>?_⟩
    all_goals grind
  have N:i<es.length:=acb ht;clear ht;have av:=CA N;have aX:es.take (i+1)=es.take i++[es[i]]:=XJ N;have aa:=hR es[i] (aaf N);generalize es[i]=p at av aX aa;have bg:=hp.addr (k:=.i64) i N;have⟨a,c⟩:=p;simp only at aa;obtain⟨a,rfl⟩:=WA aa.1;obtain⟨c,rfl⟩:=WA (show 0<=c by omega);have F:a<j:=NH;have Q:c<j:=NH;have V:Jp es a c:=.inl (BS av);have l0:=(aT hw O).l0 av;have l1:=(aT hw O).l1 av;refine Uy ?_;refine gh (fRn 0 14 .done) ?_;simp only[Ip]at l0 l1;simp only[DF]at l0;refine CO (Pj @Di @Ip.eq_1 @Gc @DF aW.2.2 bg @Dh @Z0 l0 l1) ?_;have ay:∀(g:aai)(M:RZ)(x:Nat),GI g uv M->M.length=j->x<j->aao pG 47 uv (.int .i64 (x:Int))=Z (pT (Z (aaq uv x)))/\aaC pG g 3 (aaq uv x)=Z (.int .i64 (M.getD x 0)):=fun g M x gM hM hx=>by refine⟨gM.rl.DH x NH,?_⟩;rw[gM.rl.Uc x NH,D4 NH]
  have rd:∀(M:RZ),RA j es s M->∀x,x<j->M.getD x 0<4611686018427387904-1∧-1<=M.getD x 0:=fun M RM x hx=>by have hm:=CA (show x<M.length by grind[RA.len]);have P:=RM.bd x _ hm;have h2:=(RM.bp x _ hm).1;grind[ams,RA.len]
  have u:=ay hw m a gl R'.len F;have w:=ay hw m c gl R'.len Q;have bh:=rd m R' a F;have G:aaY .i64 (m.getD a 0+1)=m.getD a 0+1:=ie _ NH NH;have bj:afI m a c=(decide (m.getD a 0>=0)&&(decide (m.getD c 0<0)||decide (m.getD c 0>m.getD a 0+1))):=rfl;refine gh (fRn 0 24 .done) ?_;have ae:decide (m.getD a 0>=0)=fF\/(decide (m.getD a 0>=0)=tT/\decide (m.getD c 0<0)=tT)\/(decide (m.getD a 0>=0)=tT/\decide (m.getD c 0<0)=fF/\decide (m.getD c 0>m.getD a 0+1)=tT)\/(decide (m.getD a 0>=0)=tT/\decide (m.getD c 0<0)=fF/\decide (m.getD c 0>m.getD a 0+1)=fF):=hGr;rcases ae with d1|⟨d1,d2⟩|⟨d1,d2,d3⟩|⟨d1,d2,d3⟩
  focus
    have o:afI m a c=fF:=hGr;refine CO (bG u.1 u.2 w.1 w.2 d1 G) ?_;obtain⟨d,E⟩:∃q,q=m:=⟨_,rfl⟩;have C:=gl;have W:=R';have A:=O;have H:=ar;obtain⟨g1,X⟩:∃q,q=hw:=⟨_,rfl⟩;rw[<-E]at C W;rw[<-X]at C A H ⊢;have ag:d=m/\afI m a c=fF:=⟨E,o⟩;have S:phi j d<=phi j m:=hGr;clear E X;clear o
  rotate_left
  focus
    have o:afI m a c=tT:=hGr;obtain⟨g1,st,C,H,f5,-⟩:=gl.store ar (i:=c) (by grind[RA.len]) (m.getD a 0+1);have A:=f5 P O au;have⟨W,r⟩:=R'.step V F Q o;simp only[HO,seval,Qg,u.1,u.2,w.1,w.2,d1,d2,G,st];generalize T:m.set c (m.getD a 0+1)=d at*;have aF:phi j d<phi j m:=r;have S:phi j d<=phi j m:=alQ r;have az:True:=trivial;clear r T st f5;clear o
  rotate_left
  focus
    have o:afI m a c=tT:=hGr;obtain⟨g1,st,C,H,f5,-⟩:=gl.store ar (i:=c) (by grind[RA.len]) (m.getD a 0+1);have A:=f5 P O au;have⟨W,r⟩:=R'.step V F Q o;simp only[HO,seval,Qg,u.1,u.2,w.1,w.2,d1,d2,d3,G,st];generalize T:m.set c (m.getD a 0+1)=d at*;have aF:phi j d<phi j m:=r;have S:phi j d<=phi j m:=alQ r;have az:True:=trivial;clear r T st f5;clear o
  rotate_left
  focus
    have o:afI m a c=fF:=hGr;refine CO (adG u.1 u.2 w.1 w.2 d1 @d2 d3 G) ?_;obtain⟨d,E⟩:∃q,q=m:=⟨_,rfl⟩;have C:=gl;have W:=R';have A:=O;have H:=ar;obtain⟨g1,X⟩:∃q,q=hw:=⟨_,rfl⟩;rw[<-E]at C W;rw[<-X]at C A H ⊢;have ag:d=m/\afI m a c=fF:=⟨E,o⟩;have S:phi j d<=phi j m:=hGr;clear E X;clear o
  rotate_left
  all_goals
    have y:=ay g1 d c C W.len Q;have z:=ay g1 d a C W.len F;have bk:=rd d W c Q;have I:aaY .i64 (d.getD c 0+1)=d.getD c 0+1:=ie _ NH NH;have J:afI d c a=(decide (d.getD c 0>=0)&&(decide (d.getD a 0<0)||decide (d.getD a 0>d.getD c 0+1))):=rfl;refine gh (fRn 0 24 .done) ?_;have ai:decide (d.getD c 0>=0)=fF\/(decide (d.getD c 0>=0)=tT/\decide (d.getD a 0<0)=tT)\/(decide (d.getD c 0>=0)=tT/\decide (d.getD a 0<0)=fF/\decide (d.getD a 0>d.getD c 0+1)=tT)\/(decide (d.getD c 0>=0)=tT/\decide (d.getD a 0<0)=fF/\decide (d.getD a 0>d.getD c 0+1)=fF):=by
      cases decide (d.getD c 0>=0)<;>cases decide (d.getD a 0<0)<;>cases decide (d.getD a 0>d.getD c 0+1)<;>simp
    rcases ai with d1|⟨d1,d2⟩|⟨d1,d2,d3⟩|⟨d1,d2,d3⟩
    focus
      have t:afI d c a=fF:=by rw[J,d1];rfl
      refine CO (bG y.1 y.2 z.1 z.2 d1 I) ?_;obtain⟨L2,E⟩:∃q,q=d:=⟨_,rfl⟩;have K:=C;have R2:=W;have D:=A;have aj:=H;obtain⟨g2,X⟩:∃q,q=g1:=⟨_,rfl⟩;rw[<-E]at K R2;rw[<-X]at K D aj ⊢;have al:L2=d/\afI d c a=fF:=⟨E,t⟩;have U:phi j L2<=phi j d:=by rw[E];exact qL0 _
      clear E X;clear t
    rotate_left
    focus
      have t:afI d c a=tT:=by rw[J,d1,d2];rfl
      obtain⟨g2,st,K,aj,f5,-⟩:=C.store H (i:=a) (by rw[W.len];exact F) (d.getD c 0+1);have D:=f5 P A au;have⟨R2,r⟩:=W.step V.symm Q F t;simp only[HO,seval,Qg,y.1,y.2,z.1,z.2,d1,d2,I,st];generalize T:d.set a (d.getD c 0+1)=L2 at*;have aH:phi j L2<phi j d:=r;have U:phi j L2<=phi j d:=alQ r;have az:True:=trivial;clear r T st f5;clear t
    rotate_left
    focus
      have t:afI d c a=tT:=by rw[J,d1,d2,d3];rfl
      obtain⟨g2,st,K,aj,f5,-⟩:=C.store H (i:=a) (by rw[W.len];exact F) (d.getD c 0+1);have D:=f5 P A au;have⟨R2,r⟩:=W.step V.symm Q F t;simp only[HO,seval,Qg,y.1,y.2,z.1,z.2,d1,d2,d3,I,st];generalize T:d.set a (d.getD c 0+1)=L2 at*;have aH:phi j L2<phi j d:=r;have U:phi j L2<=phi j d:=alQ r;have az:True:=trivial;clear r T st f5;clear t
    rotate_left
    focus
      have t:afI d c a=fF:=by rw[J,d1,d2,d3];rfl
      refine CO (adG y.1 y.2 z.1 z.2 d1 @d2 d3 I) ?_;obtain⟨L2,E⟩:∃q,q=d:=⟨_,rfl⟩;have K:=C;have R2:=W;have D:=A;have aj:=H;obtain⟨g2,X⟩:∃q,q=g1:=⟨_,rfl⟩;rw[<-E]at K R2;rw[<-X]at K D aj ⊢;have al:L2=d/\afI d c a=fF:=⟨E,t⟩;have U:phi j L2<=phi j d:=by rw[E];exact qL0 _
      clear E X;clear t
    rotate_left
    all_goals
      refine Sk (aaa i NH) ?_;have P:phi j m<=phi j L:=by
        cases f with
        |true=>exact alQ (aV rfl)
        |false=>rw[(aE rfl).1];exact qL0 _
      first
        | clear az
          refine lgA NH ⟨i+1,tT,L2,rfl,N,rfl,K,D,R2,fun _=>?_,fun e=>by cases e⟩;omega
        | refine lgA NH ⟨i+1,f,L2,rfl,N,rfl,K,D,R2,fun e=>?_,fun e=>?_⟩
          · have h2:=aV e
            omega
          · have⟨e3,e4⟩:=aE e
            have⟨E,X⟩:=ag;have⟨e7,e8⟩:=al;refine⟨by rw[e7,E,e3],fun q hq=>?_⟩;rw[aX,aax,xD]at hq;rcases hq with hq|rfl
            .exact e4 q hq
            · rw[E]at e8;rw[e3]at X e8
              exact⟨by simpa using X,by simpa using e8⟩
def RAway_any(b:abw)(v:vV)(n s:Nat)(es:xLP)(h:aai)(hg:GR h v ⟨(n:Int),es⟩)(c:bX ⟨(n:Int),es⟩)(hs:s<n):
  AC pG b 43 [v,s] h fun x h'=>∃a L,x=.tuple #[a,.int .i64 0]/\GI h' a L/\L.length=n/\(∀(v:Nat)(x:Int),L[v]?=Z x->(0<=x↔Pu es s v))/\Le h h'/\Z2 h a:=
 (amZ b v n s es h hg c hs).mono fun x h' ⟨a,L,d,e,f,g,i,j,_⟩=>⟨a,L,d,e,f,g,i,j⟩
end
end Go.Fw
