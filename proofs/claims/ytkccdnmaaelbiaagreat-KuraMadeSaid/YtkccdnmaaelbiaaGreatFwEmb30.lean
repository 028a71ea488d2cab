/- A text. -/
import Derived.Test.YtkccdnmaaelbiaaGreatFwEmb21
set_option linter.all false
set_option maxRecDepth 99999
set_option maxHeartbeats 9999999
namespace Go.Fw
attribute [local instance] Classical.propDecidable
def sig (a b m:Nat) (d:H8):H8:=(d.1,if d.1=a then hh b m d.2 else if d.1=b then hh a m d.2 else d.2)
theorem sig_oth {a b m y z:Nat} (c1:y≠a) (c2:y≠b):sig a b m (y,z)=(y,z):=by grind [sig]
section
variable {n : Nat} {R : Nat → List Nat} {a b m : Nat}
theorem aak.Ui (S:aak n R a b m):aam R a b m a=(R a).map (hh b m):=by grind [aam,aak.ne]
theorem aak.at_b (S:aak n R a b m):aam R a b m b=(R b).map (hh a m):=by grind [aam,aak.ne]
theorem aak.at_m (S:aak n R a b m):aam R a b m m=[a,b]:=if_pos rfl
def aak.nxa (S:aak n R a b m) {x:Nat} (h:x∈R a):nx (aam R a b m a) (hh b m x)=hh b m (nx (R a) x):=by rw[S.Ui];exact HL (ac8 S.nm) h
def aak.nxb (S:aak n R a b m) {x:Nat} (h:x∈R b):nx (aam R a b m b) (hh a m x)=hh a m (nx (R b) x):=by rw[S.at_b];exact HL (ac8 S.nm) h
theorem acr (b m:Nat):hh b m b=m:=if_pos rfl
theorem aak.s1 (S:aak n R a b m):Nv (aam R a b m) (a,m)=(m,b)/\Nv (aam R a b m) (m,b)=sig a b m (Nv R (a,b))/\Nv (aam R a b m) (b,m)=(m,a)/\Nv (aam R a b m) (m,a)=sig a b m (Nv R (b,a)):=by
 obtain⟨d,_,_⟩:=S.ne;have c:=S.Rl.sy _ _ S.ab;refine⟨?_,?_,?_,?_⟩
 .grind [Nv.eq_1,aak.at_m,ss]
 .have := S.nxb c
  grind [acr,Nv.eq_1,sig]
 .grind [Nv.eq_1,aak.at_m,ss]
 .have := S.nxa S.ab
  grind [acr,Nv.eq_1,sig]
theorem aak.s2 (S:aak n R a b m) {d:H8} (hd:d∈dl n R) (n1:d≠(a,b)) (f:d≠(b,a)):Nv (aam R a b m) (sig a b m d)=sig a b m (Nv R d):=by
 obtain⟨x,y⟩:=d;have e:=(IP S.Rl).1 hd;have c:=S.Rl.sy _ _ e;have es:sig a b m (x,y)=(x,y):=by grind [sig,hh]
 rw[es,Nv];by_cases c1:y=a
 .subst c1
  have k:=S.nxa c
  grind [hh,Nv,sig]
 by_cases c2:y=b
 .subst c2
  have k:=S.nxb c
  grind [hh,Nv,sig]
 .have g : y ≠ m := by grind [aak.rm]
  have k:aam R a b m y=R y:=by grind [aam]
  show(y,nx (aam R a b m y) x)=sig a b m (y,nx (R y) x)
  grind [sig_oth]
theorem aak.orb (S:aak n R a b m):WD (Nv (aam R a b m)) (a,m) (m,a)↔WD (Nv R) (a,b) (b,a):=by
 obtain⟨t1,l,o,q⟩:=S.s1;have p:=TG S.Rl;have f:((a,b):H8)∈dl n R:=(IP S.Rl).2 S.ab;have sa:sig a b m (a,b)=(a,m):=by simp[sig,hh]
 have sb:sig a b m (b,a)=(b,m):=by grind [sig,hh]
 constructor
 .rintro ⟨k, i⟩
  have QI:∀k,∃d,WD (Nv R) (a,b) d/\(it (Nv (aam R a b m)) k (a,m)=sig a b m d\/(d=(a,b)/\it (Nv (aam R a b m)) k (a,m)=(m,b))\/(d=(b,a)/\it (Nv (aam R a b m)) k (a,m)=(m,a))):=fun k=>by
   induction k with
   |zero=>exact⟨(a,b),WD.refl _ _,.inl sa.symm⟩
   |succ k g=>
    obtain⟨d,c,h⟩:=g;have hd:d∈dl n R:=by obtain⟨j,rfl⟩:=c;grind [Pm.uN]
    have e:it (Nv (aam R a b m)) (k+1) (a,m)=Nv (aam R a b m) (it (Nv (aam R a b m)) k (a,m)):=rfl;rw[e];rcases h with h|⟨rfl,h⟩|⟨rfl,h⟩
    .by_cases c1 : d = (a, b)
     all_goals grind [WD.trans,WD.one,aak.s2]
    all_goals grind [WD.trans,WD.one]
  obtain⟨d,c,h⟩:=QI k;rw[i]at h;rcases h with h|⟨_,h⟩|⟨rfl,_⟩
  .have e := congrArg Prod.fst h
   have e:m=d.1:=e;have hd:d∈dl n R:=by obtain⟨j,rfl⟩:=c;grind [Pm.uN]
   grind [IP,aak.Rl,aak.rm]
  all_goals grind
 .intro c
  have step:∀d∈dl n R,WD (Nv (aam R a b m)) (sig a b m d) (sig a b m (Nv R d)):=fun d hd=>by
   by_cases c1:d=(a,b)
   .grind [WD.one,WD.trans]
   by_cases c2:d=(b,a)
   all_goals grind [WD.one,WD.trans,aak.s2]
  obtain⟨k,i⟩:=c;have all:∀k,WD (Nv (aam R a b m)) (a,m) (sig a b m (it (Nv R) k (a,b))):=fun k=>by
   induction k with
   |zero=>show WD _ _ (sig a b m (a,b));grind [WD.refl]
   |succ k g=>exact g.trans (step _ (p.uN f k))
  grind [WD.trans,WD.one]
theorem aak.flat (S:aak n R a b m):Flat n (aam R a b m)↔Flat n R:=by
 obtain⟨g,h2,h3⟩:=S.ne;have i:=S.Rl.sy _ _ S.ab;have R':=S.ae8;have j:m∈aam R a b m a:=by rw[S.Ui,HV];exact⟨b,S.ab,acr b m⟩
 have k:=pG R' h2;have f:∀{x y},y∈del (aam R a b m) a m x↔y∈aam R a b m x/\¬(x=a/\y=m)/\¬(x=m/\y=a):=by grind [JF]
 have l:m∈del (aam R a b m) a m b:=by grind [aak.at_b,acr]
 have p:del (del (aam R a b m) a m) b m=del R a b:=by
  funext x;unfold del;by_cases c1:x=a
  .subst c1
   rw[if_neg g,if_neg h2,if_pos rfl,if_pos rfl,S.Ui];exact abR (S.Rl.nd _) S.nm
  by_cases c2:x=b
  .subst c2
   rw[if_pos rfl,if_neg c1,if_neg h3,if_neg c1,if_pos rfl,S.at_b];exact abR (S.Rl.nd _) S.nm
  grind [aak.rm,aam]
 have d:∀{x y},y∈del R a b x↔y∈R x/\¬(x=a/\y=b)/\¬(x=b/\y=a):=fun{x y}=>JF S.Rl g;have u:∀y,y∈del (aam R a b m) a m m↔y=b:=by grind [aak.at_m]
 have aad:Flat n (del (aam R a b m) a m)↔Flat n (del R a b):=by
  have o:WD (Nv (del (aam R a b m) a m)) (b,m) (m,b):=⟨1,by
   show(m,nx (del (aam R a b m) a m m) b)=(m,b)
   grind [ZP]⟩
  have v:¬Cr (del (del (aam R a b m) a m) b m) b m:=fun c=>by
   rw[p]at c;cases c with
   |refl=>exact h3 rfl
   |step _ hs=>exact S.nm (d.1 hs).1
  grind [Lq,acy]
 have r:Cr (del (aam R a b m) a m) a m↔Cr (del R a b) a b:=by
  have back:∀y,Cr (del (aam R a b m) a m) a y->(y≠m->Cr (del R a b) a y)/\(y=m->Cr (del R a b) a b):=fun y c=>by
   induction c with
   |refl=>exact⟨fun _=>.refl _,pw⟩
   |@step x y _ hs s=>
    by_cases t:x=m
    .grind
    .by_cases w : y = m
     .have z := k.sy _ _ hs
      grind
     .refine ⟨fun _ => (s.1 t).step ?_, pw⟩
      grind [aak.mem]
  constructor
  .grind
  .intro c
   have up:Cr (del (aam R a b m) a m) a b:=c.mono fun x y h=>by
    have q:=d.1 h;refine f.2 ⟨S.mem.2 (.inl q),fun e=>?_,fun e=>?_⟩
    .rw[e.2]at q;exact S.nm q.1
    grind [aak.rm]
   exact up.step (by grind [V7.sy])
 grind [Lq,acy,aak.Rl,aak.ab,aak.orb]
end
end Go.Fw
namespace Go.Fw
attribute [local instance] Classical.propDecidable
section
variable {n : Nat} {E E' : Nat → List Nat} {a b m : Nat}
theorem XU.congr (h:∀v w,w∈E' v↔w∈E v):XU n E'↔XU n E:=by
 constructor
 .rintro⟨R,c,fl,d⟩;exact⟨R,c,fl,pw⟩
 .rintro⟨R,c,fl,d⟩;exact⟨R,c,fl,pw⟩
theorem XU.less (d:XU n E) (hs:∀v w,w∈E' v->w∈E v) (sy:∀v w,w∈E' v->v∈E' w):XU n E':=by
 obtain⟨R,c,fl,e⟩:=d;refine⟨Om (fun v w=>w∈E' v) R,OG c sy,fl.keep c sy,fun v w=>?_⟩
 grind [EM]
theorem hh_back {b m:Nat} {l:II} (hb:b∉l):(l.map (hh m b)).map (hh b m)=l:=by
 rw[KG];have:∀x∈l,(hh b m∘hh m b) x=x:=by grind [hh]
 rw[Uz this,List.map_id']
structure acz (n:Nat) (E E':Nat->II) (a b m:Nat):Prop where
 e:V7 n E
 e':V7 n E'
 ab:b∈E a
 em:E m=[]
 mn:m<n
 mem:∀v w,w∈E' v↔(w∈E v/\¬(v=a/\w=b)/\¬(v=b/\w=a))\/(v=m/\(w=a\/w=b))\/(w=m/\(v=a\/v=b))
theorem acz.wK (U:acz n E E' a b m):XU n E'↔XU n E:=by
 have k:a≠b:=fun e=>U.e.ir a (by grind [acz.ab]);have B:a≠m:=fun e=>by have:=U.ab;grind [acz.em]
 have C:=U.e.sy _ _ U.ab;have D:b≠m:=by grind [acz.em]
 have F:∀v,m∉E v:=fun v h=>by
  have:=U.e.sy _ _ h
  grind [acz.em]
 constructor
 .rintro ⟨R, g, fl, f⟩
  have hb:b∉R a:=fun h=>by
   rcases(U.mem _ _).1 ((f _ _).1 h)with q|q|q
   all_goals grind
  have ha:a∉R b:=by grind [V7.sy]
  have o:m∈R a:=(f _ _).2 ((U.mem _ _).2 pw);have p:m∈R b:=(f _ _).2 ((U.mem _ _).2 pw)
  let Q:Nat->II:=fun v=>if v=m then[]else if v=a then(R a).map (hh m b)else if v=b then(R b).map (hh m a)else R v
  have G:Q m=[]:=if_pos rfl;have H:Q a=(R a).map (hh m b):=pw;have I:Q b=(R b).map (hh m a):=pw;have z:∀v,v≠m->v≠a->v≠b->Q v=R v:=pw;have i:∀{v b w:Nat},b∉R v->m∈R v->(w∈(R v).map (hh m b)↔(w∈R v/\w≠m)\/w=b):=by grind [hh]
  have d:∀v w,w∈Q v↔w∈E v:=fun v w=>by
   by_cases c1:v=m
   .grind [acz.em]
   by_cases c2:v=a
   .subst c2
    rw[H,i hb o,f,U.mem]
    grind [acz.ab]
   by_cases l:v=b
   .subst l
    rw[I,i ha p,f,U.mem]
    grind
   .rw [z v c1 c2 l, f, U.mem]
    grind
  have A:∀{v b:Nat},b∉R v->((R v).map (hh m b)).Nodup:=fun{v b} h=>by
   rw[kc,Hs];exact ff (by grind [ac8]) (kc.1 (g.nd v))
  have j:V7 n Q:=by
   refine⟨fun v=>?_,fun v w h=>U.e.lt _ _ ((d v w).1 h),fun v w h=>(d w v).2 (U.e.sy _ _ ((d v w).1 h)),fun v h=>U.e.ir v ((d v v).1 h)⟩;by_cases c1:v=m
   .grind
   by_cases c2:v=a
   .grind
   by_cases l:v=b
   .grind
   .rw[z v c1 c2 l];exact g.nd v
  have S:aak n Q a b m:=⟨j,(d _ _).2 U.ab,G,U.mn⟩;have same:pP R (aam Q a b m):=fun v=>by
   unfold aam;by_cases c1:v=m
   .subst c1
    rw[if_pos rfl];have mm:∀y,y∈R v↔y=a\/y=b:=fun y=>by
     rw[f,U.mem,U.em]
     grind
    have r:=(mm a).2 (.inl rfl);obtain⟨c,s⟩:=Cyc.front r;have nd:=s.perm.nodup_iff.1 (g.nd v);have J:=ZZ (g.nd v) k mm;have pm:=(yR (g.nd v) (by simp[k]:[a,b].Nodup) pw).length_eq;have lc:c.length=1:=by have:=s.perm.length_eq;grind
    match c,lc with
    |[x],_=>
     have K:=(mm x).1 (s.perm.mem_iff.2 Ma)
     grind
   rw[if_neg c1];by_cases c2:v=a
   all_goals grind [hh_back,Cyc.refl]
  exact⟨Q,j,S.flat.1 ((same.flat g).1 fl),d⟩
 .rintro ⟨R, g, fl, f⟩
  have u:R m=[]:=Eh fun q=>by
   obtain⟨w,t,e⟩:=iy q;have:=(f m w).1 (by rw[e];simp)
   grind [acz.em]
  have S:aak n R a b m:=⟨g,(f _ _).2 U.ab,u,U.mn⟩;exact⟨aam R a b m,S.ae8,S.flat.2 fl,fun v w=>by rw[S.mem,U.mem,f]⟩
end
end Go.Fw
namespace Go.Fw
attribute [local instance] Classical.propDecidable
section
variable {n : Nat} {r : Nat → List Nat} {F : List (List Nat)}
theorem iso_on (n:Nat) (r:Nat->II):((List.range n).filter fun v=>decide (r v=[])).length+(kV n r).length=n:=by
 have QI:∀X:II,(X.filter fun v=>decide (r v=[])).length+(X.filter fun v=>decide (r v≠[])).length=X.length:=fun X=>by
  induction X<;>grind
 have:=QI (List.range n);rw[mg]at this;exact this
theorem cmps_on (R:V7 n r) (bp:∀v w,r v≠[]->r w≠[]->Cr r v w) (ne:∃v,v<n/\r v≠[]):iJ n r=((List.range n).filter fun v=>decide (r v=[])).length+1:=by
 obtain⟨d,g,i⟩:=ne;unfold iJ;have iso:∀{v w},r v=[]->Cr r v w->v=w:=fun{v w} h c=>by
  induction c<;>grind
 have k1:∀y∈((List.range n).filter fun v=>decide (r v=[]))++[d],y∈List.range n:=pw;have k2:(((List.range n).filter fun v=>decide (r v=[]))++[d]).Pairwise fun a b=>¬Cr r a b:=by
  rw[Ah];refine⟨?_,Ma,fun x f y k c=>?_⟩
  .refine ff (R := fun x y => x ≠ y) (fun {x y} f _ e c => e ?_) (by grind [List.nodup_range])
   grind
  grind
 have j:∀x∈List.range n,∃y∈((List.range n).filter fun v=>decide (r v=[]))++[d],Cr r x y:=fun x f=>by
  by_cases h:r x=[]
  .exact⟨x,(by grind [decide_eq_true]),.refl _⟩
  grind
 rw[qo (Cr.eqv R _) Tn k1 k2 j];simp
theorem flat_on (R:V7 n r) (hf:Flat n r) (bp:∀v w,r v≠[]->r w≠[]->Cr r v w) (ne:∃v,v<n/\r v≠[]):2*((kV n r).length+cls (WD (Nv r)) (dl n r))=(dl n r).length+4:=by grind [iso_on,cmps_on,Flat,mj]
theorem Oz (h3:3<=(kV n r).length) (v w:Nat):∃x,x<n/\r x≠[]/\x≠v/\x≠w:=by
 have nd:(kV n r).Nodup:=Tn.sublist xD;have d:∀x∈kV n r,x<n/\r x≠[]:=fun x e=>⟨uV.1 (VU.1 e).1,of_decide_eq_true (VU.1 e).2⟩;generalize kV n r=L at h3 nd d
 match L,h3 with
 |a::b::c::t,_=>
  have ha:=d a Ma;have hb:=d b Ma;have f:=d c Ma
  grind
theorem qh (R:V7 n r) (D:QG r) (h3:3<=(kV n r).length) {d:H8} (hd:d∈dl n r):3<=bt (Nv r) d/\(bt (Nv r) d=3->∃x y z,y∈r x/\z∈r y/\x∈r z):=by
 have p:=TG R;obtain⟨j,f,_⟩:=aaI p hd;have g:=Sg R hd;have m0:=(IP R).1 hd;have m1:=(IP R).1 (p.uN hd 1);have m2:=(IP R).1 (p.uN hd 2);obtain⟨v,w⟩:=d;obtain⟨x,k,a,x1,h⟩:=Oz h3 v w;have i:v≠w:=by grind [V7.ir]
 constructor
 .refine Nat.lt_of_le_of_ne g fun e => ?_
  rw[<-e]at f;have b:(nx (r w) v,nx (r (nx (r w) v)) w)=((v,w):H8):=f;injection b with b _;have c:v∈r w:=R.sy _ _ m0;exact D.deg ((Bk (R.nd w) c).1 b) a h x1 (fj i)
 grind [it,Nv]
theorem LR (R:V7 n r) (hf:Flat n r) (D:QG r) (h3:3<=(kV n r).length):(dl n r).length+12<=6*(kV n r).length/\((∀x y z,y∈r x->z∈r y->x∉r z)->(dl n r).length+8<=4*(kV n r).length):=by
 obtain⟨x,b,a,_⟩:=Oz h3 0 0;have e:=flat_on R hf D.bp ⟨x,b,a⟩;constructor
 .have := Gj R (k := 3) (by grind [qh])
  omega
 .intro c
  have:=Gj R (k:=4) (by grind [qh]);omega
theorem XU.bound {E:Nat->II} (d:V7 n E) (D:QG E) (h3:3<=(kV n E).length) (a:XU n E):(dl n E).length+12<=6*(kV n E).length/\((∀x y z,y∈E x->z∈E y->x∉E z)->(dl n E).length+8<=4*(kV n E).length):=by
 obtain⟨R,b,fl,c⟩:=a;have e:kV n R=kV n E:=by
  refine qH fun v _=>?_;have:R v=[]↔E v=[]:=by
   rw[Lm,Lm]
   grind
  grind
 have f:(dl n R).length=(dl n E).length:=by grind [J8,IP,List.Perm.length_eq]
 have:=LR b fl (D.same c) pw
 grind
end
end Go.Fw
namespace Go.Fw
section
attribute [local instance] Classical.propDecidable
variable {l:II} {m n v w x:Nat}
theorem xT {E:Nat->II} (h:∀v,m<=v->E v=[]) (k:Nat):dl (m+k) E=dl m E/\kV (m+k) E=kV m E:=by
 have e:List.range (m+k)=List.range m++(List.range k).map (m+·):=List.range_add;constructor
 .grind [dl,List.flatMap_eq_nil_iff]
 grind [kV,filter_none]
def Hr (v:Nat):II:=if v<5 then(List.range 5).filter fun w=>w !=v else[]
def pT (v:Nat):II:=if v<3 then[3,4,5]else if v<6 then[0,1,2]else[]
theorem pZ:w∈Hr v↔v<5/\w<5/\w≠v:=by grind [Hr]
theorem Vb:w∈pT v↔(v<3/\3<=w/\w<6)\/(3<=v/\v<6/\w<3):=by grind [pT]
theorem Ce (h:x∈l):l≠[]:=fun e=>by grind
def WB (h:l≠[]):∃x,x∈l:=by
 obtain⟨x,t,e⟩:=iy h;exact⟨x,by rw[e];simp⟩
theorem afQ (b:5<=n):¬XU n Hr:=fun d=>by
 have lt:∀{v},Hr v≠[]->v<5:=fun h=>by obtain⟨x,f⟩:=WB h;grind [pZ]
 have R:V7 n Hr:=by
  refine⟨fun v=>?_,fun v w h=>?_,fun v w h=>?_,fun v h=>?_⟩
  all_goals grind [Hr,List.filter_sublist]
 have D:QG Hr:=by
  refine⟨fun v w a hw=>?_,fun c v w g h2 a hw=>?_⟩
  .by_cases e : w = v
   .rw[e];exact .refl _
   grind [Cr.one,pZ]
  .by_cases e : w = v
   .rw[e];exact .refl _
   grind [Cr.one,EM,pZ]
 have off:∀v,5<=v->Hr v=[]:=pw;obtain⟨k,rfl⟩:=Gp b;obtain⟨i,j⟩:=xT off k;have l1:(dl 5 Hr).length=20:=by decide
 have l2:(kV 5 Hr).length=5:=by
  have:kV 5 Hr=List.range 5:=aa3.2 fun v a=>by
   have a:=uV.1 a
   refine decide_eq_true (Ce (x:=if v=0 then 1 else 0) (pZ.2 ⟨a,?_,?_⟩))
   all_goals grind
  grind
 have:=(d.bound R D pw).1
 grind
theorem afR (f:6<=n):¬XU n pT:=fun g=>by
 have lt:∀{v},pT v≠[]->v<6:=fun h=>by obtain⟨x,i⟩:=WB h;grind [Vb]
 have R:V7 n pT:=by
  refine⟨fun v=>?_,fun v w h=>?_,fun v w h=>?_,fun v h=>?_⟩
  all_goals grind [pT]
 have D:QG pT:=by
  have two:∀c v w,v≠c->w≠c->v<6->w<6->Cr (Om (fun x y=>x≠c/\y≠c) pT) v w:=fun c v w d h2 e hw=>by
   have UQ:∀{x y},x≠c->y≠c->((x<3/\3<=y/\y<6)\/(3<=x/\x<6/\y<3))->Cr (Om (fun x y=>x≠c/\y≠c) pT) x y:=by grind [Cr.one,EM,Vb]
   by_cases a:v<3
   .by_cases b : w < 3
    .by_cases z : c = 3
     .exact(UQ (y:=4) d NH NH).trans pw
     .exact(UQ (y:=3) d NH NH).trans pw
    grind
   .by_cases b : w < 3
    .grind
    .by_cases z : c = 0
     .exact(UQ (y:=1) d NH NH).trans pw
     .exact(UQ (y:=0) d NH NH).trans pw
  refine⟨fun v w e hw=>?_,fun c v w d h2 e hw=>two c v w d h2 (lt e) (lt hw)⟩;have a:=lt e;have b:=lt hw;exact(two 6 v w NH NH a b).mono (by grind [EM])
 have off:∀v,6<=v->pT v=[]:=pw;obtain⟨k,rfl⟩:=Gp f;obtain⟨j,l⟩:=xT off k;have l1:(dl 6 pT).length=18:=by decide
 have l2:(kV 6 pT).length=6:=by grind [kV,pT,List.filter_eq_self]
 have:=(g.bound R D pw).2 (by grind [Vb])
 grind
end
end Go.Fw
namespace Go.Fw
attribute [local instance] Classical.propDecidable
structure Ren (n:Nat) (p q:Nat->Nat):Prop where
 pl:∀v,v<n->p v<n
 ql:∀v,v<n->q v<n
 pq:∀v,v<n->p (q v)=v
 qp:∀v,v<n->q (p v)=v
def uH (n:Nat) (p q:Nat->Nat) (r:Nat->II) (w:Nat):II:=if w<n then(r (q w)).map p else[]
def pp (p:Nat->Nat) (d:H8):H8:=(p d.1,p d.2)
section
variable {n : Nat} {p q : Nat → Nat} {r : Nat → List Nat}
theorem Ren.inj (N:Ren n p q) {x y:Nat} (a:x<n) (b:y<n) (e:p x=p y):x=y:=by grind [Ren.qp]
theorem KB (N:Ren n p q) {v:Nat} (a:v<n):uH n p q r (p v)=(r v).map p:=by grind [uH,Ren.pl,Ren.qp]
def rlt (R:V7 n r) {v w:Nat} (h:w∈r v):v<n/\w<n:=⟨R.lt _ _ h,R.lt _ _ (R.sy _ _ h)⟩
theorem uX (N:Ren n p q) (R:V7 n r) {v w:Nat}:w∈uH n p q r v↔v<n/\w<n/\q w∈r (q v):=by
 unfold uH;by_cases c:v<n
 .rw [if_pos c, HV]
  constructor
  .rintro ⟨x, a, rfl⟩
   have:=(rlt R a).2
   grind [Ren.pl,Ren.qp]
  grind [Ren.pq]
 grind
theorem aeK (N:Ren n p q) (R:V7 n r):V7 n (uH n p q r):=by
 refine⟨fun v=>?_,(by grind [uX]),fun v w h=>?_,(by grind [V7.ir,uX])⟩
 .unfold uH
  split
  .rw [kc, Hs]
   exact ff (fun{x y} b c a e=>a (N.inj (rlt R b).2 (rlt R c).2 e)) (kc.1 (R.nd _))
  .simp
 grind [uX,V7.sy]
def ren_phi (N:Ren n p q) (R:V7 n r) {d:H8} (hd:d∈dl n r):Nv (uH n p q r) (pp p d)=pp p (Nv r d):=by
 have a:=(IP R).1 hd;have hs:=R.sy _ _ a;show(p d.2,nx (uH n p q r (p d.2)) (p d.1))=(p d.2,p (nx (r d.2) d.1));rw[KB N (rlt R a).2,HL (fun x b y c e=>N.inj (rlt R b).2 (rlt R c).2 e) hs]
def XS (N:Ren n p q) (R:V7 n r) {d:H8} (hd:d∈dl n r):∀k,it (Nv (uH n p q r)) k (pp p d)=pp p (it (Nv r) k d)
 |0=>rfl
 |k+1=>by
  show Nv (uH n p q r) (it (Nv (uH n p q r)) k (pp p d))=_;rw[XS N R hd k,ren_phi N R ((TG R).uN hd k)];rfl
theorem Oq (N:Ren n p q) (R:V7 n r) {d e:H8} (hd:d∈dl n r) (a:e∈dl n r) (h:pp p d=pp p e):d=e:=by
 have b:=rlt R ((IP R).1 hd);have h2:=rlt R ((IP R).1 a);injection h with k1 k2
 grind [Ren.inj]
theorem ren_cr (N:Ren n p q) (R:V7 n r) {x y:Nat} (b:x<n) (d:y<n):Cr (uH n p q r) (p x) (p y)↔Cr r x y:=by
 constructor
 .have QI:∀z,Cr (uH n p q r) (p x) z->Cr r x (q z):=fun z c=>by
   induction c with
   |refl=>rw[N.qp x b];exact .refl _
   |step _ hs a=>exact a.step (by grind [uX])
  grind [Ren.qp]
 .intro h
  clear d
  induction h with
  |refl=>exact .refl _
  |step _ hs a=>
   have k:=rlt R hs;exact a.step (by grind [uX,Ren.pl,Ren.qp])
theorem afS (N:Ren n p q) (R:V7 n r):Flat n (uH n p q r)↔Flat n r:=by
 have R':=aeK N R;have a:(List.range n).Perm ((List.range n).map p):=by
  refine yR Tn ?_ fun v=>?_
  .grind [List.Pairwise.imp_of_mem,Ren.inj,List.nodup_range]
  .all_goals grind [Ren.ql,Ren.pq,Ren.pl]
 have b:(dl n (uH n p q r)).Perm ((dl n r).map (pp p)):=by
  refine yR (J8 R') ?_ fun d=>?_
  .rw [kc, Hs]
   exact ff (fun{x y} i j c e=>c (Oq N R i j e)) (kc.1 (J8 R))
  .rw [IP R', uX N R, HV]
   constructor
   .rintro ⟨l, h2, h3⟩
    exact⟨(q d.1,q d.2),(IP R).2 h3,by show(p (q d.1),p (q d.2))=d;grind [Ren.pq]⟩
   .rintro ⟨e, f, rfl⟩
    have h:=(IP R).1 f;have k:=rlt R h;refine⟨N.pl _ k.1,N.pl _ k.2,?_⟩;show q (p e.2)∈r (q (p e.1))
    grind [Ren.qp]
 have m:(dl n (uH n p q r)).length=(dl n r).length:=by rw[b.length_eq,eR]
 have o:cls (WD (Nv (uH n p q r))) (dl n (uH n p q r))=cls (WD (Nv r)) (dl n r):=by
  rw[Yy b (TG R').eqv,Zx];refine IZ fun d hd e f=>?_;constructor
  .rintro ⟨k, g⟩
   rw[XS N R hd k]at g;exact⟨k,Oq N R ((TG R).uN hd k) f g⟩
  .rintro ⟨k, rfl⟩
   exact⟨k,XS N R hd k⟩
 have e3:((List.range n).filter fun v=>decide (uH n p q r v=[])).length=((List.range n).filter fun v=>decide (r v=[])).length:=by
  rw[(a.filter _).length_eq,agf,eR];refine congrArg List.length (qH fun v s=>?_)
  grind [KB,List.map_eq_nil_iff]
 have e4:iJ n (uH n p q r)=iJ n r:=by
  unfold iJ;rw[Yy a (Cr.eqv R' _),Zx];exact IZ (by grind [ren_cr])
 grind [Flat,mj]
theorem XU.ren (N:Ren n p q) {E E':Nat->II} (h:∀v w,w∈E' v↔v<n/\w<n/\q w∈E (q v)) (b:XU n E):XU n E':=by
 obtain⟨R,a,fl,c⟩:=b;exact⟨uH n p q R,aeK N a,(afS N a).2 fl,(by grind [uX])⟩
end
end Go.Fw
namespace Go.Fw
attribute [local instance] Classical.propDecidable
def jJ (R:Nat->II) (H:Nat->Nat->Prop) (v w x y:Nat):Prop:=
 (v=x/\w=y)\/(v=y/\w=x)\/∃a b,(a=v\/a=w)/\(b=x\/b=y)/\off R H a/\off R H b/\Cr (Mm R H) a b
section
variable {n : Nat} {R : Nat → List Nat} {H H' : Nat → Nat → Prop}
def IV (d:V7 n R) {v w a:Nat} (hw:w∈R v) (ha:a=v\/a=w) (c:off R H a):QI R H v w=(0,lo R H a,0):=by
 rcases ha with rfl|rfl
 .exact M6 c
 .rw[RX d hw];exact M6 c
theorem Uu (f:V7 n R) {v w x y:Nat} (hw:w∈R v) (i:y∈R x):QI R H v w=QI R H x y↔jJ R H v w x y:=by
 constructor
 .intro e
  have d:∀{v w:Nat},(∃a,(a=v\/a=w)/\off R H a)\/(¬off R H v/\¬off R H w):=fun{v w}=>by
   by_cases c1:off R H v
   .exact pw
   by_cases c2:off R H w
   .exact pw
   .exact .inr ⟨c1,c2⟩
  rcases d (v:=v) (w:=w)with⟨a,ha,h⟩|⟨c1,c2⟩
  .rw [IV f hw ha h] at e
   rcases d (v:=x) (w:=y)with⟨b,hb,g⟩|⟨j,k⟩
   .rw [IV f i hb g] at e
    have l:lo R H a=lo R H b:=by injection e with _ e;injection e
    exact .inr (.inr ⟨a,b,ha,hb,h,g,(fX f).1 l⟩)
   .rw [rj j k] at e
    have:=congrArg Prod.fst e;simp at this
  .rw [rj c1 c2] at e
   rcases d (v:=x) (w:=y)with⟨b,hb,g⟩|⟨j,k⟩
   .rw [IV f i hb g] at e
    have:=congrArg Prod.fst e;simp at this
   .rw [rj j k] at e
    injection e with _ e;injection e with l m;by_cases q:v=x
    .exact .inl ⟨q,NH⟩
    .exact .inr pw
 .rintro (⟨rfl, rfl⟩ | ⟨rfl, rfl⟩ | ⟨a, b, ha, hb, h, g, c⟩)
  .rfl
  .exact RX f hw
  .rw[IV f hw ha h,IV f i hb g,(fX f).2 c]
theorem abz (c:∀x y,H x y->H' x y) {v:Nat} (h:off R H' v):off R H v:=fun w hw q=>h w hw (c _ _ q)
theorem uf (c:∀x y,H x y->H' x y) {v w:Nat} (h:w∈Mm R H' v):w∈Mm R H v:=by
 obtain⟨d,h2,h3⟩:=EM.1 h;exact EM.2 (by grind [abz])
theorem jJ.mono (d:∀x y,H x y->H' x y) {v w x y:Nat} (h:jJ R H' v w x y):jJ R H v w x y:=by
 rcases h with h|h|⟨a,b,ha,hb,e,f,c⟩
 .exact .inl h
 .exact .inr (.inl h)
 .exact .inr (.inr ⟨a,b,ha,hb,abz d e,abz d f,c.mono fun v w=>uf d⟩)
theorem jJ.symm (d:V7 n R) {v w x y:Nat} (h:jJ R H v w x y):jJ R H x y v w:=by
 rcases h with⟨e,h2⟩|⟨e,h2⟩|⟨a,b,ha,hb,f,g,c⟩
 .exact .inl pw
 .exact .inr pw
 .exact .inr (.inr ⟨b,a,hb,ha,g,f,c.symm (QM d)⟩)
variable {a b : Nat} {inn : List Nat}
abbrev XZ (H:Nat->Nat->Prop) (a:Nat) (inn:II) (b:Nat):Nat->Nat->Prop:=fun x y=>H x y\/Ay a inn b x y
def OH {x y:Nat} (h:H x y):XZ H a inn b x y:=.inl h
theorem Ka.chain (W:Ka R H a inn b):∀(i x y:Nat),inn[0]?=some x->inn[i]?=some y->Cr (Mm R H) x y
 |0,x,y,c,h2=>by rw[c]at h2;injection h2 with h2;subst h2;exact .refl _
 |i+1,x,y,c,h2=>by
  have l:=(Ny.1 h2).1;have d:inn[i]?=some (inn[i]'(by omega)):=XJ NH
  have h:=W.chain i x _ c d;have g:∀(j z:Nat),inn[j]?=some z->(nr a inn b)[j+1]?=some z:=fun j z f=>by
   have k:=(Ny.1 f).1;show(a::(inn++[b]))[j+1]?=some z;rw[BR,fR k];exact f
  have e:=W.UQ (i+1) _ _ (g i _ d) (g (i+1) _ h2);exact h.step (EM.2 ⟨e.1,W.off _ (Gc d),W.off _ (Gc h2)⟩)
def Ka.QC (W:Ka R H a inn b) (d:V7 n R) (hs:∀v w,H v w->H w v) {v:Nat} (f:v∈inn):QI R H a ((inn++[b]).headD 0)=(0,lo R H v,0):=by
 cases hi:inn with
 |nil=>rw[hi]at f;cases f
 |cons c t=>
  have h:c∈inn:=by rw[hi];simp
  have e:((c::t++[b]):II).headD 0=c:=rfl;rw[e];have j:c∈R a:=by have:=(W.fst d hs).1;rw[hi]at this;exact this
  rw[IV d j (.inr rfl) (W.off c h)];obtain⟨i,g⟩:=yM.1 f;rw[(fX d).2 (W.chain i c v (by rw[hi];rfl) g)]
theorem Ka.PW (W:Ka R H a inn b) (c:V7 n R) (hs:∀v w,H v w->H w v) {x y:Nat} (h:Ay a inn b x y):QI R H x y=QI R H a ((inn++[b]).headD 0):=by
 have d:=W.wE c hs h;by_cases f:x∈inn
 .rw[W.QC c hs f];exact IV c d.1 (.inl rfl) (W.off x f)
 by_cases cy:y∈inn
 .rw[W.QC c hs cy];exact IV c d.1 (.inr rfl) (W.off y cy)
 have g:=dC h;have i:=dC (Ef h);have ne:x≠y:=by grind [V7.ir]
 rcases g with rfl|rfl|g
 .rw[W.Fp.1 h]
 .have e := d.1
  rcases i with rfl|rfl|i
  .rw[RX c e];exact(by grind [Ka.Fp,Ef])
  .exact absurd rfl ne
  .exact absurd i cy
 .exact absurd g f
theorem yw (W:Ka R H a inn b) (k:V7 n R) {v:Nat}:off R (XZ H a inn b) v↔off R H v/\v∉inn:=by
 constructor
 .intro h
  refine⟨by grind [abz],fun f=>?_⟩;obtain⟨i,p,g,j⟩:=qm (a:=a) (b:=b) (.inr f);exact h p (by grind [V7.sy,Ka.UQ]) (.inr (.inr ⟨i,g,j⟩))
 .rintro ⟨c, h2⟩ w hw (q | q)
  .exact c w hw q
  .rcases dC q with rfl | rfl | q
   .obtain⟨z,d,e⟩:=W.ona;exact c z d e
   .obtain⟨z,d,e⟩:=W.sN;exact c z d e
   .exact h2 q
theorem jJ.keep (W:Ka R H a inn b) (f:V7 n R) (hs:∀v w,H v w->H w v) {v w x y:Nat} (hw:w∈R v) (m:QI R H v w≠QI R H a ((inn++[b]).headD 0)) (h:jJ R H v w x y):jJ R (XZ H a inn b) v w x y:=by
 rcases h with h|h|⟨c,d,j,hd,k,s,q⟩
 .exact .inl h
 .exact .inr (.inl h)
 have g:∀z,Cr (Mm R H) c z->z∉inn:=fun z i o=>m (by rw[IV f hw j k,W.QC f hs o,(fX f).2 i]);have main:∀z,Cr (Mm R H) c z->off R (XZ H a inn b) z->Cr (Mm R (XZ H a inn b)) c z:=fun z i=>by
  induction i with
  |refl=>exact fun _=>.refl _
  |@step y z t h2 p=>
   intro r;obtain⟨m1,m2,_⟩:=EM.1 h2;have l:off R (XZ H a inn b) y:=by grind [yw]
   exact(p l).step (EM.2 ⟨m1,l,r⟩)
 have e:off R (XZ H a inn b) d:=by grind [yw]
 exact .inr (.inr ⟨c,d,j,hd,(yw W f).2 ⟨k,g _ (.refl _)⟩,e,main d q e⟩)
end
end Go.Fw
namespace Go.Fw
attribute [local instance] Classical.propDecidable
section
variable {n : Nat} {R : Nat → List Nat} {H : Nat → Nat → Prop} {F G : List (List Nat)}
theorem JY (a:V7 n R) (hs:∀v w,H v w->H w v) (D:QG R) (h2:∃p q,p≠q/\¬off R H p/\¬off R H q):
  (∀u x,QP R H u x->∃z y,QP R H z y/\u≠z/\QI R H u x=QI R H z y)/\∀v w,w∈R v->¬H v w->∃u x,QP R H u x/\QI R H v w=QI R H u x:=by
 obtain⟨p,q,s,m,I⟩:=h2;have g:∀{v w},w∈R v->R v≠[]:=pw;have A:∀{v},¬off R H v->R v≠[]:=by grind [Q7]
 have mk:∀{r:Nat->II} {v w:Nat},(∀v w,w∈r v->w∈R v)->Cr r v w->off R H v->¬off R H w->∃u x,QP R H u x/\QI R H u x=(0,lo R H v,0)/\x∈R u/\u∈r x:=fun{r v w} sub i B hw=>by
  rcases tq a sub i B with h|⟨y,z,j,h2,h3,d⟩
  .exact absurd h.2 hw
  .have o := a.sy _ _ (sub _ _ d)
   exact⟨z,y,⟨h3,o,fun k=>h2 z (sub _ _ d) (hs _ _ k)⟩,by rw[Jn h3 h2,(fX a).2 j],o,d⟩
 refine⟨fun u x f=>?_,fun v w hw C=>?_⟩
 .by_cases c : off R H x
  .have:∃t,t≠u/\¬off R H t:=by
    by_cases e:p=u
    .exact pw
    .exact⟨p,e,m⟩
   obtain⟨t,E,b⟩:=this;have l:x≠u:=by grind [QP.on]
   have i:=D.Z7 u x t l E (g (a.sy _ _ f.mem)) (A b);obtain⟨z,y,j,h2,_,d⟩:=mk (by grind [EM]) i c b;exact(by grind [EM,Jn,QP.on])
  .exact⟨x,u,⟨c,a.sy _ _ f.mem,(by grind [QP.nh])⟩,fun e=>a.ir u (e▸f.mem),RX a f.mem⟩
 .by_cases c : off R H v
  .obtain ⟨z, y, j, h2, _⟩ := mk (fun _ _ h => h) (by grind [QG.bp]) c m
   exact(by grind [M6])
  .exact⟨v,w,⟨c,hw,C⟩,rfl⟩
theorem vy.perm (g:vy n R F) (h:F.Perm G):vy n R G:=
 ⟨g.Rl,g.O.perm h,g.bp,by have:=g.num;unfold Num at this ⊢;rw[<-h.length_eq];exact this,(by grind [vy.ne,List.Perm.eq_nil])⟩
theorem Ctx.perm (C:Ctx n R H F) (h:F.Perm G):Ctx n R H G:=⟨C.Rl,C.sym,C.fl,C.O.perm h,C.bp⟩
theorem PU.perm {E:Nat->II} (I:PU n E H F) (h:F.Perm G):PU n E H G:=
 ⟨I.sub,by obtain⟨r,g,a⟩:=I.XK;exact⟨r,g.perm h,a⟩,fun q=>by obtain⟨R,b,h2⟩:=I.full q;exact⟨R,b,h2.perm h⟩⟩
def PU.sym {E:Nat->II} (I:PU n E H F):∀v w,H v w->H w v:=fun v w h=>by
 obtain⟨r,g,a⟩:=I.XK;exact(a _ _).1 (g.Rl.sy _ _ ((a _ _).2 h))
def PU.on_face {E:Nat->II} (I:PU n E H F) {f:II} (hf:f∈F) {u:Nat} (b:u∈f):¬off E H u:=fun q=>by
 obtain⟨r,g,c⟩:=I.XK;have a:=(c _ _).1 (g.O.df g.Rl hf b);exact q _ (I.sub _ _ a) a
def PU.O0 {E:Nat->II} (I:PU n E H F) {f:II} (hf:f∈F):f.Nodup/\∀u∈f,u<n:=by
 obtain⟨r,g,b⟩:=I.XK;exact⟨g.O.nd f hf,fun u a=>g.Rl.lt _ _ (g.O.df g.Rl hf a)⟩
theorem PU.nodup {E:Nat->II} (I:PU n E H F):F.Nodup:=by
 obtain⟨r,g,a⟩:=I.XK;exact g.O.nodup
end
end Go.Fw
namespace Go.Fw
attribute [local instance] Classical.propDecidable
section
variable {n : Nat} {r E : Nat → List Nat}
def V7.nil_at (R:V7 n r) {v:Nat} (h:n<=v):r v=[]:=by
 rcases a:r v with _|⟨w,l⟩
 .rfl
 .have:=R.lt v w (by rw[a];simp);omega
def acR (R:V7 n r):Flat (n+1) r↔Flat n r:=by
 have e:=R.nil_at (qL0 n);have hd:dl (n+1) r=dl n r:=by unfold dl;rw[Bx,aeE];simp[e]
 have hf:mj (n+1) r=mj n r+1:=by
  unfold mj;rw[hd,Bx,EP,vZ];simp[e];omega
 have a:iJ (n+1) r=iJ n r+1:=by
  have R':V7 (n+1) r:=⟨R.nd,fun v w h=>afx (R.lt v w h),R.sy,R.ir⟩;unfold iJ;rw[Bx,Yy (Dl (l₁:=List.range n) (l₂:=[n])) (Cr.eqv R' _)];rw[afn,cls,if_neg];rintro⟨y,b,h⟩;have:∀y,Cr r n y->y=n:=fun y h=>by
   induction h with
   |refl=>rfl
   |step _ h c=>rw[c,e]at h;cases h
  have:=this y h;simp at b;omega
 unfold Flat;rw[hd,hf,a];omega
theorem XU.more (h:∀v w,w∈E v->v<n):XU (n+1) E↔XU n E:=by
 constructor
 .rintro ⟨R, a, fl, c⟩
  have b:V7 n R:=⟨a.nd,pw,a.sy,a.ir⟩;exact⟨R,b,(acR b).1 fl,c⟩
 .rintro ⟨R, a, fl, c⟩
  exact⟨R,⟨a.nd,(by grind [V7.lt]),a.sy,a.ir⟩,(acR a).2 fl,c⟩
theorem XU.mores (h:∀v w,w∈E v->v<n) (k:Nat):XU (n+k) E↔XU n E:=by
 induction k with
 |zero=>rfl
 |succ k a=>exact(by grind [XU.more])
end
end Go.Fw
