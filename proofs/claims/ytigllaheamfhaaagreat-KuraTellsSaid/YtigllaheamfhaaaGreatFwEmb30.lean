/- A text. -/
import Derived.Test.YtigllaheamfhaaaGreatFwEmb17
set_option linter.all false
set_option maxRecDepth 99999
set_option maxHeartbeats 9999999
open Option renaming some→Z
open List renaming range→rG
open List
namespace Go.Fw
section
attribute [local instance] Classical.propDecidable
def sig(a b m:Nat)(d:H8):H8:=(d.1,if d.1=a then hh b m d.2 else if d.1=b then hh a m d.2 else d.2)
theorem sig_oth{a b m y z:Nat}(c1:y≠a)(c2:y≠b):sig a b m (y,z)=(y,z):=by grind[sig]
section
variable{n:Nat}{R:Nat->II}{a b m:Nat}
theorem aan.Ui(S:aan n R a b m):aap R a b m a=(R a).map (hh b m):=by grind[aap,aan.ne]
theorem aan.at_b(S:aan n R a b m):aap R a b m b=(R b).map (hh a m):=by grind[aap,aan.ne]
theorem aan.at_m(S:aan n R a b m):aap R a b m m=[a,b]:=abe rfl
def aan.nxa(S:aan n R a b m){x:Nat}(h:x∈R a):nx (aap R a b m a) (hh b m x)=hh b m (nx (R a) x):=by rw[S.Ui];exact HL (aee S.nm) h
def aan.nxb(S:aan n R a b m){x:Nat}(h:x∈R b):nx (aap R a b m b) (hh a m x)=hh a m (nx (R b) x):=by rw[S.at_b];exact HL (aee S.nm) h
theorem acQ(b m:Nat):hh b m b=m:=abe rfl
theorem aan.s1(S:aan n R a b m):Nv (aap R a b m) (a,m)=(m,b)/\Nv (aap R a b m) (m,b)=sig a b m (Nv R (a,b))/\Nv (aap R a b m) (b,m)=(m,a)/\Nv (aap R a b m) (m,a)=sig a b m (Nv R (b,a)):=by
 have⟨d,_,_⟩:=S.ne;have c:=S.Rl.sy _ _ S.ab;refine⟨?_,?_,?_,?_⟩
 .grind[Nv.eq_1,aan.at_m,ajt]
 .have:=S.nxb c;grind[acQ,Nv.eq_1,sig]
 .grind[Nv.eq_1,aan.at_m,ajt]
 .have:=S.nxa S.ab;grind[acQ,Nv.eq_1,sig]
theorem aan.s2(S:aan n R a b m){d:H8}(hd:d∈dl n R)(n1:d≠(a,b))(f:d≠(b,a)):Nv (aap R a b m) (sig a b m d)=sig a b m (Nv R d):=by
 have⟨x,y⟩:=d;have e:=(IP S.Rl).1 hd;have c:=S.Rl.sy _ _ e;have es:sig a b m (x,y)=(x,y):=by grind[sig,hh]
 rw[es,Nv];by_cases c1:y=a
 .subst c1;have k:=S.nxa c;grind[hh,Nv,sig]
 by_cases c2:y=b
 .subst c2;have k:=S.nxb c;grind[hh,Nv,sig]
 .have g:y≠m:=by grind[aan.rm]
  have k:aap R a b m y=R y:=by grind[aap]
  show(y,nx (aap R a b m y) x)=sig a b m (y,nx (R y) x);grind[sig_oth]
theorem aan.orb(S:aan n R a b m):WD (Nv (aap R a b m)) (a,m) (m,a)↔WD (Nv R) (a,b) (b,a):=by
 have⟨t1,l,o,q⟩:=S.s1;have p:=aaG S.Rl;have f:((a,b):H8)∈dl n R:=(IP S.Rl).2 S.ab;have sa:sig a b m (a,b)=(a,m):=by simp[sig,hh]
 have sb:sig a b m (b,a)=(b,m):=by grind[sig,hh]
 constructor
 .rintro⟨k,i⟩;have QI:∀k,∃d,WD (Nv R) (a,b) d/\(it (Nv (aap R a b m)) k (a,m)=sig a b m d\/(d=(a,b)/\it (Nv (aap R a b m)) k (a,m)=(m,b))\/(d=(b,a)/\it (Nv (aap R a b m)) k (a,m)=(m,a))):=fun k=>by
   induction k with
   |zero=>exact⟨(a,b),WD.refl _ _,.inl sa.symm⟩
   |succ k g=>
    have⟨d,c,h⟩:=g;have hd:d∈dl n R:=by obtain⟨j,rfl⟩:=c;grind[Pm.uN]
    have e:it (Nv (aap R a b m)) (k+1) (a,m)=Nv (aap R a b m) (it (Nv (aap R a b m)) k (a,m)):=rfl;rw[e];rcases h with h|⟨rfl,h⟩|⟨rfl,h⟩
    .by_cases c1:d=(a,b)
     all_goals grind[WD.trans,WD.one,aan.s2]
    all_goals grind[WD.trans,WD.one]
  have⟨d,c,h⟩:=QI k;rw[i]at h;rcases h with h|⟨_,h⟩|⟨rfl,_⟩
  .have e:=congrArg Prod.fst h;have e:m=d.1:=e;have hd:d∈dl n R:=by obtain⟨j,rfl⟩:=c;grind[Pm.uN]
   grind[IP,aan.Rl,aan.rm]
  all_goals grind
 .intro c;have step:∀d∈dl n R,WD (Nv (aap R a b m)) (sig a b m d) (sig a b m (Nv R d)):=fun d hd=>by
   by_cases c1:d=(a,b)
   .grind[WD.one,WD.trans]
   by_cases c2:d=(b,a)
   all_goals grind[WD.one,WD.trans,aan.s2]
  have⟨k,i⟩:=c;have all:∀k,WD (Nv (aap R a b m)) (a,m) (sig a b m (it (Nv R) k (a,b))):=fun k=>by
   induction k with
   |zero=>show WD _ _ (sig a b m (a,b));grind[WD.refl]
   |succ k g=>exact g.trans (step _ (p.uN f k))
  grind[WD.trans,WD.one]
theorem aan.flat(S:aan n R a b m):Flat n (aap R a b m)↔Flat n R:=by
 have⟨g,h2,h3⟩:=S.ne;have i:=S.Rl.sy _ _ S.ab;have R':=S.aff;have j:m∈aap R a b m a:=by rw[S.Ui,aev];exact⟨b,S.ab,acQ b m⟩
 have k:=afL R' h2;have f:∀{x y},y∈del (aap R a b m) a m x↔y∈aap R a b m x/\¬(x=a/\y=m)/\¬(x=m/\y=a):=by grind[JF]
 have l:m∈del (aap R a b m) a m b:=by grind[aan.at_b,acQ]
 have p:del (del (aap R a b m) a m) b m=del R a b:=by
  funext x;unfold del;by_cases c1:x=a
  .subst c1;rw[abE g,abE h2,abe rfl,abe rfl,S.Ui];exact ab2 (S.Rl.nd _) S.nm
  by_cases c2:x=b
  .subst c2;rw[abe rfl,abE c1,abE h3,abE c1,abe rfl,S.at_b];exact ab2 (S.Rl.nd _) S.nm
  grind[aan.rm,aap]
 have d:∀{x y},y∈del R a b x↔y∈R x/\¬(x=a/\y=b)/\¬(x=b/\y=a):=fun{x y}=>JF S.Rl g;have u:∀y,y∈del (aap R a b m) a m m↔y=b:=by grind[aan.at_m]
 have aac:Flat n (del (aap R a b m) a m)↔Flat n (del R a b):=by
  have o:WD (Nv (del (aap R a b m) a m)) (b,m) (m,b):=⟨1,by show(m,nx (del (aap R a b m) a m m) b)=(m,b);grind[ZP]⟩;have v:¬Cr (del (del (aap R a b m) a m) b m) b m:=fun c=>by
   rw[p]at c;cases c with
   |refl=>exact h3 rfl
   |step _ hs=>exact S.nm (d.1 hs).1
  grind[Lq,abG]
 have r:Cr (del (aap R a b m) a m) a m↔Cr (del R a b) a b:=by
  have back:∀y,Cr (del (aap R a b m) a m) a y->(y≠m->Cr (del R a b) a y)/\(y=m->Cr (del R a b) a b):=fun y c=>by
   induction c with
   |refl=>exact⟨fun _=>.refl _,hGr⟩
   |@step x y _ hs s=>
    by_cases t:x=m
    .grind
    .by_cases w:y=m
     .have z:=k.sy _ _ hs;grind
     .refine⟨fun _=>(s.1 t).step ?_,hGr⟩;grind[aan.mem]
  constructor
  .grind
  .intro c;have up:Cr (del (aap R a b m) a m) a b:=c.mono fun x y h=>by
    have q:=d.1 h;refine f.2 ⟨S.mem.2 (.inl q),fun e=>?_,fun e=>?_⟩
    .rw[e.2]at q;exact S.nm q.1
    grind[aan.rm]
   exact up.step (by grind[V7.sy])
 grind[Lq,abG,aan.Rl,aan.ab,aan.orb]
end
section
variable{n:Nat}{E E':Nat->II}{a b m:Nat}
theorem XU.congr(h:∀v w,w∈E' v↔w∈E v):XU n E'↔XU n E:=by
 constructor
 .rintro⟨R,c,fl,d⟩;exact⟨R,c,fl,hGr⟩
 .rintro⟨R,c,fl,d⟩;exact⟨R,c,fl,hGr⟩
theorem XU.less(d:XU n E)(hs:∀v w,w∈E' v->w∈E v)(sy:∀v w,w∈E' v->v∈E' w):XU n E':=by have⟨R,c,fl,e⟩:=d;refine⟨Om (fun v w=>w∈E' v) R,OG c sy,fl.keep c sy,fun v w=>?_⟩;grind[EM]
theorem hh_back{b m:Nat}{l:II}(hb:b∉l):(l.map (hh m b)).map (hh b m)=l:=by
 rw[KG];have:∀x∈l,(hh b m∘hh m b) x=x:=by grind[hh]
 rw[Qn this,map_id']
structure aj4 (n:Nat) (E E':Nat->II) (a b m:Nat):Prop where
 e:V7 n E
 e':V7 n E'
 ab:b∈E a
 em:E m=[]
 mn:m<n
 mem:∀v w,w∈E' v↔(w∈E v/\¬(v=a/\w=b)/\¬(v=b/\w=a))\/(v=m/\(w=a\/w=b))\/(w=m/\(v=a\/v=b))
theorem aj4.planar(U:aj4 n E E' a b m):XU n E'↔XU n E:=by
 have k:a≠b:=fun e=>U.e.ir a (by grind[aj4.ab]);have B:a≠m:=fun e=>by have:=U.ab;grind[aj4.em]
 have C:=U.e.sy _ _ U.ab;have D:b≠m:=by grind[aj4.em]
 have F:∀v,m∉E v:=fun v h=>by have:=U.e.sy _ _ h;grind[aj4.em]
 constructor
 .rintro⟨R,g,fl,f⟩;have hb:b∉R a:=fun h=>by
   rcases(U.mem _ _).1 ((f _ _).1 h)with q|q|q
   all_goals grind
  have ha:a∉R b:=by grind[V7.sy]
  have o:m∈R a:=(f _ _).2 ((U.mem _ _).2 hGr);have p:m∈R b:=(f _ _).2 ((U.mem _ _).2 hGr)
  let Q:Nat->II:=fun v=>if v=m then[]else if v=a then(R a).map (hh m b)else if v=b then(R b).map (hh m a)else R v
  have G:Q m=[]:=abe rfl;have H:Q a=(R a).map (hh m b):=hGr;have I:Q b=(R b).map (hh m a):=hGr;have z:∀v,v≠m->v≠a->v≠b->Q v=R v:=hGr;have i:∀{v b w:Nat},b∉R v->m∈R v->(w∈(R v).map (hh m b)↔(w∈R v/\w≠m)\/w=b):=by grind[hh]
  have d:∀v w,w∈Q v↔w∈E v:=fun v w=>by
   by_cases c1:v=m
   .grind[aj4.em]
   by_cases c2:v=a
   .subst c2;rw[H,i hb o,f,U.mem];grind[aj4.ab]
   by_cases l:v=b
   .subst l;rw[I,i ha p,f,U.mem];grind
   .rw[z v c1 c2 l,f,U.mem];grind
  have A:∀{v b:Nat},b∉R v->((R v).map (hh m b)).Nodup:=fun{v b} h=>by rw[iy,Vn];exact ff (by grind[aee]) (iy.1 (g.nd v))
  have j:V7 n Q:=by
   refine⟨fun v=>?_,fun v w h=>U.e.lt _ _ ((d v w).1 h),fun v w h=>(d w v).2 (U.e.sy _ _ ((d v w).1 h)),fun v h=>U.e.ir v ((d v v).1 h)⟩;by_cases c1:v=m
   .grind
   by_cases c2:v=a
   .grind
   by_cases l:v=b
   .grind
   .rw[z v c1 c2 l];exact g.nd v
  have S:aan n Q a b m:=⟨j,(d _ _).2 U.ab,G,U.mn⟩;have same:pP R (aap Q a b m):=fun v=>by
   unfold aap;by_cases c1:v=m
   .subst c1;rw[abe rfl];have mm:∀y,y∈R v↔y=a\/y=b:=fun y=>by
     rw[f,U.mem,U.em];grind
    have r:=(mm a).2 (.inl rfl);have⟨c,s⟩:=Cyc.front r;have nd:=s.perm.nodup_iff.1 (g.nd v);have J:=ZZ (g.nd v) k mm;have pm:=(yR (g.nd v) (by simp[k]:[a,b].Nodup) hGr).length_eq;have lc:c.length=1:=by have:=s.perm.length_eq;grind
    match c,lc with
    |[x],_=>have K:=(mm x).1 (s.perm.mem_iff.2 Ma);grind
   rw[abE c1];by_cases c2:v=a
   all_goals grind[hh_back,Cyc.refl]
  exact⟨Q,j,S.flat.1 ((same.flat g).1 fl),d⟩
 .rintro⟨R,g,fl,f⟩;have u:R m=[]:=ZT fun q=>by
   have⟨w,t,e⟩:=eR q;have:=(f m w).1 (by rw[e];simp);grind[aj4.em]
  have S:aan n R a b m:=⟨g,(f _ _).2 U.ab,u,U.mn⟩;exact⟨aap R a b m,S.aff,S.flat.2 fl,fun v w=>by rw[S.mem,U.mem,f]⟩
end
section
variable{n:Nat}{r:Nat->II}{F:Cs}
theorem iso_on(n:Nat)(r:Nat->II):((rG n).filter fun v=>decide (r v=[])).length+(kV n r).length=n:=by
 have QI:∀X:II,(X.filter fun v=>decide (r v=[])).length+(X.filter fun v=>decide (r v≠[])).length=X.length:=fun X=>by
  induction X<;>grind
 have:=QI (rG n);rw[amP]at this;exact this
theorem cmps_on(R:V7 n r)(bp:∀v w,r v≠[]->r w≠[]->Cr r v w)(ne:∃v,v<n/\r v≠[]):iJ n r=((rG n).filter fun v=>decide (r v=[])).length+1:=by
 have⟨d,g,i⟩:=ne;unfold iJ;have iso:∀{v w},r v=[]->Cr r v w->v=w:=fun{v w} h c=>by
  induction c<;>grind
 have k1:∀y∈((rG n).filter fun v=>decide (r v=[]))++[d],y∈rG n:=hGr;have k2:(((rG n).filter fun v=>decide (r v=[]))++[d]).Pairwise fun a b=>¬Cr r a b:=by
  rw[abz];refine⟨?_,Ma,fun x f y k c=>?_⟩
  .refine ff (R:=fun x y=>x≠y) (fun{x y} f _ e c=>e ?_) (by grind[List.nodup_range]);grind
  grind
 have j:∀x∈rG n,∃y∈((rG n).filter fun v=>decide (r v=[]))++[d],Cr r x y:=fun x f=>by
  by_cases h:r x=[]
  .exact⟨x,(by grind[decide_eq_true]),.refl _⟩
  grind
 rw[ach (Cr.eqv R _) uV k1 k2 j];simp
theorem flat_on(R:V7 n r)(hf:Flat n r)(bp:∀v w,r v≠[]->r w≠[]->Cr r v w)(ne:∃v,v<n/\r v≠[]):2*((kV n r).length+cls (WD (Nv r)) (dl n r))=(dl n r).length+4:=by grind[iso_on,cmps_on,Flat,mj]
theorem Oz(h3:3<=(kV n r).length)(v w:Nat):∃x,x<n/\r x≠[]/\x≠v/\x≠w:=by
 have nd:(kV n r).Nodup:=uV.sublist EP;have d:∀x∈kV n r,x<n/\r x≠[]:=fun x e=>⟨j3.1 (K4.1 e).1,ag1 (K4.1 e).2⟩;generalize kV n r=L at h3 nd d
 match L,h3 with
 |a::b::c::t,_=>have ha:=d a Ma;have hb:=d b Ma;have f:=d c Ma;grind
theorem afU(R:V7 n r)(D:QG r)(h3:3<=(kV n r).length){d:H8}(hd:d∈dl n r):3<=bt (Nv r) d/\(bt (Nv r) d=3->∃x y z,y∈r x/\z∈r y/\x∈r z):=by
 have p:=aaG R;have⟨j,f,_⟩:=aaM p hd;have g:=Sg R hd;have m0:=(IP R).1 hd;have m1:=(IP R).1 (p.uN hd 1);have m2:=(IP R).1 (p.uN hd 2);have⟨v,w⟩:=d;have⟨x,k,a,x1,h⟩:=Oz h3 v w;have i:v≠w:=by grind[V7.ir]
 constructor
 .refine qL202 g fun e=>?_;rw[<-e]at f;have b:(nx (r w) v,nx (r (nx (r w) v)) w)=((v,w):H8):=f;injection b with b _;have c:v∈r w:=R.sy _ _ m0;exact D.deg ((Bk (R.nd w) c).1 b) a h x1 (EH i)
 grind[it,Nv]
theorem bound_on(R:V7 n r)(hf:Flat n r)(D:QG r)(h3:3<=(kV n r).length):(dl n r).length+12<=6*(kV n r).length/\((∀x y z,y∈r x->z∈r y->x∉r z)->(dl n r).length+8<=4*(kV n r).length):=by
 have⟨x,b,a,_⟩:=Oz h3 0 0;have e:=flat_on R hf D.bp ⟨x,b,a⟩;constructor
 .have:=Gj R (k:=3) (by grind[afU]);omega
 .intro c;have:=Gj R (k:=4) (by grind[afU]);omega
theorem XU.bound{E:Nat->II}(d:V7 n E)(D:QG E)(h3:3<=(kV n E).length)(a:XU n E):(dl n E).length+12<=6*(kV n E).length/\((∀x y z,y∈E x->z∈E y->x∉E z)->(dl n E).length+8<=4*(kV n E).length):=by
 have⟨R,b,fl,c⟩:=a;have e:kV n R=kV n E:=by
  refine Uz fun v _=>?_;have:R v=[]↔E v=[]:=by rw[qH,qH];grind
  grind
 have f:(dl n R).length=(dl n E).length:=by grind[J8,IP,List.Perm.length_eq]
 have:=bound_on b fl (D.same c) hGr;grind
end
variable {l:II} {m n v w:Nat}
theorem al4{E:Nat->II}(h:∀v,m<=v->E v=[])(k:Nat):dl (m+k) E=dl m E/\kV (m+k) E=kV m E:=by
 have e:rG (m+k)=rG m++(rG k).map (m+·):=range_add;constructor
 .grind[dl,flatMap_eq_nil_iff]
 grind[kV,filter_none]
def k5E(v:Nat):II:=if v<5 then(rG 5).filter fun w=>w !=v else[]
def ahu(v:Nat):II:=if v<3 then[3,4,5]else if v<6 then[0,1,2]else[]
theorem pZ:w∈k5E v↔v<5/\w<5/\w≠v:=by grind[k5E]
theorem agU:w∈ahu v↔(v<3/\3<=w/\w<6)\/(3<=v/\v<6/\w<3):=by grind[ahu]
theorem apA{x:Nat}(h:x∈l):l≠[]:=fun e=>by grind
def al6(h:l≠[]):∃x,x∈l:=by have⟨x,t,e⟩:=eR h;exact⟨x,by rw[e];simp⟩
theorem k5_no(b:5<=n):¬XU n k5E:=fun d=>by
 have lt:∀{v},k5E v≠[]->v<5:=fun h=>by have⟨x,f⟩:=al6 h;grind[pZ]
 have R:V7 n k5E:=by
  refine⟨fun v=>?_,fun v w h=>?_,fun v w h=>?_,fun v h=>?_⟩
  all_goals grind[k5E,filter_sublist]
 have D:QG k5E:=by
  refine⟨fun v w a hw=>?_,fun c v w g h2 a hw=>?_⟩
  .by_cases e:w=v
   .rw[e];exact .refl _
   grind[Cr.one,pZ]
  .by_cases e:w=v
   .rw[e];exact .refl _
   grind[Cr.one,EM,pZ]
 have off:∀v,5<=v->k5E v=[]:=hGr;obtain⟨k,rfl⟩:=qL172 b;have⟨i,j⟩:=al4 off k;have l1:(dl 5 k5E).length=20:=by decide
 have l2:(kV 5 k5E).length=5:=by
  have:kV 5 k5E=rG 5:=OM.2 fun v a=>by
   have a:=j3.1 a
   refine EL (apA (x:=if v=0 then 1 else 0) (pZ.2 ⟨a,?_,?_⟩))
   all_goals grind
  grind
 have:=(d.bound R D hGr).1;grind
theorem k33_no(f:6<=n):¬XU n ahu:=fun g=>by
 have lt:∀{v},ahu v≠[]->v<6:=fun h=>by have⟨x,i⟩:=al6 h;grind[agU]
 have R:V7 n ahu:=by
  refine⟨fun v=>?_,fun v w h=>?_,fun v w h=>?_,fun v h=>?_⟩
  all_goals grind[ahu]
 have D:QG ahu:=by
  have two:∀c v w,v≠c->w≠c->v<6->w<6->Cr (Om (fun x y=>x≠c/\y≠c) ahu) v w:=fun c v w d h2 e hw=>by
   have UQ:∀{x y},x≠c->y≠c->((x<3/\3<=y/\y<6)\/(3<=x/\x<6/\y<3))->Cr (Om (fun x y=>x≠c/\y≠c) ahu) x y:=by grind[Cr.one,EM,agU]
   by_cases a:v<3
   .by_cases b:w<3
    .by_cases z:c=3
     .exact(UQ (y:=4) d NH NH).trans hGr
     .exact(UQ (y:=3) d NH NH).trans hGr
    grind
   .by_cases b:w<3
    .grind
    .by_cases z:c=0
     .exact(UQ (y:=1) d NH NH).trans hGr
     .exact(UQ (y:=0) d NH NH).trans hGr
  refine⟨fun v w e hw=>?_,fun c v w d h2 e hw=>two c v w d h2 (lt e) (lt hw)⟩;have a:=lt e;have b:=lt hw;exact(two 6 v w NH NH a b).mono (by grind[EM])
 have off:∀v,6<=v->ahu v=[]:=hGr;obtain⟨k,rfl⟩:=qL172 f;have⟨j,l⟩:=al4 off k;have l1:(dl 6 ahu).length=18:=by decide
 have l2:(kV 6 ahu).length=6:=by grind[kV,ahu,filter_eq_self]
 have:=(g.bound R D hGr).2 (by grind[agU]);grind
structure Ren (n:Nat) (p q:Nat->Nat):Prop where
 pl:∀v,v<n->p v<n
 ql:∀v,v<n->q v<n
 pq:∀v,v<n->p (q v)=v
 qp:∀v,v<n->q (p v)=v
def uH(n:Nat)(p q:Nat->Nat)(r:Nat->II)(w:Nat):II:=if w<n then(r (q w)).map p else[]
def pp(p:Nat->Nat)(d:H8):H8:=(p d.1,p d.2)
section
variable{n:Nat}{p q:Nat->Nat}{r:Nat->II}
theorem Ren.inj(N:Ren n p q){x y:Nat}(a:x<n)(b:y<n)(e:p x=p y):x=y:=by grind[Ren.qp]
theorem ren_at(N:Ren n p q){v:Nat}(a:v<n):uH n p q r (p v)=(r v).map p:=by grind[uH,Ren.pl,Ren.qp]
def rlt(R:V7 n r){v w:Nat}(h:w∈r v):v<n/\w<n:=⟨R.lt _ _ h,R.lt _ _ (R.sy _ _ h)⟩
theorem uX(N:Ren n p q)(R:V7 n r){v w:Nat}:w∈uH n p q r v↔v<n/\w<n/\q w∈r (q v):=by
 unfold uH;by_cases c:v<n
 .rw[abe c,aev];constructor
  .rintro⟨x,a,rfl⟩;have:=(rlt R a).2;grind[Ren.pl,Ren.qp]
  grind[Ren.pq]
 grind
theorem aef(N:Ren n p q)(R:V7 n r):V7 n (uH n p q r):=by
 refine⟨fun v=>?_,(by grind[uX]),fun v w h=>?_,(by grind[V7.ir,uX])⟩
 .unfold uH;split
  .rw[iy,Vn];exact ff (fun{x y} b c a e=>a (N.inj (rlt R b).2 (rlt R c).2 e)) (iy.1 (R.nd _))
  .simp
 grind[uX,V7.sy]
def ren_phi(N:Ren n p q)(R:V7 n r){d:H8}(hd:d∈dl n r):Nv (uH n p q r) (pp p d)=pp p (Nv r d):=by have a:=(IP R).1 hd;have hs:=R.sy _ _ a;show(p d.2,nx (uH n p q r (p d.2)) (p d.1))=(p d.2,p (nx (r d.2) d.1));rw[ren_at N (rlt R a).2,HL (fun x b y c e=>N.inj (rlt R b).2 (rlt R c).2 e) hs]
def XS(N:Ren n p q)(R:V7 n r){d:H8}(hd:d∈dl n r):∀k,it (Nv (uH n p q r)) k (pp p d)=pp p (it (Nv r) k d)
 |0=>rfl
 |k+1=>by show Nv (uH n p q r) (it (Nv (uH n p q r)) k (pp p d))=_;rw[XS N R hd k,ren_phi N R ((aaG R).uN hd k)];rfl
theorem pp_inj(N:Ren n p q)(R:V7 n r){d e:H8}(hd:d∈dl n r)(a:e∈dl n r)(h:pp p d=pp p e):d=e:=by have b:=rlt R ((IP R).1 hd);have h2:=rlt R ((IP R).1 a);injection h with k1 k2;grind[Ren.inj]
theorem ren_cr(N:Ren n p q)(R:V7 n r){x y:Nat}(b:x<n)(d:y<n):Cr (uH n p q r) (p x) (p y)↔Cr r x y:=by
 constructor
 .have QI:∀z,Cr (uH n p q r) (p x) z->Cr r x (q z):=fun z c=>by
   induction c with
   |refl=>rw[N.qp x b];exact .refl _
   |step _ hs a=>exact a.step (by grind[uX])
  grind[Ren.qp]
 .intro h;clear d
  induction h with
  |refl=>exact .refl _
  |step _ hs a=>have k:=rlt R hs;exact a.step (by grind[uX,Ren.pl,Ren.qp])
theorem ren_flat(N:Ren n p q)(R:V7 n r):Flat n (uH n p q r)↔Flat n r:=by
 have R':=aef N R;have a:(rG n).Perm ((rG n).map p):=by
  refine yR uV ?_ fun v=>?_
  .grind[List.Pairwise.imp_of_mem,Ren.inj,nodup_range]
  .all_goals grind[Ren.ql,Ren.pq,Ren.pl]
 have b:(dl n (uH n p q r)).Perm ((dl n r).map (pp p)):=by
  refine yR (J8 R') ?_ fun d=>?_
  .rw[iy,Vn];exact ff (fun{x y} i j c e=>c (pp_inj N R i j e)) (iy.1 (J8 R))
  .rw[IP R',uX N R,aev];constructor
   .rintro⟨l,h2,h3⟩;exact⟨(q d.1,q d.2),(IP R).2 h3,by show(p (q d.1),p (q d.2))=d;grind[Ren.pq]⟩
   .rintro⟨e,f,rfl⟩;have h:=(IP R).1 f;have k:=rlt R h;refine⟨N.pl _ k.1,N.pl _ k.2,?_⟩;show q (p e.2)∈r (q (p e.1));grind[Ren.qp]
 have m:(dl n (uH n p q r)).length=(dl n r).length:=by rw[b.length_eq,wI]
 have o:cls (WD (Nv (uH n p q r))) (dl n (uH n p q r))=cls (WD (Nv r)) (dl n r):=by
  rw[Yy b (aaG R').eqv,Zx];refine IZ fun d hd e f=>?_;constructor
  .rintro⟨k,g⟩;rw[XS N R hd k]at g;exact⟨k,pp_inj N R ((aaG R).uN hd k) f g⟩
  .rintro⟨k,rfl⟩;exact⟨k,XS N R hd k⟩
 have e3:((rG n).filter fun v=>decide (uH n p q r v=[])).length=((rG n).filter fun v=>decide (r v=[])).length:=by rw[(a.filter _).length_eq,qL219,wI];refine congrArg List.length (Uz fun v s=>?_);grind[ren_at,map_eq_nil_iff]
 have e4:iJ n (uH n p q r)=iJ n r:=by unfold iJ;rw[Yy a (Cr.eqv R' _),Zx];exact IZ (by grind[ren_cr])
 grind[Flat,mj]
theorem XU.ren(N:Ren n p q){E E':Nat->II}(h:∀v w,w∈E' v↔v<n/\w<n/\q w∈E (q v))(b:XU n E):XU n E':=by have⟨R,a,fl,c⟩:=b;exact⟨uH n p q R,aef N a,(ren_flat N a).2 fl,(by grind[uX])⟩
end
abbrev Way:=Nat×II×Nat
inductive aid (E:Nat->II):(Nat->Nat->Prop)->List Way->Prop
 |nil {H:Nat->Nat->Prop} (h:∀x y,y∈E x->H x y):aid E H []
 |cons {H:Nat->Nat->Prop} {a b:Nat} {inn:II} {ws:List Way} (W:Ka E H a inn b) (h:aid E (fun x y=>H x y\/Ay a inn b x y) ws):aid E H ((a,inn,b)::ws)
inductive alY:Cs->List Way->Prop
 |nil {F:Cs}:alY F []
 |cons {F F':Cs} {f A B:II} {a b:Nat} {inn:II} {ws:List Way} (hf:f∈F) (cy:Cyc f ((a::A)++(b::B))) (pm:(half a A b inn::half b B a inn.reverse::F.erase f).Perm F') (h:alY F' ws):alY F ((a,inn,b)::ws)
section
variable{n:Nat}{E:Nat->II}
def abK.perm5{r:Nat->II}{F a:Cs}(G:abK n r F)(h:F.Perm a):abK n r a:=⟨G.Rl,G.O.perm h,G.bp,by have:=G.num;unfold Num at*;rw[<-h.length_eq];exact this,fun e=>G.ne (by rw[e]at h;exact h.eq_nil)⟩
def amT{R:Nat->II}(d:∀v w,w∈R v↔w∈E v):∀{H:Nat->Nat->Prop}{ws:List Way},aid E H ws->∀{F:Cs},Ctx n R H F->alY F ws:=fun W=>by
 induction W with
 |nil _=>exact fun _=>.nil
 |@cons H a b inn ws W _ g=>
  intro F C;have⟨f,hf,c1,c2,_⟩:=C.drawn (W.same d);have⟨c,e⟩:=Cyc.front c1.ug;have hb:b∈c:=by have:=e.perm.mem_iff.1 c2.ug;rw[Og]at this;exact this.resolve_left (EH W.ab)
  obtain⟨A,B,rfl,_⟩:=sC hb;have cy:Cyc f ((a::A)++(b::B)):=by simpa using e
  exact .cons hf cy (.refl _) (g (C.lay (W.same d) hf c1 cy))
def anR(g:V7 n E):∀{H:Nat->Nat->Prop}{ws:List Way},aid E H ws->∀{F:Cs}{r:Nat->II},abK n r F->(∀x y,y∈r x↔H x y)->(∀x y,H x y->y∈E x)->alY F ws->XU n E:=fun W=>by
 induction W with
 |nil h=>exact fun{F r} G c sub _=>⟨r,G.Rl,G.flat,fun x y=>(c x y).trans ⟨sub x y,h x y⟩⟩
 |@cons H a b inn ws W _ k=>
  intro F r G c sub D;have d:∀v w,H v w->H w v:=fun v w h=>(c _ _).1 (G.Rl.sy _ _ ((c _ _).2 h));cases D with
  |@cons _ s f A B _ _ _ _ hf cy pm D=>
   have C:UN n r f a b inn:=by
    refine⟨W.ab,cy.perm.mem_iff.2 Ma,cy.perm.mem_iff.2 Ma,?_,fun x j=>?_,fun x j=>?_,fun e q=>?_⟩
    .have:=W.nd;rw[aaF,VU,j9]at this;exact this.2.1
    .refine ZT fun q=>?_;have⟨w,hw⟩:=al6 q;have h:=(c x w).1 hw;exact W.off x j w (sub _ _ h) h
    .obtain⟨i,p,l,h2⟩:=qm (a:=a) (b:=b) (.inr j);exact g.lt _ _ (g.sy _ _ (W.UQ i p x l h2).1)
    .subst e;exact(W.UQ 0 a b rfl rfl).2 ((c _ _).1 q)
   have⟨m,o⟩:=G.lay hf C cy;exact k (m.perm5 pm) (fun x y=>by rw[o,c]) (fun x y h=>h.elim (sub x y) fun h=>(W.wE g d h).1) D
def apB(a:V7 n E){l:II}(nd:l.Nodup)(h3:3<=l.length)(b:∀v∈l,nx l v∈E v){ws:List Way}(W:aid E (Ei l) ws):alY [l,l.reverse] ws↔XU n E:=by
 have I:=PU.start nd h3 a b;constructor
 .obtain⟨r,G,c⟩:=I.XK;exact anR a W G c I.sub
 .intro d;have⟨R,e,C⟩:=I.full d;exact amT e W C
end
def jJ(R:Nat->II)(H:Nat->Nat->Prop)(v w x y:Nat):Prop:=(v=x/\w=y)\/(v=y/\w=x)\/∃a b,(a=v\/a=w)/\(b=x\/b=y)/\off R H a/\off R H b/\Cr (Mm R H) a b
section
variable{n:Nat}{R:Nat->II}{H H':Nat->Nat->Prop}
def IV(d:V7 n R){v w a:Nat}(hw:w∈R v)(ha:a=v\/a=w)(c:off R H a):QI R H v w=(0,lo R H a,0):=by
 rcases ha with rfl|rfl
 .exact M6 c
 .rw[RX d hw];exact M6 c
theorem Uu(f:V7 n R){v w x y:Nat}(hw:w∈R v)(i:y∈R x):QI R H v w=QI R H x y↔jJ R H v w x y:=by
 constructor
 .intro e;have d:∀{v w:Nat},(∃a,(a=v\/a=w)/\off R H a)\/(¬off R H v/\¬off R H w):=fun{v w}=>by
   by_cases c1:off R H v
   .exact hGr
   by_cases c2:off R H w
   .exact hGr
   .exact .inr ⟨c1,c2⟩
  rcases d (v:=v) (w:=w)with⟨a,ha,h⟩|⟨c1,c2⟩
  .rw[IV f hw ha h]at e;rcases d (v:=x) (w:=y)with⟨b,hb,g⟩|⟨j,k⟩
   .rw[IV f i hb g]at e;have l:lo R H a=lo R H b:=by injection e with _ e;injection e
    exact .inr (.inr ⟨a,b,ha,hb,h,g,(fX f).1 l⟩)
   .rw[rj j k]at e;have:=congrArg Prod.fst e;simp at this
  .rw[rj c1 c2]at e;rcases d (v:=x) (w:=y)with⟨b,hb,g⟩|⟨j,k⟩
   .rw[IV f i hb g]at e;have:=congrArg Prod.fst e;simp at this
   .rw[rj j k]at e;injection e with _ e;injection e with l m;by_cases q:v=x
    .exact .inl ⟨q,NH⟩
    .exact .inr hGr
 .rintro(⟨rfl,rfl⟩|⟨rfl,rfl⟩|⟨a,b,ha,hb,h,g,c⟩)
  .rfl
  .exact RX f hw
  .rw[IV f hw ha h,IV f i hb g,(fX f).2 c]
theorem abI(c:∀x y,H x y->H' x y){v:Nat}(h:off R H' v):off R H v:=fun w hw q=>h w hw (c _ _ q)
theorem apC(c:∀x y,H x y->H' x y){v w:Nat}(h:w∈Mm R H' v):w∈Mm R H v:=by have⟨d,h2,h3⟩:=EM.1 h;exact EM.2 (by grind[abI])
theorem jJ.mono(d:∀x y,H x y->H' x y){v w x y:Nat}(h:jJ R H' v w x y):jJ R H v w x y:=by
 rcases h with h|h|⟨a,b,ha,hb,e,f,c⟩
 .exact .inl h
 .exact .inr (.inl h)
 .exact .inr (.inr ⟨a,b,ha,hb,abI d e,abI d f,c.mono fun v w=>apC d⟩)
theorem jJ.symm(d:V7 n R){v w x y:Nat}(h:jJ R H v w x y):jJ R H x y v w:=by
 rcases h with⟨e,h2⟩|⟨e,h2⟩|⟨a,b,ha,hb,f,g,c⟩
 .exact .inl hGr
 .exact .inr hGr
 .exact .inr (.inr ⟨b,a,hb,ha,g,f,c.symm (QM d)⟩)
variable{a b:Nat}{inn:II}
abbrev XZ(H:Nat->Nat->Prop)(a:Nat)(inn:II)(b:Nat):Nat->Nat->Prop:=fun x y=>H x y\/Ay a inn b x y
def wayH_sub{x y:Nat}(h:H x y):XZ H a inn b x y:=.inl h
theorem Ka.chain(W:Ka R H a inn b):∀(i x y:Nat),inn[0]?=Z x->inn[i]?=Z y->Cr (Mm R H) x y
 |0,x,y,c,h2=>by rw[c]at h2;injection h2 with h2;subst h2;exact .refl _
 |i+1,x,y,c,h2=>by
  have l:=(Ny.1 h2).1;have d:inn[i]?=Z (inn[i]'(by omega)):=qL7 NH
  have h:=W.chain i x _ c d;have g:∀(j z:Nat),inn[j]?=Z z->(aaF a inn b)[j+1]?=Z z:=fun j z f=>by have k:=(Ny.1 f).1;show(a::(inn++[b]))[j+1]?=Z z;rw[amJ,si k];exact f
  have e:=W.UQ (i+1) _ _ (g i _ d) (g (i+1) _ h2);exact h.step (EM.2 ⟨e.1,W.off _ (BS d),W.off _ (BS h2)⟩)
def Ka.QC(W:Ka R H a inn b)(d:V7 n R)(hs:∀v w,H v w->H w v){v:Nat}(f:v∈inn):QI R H a ((inn++[b]).headD 0)=(0,lo R H v,0):=by
 cases hi:inn with
 |nil=>rw[hi]at f;cases f
 |cons c t=>
  have h:c∈inn:=by rw[hi];simp
  have e:((c::t++[b]):II).headD 0=c:=rfl;rw[e];have j:c∈R a:=by have:=(W.fst d hs).1;rw[hi]at this;exact this
  rw[IV d j (.inr rfl) (W.off c h)];have⟨i,g⟩:=vZ.1 f;rw[(fX d).2 (W.chain i c v (by rw[hi];rfl) g)]
theorem Ka.PW(W:Ka R H a inn b)(c:V7 n R)(hs:∀v w,H v w->H w v){x y:Nat}(h:Ay a inn b x y):QI R H x y=QI R H a ((inn++[b]).headD 0):=by
 have d:=W.wE c hs h;by_cases f:x∈inn
 .rw[W.QC c hs f];exact IV c d.1 (.inl rfl) (W.off x f)
 by_cases cy:y∈inn
 .rw[W.QC c hs cy];exact IV c d.1 (.inr rfl) (W.off y cy)
 have g:=dC h;have i:=dC (Ef h);have ne:x≠y:=by grind[V7.ir]
 rcases g with rfl|rfl|g
 .rw[W.Fp.1 h]
 .have e:=d.1;rcases i with rfl|rfl|i
  .rw[RX c e];exact(by grind[Ka.Fp,Ef])
  .exact absurd rfl ne
  .exact absurd i cy
 .exact absurd g f
theorem ahV(W:Ka R H a inn b)(k:V7 n R){v:Nat}:off R (XZ H a inn b) v↔off R H v/\v∉inn:=by
 constructor
 .intro h;refine⟨by grind[abI],fun f=>?_⟩;have⟨i,p,g,j⟩:=qm (a:=a) (b:=b) (.inr f);exact h p (by grind[V7.sy,Ka.UQ]) (.inr (.inr ⟨i,g,j⟩))
 .rintro⟨c,h2⟩ w hw (q|q)
  .exact c w hw q
  .rcases dC q with rfl|rfl|q
   .obtain⟨z,d,e⟩:=W.ona;exact c z d e
   .obtain⟨z,d,e⟩:=W.onb;exact c z d e
   .exact h2 q
theorem jJ.keep(W:Ka R H a inn b)(f:V7 n R)(hs:∀v w,H v w->H w v){v w x y:Nat}(hw:w∈R v)(m:QI R H v w≠QI R H a ((inn++[b]).headD 0))(h:jJ R H v w x y):jJ R (XZ H a inn b) v w x y:=by
 rcases h with h|h|⟨c,d,j,hd,k,s,q⟩
 .exact .inl h
 .exact .inr (.inl h)
 have g:∀z,Cr (Mm R H) c z->z∉inn:=fun z i o=>m (by rw[IV f hw j k,W.QC f hs o,(fX f).2 i]);have main:∀z,Cr (Mm R H) c z->off R (XZ H a inn b) z->Cr (Mm R (XZ H a inn b)) c z:=fun z i=>by
  induction i with
  |refl=>exact fun _=>.refl _
  |@step y z t h2 p=>
   intro r;have⟨m1,m2,_⟩:=EM.1 h2;have l:off R (XZ H a inn b) y:=by grind[ahV]
   exact(p l).step (EM.2 ⟨m1,l,r⟩)
 have e:off R (XZ H a inn b) d:=by grind[ahV]
 exact .inr (.inr ⟨c,d,j,hd,(ahV W f).2 ⟨k,g _ (.refl _)⟩,e,main d q e⟩)
end
section
variable{n:Nat}{R:Nat->II}{H:Nat->Nat->Prop}{F G:Cs}
theorem feet_two(a:V7 n R)(hs:∀v w,H v w->H w v)(D:QG R)(h2:∃p q,p≠q/\¬off R H p/\¬off R H q):
  (∀u x,QP R H u x->∃z y,QP R H z y/\u≠z/\QI R H u x=QI R H z y)/\∀v w,w∈R v->¬H v w->∃u x,QP R H u x/\QI R H v w=QI R H u x:=by
 have⟨p,q,s,m,I⟩:=h2;have g:∀{v w},w∈R v->R v≠[]:=hGr;have A:∀{v},¬off R H v->R v≠[]:=by grind[Q7]
 have mk:∀{r:Nat->II}{v w:Nat},(∀v w,w∈r v->w∈R v)->Cr r v w->off R H v->¬off R H w->∃u x,QP R H u x/\QI R H u x=(0,lo R H v,0)/\x∈R u/\u∈r x:=fun{r v w} sub i B hw=>by
  rcases tq a sub i B with h|⟨y,z,j,h2,h3,d⟩
  .exact absurd h.2 hw
  .have o:=a.sy _ _ (sub _ _ d);exact⟨z,y,⟨h3,o,fun k=>h2 z (sub _ _ d) (hs _ _ k)⟩,by rw[Jn h3 h2,(fX a).2 j],o,d⟩
 refine⟨fun u x f=>?_,fun v w hw C=>?_⟩
 .by_cases c:off R H x
  .have:∃t,t≠u/\¬off R H t:=by
    by_cases e:p=u
    .exact hGr
    .exact⟨p,e,m⟩
   have⟨t,E,b⟩:=this;have l:x≠u:=by grind[QP.on]
   have i:=D.Z7 u x t l E (g (a.sy _ _ f.mem)) (A b);have⟨z,y,j,h2,_,d⟩:=mk (by grind[EM]) i c b;exact(by grind[EM,Jn,QP.on])
  .exact⟨x,u,⟨c,a.sy _ _ f.mem,(by grind[QP.nh])⟩,fun e=>a.ir u (e▸f.mem),RX a f.mem⟩
 .by_cases c:off R H v
  .obtain⟨z,y,j,h2,_⟩:=mk (fun _ _ h=>h) (by grind[QG.bp]) c m;exact(by grind[M6])
  .exact⟨v,w,⟨c,hw,C⟩,rfl⟩
theorem abK.perm(g:abK n R F)(h:F.Perm G):abK n R G:=⟨g.Rl,g.O.perm h,g.bp,by have:=g.num;unfold Num at this ⊢;rw[<-h.length_eq];exact this,(by grind[abK.ne,List.Perm.eq_nil])⟩
theorem Ctx.perm(C:Ctx n R H F)(h:F.Perm G):Ctx n R H G:=⟨C.Rl,C.sym,C.fl,C.O.perm h,C.bp⟩
theorem PU.perm{E:Nat->II}(I:PU n E H F)(h:F.Perm G):PU n E H G:=⟨I.sub,by have⟨r,g,a⟩:=I.XK;exact⟨r,g.perm h,a⟩,fun q=>by have⟨R,b,h2⟩:=I.full q;exact⟨R,b,h2.perm h⟩⟩
def PU.sym{E:Nat->II}(I:PU n E H F):∀v w,H v w->H w v:=fun v w h=>by have⟨r,g,a⟩:=I.XK;exact(a _ _).1 (g.Rl.sy _ _ ((a _ _).2 h))
def PU.on_face{E:Nat->II}(I:PU n E H F){f:II}(hf:f∈F){u:Nat}(b:u∈f):¬off E H u:=fun q=>by have⟨r,g,c⟩:=I.XK;have a:=(c _ _).1 (g.O.akH g.Rl hf b);exact q _ (I.sub _ _ a) a
def PU.aoJ{E:Nat->II}(I:PU n E H F){f:II}(hf:f∈F):f.Nodup/\∀u∈f,u<n:=by have⟨r,g,b⟩:=I.XK;exact⟨g.O.nd f hf,fun u a=>g.Rl.lt _ _ (g.O.akH g.Rl hf a)⟩
theorem PU.nodup{E:Nat->II}(I:PU n E H F):F.Nodup:=by have⟨r,g,a⟩:=I.XK;exact g.O.nodup
end
section
variable{n:Nat}{r E:Nat->II}
def V7.nil_at(R:V7 n r){v:Nat}(h:n<=v):r v=[]:=by
 rcases a:r v with _|⟨w,l⟩
 .rfl
 .have:=R.lt v w (by rw[a];simp);omega
def adV(R:V7 n r):Flat (n+1) r↔Flat n r:=by
 have e:=R.nil_at (qL0 n);have hd:dl (n+1) r=dl n r:=by unfold dl;rw[Bx,List.flatMap_append];simp[e]
 have hf:mj (n+1) r=mj n r+1:=by unfold mj;rw[hd,Bx,Db,Eh];simp[e];omega
 have a:iJ (n+1) r=iJ n r+1:=by
  have R':V7 (n+1) r:=⟨R.nd,fun v w h=>qL206 (R.lt v w h),R.sy,R.ir⟩;unfold iJ;rw[Bx,Yy (qL185 (l₁:=rG n) (l₂:=[n])) (Cr.eqv R' _)];rw[qL183,cls,abE];rintro⟨y,b,h⟩;have:∀y,Cr r n y->y=n:=fun y h=>by
   induction h with
   |refl=>rfl
   |step _ h c=>rw[c,e]at h;cases h
  have:=this y h;simp at b;omega
 unfold Flat;rw[hd,hf,a];omega
theorem XU.more(h:∀v w,w∈E v->v<n):XU (n+1) E↔XU n E:=by
 constructor
 .rintro⟨R,a,fl,c⟩;have b:V7 n R:=⟨a.nd,hGr,a.sy,a.ir⟩;exact⟨R,b,(adV b).1 fl,c⟩
 .rintro⟨R,a,fl,c⟩;exact⟨R,⟨a.nd,(by grind[V7.lt]),a.sy,a.ir⟩,(adV a).2 fl,c⟩
theorem XU.mores(h:∀v w,w∈E v->v<n)(k:Nat):XU (n+k) E↔XU n E:=by
 induction k with
 |zero=>rfl
 |succ k a=>exact(by grind[XU.more])
end
section
variable{n:Nat}{r s:Nat->II}{S:Nat->Prop}
end
theorem ab3{n:Nat}{r:Nat->II}(R:V7 n r)(F:Flat n r){u v w:Nat}(t:v∈r u)(hw:nx (r u) v=w)(z:v≠w)(l:w∉r v):∃q,V7 n q/\Flat n q/\∀x y,y∈q x↔y∈r x\/(x=v/\y=w)\/(x=w/\y=v):=by
 have g:w∈r u:=by grind[ZP]
 have f:=R.sy _ _ t;have i:=R.sy _ _ g;have A:u≠v:=fun e=>R.ir u hGr;have B:u≠w:=fun e=>R.ir u hGr;have C:v∉r w:=fun h=>l (R.sy _ _ h);have⟨a,b,ev,H⟩:=sC f;have⟨c,d,D,I⟩:=sC i
 let q:Nat->II:=fun x=>if x=v then a++w::u::b else if x=w then c++u::v::d else r x
 have J:q v=a++w::u::b:=abe rfl;have E:q w=c++u::v::d:=hGr;have G:∀x,x≠v->x≠w->q x=r x:=fun x m h2=>by grind
 have mem:∀x y,y∈q x↔y∈r x\/(x=v/\y=w)\/(x=w/\y=v):=fun x y=>by grind
 have Q:V7 n q:=by
  refine⟨fun x=>?_,fun x y h=>?_,fun x y h=>?_,fun x h=>?_⟩
  .by_cases m:x=v
   .subst m;have nd:=R.nd x;grind
   by_cases h2:x=w
   .subst h2;have nd:=R.nd x;rw[D]at nd;have:v∉c++u::d:=hGr;rw[E];have p:(c++u::v::d).Perm (v::(c++u::d)):=by
     have:(c++u::v::d)=(c++[u])++v::d:=by simp
     rw[this];refine List.perm_middle.trans ?_;simp
    grind
   .rw[G x m h2];exact R.nd x
  .rcases(mem x y).1 h with h|⟨rfl,rfl⟩|⟨rfl,rfl⟩
   .exact R.lt x y h
   .exact R.lt _ _ f
   .exact R.lt _ _ i
  .grind[V7.sy]
  grind[V7.ir]
 have j:w∈q v:=(mem v w).2 (.inr (.inl ⟨rfl,rfl⟩));have dl:del q v w=r:=by funext x;grind[anO,u9,ab1]
 have tri:∀k,it (Nv q) k (w,v)=(w,v)\/it (Nv q) k (w,v)=(v,u)\/it (Nv q) k (w,v)=(u,w):=by
  have s1:Nv q (w,v)=(v,u):=by grind[Nv,ZL]
  have s2:Nv q (v,u)=(u,w):=by grind[Nv]
  have K:Nv q (u,w)=(w,v):=by grind[Nv,ZL]
  intro k
  induction k<;>grind[it]
 refine⟨q,Q,abG Q j hGr ⟨fun o=>?_,fun h=>?_⟩,mem⟩
 .obtain⟨k,L⟩:=(aaG Q).adK ((IP (d:=(v,w)) Q).2 j) o;grind
 .rw[dl]at h;exact absurd ((Cr.one f).trans (Cr.one g)) h
def aae(n:Nat)(A:Nat->Nat->Prop):Prop:=∃R,V7 n R/\Flat n R/\∀v w,w∈R v↔A v w
section
variable{n:Nat}{A B:Nat->Nat->Prop}
theorem aae.sy(h:aae n A){v w:Nat}(q:A v w):A w v:=by obtain⟨R,r,-,m⟩:=h;grind[V7.sy]
theorem aae.ir(h:aae n A)(v:Nat):¬A v v:=fun q=>by obtain⟨R,r,-,m⟩:=h;grind[V7.ir]
theorem aae.congr(h:aae n A)(k:∀v w,A v w↔B v w):aae n B:=by have⟨R,r,f,m⟩:=h;exact⟨R,r,f,fun v w=>by rw[m,k]⟩
theorem aae.less(h:aae n A)(k:∀v w,B v w->A v w)(sy:∀v w,B v w->B w v):aae n B:=by have⟨R,r,f,m⟩:=h;exact⟨Om B R,OG r sy,f.keep r sy,fun v w=>by grind[EM]⟩
def apD(A:Nat->Nat->Prop)(x b v w:Nat):Prop:=A v w\/(v=x/\w=b)\/(v=b/\w=x)
end
theorem ren_ex{l:II}(nd:l.Nodup)(lt:∀v∈l,v<n):∃p q,Ren n p q/\∀i,(h:i<l.length)->p i=l[i]:=by
 let L:=l++(rG n).filter fun v=>decide (v∉l);have nL:L.Nodup:=by grind[nodup_range]
 have b:∀v,v∈L↔v<n:=fun v=>by grind
 have c:L.Perm (rG n):=yR nL uV fun v=>by grind
 have d:L.length=n:=by grind[List.Perm.length_eq]
 have gL:∀i,(h:i<n)->L.getD i 0=L[i]'(by omega):=fun i h=>by grind
 refine⟨fun i=>L.getD i 0,fun v=>L.idxOf v,⟨fun v a=>?_,fun v a=>?_,fun v a=>?_,fun v a=>?_⟩,fun i h=>?_⟩
 .grind[getElem_mem]
 .grind
 .grind
 .grind
 grind
theorem cr_iso{r:Nat->II}{x y:Nat}(h:∀t,t∉r x)(c:Cr r x y):x=y:=by
 induction c<;>grind
section
variable{n:Nat}{E:Nat->II}
end
def upR(A:Nat->Nat->Prop)(a b v x y:Nat):Prop:=(A x y/\¬(x=a/\y=b)/\¬(x=b/\y=a))\/(x=v/\(y=a\/y=b))\/(y=v/\(x=a\/x=b))
noncomputable def lst(n:Nat)(A:Nat->Nat->Prop)(v:Nat):II:=(rG n).filter fun w=>decide (A v w)
theorem aaD{n:Nat}{A:Nat->Nat->Prop}(lt:∀v w,A v w->w<n){v w:Nat}:w∈lst n A v↔A v w:=by grind[lst]
def aej{n:Nat}{A:Nat->Nat->Prop}(lt:∀v w,A v w->w<n)(sy:∀v w,A v w->A w v)(ir:∀v,¬A v v):V7 n (lst n A):=⟨fun v=>uV.filter _,fun v w h=>lt w v (sy v w ((aaD lt).1 h)),fun v w h=>(aaD lt).2 (sy v w ((aaD lt).1 h)),fun v h=>ir v ((aaD lt).1 h)⟩
section
variable{n:Nat}{A:Nat->Nat->Prop}
theorem aae.aac(P:aae n A){v a:Nat}(iso:∀w,¬A v w)(o:v<n)(an:a<n)(ne:v≠a):aae n fun x y=>A x y\/(x=v/\y=a)\/(x=a/\y=v):=by
 have sy:=fun v w=>P.sy (v:=v) (w:=w);have⟨R,r,f,m⟩:=P;have i:R v=[]:=qH.2 fun w h=>iso w ((m v w).1 h);have nv:∀x,v∉R x:=fun x h=>iso x (sy _ _ ((m x v).1 h))
 let q:Nat->II:=fun x=>if x=v then[a]else if x=a then R a++[v]else R x
 have j:q v=[a]:=abe rfl;have k:q a=R a++[v]:=hGr;have l:∀x,x≠v->x≠a->q x=R x:=fun x b h2=>by grind
 have mem:∀x y,y∈q x↔y∈R x\/(x=v/\y=a)\/(x=a/\y=v):=fun x y=>by grind
 have Q:V7 n q:=by
  refine⟨fun x=>?_,fun x y h=>?_,fun x y h=>?_,fun x h=>?_⟩
  .by_cases b:x=v
   .grind
   by_cases h2:x=a
   .subst h2;rw[k];have:=r.nd x;grind
   .rw[l x b h2];exact r.nd x
  .rcases(mem x y).1 h with h|⟨h,-⟩|⟨h,-⟩
   .exact r.lt x y h
   all_goals grind
  all_goals grind[V7.ir]
 have d:a∈q v:=by rw[j];simp
 have dl:del q v a=R:=by grind[anO,u9,ab1]
 have e:¬Cr (del q v a) v a:=fun c=>ne (cr_iso (fun t g=>by rw[dl,i]at g;simp at g) c);refine⟨q,Q,abG Q d hGr ⟨fun _=>e,fun _=>jh Q d e⟩,fun x y=>?_⟩;rw[mem,m]
theorem aae.up(P:aae n A){v a b:Nat}(ab:A a b)(iso:∀w,¬A v w)(c:v<n):aae n (upR A a b v):=by have⟨R,r,f,m⟩:=P;have S:aan n R a b v:=⟨r,(m _ _).2 ab,qH.2 fun w h=>iso w ((m v w).1 h),c⟩;exact⟨aap R a b v,S.aff,S.flat.2 f,fun x y=>by rw[S.mem,m];rfl⟩
theorem aae.ear(P:aae n A){v a b:Nat}(ab:A a b)(iso:∀w,¬A v w)(d:v<n):aae n fun x y=>A x y\/(x=v/\(y=a\/y=b))\/(y=v/\(x=a\/x=b)):=by
 have sy:=fun v w=>P.sy (v:=v) (w:=w);have ir:=P.ir;have nab:a≠b:=fun e=>ir b (e▸ab:A b b);have nva:v≠a:=fun e=>iso b (e▸ab);have nvb:v≠b:=fun e=>iso a (e▸sy _ _ ab);have⟨q,Q,F,i⟩:=P.up ab iso d;have c:∀y,y∈q v↔y=a\/y=b:=fun y=>by grind[upR]
 have f:nx (q v) a=b:=by
  have g:=ZP ((c a).2 (.inl rfl));rcases(c _).1 g with h|h
  .have:=(Bk (Q.nd v) ((c a).2 (.inl rfl))).1 h;have h2:=(c b).2 (.inr rfl);grind
  .exact h
 have nb:b∉q a:=fun h=>by grind[upR]
 have⟨s,T,G,ms⟩:=ab3 Q F ((c a).2 (.inl rfl)) f nab nb;refine⟨s,T,G,fun x y=>?_⟩;grind[upR]
theorem agx(h3:3<=n)(h:∀v w,¬A v w):aae n A:=by have G:=dP (n:=n) (l:=[0,1,2]) Ma Ma (by simp;omega);exact aae.less (A:=fun v w=>w∈gH [0,1,2] v) ⟨_,G.Rl,G.flat,fun _ _=>Iff.rfl⟩ (fun v w q=>absurd q (h v w)) fun v w q=>absurd q (h v w)
end
def anA(f g:Nat->Nat):∀X:II,(∀v∈X,f v<=g v)->(X.map f).sum<=(X.map g).sum/\((∃v∈X,f v<g v)->(X.map f).sum<(X.map g).sum)
 |[],_=>⟨qL0 _,fun⟨v,h,_⟩=>by simp at h⟩
 |x::X,h=>by
  have⟨b,h2⟩:=anA f g X fun v a=>h v (Gw _ a);have c:=h x Hs;simp only[QD,alw];refine⟨NH,fun⟨v,a,q⟩=>?_⟩;rcases Og.1 a with rfl|a
  .omega
  .have:=h2 ⟨v,a,q⟩;omega
theorem anS(f:Nat->Nat):∀(M X:II),M.Nodup->(∀v∈M,v∈X)->(M.map f).sum<=(X.map f).sum
 |[],_,_,_=>Z6 _
 |x::M,X,nd,h=>by have p:=(perm_cons_erase (h x Hs)).map f;have:=anS f M (X.erase x) (VU.1 nd).2 fun v a=>(qL234 hGr).2 (h v (Gw _ a));grind
theorem aoi{L M:II}(nd:M.Nodup)(h:∀w∈M,w∈L)(a:L.length<=M.length){x:Nat}(b:x∈L):x∈M:=ZT fun no=>by
 have:=acK (A:=x::M) (B:=L) (VU.2 ⟨no,nd⟩) fun w hw=>by grind
 grind
theorem aoK{p q r s t:Nat}(nd:[p,q,r,s,t].Nodup):[p,q,s,t].Nodup/\[p,q,r,t].Nodup/\[p,q,r,s].Nodup/\[p,q,r,t,s].Nodup/\[p,q,s,t,r].Nodup:=hGr
section
variable{n:Nat}{A:Nat->Nat->Prop}
theorem aae.deg3(P:aae n A){b p q r:Nat}(hb:∀w,A b w↔w=p\/w=q\/w=r)(pq:p≠q)(pr:p≠r)(qr:q≠r):aae n (apD A p q):=by
 by_cases h:A p q
 .refine P.congr fun v w=>⟨.inl,?_⟩;rintro(k|⟨rfl,rfl⟩|⟨rfl,rfl⟩)
  .exact k
  .exact h
  .exact P.sy h
 have h':¬A q p:=fun k=>h (P.sy k);have⟨R,o,f,m⟩:=P;have mb:∀w,w∈R b↔w=p\/w=q\/w=r:=fun w=>by rw[m,hb]
 have a:(R b).Perm [p,q,r]:=yR (o.nd b) hGr fun w=>by grind
 have key:nx (R b) p=q\/nx (R b) q=p:=by
  have nd:=o.nd b;have c:=a.length_eq;have m1:=(mb p).2 Ma;have m2:=(mb q).2 Ma;generalize R b=l at*
  match l,c with
  |[x,y,z],_=>clear mb a c;grind[nx,nxF]
 rcases key with k|k
 .obtain⟨s,T,G,ms⟩:=ab3 o f ((mb p).2 (.inl rfl)) k pq hGr;exact⟨s,T,G,fun v w=>by rw[ms,m];rfl⟩
 .obtain⟨s,T,G,ms⟩:=ab3 o f ((mb q).2 (.inr (.inl rfl))) k pq.symm hGr;exact⟨s,T,G,fun v w=>by grind[apD]⟩
theorem anp{a b c d:Nat}(h3:3<=n)(nd:[a,b,c,d].Nodup)(lt:∀v∈[a,b,c,d],v<n):aae n fun v w=>v∈[a,b,c,d]/\w∈[a,b,c,d]/\v≠w:=by have e:=agx (n:=n) (A:=fun _ _=>False) h3 fun _ _ q=>q;have f:=e.aac (v:=b) (a:=a) hGr (lt b Ma) (lt a Ma) hGr;have g:=f.aac (v:=c) (a:=a) hGr (lt c Ma) (lt a Ma) hGr;have i:=g.aac (v:=d) (a:=a) hGr (lt d Ma) (lt a Ma) hGr;have j:=i.deg3 (b:=a) (p:=b) (q:=c) (r:=d) hGr hGr hGr hGr;have k:=j.deg3 (b:=a) (p:=c) (q:=d) (r:=b) (by grind[apD]) hGr hGr hGr;have l:=k.deg3 (b:=a) (p:=b) (q:=d) (r:=c) (by grind[apD]) hGr hGr hGr;refine l.less (fun v w ⟨m,h2,o⟩=>?_) fun v w h=>⟨h.2.1,h.1,h.2.2.symm⟩;grind[apD]
theorem amx{p q r s t:Nat}(h3:3<=n)(nd:[p,q,r,s,t].Nodup)(lt:∀v∈[p,q,r,s,t],v<n)(sy:∀v w,A v w->A w v)(hA:∀v w,A v w->v∈[p,q,r,s,t]/\w∈[p,q,r,s,t]/\v≠w)(n1:¬A p q)(i:¬A r s):aae n A:=by have e:=anp (a:=t) (b:=p) (c:=r) (d:=q) h3 hGr fun v j=>lt v hGr;have f:=e.up (a:=p) (b:=q) (v:=s) hGr hGr (lt s Ma);have g:=f.deg3 (b:=p) (p:=t) (q:=s) (r:=r) (by grind[upR]) hGr hGr hGr;exact g.less (fun v w h=>by have k:=hA v w h;have h2:=sy v w h;grind[apD,upR]) sy
noncomputable def szA(n:Nat)(A:Nat->Nat->Prop):Nat:=((rG n).map fun v=>(lst n A v).length).sum
theorem few_plan(h3:3<=n):∀(k:Nat)(A:Nat->Nat->Prop),szA n A=k->k<=16->(∀v w,A v w->w<n)->(∀v w,A v w->A w v)->(∀v,¬A v v)->aae n A:=by
 intro k
 induction k using Nat.strongRecOn with
 |_ k I=>
 intro A V aa lt sy ir;have R:=aej lt sy ir;have M:∀{v w},w∈lst n A v↔A v w:=aaD lt;by_cases j:∃v x,A v x/\∀w,A v w->w=x
 .obtain⟨v,x,o,hu⟩:=j;have lB:∀a b,(A a b/\a≠v/\b≠v)->b<n:=fun a b q=>lt a b q.1;have ls:=(anA (fun u=>(lst n (fun a b=>A a b/\a≠v/\b≠v) u).length) (fun u=>(lst n A u).length) (rG n) fun u _=>acK ((aej lB hGr hGr).nd u) fun w hw=>M.2 ((aaD lB).1 hw).1).2
   ⟨v,j3.2 (lt x v (sy v x o)),by have e:lst n (fun a b=>A a b/\a≠v/\b≠v) v=[]:=qH.2 fun w hw=>((aaD lB).1 hw).2.1 rfl;grind⟩
  have P:=I _ (by rw[<-V];exact ls) (fun a b=>A a b/\a≠v/\b≠v) rfl (by grind[szA]) lB hGr hGr;exact(P.aac (v:=v) (a:=x) hGr (lt x v (sy v x o)) (lt v x o) hGr).congr fun a b=>by grind
 by_cases h2:∃v x y,x≠y/\A v x/\A v y/\∀w,A v w->w=x\/w=y
 .obtain⟨v,x,y,xy,o,vy,hu⟩:=h2;have W:=lt x v (sy v x o);have ae:v≠x:=fun e=>ir v hGr;have ag:v≠y:=fun e=>ir v hGr;have lB:∀a b,((A a b/\a≠v/\b≠v)\/(a=x/\b=y)\/(a=y/\b=x))->b<n:=fun a b q=>by grind
  have rB:=aej lB hGr hGr;have mB:∀{a b},b∈lst n _ a↔_:=fun{a b}=>aaD lB (v:=a) (w:=b);have ls:=(anA (fun u=>(lst n (fun a b=>(A a b/\a≠v/\b≠v)\/(a=x/\b=y)\/(a=y/\b=x)) u).length) (fun u=>(lst n A u).length) (rG n) fun u _=>by
    by_cases ux:u=x
    .subst ux;have g:v∈lst n A u:=M.2 (sy _ _ o);have l1:=qL168 g;have l2:=aho g;have:=acK (rB.nd u) (B:=y::(lst n A u).erase v) fun w hw=>by grind
     grind
    by_cases uy:u=y
    .subst uy;have g:v∈lst n A u:=M.2 (sy _ _ vy);have l1:=qL168 g;have l2:=aho g;have:=acK (rB.nd u) (B:=x::(lst n A u).erase v) fun w hw=>by grind
     grind
    .exact acK (rB.nd u) fun w hw=>M.2 hGr).2
   ⟨v,j3.2 W,by
    have e:lst n (fun a b=>(A a b/\a≠v/\b≠v)\/(a=x/\b=y)\/(a=y/\b=x)) v=[]:=qH.2 fun w hw=>by grind
    grind⟩
  have P:=I _ (by rw[<-V];exact ls) (fun a b=>(A a b/\a≠v/\b≠v)\/(a=x/\b=y)\/(a=y/\b=x)) rfl (by grind[szA]) lB hGr hGr;refine(P.ear (a:=x) (b:=y) (v:=v) (.inr (.inl ⟨rfl,rfl⟩)) (fun w q=>by grind) W).less (fun a b h=>?_) sy;by_cases X:a=v
  all_goals grind
 have d3:∀v x,A v x->3<=(lst n A v).length:=fun v x o=>by
  have nd:=R.nd v;have m:=fun w=>M (v:=v) (w:=w);generalize lst n A v=l at*
  match l with
  |[]=>grind
  |[a]=>exact absurd ⟨v,a,(m a).1 Ma,fun w hw=>by grind⟩ j
  |[a,b]=>exact absurd ⟨v,a,b,hGr,(m a).1 Ma,(m b).1 Ma,fun w hw=>by simpa using(m w).2 hw⟩ h2
  |_::_::_::_=>simp
 clear j h2 I;have sub:∀(L:II),L.Nodup->(∀v∈L,v<n)->(L.map fun v=>(lst n A v).length).sum<=16:=fun L nd hl=>jz (anS _ L (rG n) nd fun v g=>j3.2 (hl v g)) (by grind[szA]);by_cases h0:∃p x,A p x
 rotate_left
 .grind[agx]
 have⟨f,x0,q0⟩:=h0;have E:∃p,(∃x,A p x)/\(lst n A p).length=3:=by
  refine ZT fun no=>?_;have d4:∀v x,A v x->4<=(lst n A v).length:=fun v x h=>by grind
  have l0:=d4 f x0 q0;have nd:=R.nd f;have m:=fun w=>M (v:=f) (w:=w);generalize lst n A f=l at*
  match l,l0 with
  |a::b::c::d::l,_=>
   have ha:=(m a).1 Ma;have hb:=(m b).1 Ma;have hc:=(m c).1 Ma;have hd:=(m d).1 Ma;have s:=sub [f,a,b,c,d] (by
    have:=ir f;have n1:f≠a:=fun e=>this (e▸ha);have n2:f≠b:=fun e=>this (e▸hb);have n3:f≠c:=fun e=>this (e▸hc);have n4:f≠d:=fun e=>this (e▸hd);grind) (by
    have:=lt _ _ (sy _ _ ha);have:=lt _ _ ha;have:=lt _ _ hb;have:=lt _ _ hc;have:=lt _ _ hd;grind)
   grind
 clear f x0 q0;have⟨p,⟨x,px⟩,lp⟩:=E;have nd:=R.nd p;have m:=fun w=>M (v:=p) (w:=w);have dp:=d3 p x px;obtain⟨r,s,t,el⟩:∃r s t,lst n A p=[r,s,t]:=by
  generalize lst n A p=l at lp
  match l,lp with
  |[a,b,c],_=>grind
 rw[el]at nd m;have pr:=(m r).1 Ma;have ps:=(m s).1 Ma;have J:=(m t).1 Ma;have z:=ir p;have n1:p≠r:=fun e=>z (e▸pr);have n2:p≠s:=fun e=>z (e▸ps);have n3:p≠t:=fun e=>z (e▸J);have K:[p,r,s,t].Nodup:=hGr;have N:∀v∈[p,r,s,t],v<n:=hGr;by_cases F:∀v w,A v w->v∈[p,r,s,t]
 .exact(anp h3 K N).less (fun v w h=>⟨F v w h,F w v (sy v w h),fun e=>ir v hGr⟩) sy
 have⟨q,H⟩:=qL239.1 F;have⟨y,H⟩:=qL239.1 H;have⟨qy,nq⟩:=Classical.not_imp.1 H;clear H F;have pq:¬A p q:=fun k=>by grind
 have i:[p,q,r,s,t].Nodup:=hGr;have C:∀v∈[p,q,r,s,t],v<n:=hGr;have h5:∀v w,A v w->v∈[p,q,r,s,t]:=fun v w h=>ZT fun nv=>by
  have s6:=sub [v,p,q,r,s,t] hGr (by grind);have e0:=d3 v w h;have X:=d3 p r pr;have e2:=d3 q y qy;have e3:=d3 r p (sy _ _ pr);have e4:=d3 s p (sy _ _ ps);have e5:=d3 t p (sy _ _ J);simp only[QD,qL245,alw,List.sum_nil]at s6;omega
 have hA:∀v w,A v w->v∈[p,q,r,s,t]/\w∈[p,q,r,s,t]/\v≠w:=fun v w h=>⟨h5 v w h,h5 w v (sy v w h),fun e=>ir v hGr⟩;have O:¬(A r s/\A s t/\A r t):=fun⟨k1,k2,k3⟩=>by
  have Q:=d3 q y qy;have q3:∀w,A q w->w=r\/w=s\/w=t:=fun w h=>by have:=(hA q w h).2;have:w≠p:=fun e=>pq (sy _ _ (e▸h));grind
  have S:A q r/\A q s/\A q t:=by
   have D:=R.nd q;have T:=fun w=>M (v:=q) (w:=w);have j:∀w∈lst n A q,w∈[r,s,t]:=fun w hw=>by grind
   exact⟨(T r).1 (aoi D j Q Ma),(T s).1 (aoi D j Q Ma),(T t).1 (aoi D j Q Ma)⟩
  obtain⟨i1,i2,i3,-⟩:=aoK i;have s5:=sub [p,q,r,s,t] i C;have U:∀v a b c d,[a,b,c,d].Nodup->A v a->A v b->A v c->A v d->4<=(lst n A v).length:=fun v a b c d hn j h2 h3 F=>by
   have:=acK (A:=[a,b,c,d]) (B:=lst n A v) hn fun w hw=>M.2 (by simp only[Og,ai4,or_false]at hw;rcases hw with rfl|rfl|rfl|rfl<;>assumption);simpa using this
  have X:=d3 p r pr;have e3:=U r p q s t i1 (sy _ _ pr) (sy _ _ S.1) k1 k3;have e4:=U s p q r t i2 (sy _ _ ps) (sy _ _ S.2.1) (sy _ _ k1) k2;have e5:=U t p q r s i3 (sy _ _ J) (sy _ _ S.2.2) (sy _ _ k3) (sy _ _ k2);simp only[QD,qL245,alw,List.sum_nil]at s5;omega
 obtain⟨-,-,-,i4,i5⟩:=aoK i;have G:∀{a b c:Nat},(∀v,v=r\/v=s\/v=t↔v=a\/v=b\/v=c)->(∀v∈[p,q,a,b,c],v<n)/\∀v w,A v w->v∈[p,q,a,b,c]/\w∈[p,q,a,b,c]/\v≠w:=fun{a b c} h=>by
  have e:∀v,v∈[p,q,a,b,c]↔v∈[p,q,r,s,t]:=fun v=>by have:=h v;simp only[Og,ai4,or_false];omega
  exact⟨fun v g=>C v ((e v).1 g),fun v w k=>by grind⟩
 by_cases k1:A r s
 .by_cases k2:A s t
  .obtain⟨l1,l2⟩:=G (a:=r) (b:=t) (c:=s) fun v=>by omega
   exact amx (p:=p) (q:=q) (r:=r) (s:=t) (t:=s) h3 i4 l1 sy l2 pq fun k=>O ⟨k1,k2,k⟩
  .obtain⟨l1,l2⟩:=G (a:=s) (b:=t) (c:=r) fun v=>by omega
   exact amx (p:=p) (q:=q) (r:=s) (s:=t) (t:=r) h3 i5 l1 sy l2 pq k2
 .exact amx (p:=p) (q:=q) (r:=r) (s:=s) (t:=t) h3 i C sy hA pq k1
end
end
end Go.Fw
