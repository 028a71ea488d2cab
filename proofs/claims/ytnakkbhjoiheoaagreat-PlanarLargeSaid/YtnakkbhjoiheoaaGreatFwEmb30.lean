/- A text. -/
import Derived.Test.YtnakkbhjoiheoaaGreatFwEmb17
set_option linter.all false
set_option maxRecDepth 99999
set_option maxHeartbeats 9999999
open Option renaming some→Z
open List renaming range→rG
open List
namespace Go.Fw
section
attribute [local instance] Classical.propDecidable
def sig(a b m:Nat)(d:H8):H8:=(d.1,if d.1=a then hh b m d.2 else if d.1=b then hh a m d.2 else d.2)
theorem sig_oth{a b m y z:Nat}(c1:y≠a)(c2:y≠b):sig a b m (y,z)=(y,z):=by grind[sig]
section
variable{n:Nat}{R:Nat->II}{a b m:Nat}
theorem aan.Ui(S:aan n R a b m):aap R a b m a=(R a).map (hh b m):=by grind[aap,aan.ne]
theorem aan.at_b(S:aan n R a b m):aap R a b m b=(R b).map (hh a m):=by grind[aap,aan.ne]
theorem aan.at_m(S:aan n R a b m):aap R a b m m=[a,b]:=qL7 rfl
def aan.nxa(S:aan n R a b m){x:Nat}(h:x∈R a):nx (aap R a b m a) (hh b m x)=hh b m (nx (R a) x):=by rw[S.Ui];exact HL (aee S.nm) h
def aan.nxb(S:aan n R a b m){x:Nat}(h:x∈R b):nx (aap R a b m b) (hh a m x)=hh a m (nx (R b) x):=by rw[S.at_b];exact HL (aee S.nm) h
theorem acQ(b m:Nat):hh b m b=m:=qL7 rfl
theorem aan.s1(S:aan n R a b m):Nv (aap R a b m) (a,m)=(m,b)/\Nv (aap R a b m) (m,b)=sig a b m (Nv R (a,b))/\Nv (aap R a b m) (b,m)=(m,a)/\Nv (aap R a b m) (m,a)=sig a b m (Nv R (b,a)):=by
 have⟨d,_,_⟩:=S.ne;have c:=S.Rl.sy _ _ S.ab;refine⟨?_,?_,?_,?_⟩
 .grind[Nv.eq_1,aan.at_m,ajt]
 .have:=S.nxb c;grind[acQ,Nv.eq_1,sig]
 .grind[Nv.eq_1,aan.at_m,ajt]
 .have:=S.nxa S.ab;grind[acQ,Nv.eq_1,sig]
theorem aan.s2(S:aan n R a b m){d:H8}(hd:d∈dl n R)(n1:d≠(a,b))(f:d≠(b,a)):Nv (aap R a b m) (sig a b m d)=sig a b m (Nv R d):=by
 have⟨x,y⟩:=d;have e:=(IP S.Rl).1 hd;have c:=S.Rl.sy _ _ e;have es:sig a b m (x,y)=(x,y):=by grind[sig,hh]
 rw[es,Nv];by_cases c1:y=a
 .subst c1;have k:=S.nxa c;grind[hh,Nv,sig]
 by_cases c2:y=b
 .subst c2;have k:=S.nxb c;grind[hh,Nv,sig]
 .have g:y≠m:=by grind[aan.rm]
  have k:aap R a b m y=R y:=by grind[aap]
  show(y,nx (aap R a b m y) x)=sig a b m (y,nx (R y) x);grind[sig_oth]
theorem aan.orb(S:aan n R a b m):WD (Nv (aap R a b m)) (a,m) (m,a)↔WD (Nv R) (a,b) (b,a):=by
 have⟨t1,l,o,q⟩:=S.s1;have p:=aaG S.Rl;have f:((a,b):H8)∈dl n R:=(IP S.Rl).2 S.ab;have sa:sig a b m (a,b)=(a,m):=by simp[sig,hh]
 have sb:sig a b m (b,a)=(b,m):=by grind[sig,hh]
 constructor
 .rintro⟨k,i⟩;have QI:∀k,∃d,WD (Nv R) (a,b) d/\(it (Nv (aap R a b m)) k (a,m)=sig a b m d\/(d=(a,b)/\it (Nv (aap R a b m)) k (a,m)=(m,b))\/(d=(b,a)/\it (Nv (aap R a b m)) k (a,m)=(m,a))):=fun k=>by
   induction k with
   |zero=>exact⟨(a,b),WD.refl _ _,.inl sa.symm⟩
   |succ k g=>
    have⟨d,c,h⟩:=g;have hd:d∈dl n R:=by obtain⟨j,rfl⟩:=c;grind[Pm.uN]
    have e:it (Nv (aap R a b m)) (k+1) (a,m)=Nv (aap R a b m) (it (Nv (aap R a b m)) k (a,m)):=rfl;rw[e];rcases h with h|⟨rfl,h⟩|⟨rfl,h⟩
    .by_cases c1:d=(a,b)
     all_goals grind[WD.trans,WD.one,aan.s2]
    all_goals grind[WD.trans,WD.one]
  have⟨d,c,h⟩:=QI k;rw[i]at h;rcases h with h|⟨_,h⟩|⟨rfl,_⟩
  .have e:=congrArg Prod.fst h;have e:m=d.1:=e;have hd:d∈dl n R:=by obtain⟨j,rfl⟩:=c;grind[Pm.uN]
   grind[IP,aan.Rl,aan.rm]
  all_goals grind
 .intro c;have step:∀d∈dl n R,WD (Nv (aap R a b m)) (sig a b m d) (sig a b m (Nv R d)):=fun d hd=>by
   by_cases c1:d=(a,b)
   .grind[WD.one,WD.trans]
   by_cases c2:d=(b,a)
   all_goals grind[WD.one,WD.trans,aan.s2]
  have⟨k,i⟩:=c;have all:∀k,WD (Nv (aap R a b m)) (a,m) (sig a b m (it (Nv R) k (a,b))):=fun k=>by
   induction k with
   |zero=>show WD _ _ (sig a b m (a,b));grind[WD.refl]
   |succ k g=>exact g.trans (step _ (p.uN f k))
  grind[WD.trans,WD.one]
theorem aan.flat(S:aan n R a b m):Flat n (aap R a b m)↔Flat n R:=by
 have⟨g,h2,h3⟩:=S.ne;have i:=S.Rl.sy _ _ S.ab;have R':=S.aff;have j:m∈aap R a b m a:=by rw[S.Ui,ZT];exact⟨b,S.ab,acQ b m⟩
 have k:=afL R' h2;have f:∀{x y},y∈del (aap R a b m) a m x↔y∈aap R a b m x/\¬(x=a/\y=m)/\¬(x=m/\y=a):=by grind[JF]
 have l:m∈del (aap R a b m) a m b:=by grind[aan.at_b,acQ]
 have p:del (del (aap R a b m) a m) b m=del R a b:=by
  funext x;unfold del;by_cases c1:x=a
  .subst c1;rw[Z6 g,Z6 h2,qL7 rfl,qL7 rfl,S.Ui];exact ab2 (S.Rl.nd _) S.nm
  by_cases c2:x=b
  .subst c2;rw[qL7 rfl,Z6 c1,Z6 h3,Z6 c1,qL7 rfl,S.at_b];exact ab2 (S.Rl.nd _) S.nm
  grind[aan.rm,aap]
 have d:∀{x y},y∈del R a b x↔y∈R x/\¬(x=a/\y=b)/\¬(x=b/\y=a):=fun{x y}=>JF S.Rl g;have u:∀y,y∈del (aap R a b m) a m m↔y=b:=by grind[aan.at_m]
 have aac:Flat n (del (aap R a b m) a m)↔Flat n (del R a b):=by
  have o:WD (Nv (del (aap R a b m) a m)) (b,m) (m,b):=⟨1,by show(m,nx (del (aap R a b m) a m m) b)=(m,b);grind[ZP]⟩;have v:¬Cr (del (del (aap R a b m) a m) b m) b m:=fun c=>by
   rw[p]at c;cases c with
   |refl=>exact h3 rfl
   |step _ hs=>exact S.nm (d.1 hs).1
  grind[Lq,abG]
 have r:Cr (del (aap R a b m) a m) a m↔Cr (del R a b) a b:=by
  have back:∀y,Cr (del (aap R a b m) a m) a y->(y≠m->Cr (del R a b) a y)/\(y=m->Cr (del R a b) a b):=fun y c=>by
   induction c with
   |refl=>exact⟨fun _=>.refl _,hGr⟩
   |@step x y _ hs s=>
    by_cases t:x=m
    .grind
    .by_cases w:y=m
     .have z:=k.sy _ _ hs;grind
     .refine⟨fun _=>(s.1 t).step ?_,hGr⟩;grind[aan.mem]
  constructor
  .grind
  .intro c;have up:Cr (del (aap R a b m) a m) a b:=c.mono fun x y h=>by
    have q:=d.1 h;refine f.2 ⟨S.mem.2 (.inl q),fun e=>?_,fun e=>?_⟩
    .rw[e.2]at q;exact S.nm q.1
    grind[aan.rm]
   exact up.step (by grind[V7.sy])
 grind[Lq,abG,aan.Rl,aan.ab,aan.orb]
end
section
variable{n:Nat}{E E':Nat->II}{a b m:Nat}
theorem XU.congr(h:∀v w,w∈E' v↔w∈E v):XU n E'↔XU n E:=by
 constructor
 .rintro⟨R,c,fl,d⟩;exact⟨R,c,fl,hGr⟩
 .rintro⟨R,c,fl,d⟩;exact⟨R,c,fl,hGr⟩
theorem XU.less(d:XU n E)(hs:∀v w,w∈E' v->w∈E v)(sy:∀v w,w∈E' v->v∈E' w):XU n E':=by have⟨R,c,fl,e⟩:=d;refine⟨Om (fun v w=>w∈E' v) R,OG c sy,fl.keep c sy,fun v w=>?_⟩;grind[EM]
theorem hh_back{b m:Nat}{l:II}(hb:b∉l):(l.map (hh m b)).map (hh b m)=l:=by
 rw[im];have:∀x∈l,(hh b m∘hh m b) x=x:=by grind[hh]
 rw[V3 this,map_id']
structure aj4 (n:Nat) (E E':Nat->II) (a b m:Nat):Prop where
 e:V7 n E
 e':V7 n E'
 ab:b∈E a
 em:E m=[]
 mn:m<n
 mem:∀v w,w∈E' v↔(w∈E v/\¬(v=a/\w=b)/\¬(v=b/\w=a))\/(v=m/\(w=a\/w=b))\/(w=m/\(v=a\/v=b))
theorem aj4.alx(U:aj4 n E E' a b m):XU n E'↔XU n E:=by
 have k:a≠b:=fun e=>U.e.ir a (by grind[aj4.ab]);have B:a≠m:=fun e=>by have:=U.ab;grind[aj4.em]
 have C:=U.e.sy _ _ U.ab;have D:b≠m:=by grind[aj4.em]
 have F:∀v,m∉E v:=fun v h=>by have:=U.e.sy _ _ h;grind[aj4.em]
 constructor
 .rintro⟨R,g,fl,f⟩;have hb:b∉R a:=fun h=>by
   rcases(U.mem _ _).1 ((f _ _).1 h)with q|q|q
   all_goals grind
  have ha:a∉R b:=by grind[V7.sy]
  have o:m∈R a:=(f _ _).2 ((U.mem _ _).2 hGr);have p:m∈R b:=(f _ _).2 ((U.mem _ _).2 hGr)
  let Q:Nat->II:=fun v=>if v=m then[]else if v=a then(R a).map (hh m b)else if v=b then(R b).map (hh m a)else R v
  have G:Q m=[]:=qL7 rfl;have H:Q a=(R a).map (hh m b):=hGr;have I:Q b=(R b).map (hh m a):=hGr;have z:∀v,v≠m->v≠a->v≠b->Q v=R v:=hGr;have i:∀{v b w:Nat},b∉R v->m∈R v->(w∈(R v).map (hh m b)↔(w∈R v/\w≠m)\/w=b):=by grind[hh]
  have d:∀v w,w∈Q v↔w∈E v:=fun v w=>by
   by_cases c1:v=m
   .grind[aj4.em]
   by_cases c2:v=a
   .subst c2;rw[H,i hb o,f,U.mem];grind[aj4.ab]
   by_cases l:v=b
   .subst l;rw[I,i ha p,f,U.mem];grind
   .rw[z v c1 c2 l,f,U.mem];grind
  have A:∀{v b:Nat},b∉R v->((R v).map (hh m b)).Nodup:=fun{v b} h=>by rw[AE,Uz];exact Qn (by grind[aee]) (AE.1 (g.nd v))
  have j:V7 n Q:=by
   refine⟨fun v=>?_,fun v w h=>U.e.lt _ _ ((d v w).1 h),fun v w h=>(d w v).2 (U.e.sy _ _ ((d v w).1 h)),fun v h=>U.e.ir v ((d v v).1 h)⟩;by_cases c1:v=m
   .grind
   by_cases c2:v=a
   .grind
   by_cases l:v=b
   .grind
   .rw[z v c1 c2 l];exact g.nd v
  have S:aan n Q a b m:=⟨j,(d _ _).2 U.ab,G,U.mn⟩;have same:pP R (aap Q a b m):=fun v=>by
   unfold aap;by_cases c1:v=m
   .subst c1;rw[qL7 rfl];have mm:∀y,y∈R v↔y=a\/y=b:=fun y=>by
     rw[f,U.mem,U.em];grind
    have r:=(mm a).2 (.inl rfl);have⟨c,s⟩:=Cyc.front r;have nd:=s.perm.nodup_iff.1 (g.nd v);have J:=ZZ (g.nd v) k mm;have pm:=(yR (g.nd v) (by simp[k]:[a,b].Nodup) hGr).length_eq;have lc:c.length=1:=by have:=s.perm.length_eq;grind
    match c,lc with
    |[x],_=>have K:=(mm x).1 (s.perm.mem_iff.2 Ma);grind
   rw[Z6 c1];by_cases c2:v=a
   all_goals grind[hh_back,Cyc.refl]
  exact⟨Q,j,S.flat.1 ((same.flat g).1 fl),d⟩
 .rintro⟨R,g,fl,f⟩;have u:R m=[]:=j9 fun q=>by
   have⟨w,t,e⟩:=Tn q;have:=(f m w).1 (by rw[e];simp);grind[aj4.em]
  have S:aan n R a b m:=⟨g,(f _ _).2 U.ab,u,U.mn⟩;exact⟨aap R a b m,S.aff,S.flat.2 fl,fun v w=>by rw[S.mem,U.mem,f]⟩
end
section
variable{n:Nat}{r:Nat->II}{F:Cs}
theorem iso_on(n:Nat)(r:Nat->II):((rG n).filter fun v=>decide (r v=[])).length+(kV n r).length=n:=by
 have QI:∀X:II,(X.filter fun v=>decide (r v=[])).length+(X.filter fun v=>decide (r v≠[])).length=X.length:=fun X=>by
  induction X<;>grind
 have:=QI (rG n);rw[y5]at this;exact this
theorem cmps_on(R:V7 n r)(bp:∀v w,r v≠[]->r w≠[]->Cr r v w)(ne:∃v,v<n/\r v≠[]):iJ n r=((rG n).filter fun v=>decide (r v=[])).length+1:=by
 have⟨d,g,i⟩:=ne;unfold iJ;have iso:∀{v w},r v=[]->Cr r v w->v=w:=fun{v w} h c=>by
  induction c<;>grind
 have k1:∀y∈((rG n).filter fun v=>decide (r v=[]))++[d],y∈rG n:=hGr;have k2:(((rG n).filter fun v=>decide (r v=[]))++[d]).Pairwise fun a b=>¬Cr r a b:=by
  rw[Fu];refine⟨?_,Ma,fun x f y k c=>?_⟩
  .refine Qn (R:=fun x y=>x≠y) (fun{x y} f _ e c=>e ?_) (by grind[List.nodup_range]);grind
  grind
 have j:∀x∈rG n,∃y∈((rG n).filter fun v=>decide (r v=[]))++[d],Cr r x y:=fun x f=>by
  by_cases h:r x=[]
  .exact⟨x,(by grind[decide_eq_true]),.refl _⟩
  grind
 rw[ach (Cr.eqv R _) uV k1 k2 j];simp
theorem al3(R:V7 n r)(hf:Flat n r)(bp:∀v w,r v≠[]->r w≠[]->Cr r v w)(ne:∃v,v<n/\r v≠[]):2*((kV n r).length+cls (WD (Nv r)) (dl n r))=(dl n r).length+4:=by grind[iso_on,cmps_on,Flat,mj]
theorem Oz(h3:3<=(kV n r).length)(v w:Nat):∃x,x<n/\r x≠[]/\x≠v/\x≠w:=by
 have nd:(kV n r).Nodup:=uV.sublist abV;have d:∀x∈kV n r,x<n/\r x≠[]:=fun x e=>⟨EP.1 (iy.1 e).1,ag1 (iy.1 e).2⟩;generalize kV n r=L at h3 nd d
 match L,h3 with
 |a::b::c::t,_=>have ha:=d a Ma;have hb:=d b Ma;have f:=d c Ma;grind
theorem afU(R:V7 n r)(D:QG r)(h3:3<=(kV n r).length){d:H8}(hd:d∈dl n r):3<=bt (Nv r) d/\(bt (Nv r) d=3->∃x y z,y∈r x/\z∈r y/\x∈r z):=by
 have p:=aaG R;have⟨j,f,_⟩:=aaM p hd;have g:=Sg R hd;have m0:=(IP R).1 hd;have m1:=(IP R).1 (p.uN hd 1);have m2:=(IP R).1 (p.uN hd 2);have⟨v,w⟩:=d;have⟨x,k,a,x1,h⟩:=Oz h3 v w;have i:v≠w:=by grind[V7.ir]
 constructor
 .refine qL211 g fun e=>?_;rw[<-e]at f;have b:(nx (r w) v,nx (r (nx (r w) v)) w)=((v,w):H8):=f;injection b with b _;have c:v∈r w:=R.sy _ _ m0;exact D.deg ((Bk (R.nd w) c).1 b) a h x1 (ff i)
 grind[it,Nv]
theorem bound_on(R:V7 n r)(hf:Flat n r)(D:QG r)(h3:3<=(kV n r).length):(dl n r).length+12<=6*(kV n r).length/\((∀x y z,y∈r x->z∈r y->x∉r z)->(dl n r).length+8<=4*(kV n r).length):=by
 have⟨x,b,a,_⟩:=Oz h3 0 0;have e:=al3 R hf D.bp ⟨x,b,a⟩;constructor
 .have:=Gj R (k:=3) (by grind[afU]);omega
 .intro c;have:=Gj R (k:=4) (by grind[afU]);omega
theorem XU.bound{E:Nat->II}(d:V7 n E)(D:QG E)(h3:3<=(kV n E).length)(a:XU n E):(dl n E).length+12<=6*(kV n E).length/\((∀x y z,y∈E x->z∈E y->x∉E z)->(dl n E).length+8<=4*(kV n E).length):=by
 have⟨R,b,fl,c⟩:=a;have e:kV n R=kV n E:=by
  refine DF fun v _=>?_;have:R v=[]↔E v=[]:=by rw[jz,jz];grind
  grind
 have f:(dl n R).length=(dl n E).length:=by grind[J8,IP,List.Perm.length_eq]
 have:=bound_on b fl (D.same c) hGr;grind
end
variable {l:II} {m n v w x:Nat}
theorem al4{E:Nat->II}(h:∀v,m<=v->E v=[])(k:Nat):dl (m+k) E=dl m E/\kV (m+k) E=kV m E:=by
 have e:rG (m+k)=rG m++(rG k).map (m+·):=range_add;constructor
 .grind[dl,flatMap_eq_nil_iff]
 grind[kV,filter_none]
def k5E(v:Nat):II:=if v<5 then(rG 5).filter fun w=>w !=v else[]
def ahu(v:Nat):II:=if v<3 then[3,4,5]else if v<6 then[0,1,2]else[]
theorem pZ:w∈k5E v↔v<5/\w<5/\w≠v:=by grind[k5E]
theorem agU:w∈ahu v↔(v<3/\3<=w/\w<6)\/(3<=v/\v<6/\w<3):=by grind[ahu]
theorem ne_nil_of(h:x∈l):l≠[]:=fun e=>by grind
def al6(h:l≠[]):∃x,x∈l:=by have⟨x,t,e⟩:=Tn h;exact⟨x,by rw[e];simp⟩
theorem k5_no(b:5<=n):¬XU n k5E:=fun d=>by
 have lt:∀{v},k5E v≠[]->v<5:=fun h=>by have⟨x,f⟩:=al6 h;grind[pZ]
 have R:V7 n k5E:=by
  refine⟨fun v=>?_,fun v w h=>?_,fun v w h=>?_,fun v h=>?_⟩
  all_goals grind[k5E,filter_sublist]
 have D:QG k5E:=by
  refine⟨fun v w a hw=>?_,fun c v w g h2 a hw=>?_⟩
  .by_cases e:w=v
   .rw[e];exact .refl _
   grind[Cr.one,pZ]
  .by_cases e:w=v
   .rw[e];exact .refl _
   grind[Cr.one,EM,pZ]
 have off:∀v,5<=v->k5E v=[]:=hGr;obtain⟨k,rfl⟩:=qL190 b;have⟨i,j⟩:=al4 off k;have l1:(dl 5 k5E).length=20:=by decide
 have l2:(kV 5 k5E).length=5:=by
  have:kV 5 k5E=rG 5:=Ki.2 fun v a=>by
   have a:=EP.1 a
   refine WA (ne_nil_of (x:=if v=0 then 1 else 0) (pZ.2 ⟨a,?_,?_⟩))
   all_goals grind
  grind
 have:=(d.bound R D hGr).1;grind
theorem k33_no(f:6<=n):¬XU n ahu:=fun g=>by
 have lt:∀{v},ahu v≠[]->v<6:=fun h=>by have⟨x,i⟩:=al6 h;grind[agU]
 have R:V7 n ahu:=by
  refine⟨fun v=>?_,fun v w h=>?_,fun v w h=>?_,fun v h=>?_⟩
  all_goals grind[ahu]
 have D:QG ahu:=by
  have two:∀c v w,v≠c->w≠c->v<6->w<6->Cr (Om (fun x y=>x≠c/\y≠c) ahu) v w:=fun c v w d h2 e hw=>by
   have UQ:∀{x y},x≠c->y≠c->((x<3/\3<=y/\y<6)\/(3<=x/\x<6/\y<3))->Cr (Om (fun x y=>x≠c/\y≠c) ahu) x y:=by grind[Cr.one,EM,agU]
   by_cases a:v<3
   .by_cases b:w<3
    .by_cases z:c=3
     .exact(UQ (y:=4) d NH NH).trans hGr
     .exact(UQ (y:=3) d NH NH).trans hGr
    grind
   .by_cases b:w<3
    .grind
    .by_cases z:c=0
     .exact(UQ (y:=1) d NH NH).trans hGr
     .exact(UQ (y:=0) d NH NH).trans hGr
  refine⟨fun v w e hw=>?_,fun c v w d h2 e hw=>two c v w d h2 (lt e) (lt hw)⟩;have a:=lt e;have b:=lt hw;exact(two 6 v w NH NH a b).mono (by grind[EM])
 have off:∀v,6<=v->ahu v=[]:=hGr;obtain⟨k,rfl⟩:=qL190 f;have⟨j,l⟩:=al4 off k;have l1:(dl 6 ahu).length=18:=by decide
 have l2:(kV 6 ahu).length=6:=by grind[kV,ahu,filter_eq_self]
 have:=(g.bound R D hGr).2 (by grind[agU]);grind
structure Ren (n:Nat) (p q:Nat->Nat):Prop where
 pl:∀v,v<n->p v<n
 ql:∀v,v<n->q v<n
 pq:∀v,v<n->p (q v)=v
 qp:∀v,v<n->q (p v)=v
def uH(n:Nat)(p q:Nat->Nat)(r:Nat->II)(w:Nat):II:=if w<n then(r (q w)).map p else[]
def pp(p:Nat->Nat)(d:H8):H8:=(p d.1,p d.2)
section
variable{n:Nat}{p q:Nat->Nat}{r:Nat->II}
theorem Ren.inj(N:Ren n p q){x y:Nat}(a:x<n)(b:y<n)(e:p x=p y):x=y:=by grind[Ren.qp]
theorem ren_at(N:Ren n p q){v:Nat}(a:v<n):uH n p q r (p v)=(r v).map p:=by grind[uH,Ren.pl,Ren.qp]
def rlt(R:V7 n r){v w:Nat}(h:w∈r v):v<n/\w<n:=⟨R.lt _ _ h,R.lt _ _ (R.sy _ _ h)⟩
theorem uX(N:Ren n p q)(R:V7 n r){v w:Nat}:w∈uH n p q r v↔v<n/\w<n/\q w∈r (q v):=by
 unfold uH;by_cases c:v<n
 .rw[qL7 c,ZT];constructor
  .rintro⟨x,a,rfl⟩;have:=(rlt R a).2;grind[Ren.pl,Ren.qp]
  grind[Ren.pq]
 grind
theorem aef(N:Ren n p q)(R:V7 n r):V7 n (uH n p q r):=by
 refine⟨fun v=>?_,(by grind[uX]),fun v w h=>?_,(by grind[V7.ir,uX])⟩
 .unfold uH;split
  .rw[AE,Uz];exact Qn (fun{x y} b c a e=>a (N.inj (rlt R b).2 (rlt R c).2 e)) (AE.1 (R.nd _))
  .simp
 grind[uX,V7.sy]
def ren_phi(N:Ren n p q)(R:V7 n r){d:H8}(hd:d∈dl n r):Nv (uH n p q r) (pp p d)=pp p (Nv r d):=by have a:=(IP R).1 hd;have hs:=R.sy _ _ a;show(p d.2,nx (uH n p q r (p d.2)) (p d.1))=(p d.2,p (nx (r d.2) d.1));rw[ren_at N (rlt R a).2,HL (fun x b y c e=>N.inj (rlt R b).2 (rlt R c).2 e) hs]
def XS(N:Ren n p q)(R:V7 n r){d:H8}(hd:d∈dl n r):∀k,it (Nv (uH n p q r)) k (pp p d)=pp p (it (Nv r) k d)
 |0=>rfl
 |k+1=>by show Nv (uH n p q r) (it (Nv (uH n p q r)) k (pp p d))=_;rw[XS N R hd k,ren_phi N R ((aaG R).uN hd k)];rfl
theorem pp_inj(N:Ren n p q)(R:V7 n r){d e:H8}(hd:d∈dl n r)(a:e∈dl n r)(h:pp p d=pp p e):d=e:=by have b:=rlt R ((IP R).1 hd);have h2:=rlt R ((IP R).1 a);injection h with k1 k2;grind[Ren.inj]
theorem ren_cr(N:Ren n p q)(R:V7 n r){x y:Nat}(b:x<n)(d:y<n):Cr (uH n p q r) (p x) (p y)↔Cr r x y:=by
 constructor
 .have QI:∀z,Cr (uH n p q r) (p x) z->Cr r x (q z):=fun z c=>by
   induction c with
   |refl=>rw[N.qp x b];exact .refl _
   |step _ hs a=>exact a.step (by grind[uX])
  grind[Ren.qp]
 .intro h;clear d
  induction h with
  |refl=>exact .refl _
  |step _ hs a=>have k:=rlt R hs;exact a.step (by grind[uX,Ren.pl,Ren.qp])
theorem pd(N:Ren n p q)(R:V7 n r):Flat n (uH n p q r)↔Flat n r:=by
 have R':=aef N R;have a:(rG n).Perm ((rG n).map p):=by
  refine yR uV ?_ fun v=>?_
  .grind[List.Pairwise.imp_of_mem,Ren.inj,nodup_range]
  .all_goals grind[Ren.ql,Ren.pq,Ren.pl]
 have b:(dl n (uH n p q r)).Perm ((dl n r).map (pp p)):=by
  refine yR (J8 R') ?_ fun d=>?_
  .rw[AE,Uz];exact Qn (fun{x y} i j c e=>c (pp_inj N R i j e)) (AE.1 (J8 R))
  .rw[IP R',uX N R,ZT];constructor
   .rintro⟨l,h2,h3⟩;exact⟨(q d.1,q d.2),(IP R).2 h3,by show(p (q d.1),p (q d.2))=d;grind[Ren.pq]⟩
   .rintro⟨e,f,rfl⟩;have h:=(IP R).1 f;have k:=rlt R h;refine⟨N.pl _ k.1,N.pl _ k.2,?_⟩;show q (p e.2)∈r (q (p e.1));grind[Ren.qp]
 have m:(dl n (uH n p q r)).length=(dl n r).length:=by rw[b.length_eq,j3]
 have o:cls (WD (Nv (uH n p q r))) (dl n (uH n p q r))=cls (WD (Nv r)) (dl n r):=by
  rw[Yy b (aaG R').eqv,Zx];refine IZ fun d hd e f=>?_;constructor
  .rintro⟨k,g⟩;rw[XS N R hd k]at g;exact⟨k,pp_inj N R ((aaG R).uN hd k) f g⟩
  .rintro⟨k,rfl⟩;exact⟨k,XS N R hd k⟩
 have e3:((rG n).filter fun v=>decide (uH n p q r v=[])).length=((rG n).filter fun v=>decide (r v=[])).length:=by rw[(a.filter _).length_eq,qL237,j3];refine congrArg List.length (DF fun v s=>?_);grind[ren_at,map_eq_nil_iff]
 have e4:iJ n (uH n p q r)=iJ n r:=by unfold iJ;rw[Yy a (Cr.eqv R' _),Zx];exact IZ (by grind[ren_cr])
 grind[Flat,mj]
theorem XU.ren(N:Ren n p q){E E':Nat->II}(h:∀v w,w∈E' v↔v<n/\w<n/\q w∈E (q v))(b:XU n E):XU n E':=by have⟨R,a,fl,c⟩:=b;exact⟨uH n p q R,aef N a,(pd N a).2 fl,(by grind[uX])⟩
end
def jJ(R:Nat->II)(H:Nat->Nat->Prop)(v w x y:Nat):Prop:=(v=x/\w=y)\/(v=y/\w=x)\/∃a b,(a=v\/a=w)/\(b=x\/b=y)/\off R H a/\off R H b/\Cr (Mm R H) a b
section
variable{n:Nat}{R:Nat->II}{H H':Nat->Nat->Prop}
def IV(d:V7 n R){v w a:Nat}(hw:w∈R v)(ha:a=v\/a=w)(c:off R H a):QI R H v w=(0,lo R H a,0):=by
 rcases ha with rfl|rfl
 .exact M6 c
 .rw[RX d hw];exact M6 c
theorem Uu(f:V7 n R){v w x y:Nat}(hw:w∈R v)(i:y∈R x):QI R H v w=QI R H x y↔jJ R H v w x y:=by
 constructor
 .intro e;have d:∀{v w:Nat},(∃a,(a=v\/a=w)/\off R H a)\/(¬off R H v/\¬off R H w):=fun{v w}=>by
   by_cases c1:off R H v
   .exact hGr
   by_cases c2:off R H w
   .exact hGr
   .exact .inr ⟨c1,c2⟩
  rcases d (v:=v) (w:=w)with⟨a,ha,h⟩|⟨c1,c2⟩
  .rw[IV f hw ha h]at e;rcases d (v:=x) (w:=y)with⟨b,hb,g⟩|⟨j,k⟩
   .rw[IV f i hb g]at e;have l:lo R H a=lo R H b:=by injection e with _ e;injection e
    exact .inr (.inr ⟨a,b,ha,hb,h,g,(fX f).1 l⟩)
   .rw[rj j k]at e;have:=congrArg Prod.fst e;simp at this
  .rw[rj c1 c2]at e;rcases d (v:=x) (w:=y)with⟨b,hb,g⟩|⟨j,k⟩
   .rw[IV f i hb g]at e;have:=congrArg Prod.fst e;simp at this
   .rw[rj j k]at e;injection e with _ e;injection e with l m;by_cases q:v=x
    .exact .inl ⟨q,NH⟩
    .exact .inr hGr
 .rintro(⟨rfl,rfl⟩|⟨rfl,rfl⟩|⟨a,b,ha,hb,h,g,c⟩)
  .rfl
  .exact RX f hw
  .rw[IV f hw ha h,IV f i hb g,(fX f).2 c]
theorem abI(c:∀x y,H x y->H' x y){v:Nat}(h:off R H' v):off R H v:=fun w hw q=>h w hw (c _ _ q)
theorem offR_mono(c:∀x y,H x y->H' x y){v w:Nat}(h:w∈Mm R H' v):w∈Mm R H v:=by have⟨d,h2,h3⟩:=EM.1 h;exact EM.2 (by grind[abI])
theorem jJ.mono(d:∀x y,H x y->H' x y){v w x y:Nat}(h:jJ R H' v w x y):jJ R H v w x y:=by
 rcases h with h|h|⟨a,b,ha,hb,e,f,c⟩
 .exact .inl h
 .exact .inr (.inl h)
 .exact .inr (.inr ⟨a,b,ha,hb,abI d e,abI d f,c.mono fun v w=>offR_mono d⟩)
theorem jJ.symm(d:V7 n R){v w x y:Nat}(h:jJ R H v w x y):jJ R H x y v w:=by
 rcases h with⟨e,h2⟩|⟨e,h2⟩|⟨a,b,ha,hb,f,g,c⟩
 .exact .inl hGr
 .exact .inr hGr
 .exact .inr (.inr ⟨b,a,hb,ha,g,f,c.symm (QM d)⟩)
variable{a b:Nat}{inn:II}
abbrev XZ(H:Nat->Nat->Prop)(a:Nat)(inn:II)(b:Nat):Nat->Nat->Prop:=fun x y=>H x y\/Ay a inn b x y
def wayH_sub{x y:Nat}(h:H x y):XZ H a inn b x y:=.inl h
theorem Ka.chain(W:Ka R H a inn b):∀(i x y:Nat),inn[0]?=Z x->inn[i]?=Z y->Cr (Mm R H) x y
 |0,x,y,c,h2=>by rw[c]at h2;injection h2 with h2;subst h2;exact .refl _
 |i+1,x,y,c,h2=>by
  have l:=(Ny.1 h2).1;have d:inn[i]?=Z (inn[i]'(by omega)):=Gc NH
  have h:=W.chain i x _ c d;have g:∀(j z:Nat),inn[j]?=Z z->(nr a inn b)[j+1]?=Z z:=fun j z f=>by have k:=(Ny.1 f).1;show(a::(inn++[b]))[j+1]?=Z z;rw[dZ,VU k];exact f
  have e:=W.UQ (i+1) _ _ (g i _ d) (g (i+1) _ h2);exact h.step (EM.2 ⟨e.1,W.off _ (BS d),W.off _ (BS h2)⟩)
def Ka.QC(W:Ka R H a inn b)(d:V7 n R)(hs:∀v w,H v w->H w v){v:Nat}(f:v∈inn):QI R H a ((inn++[b]).headD 0)=(0,lo R H v,0):=by
 cases hi:inn with
 |nil=>rw[hi]at f;cases f
 |cons c t=>
  have h:c∈inn:=by rw[hi];simp
  have e:((c::t++[b]):II).headD 0=c:=rfl;rw[e];have j:c∈R a:=by have:=(W.fst d hs).1;rw[hi]at this;exact this
  rw[IV d j (.inr rfl) (W.off c h)];have⟨i,g⟩:=vZ.1 f;rw[(fX d).2 (W.chain i c v (by rw[hi];rfl) g)]
theorem Ka.PW(W:Ka R H a inn b)(c:V7 n R)(hs:∀v w,H v w->H w v){x y:Nat}(h:Ay a inn b x y):QI R H x y=QI R H a ((inn++[b]).headD 0):=by
 have d:=W.wE c hs h;by_cases f:x∈inn
 .rw[W.QC c hs f];exact IV c d.1 (.inl rfl) (W.off x f)
 by_cases cy:y∈inn
 .rw[W.QC c hs cy];exact IV c d.1 (.inr rfl) (W.off y cy)
 have g:=dC h;have i:=dC (Ef h);have ne:x≠y:=by grind[V7.ir]
 rcases g with rfl|rfl|g
 .rw[W.Fp.1 h]
 .have e:=d.1;rcases i with rfl|rfl|i
  .rw[RX c e];exact(by grind[Ka.Fp,Ef])
  .exact absurd rfl ne
  .exact absurd i cy
 .exact absurd g f
theorem ahV(W:Ka R H a inn b)(k:V7 n R){v:Nat}:off R (XZ H a inn b) v↔off R H v/\v∉inn:=by
 constructor
 .intro h;refine⟨by grind[abI],fun f=>?_⟩;have⟨i,p,g,j⟩:=qm (a:=a) (b:=b) (.inr f);exact h p (by grind[V7.sy,Ka.UQ]) (.inr (.inr ⟨i,g,j⟩))
 .rintro⟨c,h2⟩ w hw (q|q)
  .exact c w hw q
  .rcases dC q with rfl|rfl|q
   .obtain⟨z,d,e⟩:=W.ona;exact c z d e
   .obtain⟨z,d,e⟩:=W.onb;exact c z d e
   .exact h2 q
theorem jJ.keep(W:Ka R H a inn b)(f:V7 n R)(hs:∀v w,H v w->H w v){v w x y:Nat}(hw:w∈R v)(m:QI R H v w≠QI R H a ((inn++[b]).headD 0))(h:jJ R H v w x y):jJ R (XZ H a inn b) v w x y:=by
 rcases h with h|h|⟨c,d,j,hd,k,s,q⟩
 .exact .inl h
 .exact .inr (.inl h)
 have g:∀z,Cr (Mm R H) c z->z∉inn:=fun z i o=>m (by rw[IV f hw j k,W.QC f hs o,(fX f).2 i]);have main:∀z,Cr (Mm R H) c z->off R (XZ H a inn b) z->Cr (Mm R (XZ H a inn b)) c z:=fun z i=>by
  induction i with
  |refl=>exact fun _=>.refl _
  |@step y z t h2 p=>
   intro r;have⟨m1,m2,_⟩:=EM.1 h2;have l:off R (XZ H a inn b) y:=by grind[ahV]
   exact(p l).step (EM.2 ⟨m1,l,r⟩)
 have e:off R (XZ H a inn b) d:=by grind[ahV]
 exact .inr (.inr ⟨c,d,j,hd,(ahV W f).2 ⟨k,g _ (.refl _)⟩,e,main d q e⟩)
end
section
variable{n:Nat}{R:Nat->II}{H:Nat->Nat->Prop}{F G:Cs}
theorem feet_two(a:V7 n R)(hs:∀v w,H v w->H w v)(D:QG R)(h2:∃p q,p≠q/\¬off R H p/\¬off R H q):
  (∀u x,QP R H u x->∃z y,QP R H z y/\u≠z/\QI R H u x=QI R H z y)/\∀v w,w∈R v->¬H v w->∃u x,QP R H u x/\QI R H v w=QI R H u x:=by
 have⟨p,q,s,m,I⟩:=h2;have g:∀{v w},w∈R v->R v≠[]:=hGr;have A:∀{v},¬off R H v->R v≠[]:=by grind[Q7]
 have mk:∀{r:Nat->II}{v w:Nat},(∀v w,w∈r v->w∈R v)->Cr r v w->off R H v->¬off R H w->∃u x,QP R H u x/\QI R H u x=(0,lo R H v,0)/\x∈R u/\u∈r x:=fun{r v w} sub i B hw=>by
  rcases tq a sub i B with h|⟨y,z,j,h2,h3,d⟩
  .exact absurd h.2 hw
  .have o:=a.sy _ _ (sub _ _ d);exact⟨z,y,⟨h3,o,fun k=>h2 z (sub _ _ d) (hs _ _ k)⟩,by rw[Jn h3 h2,(fX a).2 j],o,d⟩
 refine⟨fun u x f=>?_,fun v w hw C=>?_⟩
 .by_cases c:off R H x
  .have:∃t,t≠u/\¬off R H t:=by
    by_cases e:p=u
    .exact hGr
    .exact⟨p,e,m⟩
   have⟨t,E,b⟩:=this;have l:x≠u:=by grind[QP.on]
   have i:=D.Z7 u x t l E (g (a.sy _ _ f.mem)) (A b);have⟨z,y,j,h2,_,d⟩:=mk (by grind[EM]) i c b;exact(by grind[EM,Jn,QP.on])
  .exact⟨x,u,⟨c,a.sy _ _ f.mem,(by grind[QP.nh])⟩,fun e=>a.ir u (e▸f.mem),RX a f.mem⟩
 .by_cases c:off R H v
  .obtain⟨z,y,j,h2,_⟩:=mk (fun _ _ h=>h) (by grind[QG.bp]) c m;exact(by grind[M6])
  .exact⟨v,w,⟨c,hw,C⟩,rfl⟩
theorem abK.perm(g:abK n R F)(h:F.Perm G):abK n R G:=⟨g.Rl,g.O.perm h,g.bp,by have:=g.num;unfold Num at this ⊢;rw[<-h.length_eq];exact this,(by grind[abK.ne,List.Perm.eq_nil])⟩
theorem Ctx.perm(C:Ctx n R H F)(h:F.Perm G):Ctx n R H G:=⟨C.Rl,C.sym,C.fl,C.O.perm h,C.bp⟩
theorem PU.perm{E:Nat->II}(I:PU n E H F)(h:F.Perm G):PU n E H G:=⟨I.sub,by have⟨r,g,a⟩:=I.XK;exact⟨r,g.perm h,a⟩,fun q=>by have⟨R,b,h2⟩:=I.full q;exact⟨R,b,h2.perm h⟩⟩
def PU.sym{E:Nat->II}(I:PU n E H F):∀v w,H v w->H w v:=fun v w h=>by have⟨r,g,a⟩:=I.XK;exact(a _ _).1 (g.Rl.sy _ _ ((a _ _).2 h))
def PU.on_face{E:Nat->II}(I:PU n E H F){f:II}(hf:f∈F){u:Nat}(b:u∈f):¬off E H u:=fun q=>by have⟨r,g,c⟩:=I.XK;have a:=(c _ _).1 (g.O.df g.Rl hf b);exact q _ (I.sub _ _ a) a
def PU.O0{E:Nat->II}(I:PU n E H F){f:II}(hf:f∈F):f.Nodup/\∀u∈f,u<n:=by have⟨r,g,b⟩:=I.XK;exact⟨g.O.nd f hf,fun u a=>g.Rl.lt _ _ (g.O.df g.Rl hf a)⟩
theorem PU.nodup{E:Nat->II}(I:PU n E H F):F.Nodup:=by have⟨r,g,a⟩:=I.XK;exact g.O.nodup
end
section
variable{n:Nat}{r E:Nat->II}
def V7.nil_at(R:V7 n r){v:Nat}(h:n<=v):r v=[]:=by
 rcases a:r v with _|⟨w,l⟩
 .rfl
 .have:=R.lt v w (by rw[a];simp);omega
theorem adV(R:V7 n r):Flat (n+1) r↔Flat n r:=by
 have e:=R.nil_at (qL0 n);have hd:dl (n+1) r=dl n r:=by unfold dl;rw[OM,aj8];simp[e]
 have hf:mj (n+1) r=mj n r+1:=by unfold mj;rw[hd,OM,wI,aev];simp[e];omega
 have a:iJ (n+1) r=iJ n r+1:=by
  have R':V7 (n+1) r:=⟨R.nd,fun v w h=>aku (R.lt v w h),R.sy,R.ir⟩;unfold iJ;rw[OM,Yy (qL201 (l₁:=rG n) (l₂:=[n])) (Cr.eqv R' _)];rw[qL200,cls,Z6];rintro⟨y,b,h⟩;have:∀y,Cr r n y->y=n:=fun y h=>by
   induction h with
   |refl=>rfl
   |step _ h c=>rw[c,e]at h;cases h
  have:=this y h;simp at b;omega
 unfold Flat;rw[hd,hf,a];omega
theorem XU.more(h:∀v w,w∈E v->v<n):XU (n+1) E↔XU n E:=by
 constructor
 .rintro⟨R,a,fl,c⟩;have b:V7 n R:=⟨a.nd,hGr,a.sy,a.ir⟩;exact⟨R,b,(adV b).1 fl,c⟩
 .rintro⟨R,a,fl,c⟩;exact⟨R,⟨a.nd,(by grind[V7.lt]),a.sy,a.ir⟩,(adV a).2 fl,c⟩
theorem XU.mores(h:∀v w,w∈E v->v<n)(k:Nat):XU (n+k) E↔XU n E:=by
 induction k with
 |zero=>rfl
 |succ k a=>exact(by grind[XU.more])
end
def aar(r s:Nat->II)(v:Nat):II:=r v++s v
structure abC (n:Nat) (r s:Nat->II) (S:Nat->Prop):Prop where
 rr:V7 n r
 rs:V7 n s
 on:∀v w,w∈s v->S v
 ap:∀x y,S x->S y->x≠y->¬Cr r x y
section
variable{n:Nat}{r s:Nat->II}{S:Nat->Prop}
theorem abC.TE(H:abC n r s S){v w:Nat}(h:w∈s v):w∉r v:=fun k=>H.ap v w (H.on _ _ h) (H.on _ _ (H.rs.sy _ _ h)) (fun e=>H.rs.ir v hGr) (Cr.one k)
theorem aaT{v w:Nat}:w∈aar r s v↔w∈r v\/w∈s v:=abe
theorem abC.Rl(H:abC n r s S):V7 n (aar r s):=by
 refine⟨fun v=>?_,fun v w h=>?_,fun v w h=>?_,fun v h=>?_⟩
 .unfold aar;rw[aaf];exact⟨H.rr.nd v,H.rs.nd v,fun a ha b hb e=>H.TE hb (e▸ha)⟩
 .exact(aaT.1 h).elim (H.rr.lt v w) (H.rs.lt v w)
 .exact aaT.2 ((aaT.1 h).imp (H.rr.sy v w) (H.rs.sy v w))
 .exact(aaT.1 h).elim (H.rr.ir v) (H.rs.ir v)
theorem abC.same(H:abC n r s S){x y:Nat}(a:S x)(b:S y)(c:Cr r x y):x=y:=j9 fun e=>H.ap x y a b e c
theorem abC.cr(H:abC n r s S){v w:Nat}(d:S v)(hw:S w)(c:Cr (aar r s) v w):Cr s v w:=by
 have:∀z,Cr (aar r s) v z->∃t,S t/\Cr s v t/\Cr r t z:=fun z c=>by
  induction c with
  |refl=>exact⟨v,d,.refl _,.refl _⟩
  |@step b c _ e f=>
   have⟨t,a,h2,h3⟩:=f;rcases aaT.1 e with e|e
   .exact⟨t,a,h2,.step h3 e⟩
   .obtain rfl:=H.same a (H.on _ _ e) h3;exact⟨c,H.on _ _ (H.rs.sy _ _ e),.step h2 e,.refl _⟩
 grind[abC.same]
theorem afW{l:II}(h:l≠[])(d:Nat):l.headD d∈l:=by
 cases l<;>grind
theorem abC.EI(H:abC n r s S){d e:H8}(hd:d.2∈s d.1)(A:e.2∈s e.1)(o:WD (Nv (aar r s)) d e):WD (Nv s) d e:=by
 have key:∀k,((it (Nv (aar r s)) k d).2∈s (it (Nv (aar r s)) k d).1/\WD (Nv s) d (it (Nv (aar r s)) k d))\/((it (Nv (aar r s)) k d).2∈r (it (Nv (aar r s)) k d).1/\∃v,s v≠[]/\Cr r v (it (Nv (aar r s)) k d).1/\WD (Nv s) d (v,(s v).headD 0)):=by
  intro k
  induction k with
  |zero=>exact .inl ⟨hd,WD.refl _ _⟩
  |succ k z=>
   show((Nv (aar r s) (it (Nv (aar r s)) k d)).2∈_/\_)\/_;rw[show it (Nv (aar r s)) (k+1) d=Nv (aar r s) (it (Nv (aar r s)) k d)from rfl];generalize it (Nv (aar r s)) k d=x at*;have⟨u,v⟩:=x;simp only at z;rcases z with⟨j,h2⟩|⟨j,t,h2,h3,B⟩
   .have f:=H.rs.sy _ _ j;have⟨a,b,hs,m⟩:=sC f;have C:u∉r v:=H.TE f;have g:nx (aar r s v) u=(b++(r v++a++[u])).headD 0:=by grind[aar,ZL]
    have p:nx (s v) u=(b++(a++[u])).headD 0:=by grind[ZL]
    have i:nx (s v) u∈s v:=ZP f;have F:WD (Nv s) d (v,nx (s v) u):=h2.trans (WD.one (Nv s) (u,v));by_cases c:b=[]/\r v≠[]
    .obtain⟨rfl,G⟩:=c;have e3:nx (aar r s v) u=(r v).headD 0:=by
      rw[g];cases D:r v<;>grind
     have e4:nx (s v) u=(s v).headD 0:=hGr;refine .inr ⟨?_,v,?_,.refl _,hGr⟩
     .show nx (aar r s v) u∈r v;grind[afW]
     grind
    .have e3:nx (aar r s v) u=nx (s v) u:=by
      rw[g,p];cases b<;>grind
     grind[Nv]
   .have f:=H.rr.sy _ _ j;have⟨a,b,hs,m⟩:=sC f;have g:nx (aar r s v) u=(b++s v++(a++[u])).headD 0:=by grind[aar,ZL]
    have p:nx (r v) u=(b++(a++[u])).headD 0:=by grind[ZL]
    have i:nx (r v) u∈r v:=ZP f;have y:Cr r t v:=.step h3 j;by_cases c:b=[]/\s v≠[]
    .obtain⟨rfl,E⟩:=c;have e3:nx (aar r s v) u=(s v).headD 0:=by
      rw[g];cases D:s v<;>grind
     have st:∀{v},s v≠[]->S v:=fun{v} q=>by have⟨w,l,e⟩:=Tn q;exact H.on v w (by rw[e];simp)
     grind[abC.same,Nv,afW]
    .have e3:nx (aar r s v) u=nx (r v) u:=by
      rw[g,p];cases b<;>grind
     right;show nx (aar r s v) u∈r v/\_;rw[e3];exact⟨i,t,h2,y,B⟩
 obtain⟨k,rfl⟩:=o;rcases key k with h|h
 .exact h.2
 .exact absurd h.1 (H.TE A)
theorem abC.less(H:abC n r s S){v w:Nat}(h:w∈s v):del (aar r s) v w=aar r (del s v w):=by
 have b:=H.TE h;have h2:=H.TE (H.rs.sy _ _ h);have a:v≠w:=fun e=>H.rs.ir v hGr;funext x;show _=r x++del s v w x;by_cases c1:x=v
 .subst c1;rw[OE,OE];exact qL234 _ b
 by_cases c2:x=w
 .subst c2;rw[u9 _ a,u9 _ a];exact qL234 _ h2
 .rw[ab1 _ c1 c2,ab1 _ c1 c2];rfl
theorem hung_flat:∀(m:Nat)(s:Nat->II),abC n r s S->(dl n s).length=m->Flat n r->Flat n s->Flat n (aar r s):=by
 intro m
 induction m using Nat.strongRecOn with
 |_ m g=>
  intro s H t fr h;cases hh:dl n s with
  |nil=>
   have:aar r s=r:=by funext v;unfold aar;rw[qe H.rs hh v,ak3]
   grind
  |cons d l=>have⟨v,w⟩:=d;have hw:w∈s v:=(IP (d:=(v,w)) H.rs).1 (by rw[hh];simp);have a:v≠w:=fun e=>H.rs.ir v hGr;have i:=(yH H.rs hw).length_eq;simp only[Lm]at i;have⟨j,k⟩:=Lq H.rs hw h;have f:abC n r (del s v w) S:=⟨H.rr,afL H.rs a,fun x y q=>H.on x y ((JF H.rs a).1 q).1,H.ap⟩;have F:=g _ NH _ f rfl fr j;have p:=H.on _ _ hw;have b:=H.on _ _ (H.rs.sy _ _ hw);refine abG H.Rl (aaT.2 (.inr hw)) (by grind[abC.less]) ⟨fun o c=>?_,fun c=>jh H.Rl (aaT.2 (.inr hw)) c⟩;rw[H.less hw]at c;exact k.1 (H.EI hw (H.rs.sy _ _ hw) o) (f.cr p b c)
theorem abC.flat(H:abC n r s S)(fr:Flat n r)(a:Flat n s):Flat n (aar r s):=hung_flat _ s H rfl fr a
end
theorem ab3{n:Nat}{r:Nat->II}(R:V7 n r)(F:Flat n r){u v w:Nat}(t:v∈r u)(hw:nx (r u) v=w)(z:v≠w)(l:w∉r v):∃q,V7 n q/\Flat n q/\∀x y,y∈q x↔y∈r x\/(x=v/\y=w)\/(x=w/\y=v):=by
 have g:w∈r u:=by grind[ZP]
 have f:=R.sy _ _ t;have i:=R.sy _ _ g;have A:u≠v:=fun e=>R.ir u hGr;have B:u≠w:=fun e=>R.ir u hGr;have C:v∉r w:=fun h=>l (R.sy _ _ h);have⟨a,b,ev,H⟩:=sC f;have⟨c,d,D,I⟩:=sC i
 let q:Nat->II:=fun x=>if x=v then a++w::u::b else if x=w then c++u::v::d else r x
 have J:q v=a++w::u::b:=qL7 rfl;have E:q w=c++u::v::d:=hGr;have G:∀x,x≠v->x≠w->q x=r x:=fun x m h2=>by grind
 have mem:∀x y,y∈q x↔y∈r x\/(x=v/\y=w)\/(x=w/\y=v):=fun x y=>by grind
 have Q:V7 n q:=by
  refine⟨fun x=>?_,fun x y h=>?_,fun x y h=>?_,fun x h=>?_⟩
  .by_cases m:x=v
   .subst m;have nd:=R.nd x;grind
   by_cases h2:x=w
   .subst h2;have nd:=R.nd x;rw[D]at nd;have:v∉c++u::d:=hGr;rw[E];have p:(c++u::v::d).Perm (v::(c++u::d)):=by
     have:(c++u::v::d)=(c++[u])++v::d:=by simp
     rw[this];refine List.perm_middle.trans ?_;simp
    grind
   .rw[G x m h2];exact R.nd x
  .rcases(mem x y).1 h with h|⟨rfl,rfl⟩|⟨rfl,rfl⟩
   .exact R.lt x y h
   .exact R.lt _ _ f
   .exact R.lt _ _ i
  .grind[V7.sy]
  grind[V7.ir]
 have j:w∈q v:=(mem v w).2 (.inr (.inl ⟨rfl,rfl⟩));have dl:del q v w=r:=by funext x;grind[OE,u9,ab1]
 have tri:∀k,it (Nv q) k (w,v)=(w,v)\/it (Nv q) k (w,v)=(v,u)\/it (Nv q) k (w,v)=(u,w):=by
  have s1:Nv q (w,v)=(v,u):=by grind[Nv,ZL]
  have s2:Nv q (v,u)=(u,w):=by grind[Nv]
  have K:Nv q (u,w)=(w,v):=by grind[Nv,ZL]
  intro k
  induction k<;>grind[it]
 refine⟨q,Q,abG Q j hGr ⟨fun o=>?_,fun h=>?_⟩,mem⟩
 .obtain⟨k,L⟩:=(aaG Q).adK ((IP (d:=(v,w)) Q).2 j) o;grind
 .rw[dl]at h;exact absurd ((Cr.one f).trans (Cr.one g)) h
def aae(n:Nat)(A:Nat->Nat->Prop):Prop:=∃R,V7 n R/\Flat n R/\∀v w,w∈R v↔A v w
section
variable{n:Nat}{A B:Nat->Nat->Prop}
theorem aae.lt(h:aae n A){v w:Nat}(q:A v w):v<n/\w<n:=by obtain⟨R,r,-,m⟩:=h;exact⟨r.lt v w ((m v w).2 q),r.lt w v (r.sy v w ((m v w).2 q))⟩
theorem aae.sy(h:aae n A){v w:Nat}(q:A v w):A w v:=by obtain⟨R,r,-,m⟩:=h;grind[V7.sy]
theorem aae.ir(h:aae n A)(v:Nat):¬A v v:=fun q=>by obtain⟨R,r,-,m⟩:=h;grind[V7.ir]
theorem aae.congr(h:aae n A)(k:∀v w,A v w↔B v w):aae n B:=by have⟨R,r,f,m⟩:=h;exact⟨R,r,f,fun v w=>by rw[m,k]⟩
theorem aae.less(h:aae n A)(k:∀v w,B v w->A v w)(sy:∀v w,B v w->B w v):aae n B:=by have⟨R,r,f,m⟩:=h;exact⟨Om B R,OG r sy,f.keep r sy,fun v w=>by grind[EM]⟩
def addE(A:Nat->Nat->Prop)(x b v w:Nat):Prop:=A v w\/(v=x/\w=b)\/(v=b/\w=x)
theorem aae.slide(h:aae n A){x y b0:Nat}(g:A y x)(hb:A y b0)(ne:b0≠x):∃b,A y b/\b≠x/\aae n (addE A x b):=by
 have⟨R,r,f,m⟩:=h;have a:=(m y x).2 g;have nb:nx (R y) x≠x:=fun e=>by have:=(Bk (r.nd y) a).1 e;grind
 have d:nx (R y) x∈R y:=ZP a;refine⟨nx (R y) x,(m _ _).1 d,nb,?_⟩;by_cases c:nx (R y) x∈R x
 .refine aae.congr ⟨R,r,f,m⟩ fun v w=>?_;grind[V7.sy,addE]
 .obtain⟨q,Q,F,i⟩:=ab3 r f a rfl (ff nb) c;exact⟨q,Q,F,fun v w=>by rw[i,m];rfl⟩
def aik(A:Nat->Nat->Prop)(x y v w:Nat):Prop:=v≠y/\w≠y/\v≠w/\(A v w\/(v=x/\A y w)\/(w=x/\A v y))
def al7(sy:∀v w,A v w->A w v)(x y v w:Nat)(h:aik A x y v w):aik A x y w v:=by have⟨a,h2,h3,b⟩:=h;exact⟨h2,a,ff h3,b.elim (fun q=>.inl (sy _ _ q)) fun q=>q.elim (fun q=>.inr (.inr ⟨q.1,sy _ _ q.2⟩)) fun q=>.inr (.inl ⟨q.1,sy _ _ q.2⟩)⟩
theorem con_ind{x y:Nat}:∀(k:Nat)(L:II)(A:Nat->Nat->Prop),L.length=k->(∀b,A y b->b≠x->b∈L)->A x y->aae n A->aae n (aik A x y):=by
 intro k
 induction k using Nat.strongRecOn with
 |_ k j=>
  intro L A p l a P;have sy:=fun v w=>P.sy (v:=v) (w:=w);have ir:=P.ir;by_cases c:∃b0,A y b0/\b0≠x
  rotate_left
  .refine P.less (fun v w q=>?_) (al7 sy x y);obtain⟨r,h2,h3,q|⟨rfl,q⟩|⟨rfl,q⟩⟩:=q
   all_goals grind
  have⟨b0,f,g⟩:=c;have⟨b,hb,ne,i⟩:=P.slide (sy _ _ a) f g;have m:y≠b:=fun e=>ir b (e▸hb:A b b);have d:x≠y:=fun e=>ir y (e▸a:A y y);have o:aae n fun v w=>addE A x b v w/\¬(v=y/\w=b)/\¬(v=b/\w=y):=i.less (fun v w q=>q.1) fun v w q=>⟨i.sy q.1,fun e=>q.2.2 ⟨e.2,e.1⟩,fun e=>q.2.1 ⟨e.2,e.1⟩⟩;have h:=l b hb ne;have s:0<L.length:=WL h;refine(j (L.erase b).length hGr (L.erase b) _ rfl (fun z t nz=>?_) ⟨.inl a,fun e=>d e.1,fun e=>ne e.1.symm⟩ o).congr fun v w=>?_
  all_goals grind[aik,addE]
theorem aae.bp(P:aae n A){x y:Nat}(h:A x y):aae n (aik A x y):=con_ind _ (rG n) A rfl (fun b hb _=>EP.2 (P.lt hb).2) h P
end
def rot_last{l:II}{v:Nat}(h:v∈l):∃c,Cyc l (c++[v]):=by obtain⟨a,b,rfl,-⟩:=sC h;exact⟨b++a,a++[v],b,Ma,Ma⟩
def rot_first{l:II}{v:Nat}(h:v∈l):∃c,Cyc l (v::c):=by obtain⟨a,b,rfl,-⟩:=sC h;exact⟨b++a,a,v::b,rfl,Ma⟩
theorem al9{n:Nat}{r:Nat->II}(R:V7 n r)(F:Flat n r)(u:Nat){l:II}(h:Cyc (r u) l):∃q,V7 n q/\Flat n q/\q u=l/\∀v w,w∈q v↔w∈r v:=by
 let q:Nat->II:=fun v=>if v=u then l else r v
 have S:pP r q:=fun v=>by grind[Cyc.refl]
 exact⟨q,S.Rl R,(S.flat R).1 F,qL7 rfl,fun v w=>S.mem.symm⟩
theorem aae.two{n:Nat}{A B:Nat->Nat->Prop}{u v m:Nat}(g:aae n A)(r:aae n B)(hA:A u v)(hB:B u v)(t:m<n)(s:∀w,¬A m w)(iB:∀w,¬B m w)(aa:∀z,(∃w,A z w)->(∃w,B z w)->z=u\/z=v):aae n fun x y=>A x y\/B x y:=by
 have lv:=g.lt hA;have C:u≠v:=fun e=>g.ir v (e▸hA:A v v);have num:u≠m:=fun e=>s v (e▸hA:A m v);have k:v≠m:=fun e=>s u (e▸g.sy hA:A m u);have i:=fun v w=>g.sy (v:=v) (w:=w);have l:=fun v w=>r.sy (v:=v) (w:=w);have D:=g.ir;have E:=r.ir;have ae:=fun v w=>g.lt (v:=v) (w:=w);have a:=fun v w=>r.lt (v:=v) (w:=w);have⟨R,rR,fR,mR⟩:=g;have⟨S0,G,fS,mS⟩:=r
 let p:Nat->Nat:=fun z=>if z=v then m else if z=m then v else z
 have pv:p v=m:=qL7 rfl;have pm:p m=v:=hGr;have po:∀z,z≠v->z≠m->p z=z:=fun z h1 h2=>by grind
 have pl:∀z,z<n->p z<n:=fun z hz=>by grind
 have pp:∀z,p (p z)=z:=fun z=>by grind
 have N:Ren n p p:=⟨pl,pl,fun z _=>pp z,fun z _=>pp z⟩;have I:=aef N G;have J:=(pd N G).2 fS;have o:∀x y,y∈uH n p p S0 x↔x<n/\y<n/\B (p x) (p y):=fun x y=>by rw[uX N G,mS]
 have⟨c,hc⟩:=rot_last ((mR u v).2 hA);have⟨j,K,L,ai,M⟩:=al9 rR fR u hc;have O:m∈uH n p p S0 u:=(o u m).2 ⟨lv.1,t,hGr⟩;have⟨d,hd⟩:=rot_first O;have⟨b,P,S,aj,T⟩:=al9 I J u hd;have mA:∀x y,y∈j x↔A x y:=fun x y=>by rw[M,mR]
 have mB:∀x y,y∈b x↔x<n/\y<n/\B (p x) (p y):=fun x y=>by rw[T,o]
 have aq:∀x,(∃y,y∈b x)->(∃y,A x y)->x=u:=fun x ⟨y,hy⟩ ar=>by
  obtain⟨-,-,q⟩:=(mB x y).1 hy;by_cases c1:x=v
  .grind
  by_cases c2:x=m
  .grind
  grind
 have U:∀{x y},Cr j x y->x=y\/((∃w,A x w)/\∃w,A y w):=fun{x y} h=>by
  induction h with
  |refl=>grind
  |step _ e ih=>
   have e:=(mA _ _).1 e;right;rcases ih with rfl|⟨q,-⟩
   .grind
   .exact⟨q,_,i _ _ e⟩
 have H:abC n j b fun x=>∃y,y∈b x:=⟨K,P,fun x y h=>⟨y,h⟩,fun x y hx hy ne h=>by grind⟩;have rQ:=H.Rl;have fQ:=H.flat L S;have eQ:aar j b u=c++v::(m::d):=by grind[aar]
 have V:nx (aar j b u) v=m:=by have nd:=rQ.nd u;rw[eQ]at nd ⊢;have hv:v∉c:=fun h=>(aaf.1 nd).2.2 v h v Ma rfl;rw[ZL hv];rfl
 have W:v∈aar j b u:=by rw[eQ];simp
 have X:m∉aar j b v:=fun h=>by grind[aaT]
 have⟨q,Q,F,mq⟩:=ab3 rQ fQ W V k X;have P1:aae n fun x y=>y∈q x:=⟨q,Q,F,fun _ _=>Iff.rfl⟩;have P2:aae n fun x y=>y∈q x/\¬(x=u/\y=m)/\¬(x=m/\y=u):=P1.less (fun _ _ h=>h.1) fun x y h=>⟨Q.sy _ _ h.1,fun e=>h.2.2 ⟨e.2,e.1⟩,fun e=>h.2.1 ⟨e.2,e.1⟩⟩;have P3:=P2.bp (x:=v) (y:=m) ⟨(mq v m).2 (.inr (.inl ⟨rfl,rfl⟩)),fun e=>C e.1.symm,fun e=>k e.1⟩;have inA:∀{x y},A x y->y∈q x:=fun{x y} h=>(mq x y).2 (.inl (aaT.2 (.inl ((mA x y).2 h))));have inB:∀{x y},x<n->y<n->B (p x) (p y)->y∈q x:=fun{x y} h1 h2 h=>(mq x y).2 (.inl (aaT.2 (.inr ((mB x y).2 ⟨h1,h2,h⟩))));have nA:∀{x y},A x y->x≠m/\y≠m/\x≠y:=fun{x y} h=>⟨fun e=>s y (e▸h),fun e=>s x (e▸i _ _ h),fun e=>D y (e▸h)⟩;have nB:∀{x y},B x y->x≠m/\y≠m/\x≠y:=fun{x y} h=>⟨fun e=>iB y (e▸h),fun e=>iB x (e▸l _ _ h),fun e=>E y (e▸h)⟩;have toA:∀{x y},A x y->aik (fun x y=>y∈q x/\¬(x=u/\y=m)/\¬(x=m/\y=u)) v m x y:=fun{x y} h=>by have⟨n1,f,n3⟩:=nA h;exact⟨n1,f,n3,.inl ⟨inA h,fun e=>f e.2,fun e=>n1 e.1⟩⟩
 refine P3.less (fun x y h=>?_) fun x y h=>h.imp (i _ _) (l _ _);rcases h with h|h
 .exact toA h
 .obtain⟨n1,f,n3⟩:=nB h;by_cases c1:x=v
  .by_cases c2:y=u
   .grind
   .refine⟨n1,f,n3,.inr (.inl ⟨c1,inB t (a _ _ h).2 ?_,fun e=>f e.2,fun e=>c2 e.2⟩)⟩;grind
  by_cases c2:y=v
  .by_cases c3:x=u
   .grind
   .refine⟨n1,f,n3,.inr (.inr ⟨c2,inB (a _ _ h).1 t ?_,fun e=>c3 e.1,fun e=>n1 e.1⟩)⟩;grind
  .exact⟨n1,f,n3,.inl ⟨inB (a _ _ h).1 (a _ _ h).2 hGr,fun e=>f e.2,fun e=>n1 e.1⟩⟩
end
end Go.Fw
