/- A text. -/
import Derived.Test.YtnakkbhjoiheoaaGreatFwEmb17
set_option linter.all false
set_option maxRecDepth 99999
set_option maxHeartbeats 9999999
open Option renaming some→Z,none→Y
open List renaming range→rG
open List
namespace Go.Fw
section
attribute [local instance] Classical.propDecidable
def sig(a b m:Nat)(d:H8):H8:=(d.1,if d.1=a then hh b m d.2 else if d.1=b then hh a m d.2 else d.2)
theorem sig_oth{a b m y z:Nat}(c1:y≠a)(c2:y≠b):sig a b m (y,z)=(y,z):=by grind[sig]
section
variable{n:Nat}{R:Nat->II}{a b m:Nat}
theorem aan.Ui(S:aan n R a b m):aap R a b m a=(R a).map (hh b m):=by grind[aap,aan.ne]
theorem aan.at_b(S:aan n R a b m):aap R a b m b=(R b).map (hh a m):=by grind[aap,aan.ne]
theorem aan.at_m(S:aan n R a b m):aap R a b m m=[a,b]:=Sb rfl
def aan.nxa(S:aan n R a b m){x:Nat}(h:x∈R a):nx (aap R a b m a) (hh b m x)=hh b m (nx (R a) x):=by rw[S.Ui];exact HL (aee S.nm) h
def aan.nxb(S:aan n R a b m){x:Nat}(h:x∈R b):nx (aap R a b m b) (hh a m x)=hh a m (nx (R b) x):=by rw[S.at_b];exact HL (aee S.nm) h
theorem acQ(b m:Nat):hh b m b=m:=Sb rfl
theorem aan.s1(S:aan n R a b m):Nv (aap R a b m) (a,m)=(m,b)/\Nv (aap R a b m) (m,b)=sig a b m (Nv R (a,b))/\Nv (aap R a b m) (b,m)=(m,a)/\Nv (aap R a b m) (m,a)=sig a b m (Nv R (b,a)):=by
 have⟨d,_,_⟩:=S.ne;have c:=S.Rl.sy _ _ S.ab;refine⟨?_,?_,?_,?_⟩
 .grind[Nv.eq_1,aan.at_m,ajt]
 .have:=S.nxb c;grind[acQ,Nv.eq_1,sig]
 .grind[Nv.eq_1,aan.at_m,ajt]
 .have:=S.nxa S.ab;grind[acQ,Nv.eq_1,sig]
theorem aan.s2(S:aan n R a b m){d:H8}(hd:d∈dl n R)(n1:d≠(a,b))(f:d≠(b,a)):Nv (aap R a b m) (sig a b m d)=sig a b m (Nv R d):=by
 have⟨x,y⟩:=d;have e:=(IP S.Rl).1 hd;have c:=S.Rl.sy _ _ e;have es:sig a b m (x,y)=(x,y):=by grind[sig,hh]
 rw[es,Nv];by_cases c1:y=a
 .subst c1;have k:=S.nxa c;grind[hh,Nv,sig]
 by_cases c2:y=b
 .subst c2;have k:=S.nxb c;grind[hh,Nv,sig]
 .have g:y≠m:=by grind[aan.rm]
  have k:aap R a b m y=R y:=by grind[aap]
  show(y,nx (aap R a b m y) x)=sig a b m (y,nx (R y) x);grind[sig_oth]
theorem aan.orb(S:aan n R a b m):WD (Nv (aap R a b m)) (a,m) (m,a)↔WD (Nv R) (a,b) (b,a):=by
 have⟨t1,l,o,q⟩:=S.s1;have p:=aaG S.Rl;have f:((a,b):H8)∈dl n R:=(IP S.Rl).2 S.ab;have sa:sig a b m (a,b)=(a,m):=by simp[sig,hh]
 have sb:sig a b m (b,a)=(b,m):=by grind[sig,hh]
 constructor
 .rintro⟨k,i⟩;have QI:∀k,∃d,WD (Nv R) (a,b) d/\(it (Nv (aap R a b m)) k (a,m)=sig a b m d\/(d=(a,b)/\it (Nv (aap R a b m)) k (a,m)=(m,b))\/(d=(b,a)/\it (Nv (aap R a b m)) k (a,m)=(m,a))):=fun k=>by
   induction k with
   |zero=>exact⟨(a,b),WD.refl _ _,.inl sa.symm⟩
   |succ k g=>
    have⟨d,c,h⟩:=g;have hd:d∈dl n R:=by obtain⟨j,rfl⟩:=c;grind[Pm.uN]
    have e:it (Nv (aap R a b m)) (k+1) (a,m)=Nv (aap R a b m) (it (Nv (aap R a b m)) k (a,m)):=rfl;rw[e];rcases h with h|⟨rfl,h⟩|⟨rfl,h⟩
    .by_cases c1:d=(a,b)
     all_goals grind[WD.trans,WD.one,aan.s2]
    all_goals grind[WD.trans,WD.one]
  have⟨d,c,h⟩:=QI k;rw[i]at h;rcases h with h|⟨_,h⟩|⟨rfl,_⟩
  .have e:=congrArg Prod.fst h;have e:m=d.1:=e;have hd:d∈dl n R:=by obtain⟨j,rfl⟩:=c;grind[Pm.uN]
   grind[IP,aan.Rl,aan.rm]
  all_goals grind
 .intro c;have step:∀d∈dl n R,WD (Nv (aap R a b m)) (sig a b m d) (sig a b m (Nv R d)):=fun d hd=>by
   by_cases c1:d=(a,b)
   .grind[WD.one,WD.trans]
   by_cases c2:d=(b,a)
   all_goals grind[WD.one,WD.trans,aan.s2]
  have⟨k,i⟩:=c;have all:∀k,WD (Nv (aap R a b m)) (a,m) (sig a b m (it (Nv R) k (a,b))):=fun k=>by
   induction k with
   |zero=>show WD _ _ (sig a b m (a,b));grind[WD.refl]
   |succ k g=>exact g.trans (step _ (p.uN f k))
  grind[WD.trans,WD.one]
theorem aan.flat(S:aan n R a b m):Flat n (aap R a b m)↔Flat n R:=by
 have⟨g,h2,h3⟩:=S.ne;have i:=S.Rl.sy _ _ S.ab;have R':=S.aff;have j:m∈aap R a b m a:=by rw[S.Ui,si];exact⟨b,S.ab,acQ b m⟩
 have k:=afL R' h2;have f:∀{x y},y∈del (aap R a b m) a m x↔y∈aap R a b m x/\¬(x=a/\y=m)/\¬(x=m/\y=a):=by grind[JF]
 have l:m∈del (aap R a b m) a m b:=by grind[aan.at_b,acQ]
 have p:del (del (aap R a b m) a m) b m=del R a b:=by
  funext x;unfold del;by_cases c1:x=a
  .subst c1;rw[WA g,WA h2,Sb rfl,Sb rfl,S.Ui];exact ab2 (S.Rl.nd _) S.nm
  by_cases c2:x=b
  .subst c2;rw[Sb rfl,WA c1,WA h3,WA c1,Sb rfl,S.at_b];exact ab2 (S.Rl.nd _) S.nm
  grind[aan.rm,aap]
 have d:∀{x y},y∈del R a b x↔y∈R x/\¬(x=a/\y=b)/\¬(x=b/\y=a):=fun{x y}=>JF S.Rl g;have u:∀y,y∈del (aap R a b m) a m m↔y=b:=by grind[aan.at_m]
 have aac:Flat n (del (aap R a b m) a m)↔Flat n (del R a b):=by
  have o:WD (Nv (del (aap R a b m) a m)) (b,m) (m,b):=⟨1,by show(m,nx (del (aap R a b m) a m m) b)=(m,b);grind[ZP]⟩;have v:¬Cr (del (del (aap R a b m) a m) b m) b m:=fun c=>by
   rw[p]at c;cases c with
   |refl=>exact h3 rfl
   |step _ hs=>exact S.nm (d.1 hs).1
  grind[Lq,abG]
 have r:Cr (del (aap R a b m) a m) a m↔Cr (del R a b) a b:=by
  have back:∀y,Cr (del (aap R a b m) a m) a y->(y≠m->Cr (del R a b) a y)/\(y=m->Cr (del R a b) a b):=fun y c=>by
   induction c with
   |refl=>exact⟨fun _=>.refl _,hGr⟩
   |@step x y _ hs s=>
    by_cases t:x=m
    .grind
    .by_cases w:y=m
     .have z:=k.sy _ _ hs;grind
     .refine⟨fun _=>(s.1 t).step ?_,hGr⟩;grind[aan.mem]
  constructor
  .grind
  .intro c;have up:Cr (del (aap R a b m) a m) a b:=c.mono fun x y h=>by
    have q:=d.1 h;refine f.2 ⟨S.mem.2 (.inl q),fun e=>?_,fun e=>?_⟩
    .rw[e.2]at q;exact S.nm q.1
    grind[aan.rm]
   exact up.step (by grind[V7.sy])
 grind[Lq,abG,aan.Rl,aan.ab,aan.orb]
end
section
variable{n:Nat}{E E':Nat->II}{a b m:Nat}
theorem XU.congr(h:∀v w,w∈E' v↔w∈E v):XU n E'↔XU n E:=by
 constructor
 .rintro⟨R,c,fl,d⟩;exact⟨R,c,fl,hGr⟩
 .rintro⟨R,c,fl,d⟩;exact⟨R,c,fl,hGr⟩
theorem XU.less(d:XU n E)(hs:∀v w,w∈E' v->w∈E v)(sy:∀v w,w∈E' v->v∈E' w):XU n E':=by have⟨R,c,fl,e⟩:=d;refine⟨Om (fun v w=>w∈E' v) R,OG c sy,fl.keep c sy,fun v w=>?_⟩;grind[EM]
theorem hh_back{b m:Nat}{l:II}(hb:b∉l):(l.map (hh m b)).map (hh b m)=l:=by
 rw[Lm];have:∀x∈l,(hh b m∘hh m b) x=x:=by grind[hh]
 rw[Uz this,map_id']
structure aj4 (n:Nat) (E E':Nat->II) (a b m:Nat):Prop where
 e:V7 n E
 e':V7 n E'
 ab:b∈E a
 em:E m=[]
 mn:m<n
 mem:∀v w,w∈E' v↔(w∈E v/\¬(v=a/\w=b)/\¬(v=b/\w=a))\/(v=m/\(w=a\/w=b))\/(w=m/\(v=a\/v=b))
theorem aj4.alx(U:aj4 n E E' a b m):XU n E'↔XU n E:=by
 have k:a≠b:=fun e=>U.e.ir a (by grind[aj4.ab]);have B:a≠m:=fun e=>by have:=U.ab;grind[aj4.em]
 have C:=U.e.sy _ _ U.ab;have D:b≠m:=by grind[aj4.em]
 have F:∀v,m∉E v:=fun v h=>by have:=U.e.sy _ _ h;grind[aj4.em]
 constructor
 .rintro⟨R,g,fl,f⟩;have hb:b∉R a:=fun h=>by
   rcases(U.mem _ _).1 ((f _ _).1 h)with q|q|q
   all_goals grind
  have ha:a∉R b:=by grind[V7.sy]
  have o:m∈R a:=(f _ _).2 ((U.mem _ _).2 hGr);have p:m∈R b:=(f _ _).2 ((U.mem _ _).2 hGr)
  let Q:Nat->II:=fun v=>if v=m then[]else if v=a then(R a).map (hh m b)else if v=b then(R b).map (hh m a)else R v
  have G:Q m=[]:=Sb rfl;have H:Q a=(R a).map (hh m b):=hGr;have I:Q b=(R b).map (hh m a):=hGr;have z:∀v,v≠m->v≠a->v≠b->Q v=R v:=hGr;have i:∀{v b w:Nat},b∉R v->m∈R v->(w∈(R v).map (hh m b)↔(w∈R v/\w≠m)\/w=b):=by grind[hh]
  have d:∀v w,w∈Q v↔w∈E v:=fun v w=>by
   by_cases c1:v=m
   .grind[aj4.em]
   by_cases c2:v=a
   .subst c2;rw[H,i hb o,f,U.mem];grind[aj4.ab]
   by_cases l:v=b
   .subst l;rw[I,i ha p,f,U.mem];grind
   .rw[z v c1 c2 l,f,U.mem];grind
  have A:∀{v b:Nat},b∉R v->((R v).map (hh m b)).Nodup:=fun{v b} h=>by rw[AE,V3];exact DF (by grind[aee]) (AE.1 (g.nd v))
  have j:V7 n Q:=by
   refine⟨fun v=>?_,fun v w h=>U.e.lt _ _ ((d v w).1 h),fun v w h=>(d w v).2 (U.e.sy _ _ ((d v w).1 h)),fun v h=>U.e.ir v ((d v v).1 h)⟩;by_cases c1:v=m
   .grind
   by_cases c2:v=a
   .grind
   by_cases l:v=b
   .grind
   .rw[z v c1 c2 l];exact g.nd v
  have S:aan n Q a b m:=⟨j,(d _ _).2 U.ab,G,U.mn⟩;have same:pP R (aap Q a b m):=fun v=>by
   unfold aap;by_cases c1:v=m
   .subst c1;rw[Sb rfl];have mm:∀y,y∈R v↔y=a\/y=b:=fun y=>by
     rw[f,U.mem,U.em];grind
    have r:=(mm a).2 (.inl rfl);have⟨c,s⟩:=Cyc.front r;have nd:=s.perm.nodup_iff.1 (g.nd v);have J:=ZZ (g.nd v) k mm;have pm:=(yR (g.nd v) (by simp[k]:[a,b].Nodup) hGr).length_eq;have lc:c.length=1:=by have:=s.perm.length_eq;grind
    match c,lc with
    |[x],_=>have K:=(mm x).1 (s.perm.mem_iff.2 Ma);grind
   rw[WA c1];by_cases c2:v=a
   all_goals grind[hh_back,Cyc.refl]
  exact⟨Q,j,S.flat.1 ((same.flat g).1 fl),d⟩
 .rintro⟨R,g,fl,f⟩;have u:R m=[]:=j9 fun q=>by
   have⟨w,t,e⟩:=N8 q;have:=(f m w).1 (by rw[e];simp);grind[aj4.em]
  have S:aan n R a b m:=⟨g,(f _ _).2 U.ab,u,U.mn⟩;exact⟨aap R a b m,S.aff,S.flat.2 fl,fun v w=>by rw[S.mem,U.mem,f]⟩
end
section
variable{n:Nat}{r:Nat->II}{F:Cs}
theorem iso_on(n:Nat)(r:Nat->II):((rG n).filter fun v=>decide (r v=[])).length+(kV n r).length=n:=by
 have QI:∀X:II,(X.filter fun v=>decide (r v=[])).length+(X.filter fun v=>decide (r v≠[])).length=X.length:=fun X=>by
  induction X<;>grind
 have:=QI (rG n);rw[ag4]at this;exact this
theorem cmps_on(R:V7 n r)(bp:∀v w,r v≠[]->r w≠[]->Cr r v w)(ne:∃v,v<n/\r v≠[]):iJ n r=((rG n).filter fun v=>decide (r v=[])).length+1:=by
 have⟨d,g,i⟩:=ne;unfold iJ;have iso:∀{v w},r v=[]->Cr r v w->v=w:=fun{v w} h c=>by
  induction c<;>grind
 have k1:∀y∈((rG n).filter fun v=>decide (r v=[]))++[d],y∈rG n:=hGr;have k2:(((rG n).filter fun v=>decide (r v=[]))++[d]).Pairwise fun a b=>¬Cr r a b:=by
  rw[aiL];refine⟨?_,Ma,fun x f y k c=>?_⟩
  .refine DF (R:=fun x y=>x≠y) (fun{x y} f _ e c=>e ?_) (by grind[List.nodup_range]);grind
  grind
 have j:∀x∈rG n,∃y∈((rG n).filter fun v=>decide (r v=[]))++[d],Cr r x y:=fun x f=>by
  by_cases h:r x=[]
  .exact⟨x,(by grind[decide_eq_true]),.refl _⟩
  grind
 rw[ach (Cr.eqv R _) Hs k1 k2 j];simp
theorem al3(R:V7 n r)(hf:Flat n r)(bp:∀v w,r v≠[]->r w≠[]->Cr r v w)(ne:∃v,v<n/\r v≠[]):2*((kV n r).length+cls (WD (Nv r)) (dl n r))=(dl n r).length+4:=by grind[iso_on,cmps_on,Flat,mj]
theorem Oz(h3:3<=(kV n r).length)(v w:Nat):∃x,x<n/\r x≠[]/\x≠v/\x≠w:=by
 have nd:(kV n r).Nodup:=Hs.sublist Tn;have d:∀x∈kV n r,x<n/\r x≠[]:=fun x e=>⟨Db.1 (xD.1 e).1,acg (xD.1 e).2⟩;generalize kV n r=L at h3 nd d
 match L,h3 with
 |a::b::c::t,_=>have ha:=d a Ma;have hb:=d b Ma;have f:=d c Ma;grind
theorem afU(R:V7 n r)(D:QG r)(h3:3<=(kV n r).length){d:H8}(hd:d∈dl n r):3<=bt (Nv r) d/\(bt (Nv r) d=3->∃x y z,y∈r x/\z∈r y/\x∈r z):=by
 have p:=aaG R;have⟨j,f,_⟩:=aaM p hd;have g:=Sg R hd;have m0:=(IP R).1 hd;have m1:=(IP R).1 (p.uN hd 1);have m2:=(IP R).1 (p.uN hd 2);have⟨v,w⟩:=d;have⟨x,k,a,x1,h⟩:=Oz h3 v w;have i:v≠w:=by grind[V7.ir]
 constructor
 .refine qL217 g fun e=>?_;rw[<-e]at f;have b:(nx (r w) v,nx (r (nx (r w) v)) w)=((v,w):H8):=f;injection b with b _;have c:v∈r w:=R.sy _ _ m0;exact D.deg ((Bk (R.nd w) c).1 b) a h x1 (wI i)
 grind[it,Nv]
theorem bound_on(R:V7 n r)(hf:Flat n r)(D:QG r)(h3:3<=(kV n r).length):(dl n r).length+12<=6*(kV n r).length/\((∀x y z,y∈r x->z∈r y->x∉r z)->(dl n r).length+8<=4*(kV n r).length):=by
 have⟨x,b,a,_⟩:=Oz h3 0 0;have e:=al3 R hf D.bp ⟨x,b,a⟩;constructor
 .have:=Gj R (k:=3) (by grind[afU]);omega
 .intro c;have:=Gj R (k:=4) (by grind[afU]);omega
theorem XU.bound{E:Nat->II}(d:V7 n E)(D:QG E)(h3:3<=(kV n E).length)(a:XU n E):(dl n E).length+12<=6*(kV n E).length/\((∀x y z,y∈E x->z∈E y->x∉E z)->(dl n E).length+8<=4*(kV n E).length):=by
 have⟨R,b,fl,c⟩:=a;have e:kV n R=kV n E:=by
  refine vY fun v _=>?_;have:R v=[]↔E v=[]:=by rw[jz,jz];grind
  grind
 have f:(dl n R).length=(dl n E).length:=by grind[J8,IP,List.Perm.length_eq]
 have:=bound_on b fl (D.same c) hGr;grind
end
variable {l:II} {m n v w x:Nat}
theorem al4{E:Nat->II}(h:∀v,m<=v->E v=[])(k:Nat):dl (m+k) E=dl m E/\kV (m+k) E=kV m E:=by
 have e:rG (m+k)=rG m++(rG k).map (m+·):=range_add;constructor
 .grind[dl,flatMap_eq_nil_iff]
 grind[kV,filter_none]
def k5E(v:Nat):II:=if v<5 then(rG 5).filter fun w=>w !=v else[]
def ahu(v:Nat):II:=if v<3 then[3,4,5]else if v<6 then[0,1,2]else[]
theorem pZ:w∈k5E v↔v<5/\w<5/\w≠v:=by grind[k5E]
theorem agU:w∈ahu v↔(v<3/\3<=w/\w<6)\/(3<=v/\v<6/\w<3):=by grind[ahu]
theorem ne_nil_of(h:x∈l):l≠[]:=fun e=>by grind
def al6(h:l≠[]):∃x,x∈l:=by have⟨x,t,e⟩:=N8 h;exact⟨x,by rw[e];simp⟩
theorem k5_no(b:5<=n):¬XU n k5E:=fun d=>by
 have lt:∀{v},k5E v≠[]->v<5:=fun h=>by have⟨x,f⟩:=al6 h;grind[pZ]
 have R:V7 n k5E:=by
  refine⟨fun v=>?_,fun v w h=>?_,fun v w h=>?_,fun v h=>?_⟩
  all_goals grind[k5E,filter_sublist]
 have D:QG k5E:=by
  refine⟨fun v w a hw=>?_,fun c v w g h2 a hw=>?_⟩
  .by_cases e:w=v
   .rw[e];exact .refl _
   grind[Cr.one,pZ]
  .by_cases e:w=v
   .rw[e];exact .refl _
   grind[Cr.one,EM,pZ]
 have off:∀v,5<=v->k5E v=[]:=hGr;obtain⟨k,rfl⟩:=qL197 b;have⟨i,j⟩:=al4 off k;have l1:(dl 5 k5E).length=20:=by decide
 have l2:(kV 5 k5E).length=5:=by
  have:kV 5 k5E=rG 5:=FD.2 fun v a=>by
   have a:=Db.1 a
   refine Z6 (ne_nil_of (x:=if v=0 then 1 else 0) (pZ.2 ⟨a,?_,?_⟩))
   all_goals grind
  grind
 have:=(d.bound R D hGr).1;grind
theorem k33_no(f:6<=n):¬XU n ahu:=fun g=>by
 have lt:∀{v},ahu v≠[]->v<6:=fun h=>by have⟨x,i⟩:=al6 h;grind[agU]
 have R:V7 n ahu:=by
  refine⟨fun v=>?_,fun v w h=>?_,fun v w h=>?_,fun v h=>?_⟩
  all_goals grind[ahu]
 have D:QG ahu:=by
  have two:∀c v w,v≠c->w≠c->v<6->w<6->Cr (Om (fun x y=>x≠c/\y≠c) ahu) v w:=fun c v w d h2 e hw=>by
   have UQ:∀{x y},x≠c->y≠c->((x<3/\3<=y/\y<6)\/(3<=x/\x<6/\y<3))->Cr (Om (fun x y=>x≠c/\y≠c) ahu) x y:=by grind[Cr.one,EM,agU]
   by_cases a:v<3
   .by_cases b:w<3
    .by_cases z:c=3
     .exact(UQ (y:=4) d NH NH).trans hGr
     .exact(UQ (y:=3) d NH NH).trans hGr
    grind
   .by_cases b:w<3
    .grind
    .by_cases z:c=0
     .exact(UQ (y:=1) d NH NH).trans hGr
     .exact(UQ (y:=0) d NH NH).trans hGr
  refine⟨fun v w e hw=>?_,fun c v w d h2 e hw=>two c v w d h2 (lt e) (lt hw)⟩;have a:=lt e;have b:=lt hw;exact(two 6 v w NH NH a b).mono (by grind[EM])
 have off:∀v,6<=v->ahu v=[]:=hGr;obtain⟨k,rfl⟩:=qL197 f;have⟨j,l⟩:=al4 off k;have l1:(dl 6 ahu).length=18:=by decide
 have l2:(kV 6 ahu).length=6:=by grind[kV,ahu,filter_eq_self]
 have:=(g.bound R D hGr).2 (by grind[agU]);grind
structure Ren (n:Nat) (p q:Nat->Nat):Prop where
 pl:∀v,v<n->p v<n
 ql:∀v,v<n->q v<n
 pq:∀v,v<n->p (q v)=v
 qp:∀v,v<n->q (p v)=v
def uH(n:Nat)(p q:Nat->Nat)(r:Nat->II)(w:Nat):II:=if w<n then(r (q w)).map p else[]
def pp(p:Nat->Nat)(d:H8):H8:=(p d.1,p d.2)
section
variable{n:Nat}{p q:Nat->Nat}{r:Nat->II}
theorem Ren.inj(N:Ren n p q){x y:Nat}(a:x<n)(b:y<n)(e:p x=p y):x=y:=by grind[Ren.qp]
theorem ren_at(N:Ren n p q){v:Nat}(a:v<n):uH n p q r (p v)=(r v).map p:=by grind[uH,Ren.pl,Ren.qp]
def rlt(R:V7 n r){v w:Nat}(h:w∈r v):v<n/\w<n:=⟨R.lt _ _ h,R.lt _ _ (R.sy _ _ h)⟩
theorem uX(N:Ren n p q)(R:V7 n r){v w:Nat}:w∈uH n p q r v↔v<n/\w<n/\q w∈r (q v):=by
 unfold uH;by_cases c:v<n
 .rw[Sb c,si];constructor
  .rintro⟨x,a,rfl⟩;have:=(rlt R a).2;grind[Ren.pl,Ren.qp]
  grind[Ren.pq]
 grind
theorem aef(N:Ren n p q)(R:V7 n r):V7 n (uH n p q r):=by
 refine⟨fun v=>?_,(by grind[uX]),fun v w h=>?_,(by grind[V7.ir,uX])⟩
 .unfold uH;split
  .rw[AE,V3];exact DF (fun{x y} b c a e=>a (N.inj (rlt R b).2 (rlt R c).2 e)) (AE.1 (R.nd _))
  .simp
 grind[uX,V7.sy]
def ren_phi(N:Ren n p q)(R:V7 n r){d:H8}(hd:d∈dl n r):Nv (uH n p q r) (pp p d)=pp p (Nv r d):=by have a:=(IP R).1 hd;have hs:=R.sy _ _ a;show(p d.2,nx (uH n p q r (p d.2)) (p d.1))=(p d.2,p (nx (r d.2) d.1));rw[ren_at N (rlt R a).2,HL (fun x b y c e=>N.inj (rlt R b).2 (rlt R c).2 e) hs]
def XS(N:Ren n p q)(R:V7 n r){d:H8}(hd:d∈dl n r):∀k,it (Nv (uH n p q r)) k (pp p d)=pp p (it (Nv r) k d)
 |0=>rfl
 |k+1=>by show Nv (uH n p q r) (it (Nv (uH n p q r)) k (pp p d))=_;rw[XS N R hd k,ren_phi N R ((aaG R).uN hd k)];rfl
theorem pp_inj(N:Ren n p q)(R:V7 n r){d e:H8}(hd:d∈dl n r)(a:e∈dl n r)(h:pp p d=pp p e):d=e:=by have b:=rlt R ((IP R).1 hd);have h2:=rlt R ((IP R).1 a);injection h with k1 k2;grind[Ren.inj]
theorem ren_cr(N:Ren n p q)(R:V7 n r){x y:Nat}(b:x<n)(d:y<n):Cr (uH n p q r) (p x) (p y)↔Cr r x y:=by
 constructor
 .have QI:∀z,Cr (uH n p q r) (p x) z->Cr r x (q z):=fun z c=>by
   induction c with
   |refl=>rw[N.qp x b];exact .refl _
   |step _ hs a=>exact a.step (by grind[uX])
  grind[Ren.qp]
 .intro h;clear d
  induction h with
  |refl=>exact .refl _
  |step _ hs a=>have k:=rlt R hs;exact a.step (by grind[uX,Ren.pl,Ren.qp])
theorem pd(N:Ren n p q)(R:V7 n r):Flat n (uH n p q r)↔Flat n r:=by
 have R':=aef N R;have a:(rG n).Perm ((rG n).map p):=by
  refine yR Hs ?_ fun v=>?_
  .grind[List.Pairwise.imp_of_mem,Ren.inj,nodup_range]
  .all_goals grind[Ren.ql,Ren.pq,Ren.pl]
 have b:(dl n (uH n p q r)).Perm ((dl n r).map (pp p)):=by
  refine yR (J8 R') ?_ fun d=>?_
  .rw[AE,V3];exact DF (fun{x y} i j c e=>c (pp_inj N R i j e)) (AE.1 (J8 R))
  .rw[IP R',uX N R,si];constructor
   .rintro⟨l,h2,h3⟩;exact⟨(q d.1,q d.2),(IP R).2 h3,by show(p (q d.1),p (q d.2))=d;grind[Ren.pq]⟩
   .rintro⟨e,f,rfl⟩;have h:=(IP R).1 f;have k:=rlt R h;refine⟨N.pl _ k.1,N.pl _ k.2,?_⟩;show q (p e.2)∈r (q (p e.1));grind[Ren.qp]
 have m:(dl n (uH n p q r)).length=(dl n r).length:=by rw[b.length_eq,vg]
 have o:cls (WD (Nv (uH n p q r))) (dl n (uH n p q r))=cls (WD (Nv r)) (dl n r):=by
  rw[Yy b (aaG R').eqv,Zx];refine IZ fun d hd e f=>?_;constructor
  .rintro⟨k,g⟩;rw[XS N R hd k]at g;exact⟨k,pp_inj N R ((aaG R).uN hd k) f g⟩
  .rintro⟨k,rfl⟩;exact⟨k,XS N R hd k⟩
 have e3:((rG n).filter fun v=>decide (uH n p q r v=[])).length=((rG n).filter fun v=>decide (r v=[])).length:=by rw[(a.filter _).length_eq,amc,vg];refine congrArg List.length (vY fun v s=>?_);grind[ren_at,map_eq_nil_iff]
 have e4:iJ n (uH n p q r)=iJ n r:=by unfold iJ;rw[Yy a (Cr.eqv R' _),Zx];exact IZ (by grind[ren_cr])
 grind[Flat,mj]
theorem XU.ren(N:Ren n p q){E E':Nat->II}(h:∀v w,w∈E' v↔v<n/\w<n/\q w∈E (q v))(b:XU n E):XU n E':=by have⟨R,a,fl,c⟩:=b;exact⟨uH n p q R,aef N a,(pd N a).2 fl,(by grind[uX])⟩
end
def jJ(R:Nat->II)(H:Nat->Nat->Prop)(v w x y:Nat):Prop:=(v=x/\w=y)\/(v=y/\w=x)\/∃a b,(a=v\/a=w)/\(b=x\/b=y)/\off R H a/\off R H b/\Cr (Mm R H) a b
section
variable{n:Nat}{R:Nat->II}{H H':Nat->Nat->Prop}
def IV(d:V7 n R){v w a:Nat}(hw:w∈R v)(ha:a=v\/a=w)(c:off R H a):QI R H v w=(0,lo R H a,0):=by
 rcases ha with rfl|rfl
 .exact M6 c
 .rw[RX d hw];exact M6 c
theorem Uu(f:V7 n R){v w x y:Nat}(hw:w∈R v)(i:y∈R x):QI R H v w=QI R H x y↔jJ R H v w x y:=by
 constructor
 .intro e;have d:∀{v w:Nat},(∃a,(a=v\/a=w)/\off R H a)\/(¬off R H v/\¬off R H w):=fun{v w}=>by
   by_cases c1:off R H v
   .exact hGr
   by_cases c2:off R H w
   .exact hGr
   .exact .inr ⟨c1,c2⟩
  rcases d (v:=v) (w:=w)with⟨a,ha,h⟩|⟨c1,c2⟩
  .rw[IV f hw ha h]at e;rcases d (v:=x) (w:=y)with⟨b,hb,g⟩|⟨j,k⟩
   .rw[IV f i hb g]at e;have l:lo R H a=lo R H b:=by injection e with _ e;injection e
    exact .inr (.inr ⟨a,b,ha,hb,h,g,(fX f).1 l⟩)
   .rw[rj j k]at e;have:=congrArg Prod.fst e;simp at this
  .rw[rj c1 c2]at e;rcases d (v:=x) (w:=y)with⟨b,hb,g⟩|⟨j,k⟩
   .rw[IV f i hb g]at e;have:=congrArg Prod.fst e;simp at this
   .rw[rj j k]at e;injection e with _ e;injection e with l m;by_cases q:v=x
    .exact .inl ⟨q,NH⟩
    .exact .inr hGr
 .rintro(⟨rfl,rfl⟩|⟨rfl,rfl⟩|⟨a,b,ha,hb,h,g,c⟩)
  .rfl
  .exact RX f hw
  .rw[IV f hw ha h,IV f i hb g,(fX f).2 c]
theorem abI(c:∀x y,H x y->H' x y){v:Nat}(h:off R H' v):off R H v:=fun w hw q=>h w hw (c _ _ q)
theorem offR_mono(c:∀x y,H x y->H' x y){v w:Nat}(h:w∈Mm R H' v):w∈Mm R H v:=by have⟨d,h2,h3⟩:=EM.1 h;exact EM.2 (by grind[abI])
theorem jJ.mono(d:∀x y,H x y->H' x y){v w x y:Nat}(h:jJ R H' v w x y):jJ R H v w x y:=by
 rcases h with h|h|⟨a,b,ha,hb,e,f,c⟩
 .exact .inl h
 .exact .inr (.inl h)
 .exact .inr (.inr ⟨a,b,ha,hb,abI d e,abI d f,c.mono fun v w=>offR_mono d⟩)
theorem jJ.symm(d:V7 n R){v w x y:Nat}(h:jJ R H v w x y):jJ R H x y v w:=by
 rcases h with⟨e,h2⟩|⟨e,h2⟩|⟨a,b,ha,hb,f,g,c⟩
 .exact .inl hGr
 .exact .inr hGr
 .exact .inr (.inr ⟨b,a,hb,ha,g,f,c.symm (QM d)⟩)
variable{a b:Nat}{inn:II}
abbrev XZ(H:Nat->Nat->Prop)(a:Nat)(inn:II)(b:Nat):Nat->Nat->Prop:=fun x y=>H x y\/Ay a inn b x y
def wayH_sub{x y:Nat}(h:H x y):XZ H a inn b x y:=.inl h
theorem Ka.chain(W:Ka R H a inn b):∀(i x y:Nat),inn[0]?=Z x->inn[i]?=Z y->Cr (Mm R H) x y
 |0,x,y,c,h2=>by rw[c]at h2;injection h2 with h2;subst h2;exact .refl _
 |i+1,x,y,c,h2=>by
  have l:=(Ny.1 h2).1;have d:inn[i]?=Z (inn[i]'(by omega)):=Gc NH
  have h:=W.chain i x _ c d;have g:∀(j z:Nat),inn[j]?=Z z->(nr a inn b)[j+1]?=Z z:=fun j z f=>by have k:=(Ny.1 f).1;show(a::(inn++[b]))[j+1]?=Z z;rw[ah7,EP k];exact f
  have e:=W.UQ (i+1) _ _ (g i _ d) (g (i+1) _ h2);exact h.step (EM.2 ⟨e.1,W.off _ (BS d),W.off _ (BS h2)⟩)
def Ka.QC(W:Ka R H a inn b)(d:V7 n R)(hs:∀v w,H v w->H w v){v:Nat}(f:v∈inn):QI R H a ((inn++[b]).headD 0)=(0,lo R H v,0):=by
 cases hi:inn with
 |nil=>rw[hi]at f;cases f
 |cons c t=>
  have h:c∈inn:=by rw[hi];simp
  have e:((c::t++[b]):II).headD 0=c:=rfl;rw[e];have j:c∈R a:=by have:=(W.fst d hs).1;rw[hi]at this;exact this
  rw[IV d j (.inr rfl) (W.off c h)];have⟨i,g⟩:=Og.1 f;rw[(fX d).2 (W.chain i c v (by rw[hi];rfl) g)]
theorem Ka.PW(W:Ka R H a inn b)(c:V7 n R)(hs:∀v w,H v w->H w v){x y:Nat}(h:Ay a inn b x y):QI R H x y=QI R H a ((inn++[b]).headD 0):=by
 have d:=W.wE c hs h;by_cases f:x∈inn
 .rw[W.QC c hs f];exact IV c d.1 (.inl rfl) (W.off x f)
 by_cases cy:y∈inn
 .rw[W.QC c hs cy];exact IV c d.1 (.inr rfl) (W.off y cy)
 have g:=dC h;have i:=dC (Ef h);have ne:x≠y:=by grind[V7.ir]
 rcases g with rfl|rfl|g
 .rw[W.Fp.1 h]
 .have e:=d.1;rcases i with rfl|rfl|i
  .rw[RX c e];exact(by grind[Ka.Fp,Ef])
  .exact absurd rfl ne
  .exact absurd i cy
 .exact absurd g f
theorem ahV(W:Ka R H a inn b)(k:V7 n R){v:Nat}:off R (XZ H a inn b) v↔off R H v/\v∉inn:=by
 constructor
 .intro h;refine⟨by grind[abI],fun f=>?_⟩;have⟨i,p,g,j⟩:=qm (a:=a) (b:=b) (.inr f);exact h p (by grind[V7.sy,Ka.UQ]) (.inr (.inr ⟨i,g,j⟩))
 .rintro⟨c,h2⟩ w hw (q|q)
  .exact c w hw q
  .rcases dC q with rfl|rfl|q
   .obtain⟨z,d,e⟩:=W.ona;exact c z d e
   .obtain⟨z,d,e⟩:=W.onb;exact c z d e
   .exact h2 q
theorem jJ.keep(W:Ka R H a inn b)(f:V7 n R)(hs:∀v w,H v w->H w v){v w x y:Nat}(hw:w∈R v)(m:QI R H v w≠QI R H a ((inn++[b]).headD 0))(h:jJ R H v w x y):jJ R (XZ H a inn b) v w x y:=by
 rcases h with h|h|⟨c,d,j,hd,k,s,q⟩
 .exact .inl h
 .exact .inr (.inl h)
 have g:∀z,Cr (Mm R H) c z->z∉inn:=fun z i o=>m (by rw[IV f hw j k,W.QC f hs o,(fX f).2 i]);have main:∀z,Cr (Mm R H) c z->off R (XZ H a inn b) z->Cr (Mm R (XZ H a inn b)) c z:=fun z i=>by
  induction i with
  |refl=>exact fun _=>.refl _
  |@step y z t h2 p=>
   intro r;have⟨m1,m2,_⟩:=EM.1 h2;have l:off R (XZ H a inn b) y:=by grind[ahV]
   exact(p l).step (EM.2 ⟨m1,l,r⟩)
 have e:off R (XZ H a inn b) d:=by grind[ahV]
 exact .inr (.inr ⟨c,d,j,hd,(ahV W f).2 ⟨k,g _ (.refl _)⟩,e,main d q e⟩)
end
section
variable{n:Nat}{R:Nat->II}{H:Nat->Nat->Prop}{F G:Cs}
theorem feet_two(a:V7 n R)(hs:∀v w,H v w->H w v)(D:QG R)(h2:∃p q,p≠q/\¬off R H p/\¬off R H q):
  (∀u x,QP R H u x->∃z y,QP R H z y/\u≠z/\QI R H u x=QI R H z y)/\∀v w,w∈R v->¬H v w->∃u x,QP R H u x/\QI R H v w=QI R H u x:=by
 have⟨p,q,s,m,I⟩:=h2;have g:∀{v w},w∈R v->R v≠[]:=hGr;have A:∀{v},¬off R H v->R v≠[]:=by grind[Q7]
 have mk:∀{r:Nat->II}{v w:Nat},(∀v w,w∈r v->w∈R v)->Cr r v w->off R H v->¬off R H w->∃u x,QP R H u x/\QI R H u x=(0,lo R H v,0)/\x∈R u/\u∈r x:=fun{r v w} sub i B hw=>by
  rcases tq a sub i B with h|⟨y,z,j,h2,h3,d⟩
  .exact absurd h.2 hw
  .have o:=a.sy _ _ (sub _ _ d);exact⟨z,y,⟨h3,o,fun k=>h2 z (sub _ _ d) (hs _ _ k)⟩,by rw[Jn h3 h2,(fX a).2 j],o,d⟩
 refine⟨fun u x f=>?_,fun v w hw C=>?_⟩
 .by_cases c:off R H x
  .have:∃t,t≠u/\¬off R H t:=by
    by_cases e:p=u
    .exact hGr
    .exact⟨p,e,m⟩
   have⟨t,E,b⟩:=this;have l:x≠u:=by grind[QP.on]
   have i:=D.Z7 u x t l E (g (a.sy _ _ f.mem)) (A b);have⟨z,y,j,h2,_,d⟩:=mk (by grind[EM]) i c b;exact(by grind[EM,Jn,QP.on])
  .exact⟨x,u,⟨c,a.sy _ _ f.mem,(by grind[QP.nh])⟩,fun e=>a.ir u (e▸f.mem),RX a f.mem⟩
 .by_cases c:off R H v
  .obtain⟨z,y,j,h2,_⟩:=mk (fun _ _ h=>h) (by grind[QG.bp]) c m;exact(by grind[M6])
  .exact⟨v,w,⟨c,hw,C⟩,rfl⟩
theorem abK.perm(g:abK n R F)(h:F.Perm G):abK n R G:=⟨g.Rl,g.O.perm h,g.bp,by have:=g.num;unfold Num at this ⊢;rw[<-h.length_eq];exact this,(by grind[abK.ne,List.Perm.eq_nil])⟩
theorem Ctx.perm(C:Ctx n R H F)(h:F.Perm G):Ctx n R H G:=⟨C.Rl,C.sym,C.fl,C.O.perm h,C.bp⟩
theorem PU.perm{E:Nat->II}(I:PU n E H F)(h:F.Perm G):PU n E H G:=⟨I.sub,by have⟨r,g,a⟩:=I.XK;exact⟨r,g.perm h,a⟩,fun q=>by have⟨R,b,h2⟩:=I.full q;exact⟨R,b,h2.perm h⟩⟩
def PU.sym{E:Nat->II}(I:PU n E H F):∀v w,H v w->H w v:=fun v w h=>by have⟨r,g,a⟩:=I.XK;exact(a _ _).1 (g.Rl.sy _ _ ((a _ _).2 h))
def PU.on_face{E:Nat->II}(I:PU n E H F){f:II}(hf:f∈F){u:Nat}(b:u∈f):¬off E H u:=fun q=>by have⟨r,g,c⟩:=I.XK;have a:=(c _ _).1 (g.O.df g.Rl hf b);exact q _ (I.sub _ _ a) a
def PU.O0{E:Nat->II}(I:PU n E H F){f:II}(hf:f∈F):f.Nodup/\∀u∈f,u<n:=by have⟨r,g,b⟩:=I.XK;exact⟨g.O.nd f hf,fun u a=>g.Rl.lt _ _ (g.O.df g.Rl hf a)⟩
theorem PU.nodup{E:Nat->II}(I:PU n E H F):F.Nodup:=by have⟨r,g,a⟩:=I.XK;exact g.O.nodup
end
section
variable{n:Nat}{r E:Nat->II}
def V7.nil_at(R:V7 n r){v:Nat}(h:n<=v):r v=[]:=by
 rcases a:r v with _|⟨w,l⟩
 .rfl
 .have:=R.lt v w (by rw[a];simp);omega
theorem adV(R:V7 n r):Flat (n+1) r↔Flat n r:=by
 have e:=R.nil_at (qL0 n);have hd:dl (n+1) r=dl n r:=by unfold dl;rw[rY,qL212];simp[e]
 have hf:mj (n+1) r=mj n r+1:=by unfold mj;rw[hd,rY,j3,aaf];simp[e];omega
 have a:iJ (n+1) r=iJ n r+1:=by
  have R':V7 (n+1) r:=⟨R.nd,fun v w h=>afJ (R.lt v w h),R.sy,R.ir⟩;unfold iJ;rw[rY,Yy (qL205 (l₁:=rG n) (l₂:=[n])) (Cr.eqv R' _)];rw[qL204,cls,WA];rintro⟨y,b,h⟩;have:∀y,Cr r n y->y=n:=fun y h=>by
   induction h with
   |refl=>rfl
   |step _ h c=>rw[c,e]at h;cases h
  have:=this y h;simp at b;omega
 unfold Flat;rw[hd,hf,a];omega
theorem XU.more(h:∀v w,w∈E v->v<n):XU (n+1) E↔XU n E:=by
 constructor
 .rintro⟨R,a,fl,c⟩;have b:V7 n R:=⟨a.nd,hGr,a.sy,a.ir⟩;exact⟨R,b,(adV b).1 fl,c⟩
 .rintro⟨R,a,fl,c⟩;exact⟨R,⟨a.nd,(by grind[V7.lt]),a.sy,a.ir⟩,(adV a).2 fl,c⟩
theorem XU.mores(h:∀v w,w∈E v->v<n)(k:Nat):XU (n+k) E↔XU n E:=by
 induction k with
 |zero=>rfl
 |succ k a=>exact(by grind[XU.more])
end
def aar(r s:Nat->II)(v:Nat):II:=r v++s v
structure abC (n:Nat) (r s:Nat->II) (S:Nat->Prop):Prop where
 rr:V7 n r
 rs:V7 n s
 on:∀v w,w∈s v->S v
 ap:∀x y,S x->S y->x≠y->¬Cr r x y
section
variable{n:Nat}{r s:Nat->II}{S:Nat->Prop}
theorem abC.TE(H:abC n r s S){v w:Nat}(h:w∈s v):w∉r v:=fun k=>H.ap v w (H.on _ _ h) (H.on _ _ (H.rs.sy _ _ h)) (fun e=>H.rs.ir v hGr) (Cr.one k)
theorem aaT{v w:Nat}:w∈aar r s v↔w∈r v\/w∈s v:=vZ
theorem abC.Rl(H:abC n r s S):V7 n (aar r s):=by
 refine⟨fun v=>?_,fun v w h=>?_,fun v w h=>?_,fun v h=>?_⟩
 .unfold aar;rw[ZT];exact⟨H.rr.nd v,H.rs.nd v,fun a ha b hb e=>H.TE hb (e▸ha)⟩
 .exact(aaT.1 h).elim (H.rr.lt v w) (H.rs.lt v w)
 .exact aaT.2 ((aaT.1 h).imp (H.rr.sy v w) (H.rs.sy v w))
 .exact(aaT.1 h).elim (H.rr.ir v) (H.rs.ir v)
theorem abC.same(H:abC n r s S){x y:Nat}(a:S x)(b:S y)(c:Cr r x y):x=y:=j9 fun e=>H.ap x y a b e c
theorem abC.cr(H:abC n r s S){v w:Nat}(d:S v)(hw:S w)(c:Cr (aar r s) v w):Cr s v w:=by
 have:∀z,Cr (aar r s) v z->∃t,S t/\Cr s v t/\Cr r t z:=fun z c=>by
  induction c with
  |refl=>exact⟨v,d,.refl _,.refl _⟩
  |@step b c _ e f=>
   have⟨t,a,h2,h3⟩:=f;rcases aaT.1 e with e|e
   .exact⟨t,a,h2,.step h3 e⟩
   .obtain rfl:=H.same a (H.on _ _ e) h3;exact⟨c,H.on _ _ (H.rs.sy _ _ e),.step h2 e,.refl _⟩
 grind[abC.same]
theorem afW{l:II}(h:l≠[])(d:Nat):l.headD d∈l:=by
 cases l<;>grind
theorem abC.EI(H:abC n r s S){d e:H8}(hd:d.2∈s d.1)(A:e.2∈s e.1)(o:WD (Nv (aar r s)) d e):WD (Nv s) d e:=by
 have key:∀k,((it (Nv (aar r s)) k d).2∈s (it (Nv (aar r s)) k d).1/\WD (Nv s) d (it (Nv (aar r s)) k d))\/((it (Nv (aar r s)) k d).2∈r (it (Nv (aar r s)) k d).1/\∃v,s v≠[]/\Cr r v (it (Nv (aar r s)) k d).1/\WD (Nv s) d (v,(s v).headD 0)):=by
  intro k
  induction k with
  |zero=>exact .inl ⟨hd,WD.refl _ _⟩
  |succ k z=>
   show((Nv (aar r s) (it (Nv (aar r s)) k d)).2∈_/\_)\/_;rw[show it (Nv (aar r s)) (k+1) d=Nv (aar r s) (it (Nv (aar r s)) k d)from rfl];generalize it (Nv (aar r s)) k d=x at*;have⟨u,v⟩:=x;simp only at z;rcases z with⟨j,h2⟩|⟨j,t,h2,h3,B⟩
   .have f:=H.rs.sy _ _ j;have⟨a,b,hs,m⟩:=sC f;have C:u∉r v:=H.TE f;have g:nx (aar r s v) u=(b++(r v++a++[u])).headD 0:=by grind[aar,ZL]
    have p:nx (s v) u=(b++(a++[u])).headD 0:=by grind[ZL]
    have i:nx (s v) u∈s v:=ZP f;have F:WD (Nv s) d (v,nx (s v) u):=h2.trans (WD.one (Nv s) (u,v));by_cases c:b=[]/\r v≠[]
    .obtain⟨rfl,G⟩:=c;have e3:nx (aar r s v) u=(r v).headD 0:=by
      rw[g];cases D:r v<;>grind
     have e4:nx (s v) u=(s v).headD 0:=hGr;refine .inr ⟨?_,v,?_,.refl _,hGr⟩
     .show nx (aar r s v) u∈r v;grind[afW]
     grind
    .have e3:nx (aar r s v) u=nx (s v) u:=by
      rw[g,p];cases b<;>grind
     grind[Nv]
   .have f:=H.rr.sy _ _ j;have⟨a,b,hs,m⟩:=sC f;have g:nx (aar r s v) u=(b++s v++(a++[u])).headD 0:=by grind[aar,ZL]
    have p:nx (r v) u=(b++(a++[u])).headD 0:=by grind[ZL]
    have i:nx (r v) u∈r v:=ZP f;have y:Cr r t v:=.step h3 j;by_cases c:b=[]/\s v≠[]
    .obtain⟨rfl,E⟩:=c;have e3:nx (aar r s v) u=(s v).headD 0:=by
      rw[g];cases D:s v<;>grind
     have st:∀{v},s v≠[]->S v:=fun{v} q=>by have⟨w,l,e⟩:=N8 q;exact H.on v w (by rw[e];simp)
     grind[abC.same,Nv,afW]
    .have e3:nx (aar r s v) u=nx (r v) u:=by
      rw[g,p];cases b<;>grind
     right;show nx (aar r s v) u∈r v/\_;rw[e3];exact⟨i,t,h2,y,B⟩
 obtain⟨k,rfl⟩:=o;rcases key k with h|h
 .exact h.2
 .exact absurd h.1 (H.TE A)
theorem abC.less(H:abC n r s S){v w:Nat}(h:w∈s v):del (aar r s) v w=aar r (del s v w):=by
 have b:=H.TE h;have h2:=H.TE (H.rs.sy _ _ h);have a:v≠w:=fun e=>H.rs.ir v hGr;funext x;show _=r x++del s v w x;by_cases c1:x=v
 .subst c1;rw[OE,OE];exact qL239 _ b
 by_cases c2:x=w
 .subst c2;rw[u9 _ a,u9 _ a];exact qL239 _ h2
 .rw[ab1 _ c1 c2,ab1 _ c1 c2];rfl
theorem hung_flat:∀(m:Nat)(s:Nat->II),abC n r s S->(dl n s).length=m->Flat n r->Flat n s->Flat n (aar r s):=by
 intro m
 induction m using Nat.strongRecOn with
 |_ m g=>
  intro s H t fr h;cases hh:dl n s with
  |nil=>
   have:aar r s=r:=by funext v;unfold aar;rw[qe H.rs hh v,ag1]
   grind
  |cons d l=>have⟨v,w⟩:=d;have hw:w∈s v:=(IP (d:=(v,w)) H.rs).1 (by rw[hh];simp);have a:v≠w:=fun e=>H.rs.ir v hGr;have i:=(yH H.rs hw).length_eq;simp only[Vn]at i;have⟨j,k⟩:=Lq H.rs hw h;have f:abC n r (del s v w) S:=⟨H.rr,afL H.rs a,fun x y q=>H.on x y ((JF H.rs a).1 q).1,H.ap⟩;have F:=g _ NH _ f rfl fr j;have p:=H.on _ _ hw;have b:=H.on _ _ (H.rs.sy _ _ hw);refine abG H.Rl (aaT.2 (.inr hw)) (by grind[abC.less]) ⟨fun o c=>?_,fun c=>jh H.Rl (aaT.2 (.inr hw)) c⟩;rw[H.less hw]at c;exact k.1 (H.EI hw (H.rs.sy _ _ hw) o) (f.cr p b c)
theorem abC.flat(H:abC n r s S)(fr:Flat n r)(a:Flat n s):Flat n (aar r s):=hung_flat _ s H rfl fr a
end
theorem ab3{n:Nat}{r:Nat->II}(R:V7 n r)(F:Flat n r){u v w:Nat}(t:v∈r u)(hw:nx (r u) v=w)(z:v≠w)(l:w∉r v):∃q,V7 n q/\Flat n q/\∀x y,y∈q x↔y∈r x\/(x=v/\y=w)\/(x=w/\y=v):=by
 have g:w∈r u:=by grind[ZP]
 have f:=R.sy _ _ t;have i:=R.sy _ _ g;have A:u≠v:=fun e=>R.ir u hGr;have B:u≠w:=fun e=>R.ir u hGr;have C:v∉r w:=fun h=>l (R.sy _ _ h);have⟨a,b,ev,H⟩:=sC f;have⟨c,d,D,I⟩:=sC i
 let q:Nat->II:=fun x=>if x=v then a++w::u::b else if x=w then c++u::v::d else r x
 have J:q v=a++w::u::b:=Sb rfl;have E:q w=c++u::v::d:=hGr;have G:∀x,x≠v->x≠w->q x=r x:=fun x m h2=>by grind
 have mem:∀x y,y∈q x↔y∈r x\/(x=v/\y=w)\/(x=w/\y=v):=fun x y=>by grind
 have Q:V7 n q:=by
  refine⟨fun x=>?_,fun x y h=>?_,fun x y h=>?_,fun x h=>?_⟩
  .by_cases m:x=v
   .subst m;have nd:=R.nd x;grind
   by_cases h2:x=w
   .subst h2;have nd:=R.nd x;rw[D]at nd;have:v∉c++u::d:=hGr;rw[E];have p:(c++u::v::d).Perm (v::(c++u::d)):=by
     have:(c++u::v::d)=(c++[u])++v::d:=by simp
     rw[this];refine List.perm_middle.trans ?_;simp
    grind
   .rw[G x m h2];exact R.nd x
  .rcases(mem x y).1 h with h|⟨rfl,rfl⟩|⟨rfl,rfl⟩
   .exact R.lt x y h
   .exact R.lt _ _ f
   .exact R.lt _ _ i
  .grind[V7.sy]
  grind[V7.ir]
 have j:w∈q v:=(mem v w).2 (.inr (.inl ⟨rfl,rfl⟩));have dl:del q v w=r:=by funext x;grind[OE,u9,ab1]
 have tri:∀k,it (Nv q) k (w,v)=(w,v)\/it (Nv q) k (w,v)=(v,u)\/it (Nv q) k (w,v)=(u,w):=by
  have s1:Nv q (w,v)=(v,u):=by grind[Nv,ZL]
  have s2:Nv q (v,u)=(u,w):=by grind[Nv]
  have K:Nv q (u,w)=(w,v):=by grind[Nv,ZL]
  intro k
  induction k<;>grind[it]
 refine⟨q,Q,abG Q j hGr ⟨fun o=>?_,fun h=>?_⟩,mem⟩
 .obtain⟨k,L⟩:=(aaG Q).adK ((IP (d:=(v,w)) Q).2 j) o;grind
 .rw[dl]at h;exact absurd ((Cr.one f).trans (Cr.one g)) h
def aae(n:Nat)(A:Nat->Nat->Prop):Prop:=∃R,V7 n R/\Flat n R/\∀v w,w∈R v↔A v w
section
variable{n:Nat}{A B:Nat->Nat->Prop}
theorem aae.lt(h:aae n A){v w:Nat}(q:A v w):v<n/\w<n:=by obtain⟨R,r,-,m⟩:=h;exact⟨r.lt v w ((m v w).2 q),r.lt w v (r.sy v w ((m v w).2 q))⟩
theorem aae.sy(h:aae n A){v w:Nat}(q:A v w):A w v:=by obtain⟨R,r,-,m⟩:=h;grind[V7.sy]
theorem aae.ir(h:aae n A)(v:Nat):¬A v v:=fun q=>by obtain⟨R,r,-,m⟩:=h;grind[V7.ir]
theorem aae.congr(h:aae n A)(k:∀v w,A v w↔B v w):aae n B:=by have⟨R,r,f,m⟩:=h;exact⟨R,r,f,fun v w=>by rw[m,k]⟩
theorem aae.less(h:aae n A)(k:∀v w,B v w->A v w)(sy:∀v w,B v w->B w v):aae n B:=by have⟨R,r,f,m⟩:=h;exact⟨Om B R,OG r sy,f.keep r sy,fun v w=>by grind[EM]⟩
def addE(A:Nat->Nat->Prop)(x b v w:Nat):Prop:=A v w\/(v=x/\w=b)\/(v=b/\w=x)
theorem aae.slide(h:aae n A){x y b0:Nat}(g:A y x)(hb:A y b0)(ne:b0≠x):∃b,A y b/\b≠x/\aae n (addE A x b):=by
 have⟨R,r,f,m⟩:=h;have a:=(m y x).2 g;have nb:nx (R y) x≠x:=fun e=>by have:=(Bk (r.nd y) a).1 e;grind
 have d:nx (R y) x∈R y:=ZP a;refine⟨nx (R y) x,(m _ _).1 d,nb,?_⟩;by_cases c:nx (R y) x∈R x
 .refine aae.congr ⟨R,r,f,m⟩ fun v w=>?_;grind[V7.sy,addE]
 .obtain⟨q,Q,F,i⟩:=ab3 r f a rfl (wI nb) c;exact⟨q,Q,F,fun v w=>by rw[i,m];rfl⟩
def aik(A:Nat->Nat->Prop)(x y v w:Nat):Prop:=v≠y/\w≠y/\v≠w/\(A v w\/(v=x/\A y w)\/(w=x/\A v y))
def al7(sy:∀v w,A v w->A w v)(x y v w:Nat)(h:aik A x y v w):aik A x y w v:=by have⟨a,h2,h3,b⟩:=h;exact⟨h2,a,wI h3,b.elim (fun q=>.inl (sy _ _ q)) fun q=>q.elim (fun q=>.inr (.inr ⟨q.1,sy _ _ q.2⟩)) fun q=>.inr (.inl ⟨q.1,sy _ _ q.2⟩)⟩
theorem con_ind{x y:Nat}:∀(k:Nat)(L:II)(A:Nat->Nat->Prop),L.length=k->(∀b,A y b->b≠x->b∈L)->A x y->aae n A->aae n (aik A x y):=by
 intro k
 induction k using Nat.strongRecOn with
 |_ k j=>
  intro L A p l a P;have sy:=fun v w=>P.sy (v:=v) (w:=w);have ir:=P.ir;by_cases c:∃b0,A y b0/\b0≠x
  rotate_left
  .refine P.less (fun v w q=>?_) (al7 sy x y);obtain⟨r,h2,h3,q|⟨rfl,q⟩|⟨rfl,q⟩⟩:=q
   all_goals grind
  have⟨b0,f,g⟩:=c;have⟨b,hb,ne,i⟩:=P.slide (sy _ _ a) f g;have m:y≠b:=fun e=>ir b (e▸hb:A b b);have d:x≠y:=fun e=>ir y (e▸a:A y y);have o:aae n fun v w=>addE A x b v w/\¬(v=y/\w=b)/\¬(v=b/\w=y):=i.less (fun v w q=>q.1) fun v w q=>⟨i.sy q.1,fun e=>q.2.2 ⟨e.2,e.1⟩,fun e=>q.2.1 ⟨e.2,e.1⟩⟩;have h:=l b hb ne;have s:0<L.length:=Bc h;refine(j (L.erase b).length hGr (L.erase b) _ rfl (fun z t nz=>?_) ⟨.inl a,fun e=>d e.1,fun e=>ne e.1.symm⟩ o).congr fun v w=>?_
  all_goals grind[aik,addE]
theorem aae.bp(P:aae n A){x y:Nat}(h:A x y):aae n (aik A x y):=con_ind _ (rG n) A rfl (fun b hb _=>Db.2 (P.lt hb).2) h P
end
def rot_last{l:II}{v:Nat}(h:v∈l):∃c,Cyc l (c++[v]):=by obtain⟨a,b,rfl,-⟩:=sC h;exact⟨b++a,a++[v],b,Ma,Ma⟩
def rot_first{l:II}{v:Nat}(h:v∈l):∃c,Cyc l (v::c):=by obtain⟨a,b,rfl,-⟩:=sC h;exact⟨b++a,a,v::b,rfl,Ma⟩
theorem al9{n:Nat}{r:Nat->II}(R:V7 n r)(F:Flat n r)(u:Nat){l:II}(h:Cyc (r u) l):∃q,V7 n q/\Flat n q/\q u=l/\∀v w,w∈q v↔w∈r v:=by
 let q:Nat->II:=fun v=>if v=u then l else r v
 have S:pP r q:=fun v=>by grind[Cyc.refl]
 exact⟨q,S.Rl R,(S.flat R).1 F,Sb rfl,fun v w=>S.mem.symm⟩
theorem aae.two{n:Nat}{A B:Nat->Nat->Prop}{u v m:Nat}(g:aae n A)(r:aae n B)(hA:A u v)(hB:B u v)(t:m<n)(s:∀w,¬A m w)(iB:∀w,¬B m w)(aa:∀z,(∃w,A z w)->(∃w,B z w)->z=u\/z=v):aae n fun x y=>A x y\/B x y:=by
 have lv:=g.lt hA;have C:u≠v:=fun e=>g.ir v (e▸hA:A v v);have num:u≠m:=fun e=>s v (e▸hA:A m v);have k:v≠m:=fun e=>s u (e▸g.sy hA:A m u);have i:=fun v w=>g.sy (v:=v) (w:=w);have l:=fun v w=>r.sy (v:=v) (w:=w);have D:=g.ir;have E:=r.ir;have ae:=fun v w=>g.lt (v:=v) (w:=w);have a:=fun v w=>r.lt (v:=v) (w:=w);have⟨R,rR,fR,mR⟩:=g;have⟨S0,G,fS,mS⟩:=r
 let p:Nat->Nat:=fun z=>if z=v then m else if z=m then v else z
 have pv:p v=m:=Sb rfl;have pm:p m=v:=hGr;have po:∀z,z≠v->z≠m->p z=z:=fun z h1 h2=>by grind
 have pl:∀z,z<n->p z<n:=fun z hz=>by grind
 have pp:∀z,p (p z)=z:=fun z=>by grind
 have N:Ren n p p:=⟨pl,pl,fun z _=>pp z,fun z _=>pp z⟩;have I:=aef N G;have J:=(pd N G).2 fS;have o:∀x y,y∈uH n p p S0 x↔x<n/\y<n/\B (p x) (p y):=fun x y=>by rw[uX N G,mS]
 have⟨c,hc⟩:=rot_last ((mR u v).2 hA);have⟨j,K,L,ai,M⟩:=al9 rR fR u hc;have O:m∈uH n p p S0 u:=(o u m).2 ⟨lv.1,t,hGr⟩;have⟨d,hd⟩:=rot_first O;have⟨b,P,S,aj,T⟩:=al9 I J u hd;have mA:∀x y,y∈j x↔A x y:=fun x y=>by rw[M,mR]
 have mB:∀x y,y∈b x↔x<n/\y<n/\B (p x) (p y):=fun x y=>by rw[T,o]
 have aq:∀x,(∃y,y∈b x)->(∃y,A x y)->x=u:=fun x ⟨y,hy⟩ ar=>by
  obtain⟨-,-,q⟩:=(mB x y).1 hy;by_cases c1:x=v
  .grind
  by_cases c2:x=m
  .grind
  grind
 have U:∀{x y},Cr j x y->x=y\/((∃w,A x w)/\∃w,A y w):=fun{x y} h=>by
  induction h with
  |refl=>grind
  |step _ e ih=>
   have e:=(mA _ _).1 e;right;rcases ih with rfl|⟨q,-⟩
   .grind
   .exact⟨q,_,i _ _ e⟩
 have H:abC n j b fun x=>∃y,y∈b x:=⟨K,P,fun x y h=>⟨y,h⟩,fun x y hx hy ne h=>by grind⟩;have rQ:=H.Rl;have fQ:=H.flat L S;have eQ:aar j b u=c++v::(m::d):=by grind[aar]
 have V:nx (aar j b u) v=m:=by have nd:=rQ.nd u;rw[eQ]at nd ⊢;have hv:v∉c:=fun h=>(ZT.1 nd).2.2 v h v Ma rfl;rw[ZL hv];rfl
 have W:v∈aar j b u:=by rw[eQ];simp
 have X:m∉aar j b v:=fun h=>by grind[aaT]
 have⟨q,Q,F,mq⟩:=ab3 rQ fQ W V k X;have P1:aae n fun x y=>y∈q x:=⟨q,Q,F,fun _ _=>Iff.rfl⟩;have P2:aae n fun x y=>y∈q x/\¬(x=u/\y=m)/\¬(x=m/\y=u):=P1.less (fun _ _ h=>h.1) fun x y h=>⟨Q.sy _ _ h.1,fun e=>h.2.2 ⟨e.2,e.1⟩,fun e=>h.2.1 ⟨e.2,e.1⟩⟩;have P3:=P2.bp (x:=v) (y:=m) ⟨(mq v m).2 (.inr (.inl ⟨rfl,rfl⟩)),fun e=>C e.1.symm,fun e=>k e.1⟩;have inA:∀{x y},A x y->y∈q x:=fun{x y} h=>(mq x y).2 (.inl (aaT.2 (.inl ((mA x y).2 h))));have inB:∀{x y},x<n->y<n->B (p x) (p y)->y∈q x:=fun{x y} h1 h2 h=>(mq x y).2 (.inl (aaT.2 (.inr ((mB x y).2 ⟨h1,h2,h⟩))));have nA:∀{x y},A x y->x≠m/\y≠m/\x≠y:=fun{x y} h=>⟨fun e=>s y (e▸h),fun e=>s x (e▸i _ _ h),fun e=>D y (e▸h)⟩;have nB:∀{x y},B x y->x≠m/\y≠m/\x≠y:=fun{x y} h=>⟨fun e=>iB y (e▸h),fun e=>iB x (e▸l _ _ h),fun e=>E y (e▸h)⟩;have toA:∀{x y},A x y->aik (fun x y=>y∈q x/\¬(x=u/\y=m)/\¬(x=m/\y=u)) v m x y:=fun{x y} h=>by have⟨n1,f,n3⟩:=nA h;exact⟨n1,f,n3,.inl ⟨inA h,fun e=>f e.2,fun e=>n1 e.1⟩⟩
 refine P3.less (fun x y h=>?_) fun x y h=>h.imp (i _ _) (l _ _);rcases h with h|h
 .exact toA h
 .obtain⟨n1,f,n3⟩:=nB h;by_cases c1:x=v
  .by_cases c2:y=u
   .grind
   .refine⟨n1,f,n3,.inr (.inl ⟨c1,inB t (a _ _ h).2 ?_,fun e=>f e.2,fun e=>c2 e.2⟩)⟩;grind
  by_cases c2:y=v
  .by_cases c3:x=u
   .grind
   .refine⟨n1,f,n3,.inr (.inr ⟨c2,inB (a _ _ h).1 t ?_,fun e=>c3 e.1,fun e=>n1 e.1⟩)⟩;grind
  .exact⟨n1,f,n3,.inl ⟨inB (a _ _ h).1 (a _ _ h).2 hGr,fun e=>f e.2,fun e=>n1 e.1⟩⟩
theorem cyc2{f:II}{a b:Nat}(ha:a∈f)(hb:b∈f)(ne:a≠b):∃A B,Cyc f ((a::A)++(b::B)):=by
 have⟨c,e⟩:=Cyc.front ha;have d:b∈c:=by grind[Cyc.perm,List.Perm.mem_iff]
 grind[sC]
def akt(r:Nat->II)(x:Nat)(Q:II)(v w:Nat):Prop:=w∈r v\/(v=x/\w∈Q)\/(w=x/\v∈Q)
theorem ai6{a b x y:Nat}:Ay a [] b x y↔(x=a/\y=b)\/(x=b/\y=a):=by
 have key:∀x y,Vj (nr a [] b) x y↔x=a/\y=b:=fun x y=>by
  constructor
  .rintro⟨i,c,h2⟩;grind[nr]
  .rintro⟨rfl,rfl⟩;exact⟨0,rfl,rfl⟩
 grind[Ay]
theorem agz{a b m x y:Nat}:Ay a [m] b x y↔(x=a/\y=m)\/(x=m/\y=b)\/(x=m/\y=a)\/(x=b/\y=m):=by
 have key:∀x y,Vj (nr a [m] b) x y↔(x=a/\y=m)\/(x=m/\y=b):=fun x y=>by
  constructor
  .rintro⟨i,c,h2⟩
   match i with
   |0=>grind[nr]
   |1=>grind[nr]
   |i+2=>grind[nr]
  .rintro(⟨rfl,rfl⟩|⟨rfl,rfl⟩)
   .exact⟨0,rfl,rfl⟩
   .exact⟨1,rfl,rfl⟩
 grind[Ay]
theorem adD{a b v:Nat}{A inn:II}:v∈half a A b inn↔v=a\/v∈A\/v=b\/v∈inn:=by simp[half]
section
variable{n:Nat}
theorem ahp{r:Nat->II}{a h2:II}{b:Cs}{f:II}(G:abK n r (a::h2::b.erase f))(nd:b.Nodup):h2≠a/\∀g∈b,g≠f->g∈a::h2::b.erase f/\g≠a/\g≠h2:=by have:=G.O.nodup;grind
theorem fan:∀(k:Nat)(Q:II),Q.length=k->∀{r:Nat->II}{F:Cs}{f:II}{x:Nat},abK n r F->f∈F->x∈f->Q.Nodup->(∀q∈Q,q∈f/\q≠x/\q∉r x)->
  ∃l m,abK n l m/\(∀v w,w∈l v↔akt r x Q v w)/\∀g∈F,g≠f->g∈m:=by
 intro k
 induction k using Nat.strongRecOn with
 |_ k o=>
  intro Q z r F f x G hf p nd hQ;cases Q with
  |nil=>grind[akt]
  |cons q a=>
   have⟨s,t,D⟩:=hQ q Ma;have⟨A,B,cy⟩:=cyc2 p s (wI t);have C:UN n r f x q []:=⟨wI t,p,s,qL257,fun _ h=>absurd h Ma,fun _ h=>absurd h Ma,fun _=>D⟩;have⟨u,m1⟩:=G.lay hf C cy;have⟨d,qi⟩:=ahp u G.O.nodup;have⟨N,b⟩:=eR.1 nd;have l1:(a.filter fun v=>decide (v∈A)).length<=a.length:=OM _ _;have l2:(a.filter fun v=>decide (v∉A)).length<=a.length:=OM _ _;have P:a.length+1=k:=z;have⟨r2,R,E,m2,H⟩:=o (a.filter fun v=>decide (v∈A)).length NH _ rfl (x:=x) u (f:=half x A q []) Ma (adD.2 (.inl rfl)) (b.filter _) (fun v e=>by have⟨i,c⟩:=xD.1 e;have c:v∈A:=hGr;obtain⟨-,j,y⟩:=hQ v (by simp[i]);refine⟨adD.2 (.inr (.inl c)),j,fun h=>?_⟩;grind[ai6]);have⟨I,J,K,m3,S⟩:=o (a.filter fun v=>decide (v∉A)).length NH _ rfl (x:=x) E (f:=half q B x [].reverse) (H _ Ma d) (adD.2 (.inr (.inr (.inl rfl)))) (b.filter fun v=>decide (v∉A)) (fun v e=>by
    have⟨i,c⟩:=xD.1 e;have c:v∉A:=hGr;have⟨L,j,y⟩:=hQ v (by simp[i]);have:=cy.perm.mem_iff.1 L;refine⟨adD.2 hGr,j,fun h=>?_⟩;rcases(m2 _ _).1 h with h|⟨-,h⟩|⟨-,h⟩
    .rcases(m1 _ _).1 h with h|h
     .exact y h
     grind[ai6]
    .grind
    grind)
   refine⟨I,J,K,fun v w=>?_,fun g hg M=>?_⟩
   .rw[m3];unfold akt;rw[m2];unfold akt;rw[m1,ai6];simp only[xD,HV,abV];grind
   grind
theorem lay_two{r:Nat->II}{F:Cs}{f A B X Y:II}{x y s t:Nat}(G:abK n r F)(hf:f∈F)(cy:Cyc f ((s::A)++(t::B)))(xn:x<n)(yn:y<n)(xy:x≠y)(x0:r x=[])(y0:r y=[])(T:∀q∈X,q=s\/q∈A\/q=t)(sX:s∈X)(tX:t∈X)(U:∀q∈Y,q=t\/q∈B\/q=s)(V:Y≠[])(nX:X.Nodup)(M:Y.Nodup):
  aae n fun v w=>(w∈r v\/(v=x/\w∈X)\/(w=x/\v∈X))\/((v=y/\w∈Y)\/(w=y/\v∈Y))\/(v=x/\w=y)\/(v=y/\w=x):=by
 have p:f.Nodup:=G.O.nd f hf;have nd:=cy.perm.nodup_iff.1 p;have inf:∀v,v∈f↔v=s\/v∈A\/v=t\/v∈B:=fun v=>by rw[cy.perm.mem_iff];simp
 have g:∀v∈f,r v≠[]:=fun v b e=>by have:=G.O.bz f hf v b;grind
 have xf:x∉f:=fun h=>g x h x0;have yf:y∉f:=fun h=>g y h y0;have u:s≠t:=fun e=>by grind
 have C:UN n r f s t [x]:=⟨u,(inf s).2 (.inl rfl),(inf t).2 (.inr (.inr (.inl rfl))),Ma,fun v b=>by grind,fun v b=>by grind,fun h=>by simp at h⟩;have⟨N,m1⟩:=G.lay hf C cy;obtain⟨z,-⟩:=ahp N G.O.nodup;have W:∀w,w∉EO r f s t [x] y:=fun w h=>by grind[agz]
 have D:x∉A/\x∉B/\x≠s/\x≠t/\y∉A/\y∉B/\y≠s/\y≠t:=hGr;have⟨r2,F2,P,m2,o2⟩:=fan _ (X.filter fun v=>decide (v∈A)) rfl (x:=x) N (f:=half s A t [x]) Ma (adD.2 (.inr (.inr (.inr Ma)))) (nX.filter _) (fun v b=>by have⟨o,i⟩:=xD.1 b;have i:v∈A:=hGr;refine⟨adD.2 (.inr (.inl i)),fun e=>D.1 (e▸i),fun h=>?_⟩;grind[agz]);have E:half t B s [x].reverse∈F2:=o2 _ Ma z;have H:∀w,w∉r2 y:=fun w h=>by
  rcases(m2 _ _).1 h with h|⟨e,-⟩|⟨-,e⟩
  all_goals grind
 have⟨a,c⟩:=akp _ V;have Q:=U a c;have j:x≠a:=fun e=>by grind
 have xh:x∈half t B s [x].reverse:=adD.2 (.inr (.inr (.inr Ma)));have I:∀q∈Y,q∈half t B s [x].reverse:=fun q hq=>adD.2 hGr;have⟨d,B',k⟩:=cyc2 xh (I a c) j;have C':UN n r2 (half t B s [x].reverse) x a [y]:=⟨j,xh,I a c,Ma,fun v b=>by rw[iy.1 b];exact jz.2 H,fun v b=>by grind,fun h=>by simp at h⟩;have⟨R,m3⟩:=P.lay E C' k;obtain⟨J,-⟩:=ahp R P.O.nodup;have yq:∀q∈Y,q≠y/\q≠x:=fun q hq=>by grind
 have K:∀w,w∈EO r2 (half t B s [x].reverse) x a [y] y↔w=x\/w=a:=fun w=>by grind[agz]
 have⟨r4,F4,G4,m4,o4⟩:=fan _ ((Y.filter fun v=>decide (v≠a)).filter fun v=>decide (v∈d)) rfl (x:=y) R (f:=half x d a [y]) Ma (adD.2 (.inr (.inr (.inr Ma)))) ((M.filter _).filter _) (fun v b=>by grind[adD]);have aa:∀w,w∈r4 y↔w=x\/w=a\/((w∈Y/\w≠a)/\w∈d):=fun w=>by rw[m4];unfold akt;rw[K];simp only[xD,abV];have:y∉Y:=fun h=>(yq y h).1 rfl;grind
 obtain⟨r5,F5,S,m5,-⟩:=fan _ ((Y.filter fun v=>decide (v≠a)).filter fun v=>decide (v∉d)) rfl (x:=y) G4 (f:=half a B' x [y].reverse) (o4 _ Ma J) (adD.2 (.inr (.inr (.inr Ma)))) ((M.filter _).filter _) (fun v b=>by have⟨o,i⟩:=xD.1 b;have⟨o,v3⟩:=xD.1 o;have i:v∉d:=hGr;have v3:v≠a:=hGr;have L:=I v o;rw[k.perm.mem_iff]at L;grind[adD]);refine⟨r5,S.Rl,S.flat,fun v w=>?_⟩;rw[m5];unfold akt;rw[m4];unfold akt;rw[m3,agz,m2];unfold akt;rw[m1,agz];simp only[xD,abV];have l:∀q,q∈X↔(q∈X/\q∈A)\/q=s\/q=t:=fun q=>by have:=T q;grind
 have m:∀q,q∈Y↔((q∈Y/\q≠a)/\q∈d)\/((q∈Y/\q≠a)/\q∉d)\/q=a:=fun q=>by grind
 rw[l w,l v,m w,m v];grind
end
variable {X Y:Nat->Prop} {f:II} {y:Nat}
theorem ahw{X:Nat->Prop}:∀{l:II},(∃q∈l,X q)->∃l1 s l2,l=l1++s::l2/\X s/\∀q∈l1,¬X q
 |[],h=>by grind
 |a::l,h=>by
  by_cases c:X a
  .exact⟨[],a,l,rfl,c,Ma⟩
  .obtain⟨l1,s,l2,rfl,d,h2⟩:=ahw (l:=l) (by
    have⟨q,b,k⟩:=h;rcases HV.1 b with rfl|b
    .exact absurd k c
    .exact⟨q,b,k⟩)
   grind
theorem last_at(h:∃q∈l,X q):∃l1 s l2,l=l1++s::l2/\X s/\∀q∈l2,¬X q:=by have⟨l1,s,l2,e,a,h2⟩:=ahw (l:=l.reverse) (X:=X) (by simpa using h);refine⟨l2.reverse,s,l1.reverse,?_,a,fun q b=>h2 q hGr⟩;grind
theorem ama(h:∃p q,p∈l/\q∈l/\p≠q/\X p/\X q):∃l1 s m t l2,l=l1++s::(m++t::l2)/\X s/\X t/\(∀q∈l1,¬X q)/\∀q∈l2,¬X q:=by have⟨p,q,a,c,ne,b,d⟩:=h;obtain⟨l1,s,l',rfl,e,h2⟩:=ahw ⟨p,a,b⟩;have:∃z∈l',X z:=hGr;obtain⟨m,t,l2,rfl,f,g⟩:=last_at this;grind
def akD(f:II)(X Y:Nat->Prop):Prop:=∃s t A B,Cyc f ((s::A)++(t::B))/\X s/\X t/\(∀q∈f,X q->q=s\/q∈A\/q=t)/\∀q∈f,Y q->q=t\/q∈B\/q=s
def ag9(f:II)(X Y:Nat->Prop):Prop:=∃a e b g c h d i,Cyc f ((a::e)++((b::g)++((c::h)++(d::i))))/\X a/\Y b/\X c/\Y d
def ThreeR(f:II)(X Y:Nat->Prop):Prop:=∃a d b e c g,Cyc f ((a::d)++((b::e)++(c::g)))/\(∀q∈f,(X q↔Y q)/\(X q↔q=a\/q=b\/q=c))
theorem ag9.aly(h:ag9 f Y X):ag9 f X Y:=by have⟨a,e,b,g,c,i,d,j,cy,k,h2,h3,l⟩:=h;refine⟨b,g,c,i,d,j,a,e,?_,h2,h3,l,k⟩;grind[Cyc.shift]
theorem alb(h2:∃p q,p∈f/\q∈f/\p≠q/\X p/\X q)(a:y∈f)(b:Y y)(g:¬X y):akD f X Y\/ag9 f X Y:=by
 have⟨l,cy⟩:=Cyc.front a;have h:∀q,q∈f↔q=y\/q∈l:=fun q=>by rw[cy.perm.mem_iff];simp
 obtain⟨l1,s,m,t,l2,rfl,xs,xt,n1,i⟩:=ama (l:=l) (X:=X) (by grind);by_cases c:∃z∈m,Y z
 .obtain⟨z,d,yz⟩:=c;obtain⟨m1,m2,rfl,-⟩:=sC d;right;refine ag9.aly ⟨y,l1,s,m1,z,m2,t,l2,?_,b,xs,yz,xt⟩;grind
 .left;refine⟨s,t,m,l2++y::l1,?_,xs,xt,fun q e j=>?_,fun q e k=>?_⟩
  all_goals grind[Cyc.shift]
theorem alz(i:∃p q,p∈f/\q∈f/\p≠q/\X p/\X q)(n:∃p q,p∈f/\q∈f/\p≠q/\Y p/\Y q):akD f X Y\/akD f Y X\/ag9 f X Y\/ThreeR f X Y:=by
 by_cases c1:∃y∈f,Y y/\¬X y
 .grind[alb]
 by_cases c2:∃x∈f,X x/\¬Y x
 .grind[alb,ag9.aly]
 have same:∀q∈f,X q↔Y q:=fun q a=>⟨fun x=>j9 fun h=>c2 ⟨q,a,x,h⟩,fun x=>j9 fun h=>c1 ⟨q,a,x,h⟩⟩;obtain⟨l1,s,m,t,l2,rfl,xs,xt,n1,o⟩:=ama i;have c:∀b,b=m->Cyc (l1++s::(m++t::l2)) ((s::b)++(t::(l2++l1))):=fun b e=>by grind[Cyc.shift,Cyc.refl]
 have g:∀{q},q∈l1++s::(m++t::l2)->X q->Y q:=fun h x=>(same _ h).1 x;by_cases j:∃p∈m,X p
 rotate_left
 .left;refine⟨s,t,m,l2++l1,c m rfl,xs,xt,fun q a d=>?_,fun q a r=>?_⟩
  all_goals grind
 obtain⟨m1,p,b,rfl,k,u⟩:=ahw j;by_cases l:∃q∈b,X q
 .obtain⟨q,a,d⟩:=l;obtain⟨m2,m3,rfl,-⟩:=sC a;right;right;left;refine⟨s,m1,p,m2,q,m3,t,l2++l1,?_,xs,g Ma k,d,g Ma xt⟩;grind
 .right;right;right;refine⟨s,m1,p,b,t,l2++l1,?_,fun q a=>⟨same q a,fun d=>?_,fun h=>?_⟩⟩
  .grind
  .grind
  .rcases h with rfl|rfl|rfl
   all_goals grind
variable {A:Nat->Nat->Prop} {a b c d e:Nat} {p q:Nat->Nat}
def chn(A:Nat->Nat->Prop):Nat->II->Nat->Prop
 |a,[],b=>A a b
 |a,p::P,b=>A a p/\chn A p P b
def alc{A B:Nat->Nat->Prop}{z:Nat}(h:∀v w,v≠z->w≠z->A v w->B v w):∀{P:II}{a b:Nat},a≠z->b≠z->z∉P->chn A a P b->chn B a P b
 |[],_,_,d,h2,_,c=>h _ _ d h2 c
 |p::P,_,_,d,h2,h3,c=>by simp at h3;exact⟨h _ _ d (wI h3.1) c.1,alc h (wI h3.1) h2 h3.2 c.2⟩
theorem ai9{n:Nat}:∀(P:II){A:Nat->Nat->Prop}{a b:Nat},aae n A->chn A a P b->P.Nodup->a∉P->b∉P->a≠b->∃B,aae n B/\B a b/\∀v w,v∉P->w∉P->A v w->B v w
 |[],A,a,b,h,c,_,_,_,_=>⟨A,h,c,fun _ _ _ _ q=>q⟩
 |p::P,A,a,b,h,c,nd,ha,hb,ne=>by
  have⟨c1,c2⟩:=c;simp only[HV,not_or]at ha hb;have⟨d,nd⟩:=eR.1 nd;have g:∀v w,v≠p->w≠p->A v w->aik A a p v w:=fun v w f h2 q=>⟨f,h2,fun e=>h.ir v hGr,.inl q⟩;have⟨B,f,h2,h3⟩:=ai9 P (h.bp c1) (a:=a) (b:=b) (by
   cases P with
   |nil=>exact⟨ha.1,hb.1,ne,.inr (.inl ⟨rfl,c2⟩)⟩
   |cons q P=>simp only[HV,not_or]at d ha hb;exact⟨⟨ha.1,wI d.1,ha.2.1,.inr (.inl ⟨rfl,c2.1⟩)⟩,alc g (wI d.1) hb.1 d.2 c2.2⟩) nd ha.2 hb.2 ne
  grind
theorem akE(nd:l.Nodup)(lt:∀v∈l,v<n):∃p q,Ren n p q/\∀i,(h:i<l.length)->p i=l[i]:=by
 let L:=l++(rG n).filter fun v=>decide (v∉l);have nL:L.Nodup:=by grind[nodup_range]
 have b:∀v,v∈L↔v<n:=fun v=>by grind
 have c:L.Perm (rG n):=yR nL Hs fun v=>by grind
 have d:L.length=n:=by grind[List.Perm.length_eq]
 have gL:∀i,(h:i<n)->L.getD i 0=L[i]'(by omega):=fun i h=>by grind
 refine⟨fun i=>L.getD i 0,fun v=>L.idxOf v,⟨fun v a=>?_,fun v a=>?_,fun v a=>?_,fun v a=>?_⟩,fun i h=>?_⟩
 .grind[getElem_mem]
 .grind
 .grind
 .grind
 grind
def Ren.flip(N:Ren n p q):Ren n q p:=⟨N.ql,N.pl,N.qp,N.pq⟩
theorem no_ren(N:Ren n p q){K:Nat->II}(c:∀v w,w∈K v->v<n/\w<n)(sy:∀v w,w∈K v->v∈K w)(no:¬XU n K)(P:aae n A)(h:∀v w,w∈K v->A (p v) (p w)):False:=by
 let E:Nat->II:=fun v=>if v<n then(rG n).filter fun w=>decide (q w∈K (q v))else[]
 have a:∀v w,w∈E v↔v<n/\w<n/\q w∈K (q v):=fun v w=>by grind
 have b:XU n E:=P.less (B:=fun v w=>w∈E v) (fun v w k=>by grind[Ren.pq]) fun v w k=>by grind
 refine no (b.ren N.flip fun v w=>?_);rw[a];constructor
 all_goals grind[Ren.pl,Ren.qp]
theorem no5(P:aae n A)(nd:[a,b,c,d,e].Nodup)(h:∀v∈[a,b,c,d,e],∀w∈[a,b,c,d,e],v≠w->A v w):False:=by
 have ab:A a b:=h a Ma b Ma hGr;have lt:∀v∈[a,b,c,d,e],v<n:=fun v f=>by
  by_cases q:v=a
  .rw[q];exact(P.lt ab).1
  .exact(P.lt (h a Ma v f (wI q))).2
 have⟨p,q,N,g⟩:=akE nd lt;have i:5<=n:=by have:=aks nd Hs (B:=rG n) fun v f=>Db.2 (lt v f);grind
 refine no_ren N (K:=k5E) (fun v w k=>?_) (fun v w k=>?_) (k5_no i) P fun v w k=>?_
 .grind[pZ]
 .grind[pZ]
 .rw[pZ]at k;have j:v<[a,b,c,d,e].length:=k.1;have h2:w<[a,b,c,d,e].length:=k.2.1;rw[g v j,g w h2];exact h _ (aev _) _ (aev _) fun e=>k.2.2 (X6 nd (Gc h2) hGr)
theorem no33(P:aae n A){a b c d e f:Nat}(nd:[a,b,c,d,e,f].Nodup)(h:∀v∈[a,b,c],∀w∈[d,e,f],A v w):False:=by
 have lt:∀v∈[a,b,c,d,e,f],v<n:=fun v i=>by
  by_cases q:v∈[a,b,c]
  .exact(P.lt (h v q d Ma)).1
  .exact(P.lt (h a Ma v hGr)).2
 have⟨p,q,N,g⟩:=akE nd lt;have n6:6<=n:=by have:=aks nd Hs (B:=rG n) fun v i=>Db.2 (lt v i);grind
 have l:=g 0 Ma;have m:=g 1 Ma;have h2:=g 2 Ma;have h3:=g 3 Ma;have o:=g 4 Ma;have r:=g 5 Ma;simp at l m h2 h3 o r;have s:∀v,v<3->p v∈[a,b,c]:=fun v i=>by have:v=0\/v=1\/v=2:=NH;grind
 have t:∀v,3<=v->v<6->p v∈[d,e,f]:=fun v u x=>by
  have:v=3\/v=4\/v=5:=NH;rcases this with rfl|rfl|rfl
  all_goals grind
 refine no_ren N (K:=ahu) (fun v w k=>?_) (fun v w k=>?_) (k33_no n6) P fun v w k=>?_
 .rw[agU]at k;omega
 .rw[agU]at k ⊢;omega
 .rw[agU]at k;rcases k with⟨k1,k2,j⟩|⟨k1,k2,j⟩
  .grind
  .exact P.sy (h _ (s w j) _ (t v k1 k2))
noncomputable def exL(E:Nat->II)(l:II):Nat->II:=Om (fun x y=>x∉l/\y∉l) E
theorem ae2{E:Nat->II}{l:II}{v w:Nat}:w∈exL E l v↔w∈E v/\v∉l/\w∉l:=EM
structure aga (n:Nat) (E:Nat->II):Prop where
 Rl:V7 n E
 no:¬aae n fun v w=>w∈E v
 del:∀a b,b∈E a->aae n fun v w=>w∈E v/\¬(v=a/\w=b)/\¬(v=b/\w=a)
 bp:∀a b,b∈E a->aae n (aik (fun v w=>w∈E v) a b)
 deg:∀v a,a∈E v->∃b c,b∈E v/\c∈E v/\b≠a/\c≠a/\b≠c
 sp:∃m,m<n/\E m=[]
 n3:3<=n
theorem cr_iso{r:Nat->II}{x y:Nat}(h:∀t,t∉r x)(c:Cr r x y):x=y:=by
 induction c<;>grind
theorem agA{E:Nat->II}{l:II}{c q:Nat}(a:c∉l)(h:Cr (exL E l) c q):q∉l:=by
 cases h<;>grind[ae2]
def aim{S:Nat->Nat->Prop}:∀{P:II}{a b:Nat},(∀(i x y:Nat),(a::(P++[b]))[i]?=Z x->(a::(P++[b]))[i+1]?=Z y->S x y)->chn S a P b
 |[],a,b,h=>h 0 a b rfl rfl
 |p::P,a,b,h=>⟨h 0 a p rfl rfl,aim fun i x y c h2=>h (i+1) x y c h2⟩
section
variable{n:Nat}{E:Nat->II}
def aio(R:V7 n E)(l:II):V7 n (exL E l):=OG R fun _ _ h=>⟨h.2,h.1⟩
theorem aga.sub(C:aga n E){B:Nat->Nat->Prop}(sub:∀v w,B v w->w∈E v)(sy:∀v w,B v w->B w v){a b:Nat}(h:b∈E a)(nb:¬B a b):aae n B:=(C.del a b h).less (fun v w q=>⟨sub v w q,fun e=>nb hGr,fun e=>nb hGr⟩) sy
theorem aga.two(C:aga n E)(c:Nat){v w:Nat}(p:v≠c)(hw:w≠c)(g:E v≠[])(aw:E w≠[]):Cr (exL E [c]) v w:=by
 refine j9 fun q=>?_;have⟨a,ha⟩:=akp _ g;have⟨b,hb⟩:=akp _ aw;have cl:∀z t,Cr (exL E [c]) v z->t∈E z->t=c\/Cr (exL E [c]) v t:=fun z t h e=>by
  by_cases k:t=c
  .exact .inl k
  .exact .inr (h.step (ae2.2 ⟨e,agA hGr h,by simpa using k⟩))
 have nb:¬Cr (exL E [c]) v b:=fun h=>(cl b w h (C.Rl.sy _ _ hb)).elim hw q;have i:aae n fun x y=>y∈E x/\(Cr (exL E [c]) v x\/Cr (exL E [c]) v y):=C.sub (fun _ _ h=>h.1) (fun _ _ h=>⟨C.Rl.sy _ _ h.1,h.2.symm⟩) hb fun h=>h.2.elim q nb;have j:aae n fun x y=>y∈E x/\¬Cr (exL E [c]) v x/\¬Cr (exL E [c]) v y:=C.sub (fun _ _ h=>h.1) (fun _ _ h=>⟨C.Rl.sy _ _ h.1,h.2.2,h.2.1⟩) ha fun h=>h.2.1 (.refl _);have⟨f,r1,l,m1⟩:=i;have⟨d,r2,m,m2⟩:=j;have iso:∀{x y},Cr (exL E [c]) v x->Cr d x y->x=y:=fun{x y} h k=>cr_iso (fun t o=>((m2 _ _).1 o).2.1 h) k;have H:abC n d f fun z=>Cr (exL E [c]) v z\/z=c:=⟨r2,r1,fun x y h=>by grind[V7.sy],fun x y r s ne k=>by grind[Cr.symm]⟩;refine C.no ⟨aar d f,H.Rl,H.flat m l,fun x y=>?_⟩;grind[aaT]
theorem aga.side(C:aga n E){u v:Nat}(L:u≠v){S:Nat->Prop}(Su:¬S u)(Sv:¬S v)(cl:∀z t,S z->t∈E z->t=u\/t=v\/S t){s t:Nat}(hs:S s)(as:E s≠[])(M:¬S t)(N:t≠u)(O:t≠v)(at_:E t≠[]):
  aae n fun x y=>(y∈E x/\(S x\/S y))\/(x=u/\y=v)\/(x=v/\y=u):=by
 let r:=Om (fun x y=>(¬S x/\¬S y)/\¬(x=u/\y=v)/\¬(x=v/\y=u)) E;have d:∀{x y},y∈r x↔y∈E x/\(¬S x/\¬S y)/\¬(x=u/\y=v)/\¬(x=v/\y=u):=EM;have rr:V7 n r:=OG C.Rl fun x y h=>⟨⟨h.1.2,h.1.1⟩,fun e=>h.2.2 ⟨e.2,e.1⟩,fun e=>h.2.1 ⟨e.2,e.1⟩⟩;have key:∀u' v',(u'=u/\v'=v)\/(u'=v/\v'=u)->Cr r t u':=fun u' v' Q=>by
  have g:∀z,Cr (exL E [v']) t z->((¬S z/\z≠u/\z≠v)/\Cr r t z)\/Cr r t u':=fun z c=>by
   induction c with
   |refl=>exact .inl ⟨⟨M,N,O⟩,.refl _⟩
   |@step b c _ e R=>
    rcases R with⟨⟨a,h2,h3⟩,I⟩|h
    .obtain⟨o,T,e3⟩:=ae2.1 e;have nS:¬S c:=fun h=>by have:=cl c b h (C.Rl.sy _ _ o);grind
     have J:c∈r b:=d.2 ⟨o,⟨a,nS⟩,fun e=>h2 e.1,fun e=>h3 e.1⟩;have e3:c≠v':=hGr;by_cases k:c=u'
     .exact .inr (k▸I.step J)
     .refine .inl ⟨⟨nS,?_,?_⟩,I.step J⟩<;>grind
    grind
  grind[aga.two]
 have q:Cr r u v:=((key u v (.inl ⟨rfl,rfl⟩)).symm rr).trans (key v u (.inr ⟨rfl,rfl⟩));obtain⟨l,nd,⟨t',o⟩,⟨U,T⟩,m,-⟩:=uF q;obtain⟨P,rfl⟩:∃P,l=u::(P++[v]):=by
  cases U<;>grind
 have f:=nd;simp only[eR,vZ,iy,not_or,ZT]at nd;obtain⟨⟨V,-⟩,nP,-,A⟩:=nd;have A:v∉P:=fun h=>A v h v rfl rfl;have ch:chn (fun x y=>y∈r x) u P v:=aim m;cases P with
 |nil=>exact absurd ⟨rfl,rfl⟩ (d.1 ch).2.2.1
 |cons p P=>
 have D:∀z∈p::P,¬S z:=fun z W=>by
  have⟨i,hi,e⟩:=alQ W;have X:(u::(p::P++[v]))[i+1]?=Z z:=by rw[ah7,EP hi,Gc hi,e]
  have F:i<(u::(p::P++[v])).length:=hGr;exact(d.1 (m i _ z (Gc F) X)).2.1.2
 have pu:p≠u:=hGr;have aa:p≠v:=hGr;have G:u∈E p:=C.Rl.sy _ _ (d.1 (m 0 u p rfl rfl)).1;have⟨b,c,hb,hc,nb,nc,ae⟩:=C.deg p u G;obtain⟨w,hw,wu,wn⟩:∃w,w∈E p/\w≠u/\(P++[v])[0]?≠Z w:=hGr;have Sp:¬S p:=D p Ma;have Sw:¬S w:=fun h=>by have:=cl w p h (C.Rl.sy _ _ hw);grind
 have PD:aae n fun x y=>(y∈E x/\(S x\/S y))\/Vj (u::(p::P++[v])) x y\/Vj (u::(p::P++[v])) y x:=by
  refine C.sub (fun x y h=>?_) (fun x y h=>?_) hw fun h=>?_
  .rcases h with h|⟨i,a,h2⟩|⟨i,a,h2⟩
   .exact h.1
   .grind
   .exact C.Rl.sy _ _ (d.1 (m i y x a h2)).1
  .rcases h with h|h|h
   .exact .inl ⟨C.Rl.sy _ _ h.1,h.2.symm⟩
   all_goals grind
  .rcases h with h|⟨i,a,h2⟩|⟨i,a,h2⟩
   .grind
   .have:i=1:=X6 f a rfl;subst this;exact wn h2
   .have:i+1=1:=X6 f h2 rfl;grind
 have H:chn (fun x y=>(y∈E x/\(S x\/S y))\/Vj (u::(p::P++[v])) x y\/Vj (u::(p::P++[v])) y x) u (p::P) v:=aim fun i x y a h2=>.inr (.inl ⟨i,a,h2⟩);have⟨B,K,j,hB⟩:=ai9 (p::P) PD H nP V A L;refine K.less (fun x y h=>?_) fun x y h=>?_
 .rcases h with h|⟨rfl,rfl⟩|⟨rfl,rfl⟩
  .refine hB x y ?_ ?_ (.inl h)
   .rcases h.2 with k|k
    .grind
    .rcases cl y x k (C.Rl.sy _ _ h.1)with rfl|rfl|k
     all_goals grind
   .rcases h.2 with k|k
    .rcases cl x y k h.1 with rfl|rfl|k
     all_goals grind
    grind
  .exact j
  .exact K.sy j
 .rcases h with h|h|h
  .exact .inl ⟨C.Rl.sy _ _ h.1,h.2.symm⟩
  all_goals grind
theorem aga.three(C:aga n E)(u v:Nat){s t:Nat}(hs:s∉[u,v])(B:t∉[u,v])(as:E s≠[])(at_:E t≠[]):Cr (exL E [u,v]) s t:=by
 have d:s≠u/\s≠v:=hGr;have c:t≠u/\t≠v:=hGr;have iso:∀{a b:Nat},(E b=[]\/b=a)->∀x y,y∈exL E [a] x->y∈exL E [a,b] x/\y∈exL E [b,a] x:=fun{a b} hb x y h=>by have⟨g,h2,h3⟩:=ae2.1 h;have D:=C.Rl.sy _ _ g;grind[ae2]
 by_cases f:u=v
 .exact(C.two u d.1 c.1 as at_).mono fun x y h=>(iso (.inr f.symm) x y h).1
 by_cases i:E u=[]
 .exact(C.two v d.2 c.2 as at_).mono fun x y h=>(iso (.inl i) x y h).2
 by_cases j:E v=[]
 .exact(C.two u d.1 c.1 as at_).mono fun x y h=>(iso (.inl j) x y h).1
 refine j9 fun q=>?_;have⟨m,mn,m0⟩:=C.sp;have F:m≠u:=fun e=>i (e▸m0);have G:m≠v:=fun e=>j (e▸m0);have l:¬Cr (exL E [u,v]) s u:=fun h=>agA hs h Ma;have o:¬Cr (exL E [u,v]) s v:=fun h=>agA hs h Ma;have cl:∀z t,Cr (exL E [u,v]) s z->t∈E z->t=u\/t=v\/Cr (exL E [u,v]) s t:=fun z t h e=>by
  by_cases k:t∈[u,v]
  .grind
  .exact .inr (.inr (h.step (ae2.2 ⟨e,agA hs h,k⟩)))
 have p:=C.side f l o cl (.refl s) as q c.1 c.2 at_;have r:=C.side f (S:=fun z=>¬Cr (exL E [u,v]) s z/\z≠u/\z≠v) (fun h=>h.2.1 rfl) (fun h=>h.2.2 rfl) (fun z t h e=>by have:=cl t z;have:=C.Rl.sy _ _ e;grind) ⟨q,c.1,c.2⟩ at_ (fun h=>h.1 (.refl s)) d.1 d.2 as;have m1:∀w,w∉E m:=fun w h=>by grind
 have m2:∀w,m∉E w:=fun w h=>m1 w (C.Rl.sy _ _ h);have key:=aae.two p r (u:=u) (v:=v) (m:=m) (.inr (.inl ⟨rfl,rfl⟩)) (.inr (.inl ⟨rfl,rfl⟩)) mn (fun w h=>by
  grind) (fun w h=>by
  grind) (fun z ⟨w,hw⟩ ⟨w',A⟩=>by
  have g:Cr (exL E [u,v]) s z\/z=u\/z=v:=by
   rcases hw with⟨h,h'|h'⟩|h|h
   .exact .inl h'
   .have:=cl w z h' (C.Rl.sy _ _ h);grind
   all_goals grind
  grind)
 refine C.no (key.less (fun x y h=>?_) fun x y h=>C.Rl.sy _ _ h);have ne:x≠y:=fun e=>C.Rl.ir x hGr;grind
theorem aga.leave(C:aga n E){l:II}{a b m c d:Nat}(j:∀q,q∈l↔q=a\/q=b\/q=m)(i:c∉l)(hd:d∉l)(ac:E c≠[])(ad:E d≠[])(h:¬Cr (exL E l) c d):∃e,Cr (exL E l) c e/\m∈E e:=by
 refine j9 fun no=>h ?_;have:∀q,Cr (exL E [a,b]) c q->Cr (exL E l) c q:=fun q k=>by
  induction k with
  |refl=>exact .refl _
  |@step x y _ e f=>have⟨g,o,e3⟩:=ae2.1 e;have:y≠m:=fun k=>no ⟨x,f,k▸g⟩;refine f.step (ae2.2 ⟨g,agA i f,fun k=>?_⟩);grind
 grind[aga.three]
noncomputable def hang(n:Nat)(E:Nat->II)(l:II)(c:Nat):II:=(rG n).filter fun q=>decide (Cr (exL E l) c q)
theorem aga.smaller(C:aga n E)(H:∀x y,y∈E x->∃z c d,c∉[x,y,z]/\d∉[x,y,z]/\E c≠[]/\E d≠[]/\¬Cr (exL E [x,y,z]) c d):
  ∀(k:Nat)(x y z c d:Nat),y∈E x->c∉[x,y,z]->d∉[x,y,z]->E c≠[]->E d≠[]->(hang n E [x,y,z] c).length=k->Cr (exL E [x,y,z]) c d:=by
 intro k
 induction k using Nat.strongRecOn with
 |_ k t=>
  intro x y z c d R u hd ac ad X;refine j9 fun no=>?_;have⟨v,cv,D⟩:=C.leave (a:=x) (b:=y) (m:=z) Ma u hd ac ad no;have S:=agA u cv;have⟨w,c1,d1,f,g,F,G,i⟩:=H z v (C.Rl.sy _ _ D);obtain⟨c2,d2,j,l,I,o,J,p⟩:∃c2 d2,c2∉[z,v,w]/\d2∉[z,v,w]/\E c2≠[]/\E d2≠[]/\¬Cr (exL E [z,v,w]) c2 d2/\∀q,Cr (exL E [z,v,w]) c2 q->q≠x/\q≠y:=by
   by_cases K:∀q,Cr (exL E [z,v,w]) c1 q->q≠x/\q≠y
   .grind
   by_cases h2:∀q,Cr (exL E [z,v,w]) d1 q->q≠x/\q≠y
   .exact⟨d1,c1,g,f,G,F,fun h=>i (h.symm (aio C.Rl _)),h2⟩
   exfalso;have⟨r,k1⟩:=MY.1 K;have⟨s,k2⟩:=MY.1 h2;have⟨r1,e1⟩:=oZ.1 k1;have⟨r2,e2⟩:=oZ.1 k2;have yx:=C.Rl.sy _ _ R;have T:=agA f r1;have U:=agA g r2;have:Cr (exL E [z,v,w]) r s:=by
    by_cases e:r=s
    .rw[e];exact .refl _
    .have:s∈E r:=hGr;exact Cr.one (ae2.2 ⟨this,T,U⟩)
   exact i ((r1.trans this).trans (r2.symm (aio C.Rl _)))
  have⟨e,ce,O⟩:=C.leave (a:=z) (b:=w) (m:=v) (by simp;grind) j l I o J;have L:=agA j ce;have ex:=p e ce;have M:e∉[x,y,z]:=by simp at L ⊢;grind
  have V:Cr (exL E [x,y,z]) c e:=cv.step (ae2.2 ⟨C.Rl.sy _ _ O,S,M⟩);have sub:∀q,Cr (exL E [z,v,w]) e q->Cr (exL E [x,y,z]) c q/\Cr (exL E [z,v,w]) c2 q:=fun q h=>by
   induction h with
   |refl=>grind
   |@step a b _ h t=>have⟨P,W⟩:=t;have⟨K,h2,h3⟩:=ae2.1 h;have Q:=W.step h;have:=p b Q;refine⟨P.step (ae2.2 ⟨K,agA u P,?_⟩),Q⟩;simp at h3 ⊢;grind
  have nv:v∉hang n E [z,v,w] e:=fun h=>by have:=(xD.1 h).2;exact agA L (by simpa using this) Ma
  have lt:(hang n E [z,v,w] e).length<(hang n E [x,y,z] c).length:=by
   have:=tf (A:=v::hang n E [z,v,w] e) (B:=hang n E [x,y,z] c) (eR.2 ⟨nv,Hs.filter _⟩) fun q N=>by
    rcases HV.1 N with rfl|N
    .exact xD.2 ⟨Db.2 (C.Rl.lt _ _ (C.Rl.sy _ _ (C.Rl.sy _ _ D))),hGr⟩
    .obtain⟨r,s⟩:=xD.1 N;exact xD.2 ⟨r,hGr⟩
   grind
  have:=t _ NH z v w e d2 (C.Rl.sy _ _ D) L l (JR O) o rfl;grind
theorem aga.UQ(C:aga n E){x0 y0:Nat}(a:y0∈E x0):∃x y,y∈E x/\∀z c d,c∉[x,y,z]->d∉[x,y,z]->E c≠[]->E d≠[]->Cr (exL E [x,y,z]) c d:=by
 refine j9 fun no=>?_;have H:∀x y,y∈E x->∃z c d,c∉[x,y,z]/\d∉[x,y,z]/\E c≠[]/\E d≠[]/\¬Cr (exL E [x,y,z]) c d:=fun x y h=>by grind
 have⟨z,c,d,b,h2,h3,e,f⟩:=H x0 y0 a;exact f (C.smaller H _ x0 y0 z c d a b h2 h3 e rfl)
end
theorem keep_keep{R:Nat->II}{S H:Nat->Nat->Prop}(sub:∀v w,w∈R v->H v w->S v w):Om H (Om S R)=Om H R:=by funext v;unfold Om;rw[adE];grind[filter_congr]
theorem keep_self{R:Nat->II}{S:Nat->Nat->Prop}:Om (fun v w=>w∈Om S R v) R=Om S R:=by grind[filter_congr,Om]
noncomputable def unlK(n:Nat)(R:Nat->II)(H:Nat->Nat->Prop):List H8:=(dl n R).filter fun d=>decide (¬H d.1 d.2)
section
variable{n:Nat}{R:Nat->II}{S:Nat->Nat->Prop}
theorem growK(t:V7 n R)(fl:Flat n R)(sy:∀v w,S v w->S w v)(D:QG (Om S R)):∀(k:Nat){H:Nat->Nat->Prop}{F:Cs},Ctx n R H F->(∀v w,H v w->w∈Om S R v)->(∃p q,p≠q/\¬off R H p/\¬off R H q)->
  (unlK n (Om S R) H).length=k->∃L,Ctx n R (fun v w=>w∈Om S R v) L:=by
 intro k
 induction k using Nat.strongRecOn with
 |_ k M=>
  intro H F C sub two N;have a:V7 n (Om S R):=OG t sy;have m:Flat n (Om S R):=fl.keep t sy;by_cases all:∀v w,w∈Om S R v->H v w
  .have e:H=fun v w=>w∈Om S R v:=hGr;grind
  have⟨v,Q⟩:=MY.1 all;have⟨w,hw⟩:=MY.1 Q;have⟨hw,nh⟩:=oZ.1 hw;have kk:Om H (Om S R)=Om H R:=keep_keep fun v w _ h=>(EM.1 (sub v w h)).2;have C':Ctx n (Om S R) H F:=⟨a,C.sym,m,by grind[Ctx.O],by rw[kk];exact C.bp⟩;have c:∀p,¬off R H p->¬off (Om S R) H p:=fun p h q=>by obtain⟨w,-,h2⟩:=Q7 h;exact q w (sub p w h2) h2
  have⟨p,q,pq,E,G⟩:=two;have P:=C'.pieces D ⟨p,q,pq,c p E,c q G⟩;obtain⟨u,x,g,-⟩:=P.one v w hw nh;have⟨z,y,o,I,j⟩:=P.two u x g;obtain⟨inn,W,U,-,-⟩:=ZW a C.sym g.on o.on I g.mem g.nh o.mem o.nh j;have GD:∀{v w},w∈Om S R v->w∈R v:=fun h=>(EM.1 h).1;have J:Ka R H u inn z:=⟨W.nd,fun i x y b h2=>⟨GD (W.UQ i x y b h2).1,(W.UQ i x y b h2).2⟩,fun x T w _ h=>W.off x T w (sub x w h) h,by grind[Ka.ona],by grind[Ka.onb]⟩;obtain⟨f,hf,c1,c2,-,-⟩:=C.drawn J;have⟨A,B,cy⟩:=cyc2 c1.ug c2.ug I;have K:=C.lay J hf c1 cy;obtain⟨l,r⟩:∃l,l=fun v w=>H v w\/Ay u inn z v w:=⟨_,rfl⟩;rw[<-r]at K;have s:∀v w,l v w↔H v w\/Ay u inn z v w:=fun v w=>by rw[r]
  clear r;refine M _ ?_ K (fun v w h=>((s v w).1 h).elim (sub v w) fun h=>(W.wE a C.sym h).1) ⟨p,q,pq,fun k=>?_,fun k=>?_⟩ rfl
  .rw[<-N];have nd:=J8 a;have:=tf (A:=(u,x)::unlK n (Om S R) l) (B:=unlK n (Om S R) H) (eR.2 ⟨fun h=>?_,nd.filter _⟩) fun d hd=>by
    rcases HV.1 hd with rfl|hd
    .exact xD.2 ⟨(IP a).2 g.mem,by grind[QP.nh]⟩
    .obtain⟨d1,d2⟩:=xD.1 hd;refine xD.2 ⟨d1,?_⟩;grind
   .grind
   .have h2:=(xD.1 h).2;grind[Ka.Fp]
  .obtain⟨w,b,h2⟩:=Q7 E;exact k w b ((s _ _).2 (.inl h2))
  .obtain⟨w,b,h2⟩:=Q7 G;exact k w b ((s _ _).2 (.inl h2))
theorem ring_in(D:QG R){a b c:Nat}(hb:b∈R a)(u:c∈R a)(nb:R b≠[])(m:R c≠[])(ab:b≠a)(ac:c≠a)(ne:b≠c)(sy:∀v w,w∈R v->v∈R w):∃l:II,l.Nodup/\3<=l.length/\∀v∈l,nx l v∈R v:=by
 have⟨l,nd,⟨t,g⟩,⟨s,o⟩,j,f⟩:=uF (D.Z7 a b c ab ac nb m);have p:a∉l:=fun h=>by
  have⟨i,hi,e⟩:=alQ h;have hlen:1<l.length:=hGr;by_cases k:i+1<l.length
  .have:=(EM.1 (j i a _ hGr (Gc k))).2.1;grind
  grind
 have d:(a::l).Nodup:=eR.2 ⟨p,nd⟩;refine⟨a::l,d,?_,fun v f=>?_⟩
 .rw[g];cases t with
  |nil=>grind
  |cons=>simp
 .rcases HV.1 f with rfl|f
  .rw[(aZ d (i:=0) (x:=v) (y:=b) rfl (by rw[g];rfl)).1];exact hb
  .obtain⟨i,hi,e⟩:=alQ f;by_cases k:i+1<l.length
   .have q:(a::l)[i+1]?=Z v:=hGr;have r:(a::l)[i+1+1]?=Z l[i+1]:=hGr;rw[(aZ d q r).1];exact(EM.1 (j i v _ hGr (Gc k))).1
   .have:v=c:=by
     have hs:l.length=s.length+1:=by rw[o];simp
     grind
    grind[vB]
theorem star(m:V7 n R)(fl:Flat n R){x a b c:Nat}(D:QG (exL R [x]))(hb:b∈exL R [x] a)(A:c∈exL R [x] a)(ne:b≠c)(on:∀u∈R x,exL R [x] u≠[])(two:∃u v,u∈R x/\v∈R x/\u≠v):
  ∃F,abK n (exL R [x]) F/\∃f∈F,∀u∈R x,u∈f:=by
 have j:=aio m [x];have B:Flat n (exL R [x]):=fl.keep m fun _ _ h=>⟨h.2,h.1⟩;have d:∀{v w},w∈exL R [x] v->v≠w/\exL R [x] w≠[]:=fun{v w} h=>⟨fun e=>j.ir v hGr,JR (j.sy _ _ h)⟩;have⟨l,nd,l3,y⟩:=ring_in D hb A (d hb).2 (d A).2 (wI (d hb).1) (wI (d A).1) ne j.sy;have GD:∀{v w},w∈exL R [x] v->w∈R v:=fun h=>(ae2.1 h).1;have J:=ala m fl nd l3 fun v s=>GD (y v s);have ZA:∀v∈l,¬off R (Ei l) v:=fun v s q=>q _ (GD (y v s)) (.inl ⟨s,rfl⟩);have⟨F,C⟩:=growK m fl (fun _ _ h=>⟨h.2,h.1⟩) D _ J (fun v w h=>by
  rcases h with⟨o,rfl⟩|⟨o,rfl⟩
  .exact y v o
  .exact j.sy _ _ (y w o)) ⟨l[0],l[1],fun e=>by have:=X6 nd (Gc (by omega:0<l.length)) (by rw[e];exact Gc (by omega:1<l.length));omega,ZA _ (aev _),ZA _ (aev _)⟩ rfl
 have O:FO (exL R [x]) F:=by have:=C.O;rwa[keep_self]at this
 have⟨r,u1,t,o,E⟩:=two;have G:∃v,v<n/\exL R [x] v≠[]:=⟨r,m.lt _ _ (m.sy _ _ t),on r t⟩;refine⟨F,⟨j,O,D.bp,?_,fun e=>?_⟩,?_⟩
 .have:=al3 j B D.bp G;rw[O.cls j]at this;exact this
 .obtain⟨w,hw⟩:=akp _ (on r t);obtain⟨f,hf,-⟩:=O.cover r w hw;grind
 have W:∀u v,u∈R x->v∈R x->u≠v->Ka R (fun v w=>w∈exL R [x] v) u [x] v:=fun u v z s H=>by
  have K:u≠x:=fun e=>m.ir x hGr;have L:v≠x:=fun e=>m.ir x hGr;have I:∀w,w∉exL R [x] x:=fun w h=>by grind[ae2]
  refine⟨by simp[nr,K,H,wI L],fun i p q o h2=>?_,fun p M w hw h=>?_,?_,?_⟩
  .match i with
   |0=>simp[nr]at o h2;subst o h2;exact⟨m.sy _ _ z,fun h=>I _ (j.sy _ _ h)⟩
   |1=>simp[nr]at o h2;grind
   |i+2=>simp[nr]at h2
  .grind
  .obtain⟨w,hw⟩:=akp _ (on u z);grind
  .obtain⟨w,hw⟩:=akp _ (on v s);grind
 obtain⟨f,hf,c1,c2,-,-⟩:=C.drawn (W r u1 t o E);refine⟨f,hf,fun u z=>?_⟩;by_cases k:u=r
 .grind[WQ.ug]
 .obtain⟨g,hg,d1,d2,-,-⟩:=C.drawn (W r u t z (wI k));grind[Ctx.YQ,WQ.ug]
end
end
end Go.Fw
