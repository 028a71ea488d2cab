/- A text. -/
import Derived.Test.YtkccdnmaaelbiaaGreatFwLF9
set_option linter.all false
set_option maxRecDepth 99999
set_option maxHeartbeats 9999999
namespace Go.Fw
open Go.Proofs
attribute [local instance] Classical.propDecidable
noncomputable def runM (n:Nat) (rows:AM):Nat->kR->Option kR
  |0,S=>some S
  |k+1,S=>if S.left=[]then some S else match AU n rows S with
    |some a=>runM n rows k a
    |none=>none
def ZO (f:II):List (Nat×Nat×Nat):=(List.range f.length).map fun i=>(f.getD i 0,f.getD ((i+f.length-1)%f.length) 0,f.getD ((i+1)%f.length) 0)
def XN (T:AM) (t:Nat×Nat×Nat):AM:=T.set t.1 ((T.getD t.1 []).set t.2.1 (t.2.2:Int))
def N4 (n:Nat) (Jv:Cs):AM:=(Jv.flatMap ZO).foldl XN (List.replicate n (List.replicate n (-1)))
def itI (T:RZ):Nat->Int->Int
 |0,u=>u
 |k+1,u=>T.getD (itI T k u).toNat 0
def lH (T:AM) (rows:AM) (v:Nat):RZ:=(List.range (rows.getD v []).length).map fun k=>itI (T.getD v []) k ((rows.getD v []).getD 0 0)
def xY (n:Nat) (rows:AM) (Jv:Cs):AM:=(List.range n).map (lH (N4 n Jv) rows)
def zl (n:Nat) (es:List Pr):II:=(DO n (es.drop 1) (es.getD 0 (0,0)).1.toNat (es.getD 0 (0,0)).2.toNat).map Int.toNat
noncomputable def RB (n:Nat) (es:List Pr):kR:=Mw n es (zl n es) (MF n (Qw n (sortP (ZH (zl n es)))) es)
noncomputable def embM (n:Nat) (es:List Pr):Option AM:=(runM n (Zh n es) es.length (RB n es)).map fun S=>xY n (Zh n es) S.Jv
section
variable {n : Nat} {es : List Pr} {H : Nat → Nat → Prop} {S : kR}
theorem UK (hR:aV n es) (hA:D3 es) (D:QG (eN n es)):∀(k:Nat) (H:Nat->Nat->Prop) (S:kR),Z8 n es H S->OW es H<=k->
  (runM n (Zh n es) k S=none/\¬XU n (eN n es))\/∃a b,runM n (Zh n es) k S=some a/\Z8 n es b a/\a.left=[]
 |0,H,S,I,h=>by
  refine .inr ⟨S,H,rfl,I,?_⟩;refine IE fun q=>?_;obtain⟨p,l,e⟩:=EP q;have P:=I.Aa p (by rw[e];simp);obtain⟨x,t,i⟩:=EP P.ne;have f:x∈p.zp:=by rw[i];simp
  obtain⟨v,w,e3,d,j⟩:=P.UQ hR f;have m:x∈es.filter fun e=>decide (¬H e.1.toNat e.2.toNat):=by
   rw[iy];refine⟨P.sub.subset f,?_⟩;rw[e3,Ix d];simpa using j.2
  have o:(es.filter fun e=>decide (¬H e.1.toNat e.2.toNat)).length=0:=Nat.le_zero.1 h
  grind
 |k+1,H,S,I,h=>by
  rw[runM];by_cases c:S.left=[]
  .grind
  .rw [if_neg c]
   rcases I.lay hR hA D c with⟨g,h2⟩|⟨a,b,g,h2,h3⟩
   .grind
   .rw [g]
    exact UK hR hA D k b a h2 NH
def MC (T:AM) (v u:Nat):Int:=(T.getD v []).getD u 0
theorem sQ {T:AM} {t:Nat×Nat×Nat} (h:T.length=n/\∀v,v<n->(T.getD v []).length=n):(XN T t).length=n/\∀v,v<n->((XN T t).getD v []).length=n:=by grind [XN]
theorem Ms {T:AM} {t:Nat×Nat×Nat} (h:T.length=n/\∀v,v<n->(T.getD v []).length=n) (a:t.1<n) (h2:t.2.1<n) (v u:Nat):MC (XN T t) v u=if t.1=v/\t.2.1=u then(t.2.2:Int)else MC T v u:=by grind [MC,XN]
theorem Vx {G:Nat->Nat->Nat}:∀(a:List (Nat×Nat×Nat)) (T:AM),(T.length=n/\∀v,v<n->(T.getD v []).length=n)->(∀t∈a,t.1<n/\t.2.1<n/\t.2.2=G t.1 t.2.1)->
  ((a.foldl XN T).length=n/\∀v,v<n->((a.foldl XN T).getD v []).length=n)/\∀v u,(MC T v u=(G v u:Int)\/∃t∈a,t.1=v/\t.2.1=u)->MC (a.foldl XN T) v u=(G v u:Int)
 |[],T,h,_=>⟨h,fun v u q=>by grind⟩
 |t::a,T,h,hg=>by
  obtain⟨c,d,e⟩:=hg t Ma;obtain⟨k1,k2⟩:=Vx a (XN T t) (sQ h) fun t b=>hg t (by simp[b])
  grind [Ms]
theorem XM {f:II} (nd:f.Nodup) {i:Nat} (hi:i<f.length):f.getD ((i+f.length-1)%f.length) 0=pv f (f.getD i 0):=by
 have a:(i+f.length-1)%f.length<f.length:=CG _ NH;have b:=dN nd a;have e:((i+f.length-1)%f.length+1)%f.length=i:=by rw[Nat.mod_add_mod,show i+f.length-1+1=i+f.length by omega,TV,bC hi]
 grind [c7]
theorem vh {f:II} (nd:f.Nodup) {t:Nat×Nat×Nat} (h:t∈ZO f):t.1∈f/\t.2.1=pv f t.1/\t.2.2=nx f t.1:=by grind [ZO,XM,dN]
theorem wA {f:II} (nd:f.Nodup) {v:Nat} (h:v∈f):(v,pv f v,nx f v)∈ZO f:=by
 obtain⟨i,hi,rfl⟩:=ack.1 h;refine aae.2 ⟨i,j9.2 hi,?_⟩
 grind [XM,dN]
def HN {T:RZ} {g:Nat->Nat} {P:Nat->Prop} (a:∀u,P u->T.getD u 0=(g u:Int)) (b:∀u,P u->P (g u)) {u:Nat} (c:P u):∀k,itI T k (u:Int)=((it g k u:Nat):Int)/\P (it g k u)
 |0=>⟨rfl,c⟩
 |k+1=>by
  obtain⟨e,p⟩:=HN a b c k;refine⟨?_,b _ p⟩;rw[itI,e,yY,a _ p];rfl
theorem circ_ok (s:bX ⟨(n:Int),es⟩) (B:zW n es) {r:Nat->II} {F:Cs} (G:vy n r F) (fl:Flat n r) (m:∀x y,y∈r x↔y∈eN n es x):
  Av n es (xY n (Zh n es) F)/\Flat n (Xl (xY n (Zh n es) F)):=by
 have hR:=s.GD;have hA:=s.q9;have z:=MG hR hA;have A:∀f∈F,f.Nodup:=G.O.nd;let b:Nat->Nat->Nat:=fun v u=>nx (r v) u;have o:∀t∈F.flatMap ZO,t.1<n/\t.2.1<n/\t.2.2=b t.1 t.2.1:=fun t C=>by
  obtain⟨f,hf,h⟩:=Lm.1 C;obtain⟨d,h2,h3⟩:=vh (A f hf) h;obtain⟨M,N,Q⟩:=G.O.pv hf d;have hi:=G.O.df G.Rl hf d;refine⟨G.Rl.lt _ _ hi,by rw[h2];exact G.Rl.lt _ _ (G.Rl.sy _ _ hi),?_⟩
  grind
 have D:(List.replicate n (List.replicate n (-1:Int))).length=n/\∀v,v<n->((List.replicate n (List.replicate n (-1:Int))).getD v []).length=n:=pw;obtain⟨-,E⟩:=Vx (F.flatMap ZO) _ D o;have p:∀v u,u∈r v->MC (N4 n F) v u=(b v u:Int):=fun v u j=>by
  refine E v u (.inr ?_);obtain⟨f,hf,I,e⟩:=G.O.cover u v (G.Rl.sy _ _ j);have a:v∈f:=by grind [ZP]
  refine⟨_,Lm.2 ⟨f,hf,wA (A f hf) a⟩,rfl,?_⟩
  grind [c7]
 have row:∀v,v<n->∃u c,eN n es v=u::c/\(Zh n es).getD v []=(u:Int)::kz c/\u∈r v:=fun v a=>by
  obtain⟨w,hw⟩:=B.ne hR a;obtain⟨u,c,e⟩:=EP ((aU hR).2 ⟨w,hw⟩);have hb:=(qG n es).back hR v;refine⟨u,c,e,?_,(m v u).2 (by rw[e];simp)⟩;rw[<-hb];show(eN n es v).map _=_;rw[e];rfl
 have eH:∀v,v<n->∃l:II,lH (N4 n F) (Zh n es) v=kz l/\Cyc (r v) l:=fun v a=>by
  obtain⟨u,c,J,K,j⟩:=row v a;have hlen:((Zh n es).getD v []).length=(r v).length:=by
   have d:(eN n es v).length=((Zh n es).getD v []).length:=by grind [kz]
   rw[<-d];exact(yR (z.nd v) (G.Rl.nd v) fun x=>(m v x).symm).length_eq
  refine⟨(List.range (r v).length).map fun k=>it (b v) k u,?_,nZ G.Rl G.O (next:=b) (fun f hf x i=>(G.O.pv hf i).2.2) j⟩
  unfold lH;rw[hlen,K];show _=((List.range (r v).length).map fun k=>it (b v) k u).map fun(x:Nat)=>(x:Int);rw[Q4];refine Yi fun k _=>?_;show itI _ k ((u:Int))=_;exact(HN (g:=b v) (P:=fun x=>x∈r v) (fun x i=>p v x i) (fun x i=>ZP i) j k).1
 have get:∀v,v<n->(xY n (Zh n es) F).getD v []=lH (N4 n F) (Zh n es) v:=fun v a=>by grind [xY]
 have q:∀v,v<n->∃l:II,(xY n (Zh n es) F).getD v []=kz l/\Xl (xY n (Zh n es) F) v=l/\Cyc (r v) l:=fun v a=>by
  obtain⟨l,d,h2⟩:=eH v a;refine⟨l,(get v a).trans d,?_,h2⟩;unfold Xl;rw[get v a,d,kz,Q4]
  conv=>rhs;rw[<-adX l]
  grind [List.map_congr_left]
 have len:(xY n (Zh n es) F).length=n:=by simp[xY]
 have R:Av n es (xY n (Zh n es) F):=⟨len,fun v a=>by
  obtain⟨l,d,h2,h3⟩:=q v a;rw[d];have L:l.Perm (eN n es v):=h3.perm.symm.trans (yR (G.Rl.nd v) (z.nd v) fun x=>m v x);have:=L.map fun(x:Nat)=>(x:Int);rw[(qG n es).back hR v]at this;exact this⟩
 refine⟨R,?_⟩;have same:pP r (Xl (xY n (Zh n es) F)):=fun v=>by
  by_cases a:v<n
  .grind
  .have J : r v = [] := Vn.2 fun w hw => a (G.Rl.lt _ _ hw)
   grind [Xl,xY,Cyc.refl]
 exact(same.flat G.Rl).1 fl
theorem Mz (l:II):(kz l).map Int.toNat=l:=by
 rw[kz,Q4]
 conv=>rhs;rw[<-adX l]
 grind [List.map_congr_left]
theorem JM (c:bX ⟨(n:Int),es⟩) {a b:Nat} {rest:List Pr} (d:es=((a:Int),(b:Int))::rest) (F:ai n rest b (NY (Zh n rest) n b)) (e:Pu rest b a):
  DO n rest a b=kz (zl n es)/\Ho n es (zl n es):=by grind [iS,zl,Mz]
def XU.qE {E E':Nat->II} (h:∀v w,w∈E v↔w∈E' v):XU n E↔XU n E':=
 ⟨fun⟨R,a,h2,h3⟩=>⟨R,a,h2,fun v w=>(h3 v w).trans (h v w)⟩,fun⟨R,a,h2,h3⟩=>⟨R,a,h2,fun v w=>(h3 v w).trans (h v w).symm⟩⟩
def Vg (hR:aV n es) (hA:D3 es) {rs:AM} (G:Av n es rs) (fl:Flat n (Xl rs)):XU n (eN n es):=⟨Xl rs,G.jD hR hA,fl,fun v w=>by rw[G.mem hR,vD hR]⟩
theorem many_no (b:bX ⟨(n:Int),es⟩) (a:zW n es) (h:3*n<es.length+6):¬XU n (eN n es):=fun⟨R,c,h2,h3⟩=>by
 have hR:=b.GD;have D:=(a.Z7 hR).same h3;have ne:∀v,v<n->R v≠[]:=fun v d e=>by
  obtain⟨w,hw⟩:=a.ne hR d;have:=(h3 v w).2 ((vD hR).2 hw)
  grind
 have:=(UU c h2 D a.n3 ne).1;have hA:D3 es:=b.q9
 grind [Ud,D3.nodup,vD]
end
end Go.Fw
namespace Go.Fw
section
attribute [local irreducible] Kp MQ lU rS KO KN KX KE VK Kl ZJ TC aaa
open Go.Proofs
variable {c i j m t:Nat}
def Ls (d:LA) (a b:Nat) (h:AHeap):AC Tryz.prog d 91 [.int .i64 (a:Int),.int .i64 (b:Int)] h fun x h'=>x=UI (GW a b)/\Le h h':=by
 refine AC.vE ⟨Tryz.func91,rfl,WY⟩ Tryz.ntmps91 Tryz.results91 fun c=>?_;simp only[Br,Nat.reduceAdd];obtain⟨e,f,l1,w1,g⟩:=Tt c [.int .i64 0,.int .i64 0]
 have i:h.own h.next=none:=(Le.refl h).next c (Ny _)
 have st:=gD (p:=(min (a:Int) (b:Int),max (a:Int) (b:Int))) g
 have oo:=AHeap.Y3 e h.next (.cells (xM (min (a:Int) (b:Int),max (a:Int) (b:Int))))
 have ld:=uM oo;simp only[HO,Nat.reduceLT,↓reduceIte,Nat.reduceEqDiff,reduceCtorEq,uy,f,Dv,z6,xe,st,ld];exact⟨rfl,l1.put _ i⟩
theorem JG (h:0<m):((c:Int)+1).tmod (m:Int)=(((c+1)%m:Nat):Int):=pw
theorem ke (hi:i<m) (a:j<m) (b:t<=(j+m-i)%m):(i+t)%m=j↔t=(j+m-i)%m:=by
 have c:(j+m-i)%m<m:=CG _ NH;have e:(i+(j+m-i)%m)%m=j:=by grind [Nat.add_mod_mod,Nat.add_mod_right,Nat.mod_eq_of_lt]
 constructor
 .intro h
  have:=po hi (show t<m by omega)
  grind
 grind
theorem Ra (z:LA) (v:Value) (f:II) (i j:Nat) (h:AHeap) (p:RL RP h v (kz f)) (hi:i<f.length) (A:j<f.length) (Q:f.length<=1000):
  AC Tryz.prog z 142 [v,.int .i64 (i:Int),.int .i64 (j:Int)] h fun x h'=>GI h' x (kz (Qk f i j))/\Le h h'/\Z2 h x:=by
 refine AC.vE ⟨Tryz.func142,rfl,WY⟩ Tryz.ntmps142 Tryz.results142 fun a=>?_;simp only[Br,Nat.reduceAdd];have B:(kz f).length=f.length:=y6 f;have y:=fun g=>p.Uc g;rw[B]at y;have ad:∀c,c<f.length->aIndexAddr Tryz.prog 49 v (.int .i64 (c:Int))=some (.pointer (some (elemAddr v c))):=fun c q=>p.TA c NH;have ld:∀g,Le h g->∀c,c<f.length->aload Tryz.prog g 3 (elemAddr v c)=some (.int .i64 ((f.getD c 0:Nat):Int)):=fun g C c q=>by rw[(p.le Nn.RP C).DH c NH,sY q,D4 q]
 obtain⟨E,F,l1,w1,G⟩:=Tt a [.int .i64 ((f.getD i 0:Nat):Int)];simp only[HO,Nat.reduceLT,↓reduceIte,Nat.reduceEqDiff,reduceCtorEq,ad i hi,ld h (Le.refl _) i hi,DQ,F]
 have nB:h.own h.next=none:=(Le.refl h).next a (Ny _)
 have D:(j+f.length-i)%f.length<f.length:=CG _ NH;let L:Nat->II:=fun t=>(List.range (t+1)).map fun t=>f.getD ((i+t)%f.length) 0;have H:L 0=[f.getD i 0]:=by grind [Nat.mod_eq_of_lt]
 have I:GI E (.slice (some ⟨h.next,0,none⟩) 1 1) (kz (L 0)):=by rw[H];exact GS.full G rfl (show 1<1000000000000 by decide)
 refine aaa.intro (fun k fr n=>∃(t:Nat) (o:Value),k=(j+f.length-i)%f.length-t/\t<=(j+f.length-i)%f.length/\fr=mkF [(0,v),(1,.int .i64 (((i+t)%f.length:Nat):Int)),(2,.int .i64 (j:Int)),(7,o)]/\GI n o (kz (L t))/\Le h n/\Z2 h o)
  ((j+f.length-i)%f.length) [(0,v),(1,.int .i64 (i:Int)),(2,.int .i64 (j:Int)),(7,.slice (some ⟨h.next,0,none⟩) 1 1)] fD
  ⟨0,_,rfl,AE _,by rw[pz,bC hi],I,l1,fun b hb=>by grind [blk]⟩ ?_
 rintro k fr n r ⟨t,o,rfl,J,rfl,g,leq,ap⟩;have st:=ke hi A J;have R:(i+t)%f.length<f.length:=CG _ NH;by_cases c:(i+t)%f.length=j
 .have d : decide ((((i + t) % f.length : Nat) : Int) = (j : Int)) = true := decide_eq_true NH
  refine Sk (XC @bne.eq_1.{0} d) ?_
  grind [Qk]
 .have d : decide ((((i + t) % f.length : Nat) : Int) = (j : Int)) = false := decide_eq_false NH
  have s:t<(j+f.length-i)%f.length:=pw;have aw:=Tw ((i+t)%f.length) NH;have K:((i+t)%f.length+1)%f.length=(i+(t+1))%f.length:=by rw[Nat.mod_add_mod];rfl
  have e:(i+(t+1))%f.length<f.length:=CG _ NH;have M:¬((f.length:Int)=0):=NH;have N:=JG (c:=(i+t)%f.length) (m:=f.length) NH;rw[K]at N;have u:(((((i+t)%f.length+1:Nat):Int))).tmod (f.length:Int)=(((i+(t+1))%f.length:Nat):Int):=pw;have w:awrap .i64 (((i+(t+1))%f.length:Nat):Int)=(((i+(t+1))%f.length:Nat):Int):=cT _ NH NH;obtain⟨l,S,T,e4,O,U,V,l4,hf,-⟩:=g.push r ((f.getD ((i+(t+1))%f.length) 0:Nat):Int) (by grind [y6]);obtain⟨l5,P⟩:=hf h leq ap;simp only[HO,Nat.reduceLT,↓reduceIte,Nat.reduceEqDiff,reduceCtorEq,bne,d,aw,y,M,u,w,ad _ e,ld n leq _ e,e4,O];refine tn ((j+f.length-i)%f.length-(t+1)) [(0,v),(1,.int .i64 (((i+(t+1))%f.length:Nat):Int)),(2,.int .i64 (j:Int)),(7,l)] NH fD ⟨t+1,l,rfl,s,rfl,?_,l5,P⟩;have:L (t+1)=L t++[f.getD ((i+(t+1))%f.length) 0]:=by grind [List.range_succ]
  grind [kz]
variable {h:AHeap} {v:Value} {xs:RZ}
theorem GI.tail (g:GI h v xs) (hi:i<=xs.length):
  ∃u,aSlice Tryz.prog 49 v (some (.int .i64 (i:Int))) none none=some u/\((i=xs.length/\xO u 0)\/(i<xs.length/\∃cap,u=.slice (some (elemAddr v i)) (xs.length-i) cap)):=by
 obtain⟨k,⟨rfl,d⟩|⟨id,c,cap,rfl,l,m,f⟩⟩:=g
 .have : i = 0 := NH
  subst this;refine⟨.slice none 0 0,?_,.inl ⟨d.symm,⟨none,0,rfl,Ma⟩⟩⟩;have:¬RA<=0:=by decide
  simp[aSlice,Ac,Mb,this,aBounds,aBound]
 .have h2 : (0 : Int) <= (i : Int) := NH
  have h3:(i:Int)<=(xs.length:Int):=NH;have b:UA Tryz.prog 3=1:=Ji;rcases f with rfl|⟨rfl,j⟩
  .refine ⟨.slice (some (Ip ⟨id, 0, none⟩ i)) (xs.length - i) (RA + 1), by simp [aSlice, Ac, Mb, b, aBounds, aBound, h2, h3], ?_⟩
   by_cases c:i=xs.length
   .exact .inl ⟨c,⟨_,_,by rw[c,uu],Ma⟩⟩
   .exact .inr ⟨NH,_,rfl⟩
  .have a : ¬ RA <= xs.length := Dl.2 (zx j WY)
   refine⟨.slice (if xs.length=i then some ⟨id,0,none⟩else some (Ip ⟨id,0,none⟩ i)) (xs.length-i) (xs.length-i),by simp[aSlice,Ac,Mb,b,aBounds,aBound,h2,h3,a],?_⟩
   by_cases c:i=xs.length
   .refine .inl ⟨c,⟨_,_,by rw[c,uu],Ma⟩⟩
   .exact .inr ⟨NH,_,by rw[if_neg (fun e=>c e.symm)];rfl⟩
theorem Ao (g:GI h v xs) (hi:i<xs.length):elemAddr (.slice (some (elemAddr v i)) (xs.length-i) c) j=elemAddr v (i+j):=by
 obtain⟨a,⟨rfl,b⟩|⟨id,c,cap,rfl,d,e,f⟩⟩:=g
 all_goals grind [fA,Ub]
theorem rev_w (h:m<=100000) (a:2*j<=m):awrap .i64 ((m:Int)-1-(j:Int)-1)=(m:Int)-1-((j+1:Nat):Int):=by grind [ie]
def rev_2 (h:2*j+1<m):2*(j+1)<=m:=NH
theorem xB (U:LA) (u v:Value) (xs:RZ) (i:Nat) (h:AHeap) (g:GI h v xs) (hn:xs.length<=100000) (L:(i=xs.length/\xO u 0)\/(i<xs.length/\∃cap,u=.slice (some (elemAddr v i)) (xs.length-i) cap)):
  AC Tryz.prog U 94 [u] h fun _ h'=>GI h' v (xs.take i++(xs.drop i).reverse)/\(∀f,Le f h->Z2 f v->Le f h')/\∀b o,h.own b=some o->blk v≠some b->h'.own b=some o:=by
 have V:i<=xs.length:=pw;have n:(xs.drop i).length=xs.length-i:=iB;have lu:∀w,aLen Tryz.prog w 49 u=some (.int .i64 ((xs.drop i).length:Int)):=fun w=>by
  rcases L with⟨e,a,c,rfl,_⟩|⟨_,cap,rfl⟩
  .rw[Jg Ac w,n,e,uu]
  .rw[Jg Ac w,n]
 refine AC.vE ⟨ae1,rfl,WY⟩ Tryz.ntmps94 Tryz.results94 fun W=>?_;simp only[Br,Nat.reduceAdd];have X:awrap .i64 (((xs.drop i).length:Int)-1)=((xs.drop i).length:Int)-1-((0:Nat):Int):=by grind [ie]
 simp only[HO,Nat.reduceLT,↓reduceIte,Nat.reduceEqDiff,reduceCtorEq,lu,X];refine aaa.intro (fun k fr y=>∃(j:Nat) (ys:RZ),k=(xs.drop i).length-j/\2*j<=(xs.drop i).length/\fr=mkF [(0,u),(2,.int .i64 j),(3,.int .i64 (((xs.drop i).length:Int)-1-(j:Int)))]/\eD (xs.drop i) ys j/\GI y v (xs.take i++ys)/\(∀f,Le f h->Z2 f v->Le f y)/\∀b o,h.own b=some o->blk v≠some b->y.own b=some o)
  (xs.drop i).length [(0,u),(2,.int .i64 (0:Nat)),(3,.int .i64 (((xs.drop i).length:Int)-1-((0:Nat):Int)))] fD
  ⟨0,xs.drop i,rfl,AE _,rfl,eD.zero _,by grind [List.take_append_drop],fun f z _=>z,fun b o hb _=>hb⟩ ?_
 rintro k fr y A ⟨j,ys,rfl,Y,rfl,R,M,Z,kq⟩;have B:(xs.drop i).length<=100000:=NH;generalize ae:xs.drop i=ds at*;by_cases c:2*j+1<ds.length
 .have d : decide ((j : Int) < (ds.length : Int) - 1 - (j : Int)) = true := decide_eq_true NH
  have C:(ds.length:Int)-1-(j:Int)=((ds.length-1-j:Nat):Int):=NH;have N:j<ys.length:=by rw[R.1];omega
  have h2:ds.length-1-j<ys.length:=by rw[R.1];omega
  have D:i<xs.length:=NH;obtain⟨_,cap,rfl⟩:=L.resolve_left fun q=>by omega
  have tl:(xs.take i).length=i:=pw;have ll:(xs.take i++ys).length=xs.length:=by rw[kc,tl,R.1];omega
  have E:i+j<(xs.take i++ys).length:=pw;have O:i+(ds.length-1-j)<(xs.take i++ys).length:=pw;have Q:=GI.rl M;have r:∀p:Nat,p<xs.length-i->aIndexAddr Tryz.prog 49 (.slice (some (elemAddr v i)) (xs.length-i) cap) (.int .i64 (p:Int))=some (.pointer (some (elemAddr v (i+p)))):=fun p F=>by rw[Wc (P:=Tryz.prog) Ac Mb Ji p F,<-Ao g D (c:=cap)];rfl
  have G:=r j NH;have s:=r (ds.length-1-j) NH;have ld1:=Q.DH _ E;have t:=Q.DH _ O;have ge:∀p (F:i+p<(xs.take i++ys).length) (H:p<ys.length),(xs.take i++ys)[i+p]=ys[p]:=fun p F H=>by
   rw[pC NH];exact getElem_congr_idx NH
  rw[ge _ E N]at ld1;rw[ge _ O h2]at t;have st:∀(I:RZ) p x,(xs.take i++I).set (i+p) x=xs.take i++I.set p x:=fun I p x=>by grind [List.set_append_right,Nat.add_sub_cancel_left]
  obtain⟨h5,e5,S,w5,l5,k5⟩:=GI.store M A E ys[ds.length-1-j];rw[st]at S;obtain⟨h6,e6,T,w6,l6,k6⟩:=GI.store S w5 (i:=i+(ds.length-1-j)) pw ys[j];rw[st]at T;have R6:=R.step c N h2;have J:=Tw j NH;have K:=rev_w (m:=ds.length) (j:=j) B Y;rw[<-C]at s;refine Sk d ?_;refine gh (tA [0,1,2,3,4,5,6,7,8,9,10,11,12] (JQ 13 [0,1,4,5,6,7,11,12] (tA [14] (JQ 15 [0,1,2,3,4,5,6,7,8,9,10,11,12,13,14] .done)))) ?_;simp only[HO,Nat.reduceLT,↓reduceIte,Nat.reduceEqDiff,reduceCtorEq,Nat.reduceBEq,Qg,G,s,ld1,t,e5,e6,J,K];exact tn (ds.length-(j+1)) [(0,.slice (some (elemAddr v i)) (xs.length-i) cap),(2,.int .i64 (j+1:Nat)),(3,.int .i64 ((ds.length:Int)-1-((j+1:Nat):Int)))] NH fD
   ⟨j+1,_,rfl,rev_2 c,rfl,R6,T,fun f z af=>l6 f (l5 f (Z f z af) af) af,fun b o hb l=>k6 b o (k5 b o (kq b o hb l) l) l⟩
 .have d : decide ((j : Int) < (ds.length : Int) - 1 - (j : Int)) = false := decide_eq_false NH
  refine Sk d ?_
  grind [eD.fin]
end
end Go.Fw
namespace Go.Fw
open Go.Proofs
attribute [local irreducible] Kp MQ lU rS KO KN KX KE VK Kl ZJ TC aaa
def sf0 (a:Addr):aField Tryz.prog 77 (.pointer (some a)) 0=some (.pointer (some (Ip a 0))):=rfl
def sf1 (a:Addr):aField Tryz.prog 77 (.pointer (some a)) 1=some (.pointer (some (Ip a 1))):=rfl
def sf2 (a:Addr):aField Tryz.prog 77 (.pointer (some a)) 2=some (.pointer (some (Ip a 2))):=rfl
def sf4 (a:Addr):aField Tryz.prog 77 (.pointer (some a)) 4=some (.pointer (some (Ip a 4))):=rfl
structure Sr (h:AHeap) (B:Nat) (n:Nat) (bv ov fv iv lv:Value):Prop where
 o:h.own B=some (.cells [.int .i64 n,bv,ov,fv,iv,lv])
section
variable {h : AHeap} {B n : Nat} {bv ov fv iv lv : Value}
theorem Sr.le {h':AHeap} (s:Sr h B n bv ov fv iv lv) (e:Le h h'):Sr h' B n bv ov fv iv lv:=⟨e.own _ _ s.o⟩
def Sr.l0 (s:Sr h B n bv ov fv iv lv):aload Tryz.prog h 3 ⟨B,0,none⟩=some (.int .i64 n):=by rw[Fq Mb rfl s.o];rfl
def Sr.l1 (s:Sr h B n bv ov fv iv lv):aload Tryz.prog h 27 ⟨B,1,none⟩=some bv:=by rw[Fq pE rfl s.o];rfl
def Sr.l2 (s:Sr h B n bv ov fv iv lv):aload Tryz.prog h 59 ⟨B,2,none⟩=some ov:=by rw[Fq Uh rfl s.o];rfl
def Sr.l3 (s:Sr h B n bv ov fv iv lv):aload Tryz.prog h 27 ⟨B,3,none⟩=some fv:=by rw[Fq pE rfl s.o];rfl
def Sr.l4 (s:Sr h B n bv ov fv iv lv):aload Tryz.prog h 74 ⟨B,4,none⟩=some iv:=by rw[Fq qS27 rfl s.o];rfl
def Sr.l5 (s:Sr h B n bv ov fv iv lv):aload Tryz.prog h 75 ⟨B,5,none⟩=some lv:=by rw[Fq yo rfl s.o];rfl
end
theorem qc (n:Nat) (f:II):(eJ n f).length=n:=by simp[eJ]
theorem NN {n v:Nat} (f:II) (a:v<n):(eJ n f)[v]?=some (decide (v∈f)):=by grind [eJ]
theorem MT (n:Nat):eJ n []=List.replicate n false:=by
 apply EH
 grind [NN,qc]
theorem adg {n v:Nat} (f:II) (a:v<n):eJ n (f++[v])=(eJ n f).set v true:=by
 apply EH
 grind [NN,qc]
theorem bJ (q:LA) (B n:Nat) (bv ov fv iv lv v:Value) (f:II) (h:AHeap) (hs:Sr h B n bv ov fv iv lv) (e:RL RP h v (kz f)) (hf:∀x∈f,x<n) (r:n<=1000) (C:f.length<=1000):
  AC Tryz.prog q 133 [.pointer (some ⟨B,0,none⟩),v] h fun x h'=>GS 1 h' x n (Bo (eJ n f))/\Le h h'/\Z2 h x:=by
 refine AC.vE ⟨Tryz.func133,rfl,WY⟩ Tryz.ntmps133 Tryz.results133 fun c=>?_;simp only[Br,Nat.reduceAdd];obtain⟨s,u,l1,w1,w⟩:=Tt c (List.replicate n (.bool false));have mk:=PO h n r;rw[u]at mk;have hlen:(kz f).length=f.length:=y6 f;have o:=fun g=>e.Uc g;rw[hlen]at o;simp only[HO,Nat.reduceLT,↓reduceIte,Nat.reduceEqDiff,reduceCtorEq,sf0,Ip,BS,hs.l0,mk,o]
 have nT:h.own h.next=none:=(Le.refl h).next c (Ny _)
 generalize h.next=T at*
 have y:s.own T=some (.cells (Bo (eJ n (f.take 0)))):=by rw[w,yQ,MT];simp[Bo]
 refine aaa.intro (fun k fr d=>∃i:Nat,k=f.length-i/\i<=f.length/\fr=mkF [(5,.slice (some ⟨T,0,none⟩) n n),(13,v),(14,.int .i64 (f.length:Nat)),(15,.int .i64 (i:Nat))]/\d.own T=some (.cells (Bo (eJ n (f.take i))))/\Le h d)
  f.length [(5,.slice (some ⟨T,0,none⟩) n n),(13,v),(14,.int .i64 (f.length:Nat)),(15,.int .i64 (0:Nat))] fD ⟨0,rfl,AE _,rfl,y,l1⟩ ?_
 rintro k fr d z ⟨i,rfl,hi,rfl,oT,leq⟩;refine Uy ?_;refine Kl.intro (fun p=>?_) (fun hf=>?_)
 .have a : i < f.length := CC p
  clear p;have ad:=e.TA i NH;have ld:=(e.le Nn.RP leq).DH i NH;rw[sY a]at ld;have j:f.take (i+1)=f.take i++[f[i]]:=EL a;have l:=hf f[i] (Gw a);generalize f[i]=x at*;have A:aIndexAddr Tryz.prog 59 (.slice (some ⟨T,0,none⟩) n n) (.int .i64 (x:Int))=some (.pointer (some ⟨T,x,none⟩)):=by rw[Wc Uh eY Ji x l];simp[Ip]
  have st:aStore Tryz.prog d 4 (.pointer (some ⟨T,x,none⟩)) (.bool true)=some (d.put T (.cells (Bo (eJ n (f.take (i+1)))))):=by rw[QB (P:=Tryz.prog) (t:=4) (x:=.bool true) eY Ji oT (off:=x) (by rw[O2,qc];exact l) rfl rfl,Tr,j,adg _ l]
  simp only[HO,Nat.reduceLT,↓reduceIte,Nat.reduceEqDiff,reduceCtorEq,ad,ld,A,st,Tw i NH];exact tn (f.length-(i+1)) [(5,.slice (some ⟨T,0,none⟩) n n),(13,v),(14,.int .i64 (f.length:Nat)),(15,.int .i64 (i+1:Nat))] NH fD ⟨i+1,rfl,a,rfl,AHeap.Y3 _ _ _,leq.put _ nT⟩
 .have m : f.length <= i := vp hf
  rw[vZ m]at oT;refine Uy ?_;refine⟨GS.full oT (by grind [O2,qc]) NH,leq,fun b hb=>by grind [blk]⟩
theorem QQ (j:LA) (lv:Value) (xs:RZ) (P:Int->Bool) (F:FuncId) {fn:Func} {c:Code} (b:Good Tryz.prog F fn c) (cap:List Value) (h:AHeap) (d:RL RP h lv xs) (u:xs.length<=100000)
  (hf:∀x∈xs,AC Tryz.prog j F (.int .i64 x::cap) h fun y h'=>y=.bool (P x)/\h'=h):
  AC Tryz.prog j 168 [lv,.func (.func F) #[] cap.toArray] h fun x h'=>((x=.int .i64 (-1)/\xs.any P=false)\/∃i:Nat,x=.int .i64 (i:Nat)/\xs.any P=true)/\h'=h:=by
 refine AC.vE ⟨Tryz.func168,rfl,WY⟩ Tryz.ntmps168 Tryz.results168 fun o=>?_;simp only[Br,Nat.reduceAdd];have p:=fun g=>d.Uc g;refine Sk p ?_;refine aaa.intro (fun k fr l=>∃i:Nat,k=xs.length-i/\i<=xs.length/\fr=mkF [(0,lv),(1,.func (.func F) #[] cap.toArray),(7,.int .i64 (xs.length:Nat)),(8,.int .i64 (i:Nat))]/\l=h/\(xs.take i).any P=false)
  xs.length [(0,lv),(1,.func (.func F) #[] cap.toArray),(7,.int .i64 (xs.length:Nat)),(8,.int .i64 (0:Nat))] fD ⟨0,rfl,AE _,rfl,rfl,rfl⟩ ?_
 rintro k fr l q ⟨i,rfl,hi,rfl,rfl,e⟩;refine Uy ?_;refine Kl.intro (fun m=>?_) (fun hf=>?_)
 .have a : i < xs.length := CC m
  clear m;have ad:=d.TA i a;have ld:=d.DH i a;have r:xs.take (i+1)=xs.take i++[xs[i]]:=EL a;have s:=Gw a;have t:=hf xs[i] s;generalize xs[i]=x at*;simp only[HO,Nat.reduceLT,↓reduceIte,Nat.reduceEqDiff,reduceCtorEq,ad,ld];refine TC.intro PJ b (by simpa using t) ?_;rintro y h2 w2 ⟨rfl,rfl⟩;cases v:P x with
  |true=>
   refine Uy ?_
   grind
  |false=>
   refine Sk (Tw i NH) ?_;refine tn (xs.length-(i+1)) [(0,lv),(1,.func (.func F) #[] cap.toArray),(7,.int .i64 (xs.length:Nat)),(8,.int .i64 (i+1:Nat))] NH fD ⟨i+1,rfl,a,rfl,rfl,?_⟩
   grind
 .have f : xs.length <= i := vp hf
  rw[vZ f]at e;refine Uy ?_
  grind
theorem xN (b:LA) (lv:Value) (xs:RZ) (P:Int->Bool) (F:FuncId) {fn:Func} {c:Code} (a:Good Tryz.prog F fn c) (cap:List Value) (h:AHeap) (f:RL RP h lv xs) (g:xs.length<=100000)
  (hf:∀x∈xs,AC Tryz.prog b F (.int .i64 x::cap) h fun y h'=>y=.bool (P x)/\h'=h):
  AC Tryz.prog b 139 [lv,.func (.func F) #[] cap.toArray] h fun x h'=>x=.bool (xs.any P)/\h'=h:=by
 refine AC.vE ⟨Tryz.func139,rfl,WY⟩ Tryz.ntmps139 Tryz.results139 fun j=>?_;simp only[Br,Nat.reduceAdd];refine Uy ?_;refine TC.intro PJ ⟨Tryz.func168,rfl,WY⟩ (QQ b lv xs P F a cap h f g hf) ?_;rintro x h2 w2 ⟨⟨rfl,e⟩|⟨i,rfl,e⟩,rfl⟩
 .have d : decide ((-1 : Int) >= 0) = false := by decide
  refine Sk (XC d e) ?_
  grind
 .have d : decide ((i : Int) >= 0) = true := decide_eq_true NH
  refine Sk (XC d e) ?_
  grind
end Go.Fw
namespace Go.Fw
section
attribute [local instance] Classical.propDecidable
attribute [local irreducible] Kp MQ lU rS KO KN KX KE VK Kl ZJ TC aaa
open Go.Proofs
variable {h:AHeap}
theorem out_any (l:LA) (B n f d e v:Nat) (bv m o j p:Value) (F:Cs) (h:AHeap) (hs:Sr h B n bv m o j p) (hi:RL (RL sJ) h j (F.map (eJ n))) (hf:f<F.length) (q:v<n)
  (r:h.own e=some (.cells [.pointer (some ⟨B,0,none⟩)])) (s:h.own d=some (.cells [.int .i64 (f:Int)])):
  AC Tryz.prog l 138 [.int .i64 (v:Int),.pointer (some ⟨e,0,none⟩),.pointer (some ⟨d,0,none⟩)] h fun x h'=>x=.bool (!decide (v∈F.getD f []))/\h'=h:=by
 refine AC.vE ⟨Tryz.func138,rfl,WY⟩ Tryz.ntmps138 Tryz.results138 fun t=>?_;simp only[Br,Nat.reduceAdd];have a:f<(F.map (eJ n)).length:=pw;have l3:aload Tryz.prog h 72 ⟨e,0,none⟩=some (.pointer (some ⟨B,0,none⟩)):=by rw[Fq Tryz.underlying72 rfl r];rfl
 have w:aload Tryz.prog h 3 ⟨d,0,none⟩=some (.int .i64 (f:Int)):=by rw[Fq Mb rfl s];rfl
 have ad:=hi.addr (P:=Tryz.prog) qS27 Uh Ji (k:=.i64) f a;obtain⟨u,lu,g⟩:=hi.load (P:=Tryz.prog) Uh rfl f a;have y:(F.map (eJ n))[f]=eJ n (F.getD f []):=pw;rw[y]at g;have b:v<(eJ n (F.getD f [])).length:=by grind [qc]
 have i:=g.LB (k:=.i64) v b;have c:=g.W7 v b;have z:(eJ n (F.getD f []))[v]=decide (v∈F.getD f []):=by
  have:=NN (F.getD f []) q
  grind
 rw[z]at c;refine Uy ?_;refine gh (tA [0,1,2,3,4,5,6,7,8,9,10,11] .done) ?_;simp only[HO,Nat.reduceLT,↓reduceIte,Nat.reduceEqDiff,reduceCtorEq,Nat.reduceBEq,Qg,l3,w,sf4,Ip,BS,hs.l4,ad,lu,i,c]
 try exact⟨trivial,trivial⟩
theorem box72 (x:Value) (a:x.oneCell'=true) (b:x.cells=#[x]):zF h x=some (.pointer (some ⟨h.next,0,none⟩),h.alloc (.cells [x])):=by grind [zF,IF]
theorem allocI (h:AHeap):aAlloc Tryz.prog h 3=some (.pointer (some ⟨h.next,0,none⟩),h.alloc (.cells [.int .i64 0])):=rfl
theorem newI (hw:WF h) (x:Int):∃a h2,aAlloc Tryz.prog h 3=some (.pointer (some ⟨h.next,0,none⟩),a)/\aStore Tryz.prog a 3 (.pointer (some ⟨h.next,0,none⟩)) (.int .i64 x)=some h2/\Le h h2/\WF h2/\h2.own h.next=some (.cells [.int .i64 x]):=by
 obtain⟨a,c,l1,w1,b⟩:=Tt hw [.int .i64 0]
 have d:h.own h.next=none:=(Le.refl h).next hw (Ny _)
 have st:=QB (P:=Tryz.prog) (t:=3) (x:=.int .i64 x) Mb Ji b (off:=0) Ma rfl rfl
 grind [allocI,Le.put,WF.put,WF.lt,AHeap.Y3]
theorem NR (s:LA) (B n:Nat) (bv M N t O j m:Value) (F:Cs) (Fm:RZ) (a:II) (h:AHeap) (hs:Sr h B n bv M N t O) (hi:RL (RL sJ) h t (F.map (eJ n)))
  (U:RL RP h j Fm) (ha:RL RP h m (kz a)) (u:∀x∈Fm,∃v:Nat,x=(v:Int)/\v<n) (w:∀f∈a,f<F.length) (V:Fm.length<=100000) (W:a.length<=100000):
  AC Tryz.prog s 97 [.pointer (some ⟨B,0,none⟩),j,m] h fun x h'=>GI h' x (kz (zh F Fm a))/\Le h h'/\Z2 h x:=by
 refine AC.vE ⟨yq,rfl,WY⟩ Tryz.ntmps97 Tryz.results97 fun z=>?_;simp only[Br,Nat.reduceAdd];obtain⟨A,X,l1,w1,Y⟩:=Tt z [.pointer (some ⟨B,0,none⟩)];have P:=box72 (h:=h) (.pointer (some ⟨B,0,none⟩)) rfl rfl;rw[X]at P;have C:(kz a).length=a.length:=y6 a;have Q:=fun g=>ha.Uc g;rw[C]at Q
 generalize h.next=o at*
 refine Sk (XC P Q) ?_;refine aaa.intro (fun k fr p=>∃(i:Nat) (q:Value),k=a.length-i/\i<=a.length/\fr=mkF [(1,j),(3,.pointer (some ⟨o,0,none⟩)),(7,q),(11,m),(12,.int .i64 (a.length:Nat)),(13,.int .i64 (i:Nat))]/\Le A p/\GI p q (kz (zh F Fm (a.take i)))/\Z2 A q)
  a.length [(1,j),(3,.pointer (some ⟨o,0,none⟩)),(7,.slice none 0 0),(11,m),(12,.int .i64 (a.length:Nat)),(13,.int .i64 (0:Nat))] fD ⟨0,_,rfl,AE _,rfl,Le.refl _,GI.nil _,fun b hb=>by simp[blk]at hb⟩ ?_
 rintro k fr p D ⟨i,q,rfl,Z,rfl,E,g,ap⟩;refine Uy ?_;refine Kl.intro (fun R=>?_) (fun hf=>?_)
 .have c : i < a.length := CC R
  clear R;have ad:=ha.TA i NH;have ld:=(ha.le Nn.RP (l1.trans E)).DH i NH;rw[sY c]at ld;have ae:a.take (i+1)=a.take i++[a[i]]:=EL c;have G:=w a[i] (Gw c);generalize a[i]=f at*;obtain⟨h2,h3,e2,e3,l3,w3,S⟩:=newI D (f:Int);have e:=E.trans l3;have l:=l1.trans e
  have H:aload Tryz.prog h3 3 ⟨p.next,0,none⟩=some (.int .i64 (f:Int)):=by rw[Fq Mb rfl S];rfl
  have key:=xN s j Fm (fun x=>!decide (x.toNat∈F.getD f [])) 138 ⟨Tryz.func138,rfl,WY⟩ [.pointer (some ⟨o,0,none⟩),.pointer (some ⟨p.next,0,none⟩)] h3 (U.le Nn.RP l) V fun x I=>by
   obtain⟨v,rfl,hv⟩:=u x I
   have:=out_any s B n f p.next o v bv M N t O F h3 (hs.le l) (hi.le (Nn.RL Nn.sJ) l) G hv (e.own _ _ Y) S
   rw[yY];exact this
  simp only[HO,Nat.reduceLT,↓reduceIte,Nat.reduceEqDiff,reduceCtorEq,ad,ld,e2,e3];refine TC.intro PJ ⟨Tryz.func139,rfl,WY⟩ key ?_;rintro y h4 w4 ⟨rfl,rfl⟩
  have d:zh F Fm (a.take (i+1))=zh F Fm (a.take i)++if(Fm.any fun x=>!decide (x.toNat∈F.getD f []))=false then[f]else[]:=by grind [zh,lD]
  cases hb:(Fm.any fun x=>!decide (x.toNat∈F.getD f []))with
  |true=>
   rw[hb]at d;refine Sk (Tw i NH) ?_;refine tn (a.length-(i+1)) [(1,j),(3,.pointer (some ⟨o,0,none⟩)),(7,q),(11,m),(12,.int .i64 (a.length:Nat)),(13,.int .i64 (i+1:Nat))] NH fD ⟨i+1,q,rfl,c,rfl,e,?_,ap⟩
   grind [GI.le]
  |false=>
   rw[hb,if_pos rfl]at d;have g3:=g.le l3;have J:(kz (zh F Fm (a.take i))).length<=100000:=by grind [y6,zh]
   obtain⟨r,h5,h6,e5,e6,T,w6,l5,K,-⟩:=g3.push w3 (f:Int) J;obtain⟨l6,a6⟩:=K A e ap;have e7:kz (zh F Fm (a.take i))++[(f:Int)]=kz (zh F Fm (a.take (i+1))):=by grind [kz]
   rw[e7]at T;refine Sk (xU H e5 e6 (Tw i NH)) ?_;exact tn (a.length-(i+1)) [(1,j),(3,.pointer (some ⟨o,0,none⟩)),(7,r),(11,m),(12,.int .i64 (a.length:Nat)),(13,.int .i64 (i+1:Nat))] NH fD ⟨i+1,r,rfl,c,rfl,l6,T,a6⟩
 .have L : a.length <= i := vp hf
  rw[vZ L]at g;refine Uy ?_;exact⟨g,l1.trans E,fun b hb=>l1.none (ap b hb)⟩
variable {a b:Int} {j m:Nat} {p:Pr} {pl:RZ} {α:Type}
theorem Qc {n:Nat} {way:II} (a:way.length<=1000):∀i,i<=way.length->∀(v:Nat) x,(KI n way i)[v]?=some x->-1<=x/\x<=1000
 |0,_,v,x,h=>by grind [KI.eq_1]
 |i+1,hi,v,x,h=>by
  rw[KI,K4]at h;split at h
  .grind
  .exact Qc a i NH v x h
theorem Zz (ha:pl.getD p.1.toNat 0=a) (hb:pl.getD p.2.toNat 0=b) (h:a<0\/b<0\/(a-b≠1/\b-a≠1)):aI pl p=true:=by grind [aI]
theorem Gh (ha:pl.getD p.1.toNat 0=a) (hb:pl.getD p.2.toNat 0=b) (c:¬a<0) (h2:¬b<0) (h3:a-b=1\/b-a=1):aI pl p=false:=by grind [aI]
def ID {x y:Int} (a:-1<=x/\x<=1000) (b:-1<=y/\y<=1000):awrap .i64 (x-y)=x-y:=ie _ NH NH
theorem fil_b {l:List α} (q:α->Bool) (h:l.length<=1000) (j:Nat):((l.take j).filter q).length+1<=100000:=pw
def QJ (h:m<=1000):m<=40000:=NH
def Lb (h:j<m) (h2:m<=40000):j<4611686018427387904:=NH
theorem Bs (W0:LA) (B n:Nat) (bv ov fv iv lv ev z:Value) (zp:List Pr) (way:II) (h:AHeap) (hs:Sr h B n bv ov fv iv lv) (Q:PR h ev zp) (hw:RL RP h z (kz way))
  (hR:aV n zp) (R:∀x∈way,x<n) (hn:n<=300) (A:zp.length<=1000) (hl:way.length<=1000):
  AC Tryz.prog W0 103 [.pointer (some ⟨B,0,none⟩),ev,z] h fun x h'=>GP h' x (V8 n zp way)/\Le h h'/\Z2 h x:=by
 refine AC.vE ⟨Tryz.func103,rfl,WY⟩ Tryz.ntmps103 Tryz.results103 fun S=>?_;simp only[Br,Nat.reduceAdd];obtain⟨h1,e1,l1,w1,o1⟩:=Tt S [.int .i64 (-1)];have s1:=hs.le l1;refine Sk (bG @DQ e1 @sf0 @Ip.eq_1 @BS s1.l0) ?_;refine TC.intro PJ ⟨NQ,rfl,WY⟩ (rN W0 _ n NH h1 (RL.Wh (RS.whole o1 rfl))) ?_;rintro x h2 w2 ⟨T,rfl,hT,o2,l2⟩
 have nT:h.own T=none:=l1.next w1 hT
 have C:=l1.trans l2;have oT:h2.own T=some (.cells (Bp (KI n way 0))):=by rw[o2];simp[Bp,KI]
 have hlen:(kz way).length=way.length:=y6 way;have ll:=fun g=>hw.Uc g;rw[hlen]at ll;have r:=fun(k:IntKind) j hj=>Kx T n k j hj;refine Sk ll ?_;refine aaa.intro (fun k fr U=>∃i:Nat,k=way.length-i/\i<=way.length/\fr=mkF [(1,ev),(7,.slice (some ⟨T,0,none⟩) n n),(21,z),(22,.int .i64 (way.length:Nat)),(23,.int .i64 (i:Nat))]/\U.own T=some (.cells (Bp (KI n way i)))/\Le h U)
  way.length [(1,ev),(7,.slice (some ⟨T,0,none⟩) n n),(21,z),(22,.int .i64 (way.length:Nat)),(23,.int .i64 (0:Nat))] fD ⟨0,rfl,AE _,rfl,oT,C⟩ ?_
 clear oT o2 l2 w2 C;rintro k fr U V ⟨i,rfl,hi,rfl,oT,N⟩;refine Uy ?_;refine Kl.intro (fun D=>?_) (fun hf=>?_)
 .have e : i < way.length := CC D
  clear D;have ad:=hw.TA i NH;have ld:=(hw.le Nn.RP N).DH i NH;rw[sY e]at ld;have hx:=R way[i] (Gw e);have W:way.getD i 0=way[i]:=D4 e;have st:=stI oT (i:=way[i]) (by grind [Ou]) (i:Int);simp only[HO,Nat.reduceLT,↓reduceIte,Nat.reduceEqDiff,reduceCtorEq,ad,ld,r _ _ hx,st,Tw i (Lb e (QJ hl))];refine tn (way.length-(i+1)) [(1,ev),(7,.slice (some ⟨T,0,none⟩) n n),(21,z),(22,.int .i64 (way.length:Nat)),(23,.int .i64 (i+1:Nat))] (JS e) fD ⟨i+1,rfl,e,rfl,?_,N.put _ nT⟩;rw[AHeap.Y3,KI,W]
 have F:way.length<=i:=vp hf;obtain rfl:i=way.length:=NH;have rD:=Qc (n:=n) hl way.length (Ny _);have ar:=Ou n way way.length;have X:=fun g=>Q.len g;unfold V8;generalize KI n way way.length=pl at*;refine Sk X ?_;refine aaa.intro (fun k fr m=>∃(j:Nat) (f:Value),k=zp.length-j/\j<=zp.length/\fr=mkF [(7,.slice (some ⟨T,0,none⟩) n n),(10,f),(33,ev),(34,.int .i64 (zp.length:Nat)),(35,.int .i64 (j:Nat))]/\m.own T=some (.cells (Bp pl))/\Le h m/\GP m f ((zp.take j).filter (aI pl))/\Z2 h f/\blk f≠some T)
  zp.length [(7,.slice (some ⟨T,0,none⟩) n n),(10,.slice none 0 0),(33,ev),(34,.int .i64 (zp.length:Nat)),(35,.int .i64 (0:Nat))] fD ⟨0,_,rfl,AE _,rfl,oT,N,GP.nil _,fun b hb=>by simp[blk]at hb,by simp[blk]⟩ ?_
 clear oT N V;rintro k fr m G ⟨j,f,rfl,hj,rfl,oT,lz,g,ap,nb⟩;refine Uy ?_;refine Kl.intro (fun D=>?_) (fun hf=>?_)
 rotate_left
 .have F : zp.length <= j := vp hf
  rw[vZ F]at g;refine Uy ?_
  grind
 have c:j<zp.length:=CC D;clear D;have Y:=CA c;have av:zp.take (j+1)=zp.take j++[zp[j]]:=EL c;obtain⟨p1,p2,p3⟩:=hR zp[j] (Gw c);have ad:=Q.addr (k:=.i64) j c;have ld:=(Q.le lz).load Y;generalize zp[j]=p at*;obtain⟨h3,Z,e3,e4,l4,w4,o4⟩:=Ut G p
 have ay:m.own m.next=none:=(Le.refl m).next G (Ny _)
 have H:=lz.trans l4;have l:=l4.own _ _ oT;have g4:=g.le l4;have Lp:=uM o4;have L0:=lK o4;have L1:=HY o4
 generalize m.next=E at*
 obtain⟨a,ea⟩:∃a:Nat,p.1=(a:Int):=⟨p.1.toNat,NH⟩;obtain⟨b,eb⟩:∃b:Nat,p.2=(b:Int):=⟨p.2.toNat,NH⟩;have ae:a<n:=NH;have ag:b<n:=NH;rw[ea]at L0;rw[eb]at L1;have aj:a<pl.length:=pw;have al:b<pl.length:=pw;have hA:=CA aj;have hB:=CA al;have rA:=rD a _ hA;have rB:=rD b _ hB;have I:pl.getD p.1.toNat 0=pl[a]:=pw;have gB:pl.getD p.2.toNat 0=pl[b]:=pw;have lA:=XP l hA;have lB:=XP l hB;generalize pl[a]=x at*;generalize pl[b]=y at*;have s:=ID rA rB;have J:=ID rB rA;have aw:=Tw j (Lb c (QJ A));have aq:=fil_b (aI pl) A j
 have yes:aI pl p=true->∃d u o,aBuildSlice Tryz.prog Z 22 1 [(0,UI p)]=some (.slice (some ⟨Z.next,0,none⟩) 1 1,u)/\aAppend Tryz.prog u 22 22 f (.slice (some ⟨Z.next,0,none⟩) 1 1)=some (d,o)/\o.own T=some (.cells (Bp pl))/\Le h o/\GP o d ((zp.take (j+1)).filter (aI pl))/\Z2 h d/\blk d≠some T:=fun q=>by
  obtain⟨d,u,o,v,w,g7,w7,l6,az,aD⟩:=g4.push w4 p aq
  grind
 have no:aI pl p=false->(zp.take (j+1)).filter (aI pl)=(zp.take j).filter (aI pl):=fun q=>by grind
 simp only[HO,Nat.reduceLT,↓reduceIte,Nat.reduceEqDiff,reduceCtorEq,ad,ld,e3,e4];refine gh (tA [0,1,2,3,4,5,6,7,8,9,10,11] .done) ?_;simp only[HO,Nat.reduceLT,↓reduceIte,Nat.reduceEqDiff,reduceCtorEq,Nat.reduceBEq,Qg,Dh,Z0,Ip,BS,L0,L1,r _ a ae,r _ b ag,lA,lB];by_cases c1:x<0
 .obtain ⟨d, u, o, v, w, r1, r2, K, L, M⟩ := yes (Zz I gB (.inl c1))
  simp only[HO,Nat.reduceLT,↓reduceIte,Nat.reduceEqDiff,reduceCtorEq,c1,Lp,v,w,aw];exact tn (zp.length-(j+1)) [(7,.slice (some ⟨T,0,none⟩) n n),(10,d),(33,ev),(34,.int .i64 (zp.length:Nat)),(35,.int .i64 (j+1:Nat))] (JS c) fD ⟨j+1,d,rfl,c,rfl,r1,r2,K,L,M⟩
 by_cases c2:y<0
 .obtain ⟨d, u, o, v, w, r1, r2, K, L, M⟩ := yes (Zz I gB (.inr (.inl c2)))
  simp only[HO,Nat.reduceLT,↓reduceIte,Nat.reduceEqDiff,reduceCtorEq,c1,c2,Lp,v,w,aw];exact tn (zp.length-(j+1)) [(7,.slice (some ⟨T,0,none⟩) n n),(10,d),(33,ev),(34,.int .i64 (zp.length:Nat)),(35,.int .i64 (j+1:Nat))] (JS c) fD ⟨j+1,d,rfl,c,rfl,r1,r2,K,L,M⟩
 by_cases O:x-y=1
 .have t := no (Gh I gB c1 c2 (.inl O))
  have d3:decide (x-y=1)=true:=decide_eq_true O;simp only[HO,Nat.reduceLT,↓reduceIte,Nat.reduceEqDiff,reduceCtorEq,c1,c2,s,bne,d3,aw];exact tn (zp.length-(j+1)) [(7,.slice (some ⟨T,0,none⟩) n n),(10,f),(33,ev),(34,.int .i64 (zp.length:Nat)),(35,.int .i64 (j+1:Nat))] (JS c) fD ⟨j+1,f,rfl,c,rfl,l,H,by rw[t];exact g4,ap,nb⟩
 have d3:decide (x-y=1)=false:=decide_eq_false O;by_cases P:y-x=1
 .have t := no (Gh I gB c1 c2 (.inr P))
  have d4:decide (y-x=1)=true:=decide_eq_true P;simp only[HO,Nat.reduceLT,↓reduceIte,Nat.reduceEqDiff,reduceCtorEq,c1,c2,s,J,bne,d3,d4,aw];exact tn (zp.length-(j+1)) [(7,.slice (some ⟨T,0,none⟩) n n),(10,f),(33,ev),(34,.int .i64 (zp.length:Nat)),(35,.int .i64 (j+1:Nat))] (JS c) fD ⟨j+1,f,rfl,c,rfl,l,H,by rw[t];exact g4,ap,nb⟩
 have d4:decide (y-x=1)=false:=decide_eq_false P;obtain⟨d,u,o,v,w,r1,r2,K,L,M⟩:=yes (Zz I gB (.inr (.inr ⟨O,P⟩)));simp only[HO,Nat.reduceLT,↓reduceIte,Nat.reduceEqDiff,reduceCtorEq,c1,c2,s,J,bne,d3,d4,Lp,v,w,aw];exact tn (zp.length-(j+1)) [(7,.slice (some ⟨T,0,none⟩) n n),(10,d),(33,ev),(34,.int .i64 (zp.length:Nat)),(35,.int .i64 (j+1:Nat))] (JS c) fD ⟨j+1,d,rfl,c,rfl,r1,r2,K,L,M⟩
end
end Go.Fw
namespace Go.Fw
open Go.Proofs
attribute [local irreducible] Kp MQ lU rS KO KN KX KE VK Kl ZJ TC aaa
attribute [local instance] Classical.propDecidable
def Hj (h:AHeap):aAlloc Tryz.prog h 49=some (.pointer (some ⟨h.next,0,none⟩),h.alloc (.cells [.slice none 0 0])):=rfl
structure LL (b0 h:AHeap) (S5 T6 M7 T n start:Nat) (mv:Value) (st:RZ×II):Prop where
 oS:h.own S5=some (.cells [.int .i64 (start:Int)])
 o6:h.own T6=some (.cells [.slice (some ⟨T,0,none⟩) n n])
 oT:h.own T=some (.cells (Bp st.1))
 oM:h.own M7=some (.cells [mv])
 gm:GI h mv (kz st.2)
 nS:b0.own S5=none
 n6:b0.own T6=none
 nT:b0.own T=none
 nM:b0.own M7=none
 am:Z2 b0 mv
 d1:T≠T6
 d2:T≠M7
 d3:T≠S5
 d4:M7≠S5
 d5:M7≠T6
 m1:blk mv≠some S5
 m2:blk mv≠some T6
 m3:blk mv≠some T
 m4:blk mv≠some M7
 le:Le b0 h
section
variable {b0 h : AHeap} {S5 T6 M7 T n start : Nat} {mv : Value} {st : List Int × List Nat}
theorem LL.up {h':AHeap} (W:LL b0 h S5 T6 M7 T n start mv st) (e:Le h h'):LL b0 h' S5 T6 M7 T n start mv st:=
 {W with oS:=e.own _ _ W.oS,o6:=e.own _ _ W.o6,oT:=e.own _ _ W.oT,oM:=e.own _ _ W.oM,gm:=W.gm.le e,le:=W.le.trans e}
def LL.lS (W:LL b0 h S5 T6 M7 T n start mv st):aload Tryz.prog h 3 ⟨S5,0,none⟩=some (.int .i64 (start:Int)):=by rw[Fq Mb rfl W.oS];rfl
def LL.l6 (W:LL b0 h S5 T6 M7 T n start mv st):aload Tryz.prog h 49 ⟨T6,0,none⟩=some (.slice (some ⟨T,0,none⟩) n n):=by rw[Fq Ac rfl W.o6];rfl
def LL.lM (W:LL b0 h S5 T6 M7 T n start mv st):aload Tryz.prog h 49 ⟨M7,0,none⟩=some mv:=by rw[Fq Ac rfl W.oM];rfl
end
theorem Hu {start:Nat} {st:RZ×II} {v by_:Nat} (h:v≠start) (h2:st.1.getD v 0<0):dt start st v by_=(st.1.set v (by_:Int),st.2++[v]):=by grind [dt]
theorem RF {start:Nat} {st:RZ×II} {v by_:Nat} (h:v=start\/¬st.1.getD v 0<0):dt start st v by_=st:=by grind [dt]
theorem K8 (l:LA) {b0 h:AHeap} {S5 T6 M7 T n start:Nat} {mv:Value} {st:RZ×II} (W:LL b0 h S5 T6 M7 T n start mv st) (y:st.1.length=n) {v by_:Nat} (m:v<n) (z:st.2.length<=1000):
  AC Tryz.prog l 140 [.int .i64 (v:Int),.int .i64 (by_:Int),.pointer (some ⟨S5,0,none⟩),.pointer (some ⟨T6,0,none⟩),.pointer (some ⟨M7,0,none⟩)] h fun _ h'=>∃d,LL b0 h' S5 T6 M7 T n start d (dt start st v by_):=by
 refine AC.vE ⟨qS37,rfl,WY⟩ Tryz.ntmps140 Tryz.results140 fun e=>?_;simp only[Br,Nat.reduceAdd];have o:=CA (show v<st.1.length by omega);have gd:st.1.getD v 0=st.1[v]'(by omega):=D4 NH
 have k:=Kx T n .i64 v m;have ld:=XP W.oT o;generalize st.1[v]'(by omega)=x at*
 by_cases c1:v=start
 .have d1 : decide ((v : Int) = (start : Int)) = true := decide_eq_true NH
  refine Sk (Yb W.lS @bne.eq_1.{0} d1) ?_
  grind [RF]
 have d1:decide ((v:Int)=(start:Int))=false:=decide_eq_false NH;by_cases c2:x<0
 rotate_left
 .simp only [HO, Nat.reduceLT, ↓reduceIte, Nat.reduceEqDiff, reduceCtorEq, W.lS, bne, d1, W.l6, k, ld, c2]
  grind [RF]
 have st1:=stI W.oT (i:=v) NH (by_:Int);have b:LL b0 (h.put T (.cells (Bp (st.1.set v (by_:Int))))) S5 T6 M7 T n start mv (st.1.set v (by_:Int),st.2):=
  {W with
   oS:=by grind [AHeap.By,LL.d3,LL.oS]
   o6:=by grind [AHeap.By,LL.d1,LL.o6]
   oT:=AHeap.Y3 _ _ _
   oM:=by grind [AHeap.By,LL.d2,LL.oM]
   gm:=GS.put W.gm _ W.m3
   le:=W.le.put _ W.nT}
 have w1:WF (h.put T (.cells (Bp (st.1.set v (by_:Int))))):=e.put _ (e.lt W.oT);rw[Hu c1 pw];simp only[HO,Nat.reduceLT,↓reduceIte,Nat.reduceEqDiff,reduceCtorEq,W.lS,bne,d1,W.l6,k,ld,c2,st1];generalize h.put T (.cells (Bp (st.1.set v (by_:Int))))=A at*;obtain⟨d,h2,h3,p,e3,f,B,l2,hf,g⟩:=b.gm.push w1 (v:Int) (by grind [y6]);obtain⟨l3,q⟩:=hf b0 b.le b.am;obtain⟨r,m1⟩:=g _ _ b.oS b.m1;obtain⟨s,m2⟩:=g _ _ b.o6 b.m2;obtain⟨u,m3⟩:=g _ _ b.oT b.m3;obtain⟨j,m4⟩:=g _ _ b.oM b.m4;have stM:=QB (P:=Tryz.prog) (t:=49) (x:=d) Ac Ji j (off:=0) Ma (by obtain⟨a,c,rfl,_⟩:=f.rl.sl;rfl) f.rl.sl.one;simp only[HO,Nat.reduceLT,↓reduceIte,Nat.reduceEqDiff,reduceCtorEq,b.lM,p,e3,stM];have w:kz st.2++[(v:Int)]=kz (st.2++[v]):=by simp[kz]
 rw[w]at f;exact⟨d,{b with
   oS:=by grind [AHeap.By,LL.d4]
   o6:=by grind [AHeap.By,LL.d5]
   oT:=by grind [AHeap.By,LL.d2]
   oM:=AHeap.Y3 _ _ _
   gm:=GS.put f _ m4
   am:=q,m1:=m1,m2:=m2,m3:=m3,m4:=m4
   le:=l3.put _ W.nM}⟩
end Go.Fw
