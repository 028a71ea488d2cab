/- A text. -/
import Derived.Test.YtkccdnmaaelbiaaGreatFwLF29
set_option linter.all false
set_option maxRecDepth 99999
set_option maxHeartbeats 9999999
open Go.Proofs
namespace Go.Fw
section
attribute [local instance] Classical.propDecidable
structure zW (n:Nat) (es:List Pr):Prop where
 n3:3<=n
 one:(Es n es).length=1
 nocut:∀v,¬Fo.iE es v
section
variable{n:Nat}{es:List Pr}
theorem zW.bp(T:zW n es){u v:Nat}(a:u<n)(b:v<n):Pu es u v:=uh T.one a b
theorem nb_of(hR:InR n es){u v:Nat}(h:Pu es u v)(a:u≠v):∃w,Jp es v w:=by
 cases h<;>grind[Jp.symm]
theorem zW.ne(T:zW n es)(hR:InR n es){v:Nat}(a:v<n):∃w,Jp es v w:=by
 have h3:=T.n3;by_cases c:v=0
 .exact nb_of hR (T.bp (u:=1) NH a) NH
 .exact nb_of hR (T.bp (u:=0) NH a) NH
theorem cnW(hR:InR n es){c a b:Nat}(h:Cn (wo c) es a b):Cr (Om (fun x y=>x≠c/\y≠c) (eN n es)) a b:=by
 induction h with
 |refl=>exact .refl _
 |@step x y f h2 h3 d=>
  have g:x≠c:=by grind[Cn.off2]
  have i:y≠c:=fun e=>by grind
  exact d.step (by grind[EM,vD])
def crW(hR:InR n es){c a b:Nat}(ha:a≠c)(h:Cr (Om (fun x y=>x≠c/\y≠c) (eN n es)) a b):Cn (wo c) es a b:=by
 induction h with
 |refl=>exact .refl (iO ha)
 |@step x y f h2 d=>obtain⟨k1,k2,e⟩:=EM.1 h2;exact .step d ((vD hR).1 k1) (iO e)
theorem aU(hR:InR n es){v:Nat}:eN n es v≠[]↔∃w,Jp es v w:=by
 constructor
 .intro h;obtain⟨w,l,e⟩:=xD h;exact⟨w,(vD hR).1 (by rw[e];simp)⟩
 .rintro⟨w,h⟩ e;have:=(vD hR).2 h;grind
theorem zW.Z7(T:zW n es)(hR:InR n es):QG (eN n es):=by
 have lt:∀{v},eN n es v≠[]->v<n:=fun h=>by obtain⟨w,hw⟩:=(aU hR).1 h;exact(hw.lt hR).1
 refine⟨fun v w f hw=>(Tk hR (qG n es)).2 (by grind[zW.bp]),fun c v w g h2 f hw=>cnW hR ?_⟩;by_cases d:c<n
 .obtain⟨a,h3,l⟩:=acS (T.bp d (lt f)) g;obtain⟨b,i,m⟩:=acS (T.bp d (lt hw)) h2;have j:Cn (wo c) es a b:=ff fun q=>T.nocut c ⟨a,b,h3,i,q⟩;grind[aj3,Cn.symm,Cn.trans]
 .have:∀{a b},Pu es a b->a≠c->Cn (wo c) es a b:=fun h ha=>by
   induction h with
   |refl=>exact .refl (iO ha)
   |step _ a _ k=>exact .step k a (iO fun e=>d (by have:=(a.lt hR).2;omega))
  grind[zW.bp]
def zW.es_ne(T:zW n es)(hR:InR n es):es≠[]:=fun e=>by obtain⟨w,hw⟩:=T.ne hR (v:=0) (by have:=T.n3;omega);rw[e]at hw;rcases hw with h|h<;>cases h
theorem Uv(a:bX ⟨(n:Int),es⟩)(h3:3<=n)(b:(Es n es).length=1):(vq n es).length=1↔zW n es:=by
 have hR:=a.GD;constructor
 .intro d;refine⟨h3,b,fun v c=>?_⟩;have:=(YH hR v).2 c;grind[Sq]
 .intro T;have K:=treeM_lk a ⟨T.es_ne hR,b⟩;have e:JL n es=[]:=Uz.2 (by grind[zW.nocut,OI]);grind[mR,Er,Lk.len]
theorem ajr(d:bX ⟨(n:Int),es⟩)(h3:3<=n)(e:(Es n es).length=1):JL n es=[]↔zW n es:=by
 have hR:=d.GD;constructor
 .intro h;refine⟨h3,e,fun v c=>?_⟩;obtain⟨a,b,f,_⟩:=id c;have:v∈JL n es:=(OI hR v).2 ⟨(f.lt hR).1,c⟩;grind
 .intro T;exact Uz.2 fun v c=>T.nocut v ((OI hR v).1 c).2
theorem zW.less(T:zW n es)(hR:InR n es){a b:Nat}{rest:List Pr}(ha:a<n)(hb:b<n)(d:a≠b)(e:∀x y,Jp es x y->¬((x=a/\y=b)\/(x=b/\y=a))->Jp rest x y):Pu rest b a:=by
 have D:=T.Z7 hR;have h3:=T.n3;obtain⟨t,i,f,g⟩:∃t,t<n/\t≠a/\t≠b:=by
  by_cases k:a≠0/\b≠0
  .exact⟨0,NH,NH,NH⟩
  by_cases c1:a≠1/\b≠1
  .exact⟨1,NH,NH,NH⟩
  .exact⟨2,NH,NH,NH⟩
 have key:∀{c x y:Nat},(c=a\/c=b)->Cr (Om (fun x y=>x≠c/\y≠c) (eN n es)) x y->Pu rest x y:=fun{c x y} l h=>by
  induction h with
  |refl=>grind[Pu.refl]
  |@step u w m h2 j=>obtain⟨k1,k2,o⟩:=EM.1 h2;refine .step j (e _ _ ((vD hR).1 k1) ?_) rfl;grind
 have ne:∀{v},v<n->eN n es v≠[]:=by grind[aU,zW.ne]
 have p:=key (.inl rfl) (D.Z7 a b t (Hs d) f (ne hb) (ne i));have q:=key (.inr rfl) (D.Z7 b t a g d (ne i) (ne ha));grind[Cn.trans]
theorem pth_ok(hR:InR n es){b:Nat}{L:RZ}(F:ai n es b L):∀(k v:Nat),L[v]?=some (k:Int)->∃l:II,aj2 (Zh n es) L k v=aaa l/\l.length=k+1/\l[0]?=some v/\l[k]?=some b/\
  (∀(i x:Nat),l[i]?=some x->L[x]?=some ((k-i:Nat):Int))/\∀(i x y:Nat),l[i]?=some x->l[i+1]?=some y->Jp es x y
 |0,v,h=>by have hb:=F.zero v h;subst hb;refine⟨[v],rfl,rfl,rfl,rfl,fun i x m=>?_,pw⟩;grind
 |k+1,v,h=>by
  obtain⟨w,ha,hw⟩:=F.pre v _ h NH;have a:L.getD v 0=((k+1:Nat):Int):=pw;cases hf:((Zh n es).getD v []).find? (fun w=>decide (L.getD w.toNat 0=L.getD v 0-1))with
  |none=>grind[EW,Int.toNat_natCast]
  |some x=>
   have e:=List.mem_of_find?_eq_some hf;have h2:=List.find?_some hf;obtain⟨u,rfl,o⟩:=Ru hR e;have c:=CA (show u<L.length by grind[ai.len]);rw[vg,af8,K4,c,a]at h2;have d:L[u]?=some (k:Int):=pw;obtain⟨l,f,g,p,q,r,s⟩:=pth_ok hR F k u d;refine⟨v::l,?_,by simp[g],rfl,pw,fun i y j=>?_,fun i y z j t=>?_⟩
   .rw[aj2,hf];simp only[af8];rw[f];rfl
   .cases i with
    |zero=>grind
    |succ i=>grind
   .cases i with
    |zero=>grind[EW]
    |succ i=>grind
theorem iS(w:bX ⟨(n:Int),es⟩){a b:Nat}{rest:List Pr}(r:es=((a:Int),(b:Int))::rest)(F:ai n rest b (NY (Zh n rest) n b))(C:Pu rest b a):
  ∃l,DO n rest a b=aaa l/\Ho n es l:=by
 have hR:=w.GD;have d:InR n rest:=fun p O=>hR p pw;have s:(((a:Int),(b:Int)):Pr)∈es:=by rw[r];simp
 have t:=(hR _ s).2.1;simp only at t;have u:=(hR _ s).2.2;simp only at u;have nd:es.Nodup:=w.q9.nodup;have f:=CA (show a<(NY (Zh n rest) n b).length by grind[ai.len]);have g:=(F.pos a _ f).2 C;obtain⟨k,D⟩:=Z6 g;have m:(NY (Zh n rest) n b)[a]?=some (k:Int):=by rw[f,D]
 obtain⟨l,E,P,G,H,z,A⟩:=pth_ok d F k a m;have I:k≠0:=pw;have J:k≠1:=fun e=>by
  subst e;have:=A 0 a b G H;rw[r,jz]at nd;rcases this with h|h
  .exact nd.1 h
  .have:=(d _ h).2.1;grind
 have o:l.Nodup:=by rw[Gw,wI];intro i j hi q K e;have B:=z i _ (yY hi);have h2:=z j _ (yY q);grind
 refine⟨l,?_,o,NH,fun v L=>?_⟩
 .unfold DO;rw[K4,m];exact E
 .obtain⟨j,q,rfl⟩:=fj.1 L;rw[Qy o q];have sub:∀{x y},Jp rest x y->Jp es x y:=fun h=>by rw[r];exact h.imp (Eh _) (Eh _)
  by_cases c:j+1<l.length
  .have e:l[(j+1)%l.length]'(OM _ NH)=l[j+1]:=by grind[Nat.mod_eq_of_lt]
   rw[e];exact sub (A j _ _ (yY q) (yY c))
  .have M:j=k:=NH;subst M;have e:l[(j+1)%l.length]'(OM _ NH)=l[0]:=by grind[Nat.mod_self]
   rw[e];have B:l[j]=b:=pw;have N:l[0]=a:=pw;rw[B,N];exact .inr s
end
noncomputable def runM(n:Nat)(rows:AM):Nat->kR->Option kR
  |0,S=>some S
  |k+1,S=>if S.left=[]then some S else match AU n rows S with
    |some a=>runM n rows k a
    |none=>none
def ZO(f:II):List (Nat×Nat×Nat):=(List.range f.length).map fun i=>(f.getD i 0,f.getD ((i+f.length-1)%f.length) 0,f.getD ((i+1)%f.length) 0)
def XN(T:AM)(t:Nat×Nat×Nat):AM:=T.set t.1 ((T.getD t.1 []).set t.2.1 (t.2.2:Int))
def N4(n:Nat)(Jv:Cs):AM:=(Jv.flatMap ZO).foldl XN (List.replicate n (List.replicate n (-1)))
def itI(T:RZ):Nat->Int->Int
 |0,u=>u
 |k+1,u=>T.getD (itI T k u).toNat 0
def aci(T:AM)(rows:AM)(v:Nat):RZ:=(List.range (rows.getD v []).length).map fun k=>itI (T.getD v []) k ((rows.getD v []).getD 0 0)
def xY(n:Nat)(rows:AM)(Jv:Cs):AM:=(List.range n).map (aci (N4 n Jv) rows)
def zl(n:Nat)(es:List Pr):II:=(DO n (es.drop 1) (es.getD 0 (0,0)).1.toNat (es.getD 0 (0,0)).2.toNat).map Int.toNat
noncomputable def RB(n:Nat)(es:List Pr):kR:=Mw n es (zl n es) (MF n (Qw n (aej (ZH (zl n es)))) es)
noncomputable def embM(n:Nat)(es:List Pr):Option AM:=(runM n (Zh n es) es.length (RB n es)).map fun S=>xY n (Zh n es) S.Jv
section
variable{n:Nat}{es:List Pr}{H:Nat->Nat->Prop}{S:kR}
theorem run_ok(hR:InR n es)(hA:D3 es)(D:QG (eN n es)):∀(k:Nat)(H:Nat->Nat->Prop)(S:kR),Z8 n es H S->OW es H<=k->
  (runM n (Zh n es) k S=none/\¬XU n (eN n es))\/∃a b,runM n (Zh n es) k S=some a/\Z8 n es b a/\a.left=[]
 |0,H,S,I,h=>by
  refine .inr ⟨S,H,rfl,I,?_⟩;refine ff fun q=>?_;obtain⟨p,l,e⟩:=xD q;have P:=I.Aa p (by rw[e];simp);obtain⟨x,t,i⟩:=xD P.ne;have f:x∈p.zp:=by rw[i];simp
  obtain⟨v,w,j,d,m⟩:=P.UQ hR f;have o:x∈es.filter fun e=>decide (¬H e.1.toNat e.2.toNat):=by rw[uV];refine⟨P.sub.subset f,?_⟩;rw[j,Ix d];simpa using m.2
  have r:(es.filter fun e=>decide (¬H e.1.toNat e.2.toNat)).length=0:=Nat.le_zero.1 h;grind
 |k+1,H,S,I,h=>by
  rw[runM];by_cases c:S.left=[]
  .grind
  .rw[aal c];rcases I.lay hR hA D c with⟨g,h2⟩|⟨a,b,g,h2,h3⟩
   .grind
   .rw[g];exact run_ok hR hA D k b a h2 NH
def MC(T:AM)(v u:Nat):Int:=(T.getD v []).getD u 0
theorem sQ{T:AM}{t:Nat×Nat×Nat}(h:T.length=n/\∀v,v<n->(T.getD v []).length=n):(XN T t).length=n/\∀v,v<n->((XN T t).getD v []).length=n:=by grind[XN]
theorem tabS_get{T:AM}{t:Nat×Nat×Nat}(h:T.length=n/\∀v,v<n->(T.getD v []).length=n)(a:t.1<n)(h2:t.2.1<n)(v u:Nat):MC (XN T t) v u=if t.1=v/\t.2.1=u then(t.2.2:Int)else MC T v u:=by grind[MC,XN]
theorem Vx{G:Nat->Nat->Nat}:∀(a:List (Nat×Nat×Nat))(T:AM),(T.length=n/\∀v,v<n->(T.getD v []).length=n)->(∀t∈a,t.1<n/\t.2.1<n/\t.2.2=G t.1 t.2.1)->
  ((a.foldl XN T).length=n/\∀v,v<n->((a.foldl XN T).getD v []).length=n)/\∀v u,(MC T v u=(G v u:Int)\/∃t∈a,t.1=v/\t.2.1=u)->MC (a.foldl XN T) v u=(G v u:Int)
 |[],T,h,_=>by grind
 |t::a,T,h,hg=>by obtain⟨c,d,e⟩:=hg t Ma;obtain⟨k1,k2⟩:=Vx a (XN T t) (sQ h) fun t b=>hg t (by simp[b]);grind[tabS_get]
theorem XM{f:II}(nd:f.Nodup){i:Nat}(hi:i<f.length):f.getD ((i+f.length-1)%f.length) 0=pv f (f.getD i 0):=by
 have a:(i+f.length-1)%f.length<f.length:=OM _ NH;have b:=dN nd a;have e:((i+f.length-1)%f.length+1)%f.length=i:=by rw[aeH,show i+f.length-1+1=i+f.length by omega,JR,AQ hi]
 grind[c7]
theorem vh{f:II}(nd:f.Nodup){t:Nat×Nat×Nat}(h:t∈ZO f):t.1∈f/\t.2.1=pv f t.1/\t.2.2=nx f t.1:=by grind[ZO,XM,dN]
theorem alH{f:II}(nd:f.Nodup){v:Nat}(h:v∈f):(v,pv f v,nx f v)∈ZO f:=by obtain⟨i,hi,rfl⟩:=fj.1 h;refine N8.2 ⟨i,j3.2 hi,?_⟩;grind[XM,dN]
def HN{T:RZ}{g:Nat->Nat}{P:Nat->Prop}(a:∀u,P u->T.getD u 0=(g u:Int))(b:∀u,P u->P (g u)){u:Nat}(c:P u):∀k,itI T k (u:Int)=((it g k u:Nat):Int)/\P (it g k u)
 |0=>⟨rfl,c⟩
 |k+1=>by obtain⟨e,p⟩:=HN a b c k;refine⟨?_,b _ p⟩;rw[itI,e,af8,a _ p];rfl
theorem circ_ok(q:bX ⟨(n:Int),es⟩)(A:zW n es){r:Nat->II}{F:Cs}(G:vy n r F)(fl:Flat n r)(B:∀x y,y∈r x↔y∈eN n es x):
  Av n es (xY n (Zh n es) F)/\Flat n (Xl (xY n (Zh n es) F)):=by
 have hR:=q.GD;have hA:=q.q9;have s:=MG hR hA;have z:∀f∈F,f.Nodup:=G.O.nd;let a:Nat->Nat->Nat:=fun v u=>nx (r v) u;have j:∀t∈F.flatMap ZO,t.1<n/\t.2.1<n/\t.2.2=a t.1 t.2.1:=fun t C=>by obtain⟨f,hf,h⟩:=y5.1 C;obtain⟨d,h2,h3⟩:=vh (z f hf) h;obtain⟨M,N,Q⟩:=G.O.pv hf d;have hi:=G.O.ah5 G.Rl hf d;refine⟨G.Rl.lt _ _ hi,by rw[h2];exact G.Rl.lt _ _ (G.Rl.sy _ _ hi),?_⟩;grind
 have D:(List.replicate n (List.replicate n (-1:Int))).length=n/\∀v,v<n->((List.replicate n (List.replicate n (-1:Int))).getD v []).length=n:=pw;obtain⟨-,E⟩:=Vx (F.flatMap ZO) _ D j;have m:∀v u,u∈r v->MC (N4 n F) v u=(a v u:Int):=fun v u i=>by
  refine E v u (.inr ?_);obtain⟨f,hf,I,e⟩:=G.O.cover u v (G.Rl.sy _ _ i);have b:v∈f:=by grind[ZP]
  refine⟨_,y5.2 ⟨f,hf,alH (z f hf) b⟩,rfl,?_⟩;grind[c7]
 have row:∀v,v<n->∃u c,eN n es v=u::c/\(Zh n es).getD v []=(u:Int)::aaa c/\u∈r v:=fun v b=>by obtain⟨w,hw⟩:=A.ne hR b;obtain⟨u,c,e⟩:=xD ((aU hR).2 ⟨w,hw⟩);have hb:=(qG n es).back hR v;refine⟨u,c,e,?_,pw⟩;rw[<-hb];show(eN n es v).map _=_;rw[e];rfl
 have cyc:∀v,v<n->∃l:II,aci (N4 n F) (Zh n es) v=aaa l/\Cyc (r v) l:=fun v b=>by
  obtain⟨u,c,J,K,i⟩:=row v b;have hlen:((Zh n es).getD v []).length=(r v).length:=by
   have d:(eN n es v).length=((Zh n es).getD v []).length:=by grind[aaa]
   rw[<-d];exact(yR (s.nd v) (G.Rl.nd v) pw).length_eq
  refine⟨(List.range (r v).length).map fun k=>it (a v) k u,?_,nZ G.Rl G.O (next:=a) (fun f hf x o=>(G.O.pv hf o).2.2) i⟩
  unfold aci;rw[hlen,K];show _=((List.range (r v).length).map fun k=>it (a v) k u).map fun(x:Nat)=>(x:Int);rw[C4];refine Vn fun k _=>?_;exact(HN (g:=a v) (P:=fun x=>x∈r v) (fun x o=>m v x o) (by grind[ZP]) i k).1
 have get:∀v,v<n->(xY n (Zh n es) F).getD v []=aci (N4 n F) (Zh n es) v:=by grind[xY]
 have p:∀v,v<n->∃l:II,(xY n (Zh n es) F).getD v []=aaa l/\Xl (xY n (Zh n es) F) v=l/\Cyc (r v) l:=fun v b=>by
  obtain⟨l,d,h2⟩:=cyc v b;refine⟨l,pw,?_,h2⟩;unfold Xl;rw[get v b,d,aaa,C4]
  conv=>rhs;rw[<-af6 l]
  grind[List.map_congr_left]
 have len:(xY n (Zh n es) F).length=n:=by simp[xY]
 have R:Av n es (xY n (Zh n es) F):=⟨len,fun v b=>by obtain⟨l,d,h2,h3⟩:=p v b;rw[d];have L:l.Perm (eN n es v):=h3.perm.symm.trans (yR (G.Rl.nd v) (s.nd v) fun x=>B v x);have:=L.map fun(x:Nat)=>(x:Int);rw[(qG n es).back hR v]at this;exact this⟩;refine⟨R,?_⟩;have same:pP r (Xl (xY n (Zh n es) F)):=fun v=>by
  by_cases b:v<n
  .grind
  .have J:r v=[]:=Uz.2 fun w hw=>b (G.Rl.lt _ _ hw);grind[Xl,xY,Cyc.refl]
 exact(same.flat G.Rl).1 fl
theorem Mz(l:II):(aaa l).map Int.toNat=l:=by
 rw[aaa,C4]
 conv=>rhs;rw[<-af6 l]
 grind[List.map_congr_left]
theorem ringM_ok(c:bX ⟨(n:Int),es⟩){a b:Nat}{rest:List Pr}(d:es=((a:Int),(b:Int))::rest)(F:ai n rest b (NY (Zh n rest) n b))(e:Pu rest b a):
  DO n rest a b=aaa (zl n es)/\Ho n es (zl n es):=by grind[iS,zl,Mz]
theorem XU.qE{E E':Nat->II}(h:∀v w,w∈E v↔w∈E' v):XU n E↔XU n E':=⟨fun⟨R,a,h2,h3⟩=>⟨R,a,h2,pw⟩,fun⟨R,a,h2,h3⟩=>⟨R,a,h2,pw⟩⟩
theorem Vg(hR:InR n es)(hA:D3 es){rs:AM}(G:Av n es rs)(fl:Flat n (Xl rs)):XU n (eN n es):=⟨Xl rs,G.jD hR hA,fl,(by grind[Av.mem,vD])⟩
theorem many_no(b:bX ⟨(n:Int),es⟩)(a:zW n es)(h:3*n<es.length+6):¬XU n (eN n es):=fun⟨R,c,h2,h3⟩=>by
 have hR:=b.GD;have D:=(a.Z7 hR).same h3;have ne:∀v,v<n->R v≠[]:=fun v d e=>by obtain⟨w,hw⟩:=a.ne hR d;have:=(h3 v w).2 ((vD hR).2 hw);grind
 have:=(UU c h2 D a.n3 ne).1;have hA:D3 es:=b.q9;grind[Ud,D3.nodup,vD]
end
section
variable{A B:Nat->Nat->Prop}{c u v w a b n:Nat}
def upA(A:Nat->Nat->Prop)(a b m x y:Nat):Prop:=(A x y/\¬(x=a/\y=b)/\¬(x=b/\y=a))\/(x=m/\(y=a\/y=b))\/(y=m/\(x=a\/x=b))
end
section
variable{n:Nat}{es:List Pr}
end
end
section
attribute [local irreducible] Kp MQ lU rS KO KN KX KE VK Kl ZJ TC aab
variable {c i j m t:Nat}
def pair_any(d:LA)(a b:Nat)(h:aae):AC Tryz.prog d 91 [.int .i64 (a:Int),.int .i64 (b:Int)] h fun x h'=>x=UI (GW a b)/\Le h h':=by
 refine AC.vE ⟨Tryz.func91,rfl,WY⟩ Tryz.ntmps91 Tryz.results91 fun c=>?_;simp only[Br,seval];obtain⟨e,f,l1,w1,g⟩:=Tt c [.int .i64 0,.int .i64 0]
 have i:h.own h.next=none:=(Le.refl h).next c (qL0 _)
 have st:=ajZ (p:=(min (a:Int) (b:Int),max (a:Int) (b:Int))) g
 have oo:=aae.Y3 e h.next (.cells (xM (min (a:Int) (b:Int),max (a:Int) (b:Int))))
 have ld:=uM oo;simp only[HO,seval,alloc45',f,Dv,amax_i,xe,st,ld];exact⟨rfl,l1.put _ i⟩
theorem JG(h:0<m):((c:Int)+1).tmod (m:Int)=(((c+1)%m:Nat):Int):=pw
theorem ke(hi:i<m)(a:j<m)(b:t<=(j+m-i)%m):(i+t)%m=j↔t=(j+m-i)%m:=by
 have c:(j+m-i)%m<m:=OM _ NH;have e:(i+(j+m-i)%m)%m=j:=by grind[Nat.add_mod_mod,Nat.add_mod_right,Nat.mod_eq_of_lt]
 constructor
 .intro h;have:=po hi (show t<m by omega);grind
 grind
theorem Ra(z:LA)(v:Value)(f:II)(i j:Nat)(h:aae)(o:RL RP h v (aaa f))(hi:i<f.length)(A:j<f.length)(R:f.length<=1000):
  AC Tryz.prog z 142 [v,.int .i64 (i:Int),.int .i64 (j:Int)] h fun x h'=>GI h' x (aaa (Qk f i j))/\Le h h'/\Z2 h x:=by
 refine AC.vE ⟨Tryz.func142,rfl,WY⟩ Tryz.ntmps142 Tryz.results142 fun a=>?_;simp only[Br,seval];have B:(aaa f).length=f.length:=y6 f;have y:=fun g=>o.DH g;rw[B]at y;have ad:∀c,c<f.length->abX Tryz.prog 49 v (.int .i64 (c:Int))=some (.pointer (some (abv v c))):=fun c p=>o.TA c NH;have ld:∀g,Le h g->∀c,c<f.length->acd Tryz.prog g 3 (abv v c)=some (.int .i64 ((f.getD c 0:Nat):Int)):=fun g C c p=>by rw[(o.le Nn.RP C).Uc c NH,sY p,D4 p]
 obtain⟨E,F,l1,w1,G⟩:=Tt a [.int .i64 ((f.getD i 0:Nat):Int)];simp only[HO,seval,ad i hi,ld h (Le.refl _) i hi,DQ,F]
 have nB:h.own h.next=none:=(Le.refl h).next a (qL0 _)
 have D:(j+f.length-i)%f.length<f.length:=OM _ NH;let L:Nat->II:=fun t=>(List.range (t+1)).map fun t=>f.getD ((i+t)%f.length) 0;have H:L 0=[f.getD i 0]:=by grind[Nat.mod_eq_of_lt]
 have I:GI E (.slice (some ⟨h.next,0,none⟩) 1 1) (aaa (L 0)):=by rw[H];exact GS.full G rfl (show 1<1000000000000 by decide)
 refine lIn (fun k fr l=>∃(t:Nat)(n:Value),k=(j+f.length-i)%f.length-t/\t<=(j+f.length-i)%f.length/\fr=mkF [(0,v),(1,.int .i64 (((i+t)%f.length:Nat):Int)),(2,.int .i64 (j:Int)),(7,n)]/\GI l n (aaa (L t))/\Le h l/\Z2 h n) ⟨0,_,rfl,WA _,by rw[Qn,AQ hi],I,l1,fun b hb=>by grind[blk]⟩ ?_;rintro k fr l q ⟨t,n,rfl,J,rfl,g,leq,ap⟩;have st:=ke hi A J;have S:(i+t)%f.length<f.length:=OM _ NH;by_cases c:(i+t)%f.length=j
 .have d:decide ((((i+t)%f.length:Nat):Int)=(j:Int))=true:=XJ NH;refine Sk (XC @bne.eq_1.{0} d) ?_
  grind[Qk]
 .have d:decide ((((i+t)%f.length:Nat):Int)=(j:Int))=false:=Sb NH;have r:t<(j+f.length-i)%f.length:=pw;have aw:=Tw ((i+t)%f.length) NH;have K:((i+t)%f.length+1)%f.length=(i+(t+1))%f.length:=by rw[aeH];rfl
  have e:(i+(t+1))%f.length<f.length:=OM _ NH;have M:¬((f.length:Int)=0):=NH;have N:=JG (c:=(i+t)%f.length) (m:=f.length) NH;rw[K]at N;have s:(((((i+t)%f.length+1:Nat):Int))).tmod (f.length:Int)=(((i+(t+1))%f.length:Nat):Int):=pw;have u:adA .i64 (((i+(t+1))%f.length:Nat):Int)=(((i+(t+1))%f.length:Nat):Int):=cT _ NH NH;obtain⟨w,T,U,O,P,V,W,l4,hf,-⟩:=g.push q ((f.getD ((i+(t+1))%f.length) 0:Nat):Int) (by grind[y6]);obtain⟨l5,Q⟩:=hf h leq ap;simp only[HO,seval,bne,d,aw,y,M,s,u,ad _ e,ld l leq _ e,O,P];refine lgA NH ⟨t+1,w,rfl,r,rfl,?_,l5,Q⟩;have:L (t+1)=L t++[f.getD ((i+(t+1))%f.length) 0]:=by grind[List.range_succ]
  grind[aaa]
variable {h:aae} {v:Value} {xs:RZ}
theorem GI.tail(g:GI h v xs)(hi:i<=xs.length):
  ∃u,afp Tryz.prog 49 v (some (.int .i64 (i:Int))) none none=some u/\((i=xs.length/\xO u 0)\/(i<xs.length/\∃cap,u=.slice (some (abv v i)) (xs.length-i) cap)):=by
 obtain⟨k,⟨rfl,d⟩|⟨id,c,cap,rfl,l,m,f⟩⟩:=g
 .have:i=0:=NH;subst this;refine⟨.slice none 0 0,?_,.inl ⟨d.symm,⟨none,0,rfl,Ma⟩⟩⟩;have:¬UNK<=0:=by decide
  simp[afp,Mb,Ac,this,afB,af4]
 .have h2:(0:Int)<=(i:Int):=NH;have h3:(i:Int)<=(xs.length:Int):=NH;have b:UA Tryz.prog 3=1:=Ji;rcases f with rfl|⟨rfl,j⟩
  .refine⟨.slice (some (Ip ⟨id,0,none⟩ i)) (xs.length-i) (UNK+1),by simp[afp,Mb,Ac,b,afB,af4,h2,h3],?_⟩;by_cases c:i=xs.length
   .exact .inl ⟨c,⟨_,_,by rw[c,Q4],Ma⟩⟩
   .exact .inr ⟨NH,_,rfl⟩
  .have a:¬UNK<=xs.length:=M1.2 (V9 j WY)
   refine⟨.slice (if xs.length=i then some ⟨id,0,none⟩else some (Ip ⟨id,0,none⟩ i)) (xs.length-i) (xs.length-i),by simp[afp,Mb,Ac,b,afB,af4,h2,h3,a],?_⟩
   by_cases c:i=xs.length
   .refine .inl ⟨c,⟨_,_,by rw[c,Q4],Ma⟩⟩
   .exact .inr ⟨NH,_,by rw[aal (fun e=>c e.symm)];rfl⟩
theorem Ao(g:GI h v xs)(hi:i<xs.length):abv (.slice (some (abv v i)) (xs.length-i) c) j=abv v (i+j):=by
 obtain⟨a,⟨rfl,b⟩|⟨id,c,cap,rfl,d,e,f⟩⟩:=g
 all_goals grind[fA,Ub]
theorem rev_w(h:m<=100000)(a:2*j<=m):adA .i64 ((m:Int)-1-(j:Int)-1)=(m:Int)-1-((j+1:Nat):Int):=by grind[ie]
def rev_2(h:2*j+1<m):2*(j+1)<=m:=NH
theorem xB(U:LA)(u v:Value)(xs:RZ)(i:Nat)(h:aae)(g:GI h v xs)(hn:xs.length<=100000)(L:(i=xs.length/\xO u 0)\/(i<xs.length/\∃cap,u=.slice (some (abv v i)) (xs.length-i) cap)):
  AC Tryz.prog U 94 [u] h fun _ h'=>GI h' v (xs.take i++(xs.drop i).reverse)/\(∀f,Le f h->Z2 f v->Le f h')/\∀b o,h.own b=some o->blk v≠some b->h'.own b=some o:=by
 have V:i<=xs.length:=pw;have n:(xs.drop i).length=xs.length-i:=oK;have lu:∀w,ahz Tryz.prog w 49 u=some (.int .i64 ((xs.drop i).length:Int)):=fun w=>by
  rcases L with⟨e,a,c,rfl,_⟩|⟨_,cap,rfl⟩
  .rw[Jg Mb w,n,e,Q4]
  .rw[Jg Mb w,n]
 refine AC.vE ⟨qS29,rfl,WY⟩ Tryz.ntmps94 Tryz.results94 fun W=>?_;simp only[Br,seval];have X:adA .i64 (((xs.drop i).length:Int)-1)=((xs.drop i).length:Int)-1-((0:Nat):Int):=by grind[ie]
 simp only[HO,seval,lu,X];refine aab.intro (fun k fr y=>∃(j:Nat)(ys:RZ),k=(xs.drop i).length-j/\2*j<=(xs.drop i).length/\fr=mkF [(0,u),(2,.int .i64 j),(3,.int .i64 (((xs.drop i).length:Int)-1-(j:Int)))]/\aiS (xs.drop i) ys j/\GI y v (xs.take i++ys)/\(∀f,Le f h->Z2 f v->Le f y)/\∀b o,h.own b=some o->blk v≠some b->y.own b=some o)
  (xs.drop i).length [(0,u),(2,.int .i64 (0:Nat)),(3,.int .i64 (((xs.drop i).length:Int)-1-((0:Nat):Int)))] hAs
  ⟨0,xs.drop i,rfl,WA _,rfl,aiS.zero _,by grind[List.take_append_drop],fun f z _=>z,fun b o hb _=>hb⟩ ?_
 rintro k fr y A ⟨j,ys,rfl,hj,rfl,R,M,lq,kq⟩;have B:(xs.drop i).length<=100000:=NH;generalize aa:xs.drop i=ds at*;by_cases c:2*j+1<ds.length
 .have d:decide ((j:Int)<(ds.length:Int)-1-(j:Int))=true:=XJ NH;have C:(ds.length:Int)-1-(j:Int)=((ds.length-1-j:Nat):Int):=NH;have N:j<ys.length:=by rw[R.1];omega
  have h2:ds.length-1-j<ys.length:=by rw[R.1];omega
  have D:i<xs.length:=NH;obtain⟨_,cap,rfl⟩:=L.resolve_left fun q=>by omega
  have tl:(xs.take i).length=i:=pw;have ll:(xs.take i++ys).length=xs.length:=by rw[eR,tl,R.1];omega
  have E:i+j<(xs.take i++ys).length:=pw;have O:i+(ds.length-1-j)<(xs.take i++ys).length:=pw;have Q:=GI.rl M;have r:∀p:Nat,p<xs.length-i->abX Tryz.prog 49 (.slice (some (abv v i)) (xs.length-i) cap) (.int .i64 (p:Int))=some (.pointer (some (abv v (i+p)))):=fun p F=>by rw[Wc (P:=Tryz.prog) Mb Ac Ji p F,<-Ao g D (c:=cap)];rfl
  have G:=r j NH;have s:=r (ds.length-1-j) NH;have ld1:=Q.Uc _ E;have t:=Q.Uc _ O;have ge:∀p (F:i+p<(xs.take i++ys).length)(H:p<ys.length),(xs.take i++ys)[i+p]=ys[p]:=fun p F H=>by rw[List.getElem_append_right NH];exact getElem_congr_idx NH
  rw[ge _ E N]at ld1;rw[ge _ O h2]at t;have st:∀(I:RZ) p x,(xs.take i++I).set (i+p) x=xs.take i++I.set p x:=fun I p x=>by grind[List.set_append_right,Nat.add_sub_cancel_left]
  obtain⟨h5,e5,S,w5,l5,k5⟩:=GI.store M A E ys[ds.length-1-j];rw[st]at S;obtain⟨h6,e6,T,w6,l6,k6⟩:=GI.store S w5 (i:=i+(ds.length-1-j)) pw ys[j];rw[st]at T;have R6:=R.step c N h2;have J:=Tw j NH;have K:=rev_w (m:=ds.length) (j:=j) B hj;rw[<-C]at s;refine Sk d ?_;refine gh (tA [0,1,2,3,4,5,6,7,8,9,10,11,12] (JQ 13 [0,1,4,5,6,7,11,12] (tA [14] (JQ 15 [0,1,2,3,4,5,6,7,8,9,10,11,12,13,14] .done)))) ?_;simp only[HO,seval,Qg,G,s,ld1,t,e5,e6,J,K];exact lgA NH ⟨j+1,_,rfl,rev_2 c,rfl,R6,T,fun f z af=>l6 f (l5 f (lq f z af) af) af,fun b o hb l=>k6 b o (k5 b o (kq b o hb l) l) l⟩
 .have d:decide ((j:Int)<(ds.length:Int)-1-(j:Int))=false:=Sb NH;refine Sk d ?_;grind[aiS.fin]
def sf0(a:Addr):agQ Tryz.prog 77 (.pointer (some a)) 0=some (.pointer (some (Ip a 0))):=rfl
def sf1(a:Addr):agQ Tryz.prog 77 (.pointer (some a)) 1=some (.pointer (some (Ip a 1))):=rfl
def sf2(a:Addr):agQ Tryz.prog 77 (.pointer (some a)) 2=some (.pointer (some (Ip a 2))):=rfl
def sf4(a:Addr):agQ Tryz.prog 77 (.pointer (some a)) 4=some (.pointer (some (Ip a 4))):=rfl
structure Sr (h:aae) (B:Nat) (n:Nat) (bv ov fv iv lv:Value):Prop where
 o:h.own B=some (.cells [.int .i64 n,bv,ov,fv,iv,lv])
section
variable{h:aae}{B n:Nat}{bv ov fv iv lv:Value}
theorem Sr.le{h':aae}(s:Sr h B n bv ov fv iv lv)(e:Le h h'):Sr h' B n bv ov fv iv lv:=⟨e.own _ _ s.o⟩
def Sr.l0(s:Sr h B n bv ov fv iv lv):acd Tryz.prog h 3 ⟨B,0,none⟩=some (.int .i64 n):=by rw[Fq Ac rfl s.o];rfl
def Sr.l1(s:Sr h B n bv ov fv iv lv):acd Tryz.prog h 27 ⟨B,1,none⟩=some bv:=by rw[Fq pE rfl s.o];rfl
def Sr.l2(s:Sr h B n bv ov fv iv lv):acd Tryz.prog h 59 ⟨B,2,none⟩=some ov:=by rw[Fq Uh rfl s.o];rfl
def Sr.l3(s:Sr h B n bv ov fv iv lv):acd Tryz.prog h 27 ⟨B,3,none⟩=some fv:=by rw[Fq pE rfl s.o];rfl
def Sr.l4(s:Sr h B n bv ov fv iv lv):acd Tryz.prog h 74 ⟨B,4,none⟩=some iv:=by rw[Fq qS26 rfl s.o];rfl
def Sr.l5(s:Sr h B n bv ov fv iv lv):acd Tryz.prog h 75 ⟨B,5,none⟩=some lv:=by rw[Fq adW rfl s.o];rfl
end
theorem qc(n:Nat)(f:II):(eJ n f).length=n:=by simp[eJ]
theorem NN{n v:Nat}(f:II)(a:v<n):(eJ n f)[v]?=some (decide (v∈f)):=by grind[eJ]
theorem MT(n:Nat):eJ n []=List.replicate n false:=by apply mJ;grind[NN,qc]
theorem ael{n v:Nat}(f:II)(a:v<n):eJ n (f++[v])=(eJ n f).set v true:=by apply mJ;grind[NN,qc]
theorem bJ(q:LA)(B n:Nat)(bv ov fv iv lv v:Value)(f:II)(h:aae)(hs:Sr h B n bv ov fv iv lv)(e:RL RP h v (aaa f))(hf:∀x∈f,x<n)(r:n<=1000)(C:f.length<=1000):
  AC Tryz.prog q 133 [.pointer (some ⟨B,0,none⟩),v] h fun x h'=>GS 1 h' x n (Bo (eJ n f))/\Le h h'/\Z2 h x:=by
 refine AC.vE ⟨Tryz.func133,rfl,WY⟩ Tryz.ntmps133 Tryz.results133 fun c=>?_;simp only[Br,seval];obtain⟨s,u,l1,w1,w⟩:=Tt c (List.replicate n (.bool false));have mk:=mk100 h n r;rw[u]at mk;have hlen:(aaa f).length=f.length:=y6 f;have o:=fun g=>e.DH g;rw[hlen]at o;simp only[HO,seval,sf0,Ip,Gc,hs.l0,mk,o]
 have nT:h.own h.next=none:=(Le.refl h).next c (qL0 _)
 generalize h.next=T at*
 have y:s.own T=some (.cells (Bo (eJ n (f.take 0)))):=by rw[w,age,MT];simp[Bo]
 refine lIn (fun k fr d=>∃i:Nat,k=f.length-i/\i<=f.length/\fr=mkF [(5,.slice (some ⟨T,0,none⟩) n n),(13,v),(14,.int .i64 (f.length:Nat)),(15,.int .i64 (i:Nat))]/\d.own T=some (.cells (Bo (eJ n (f.take i))))/\Le h d) ⟨0,rfl,WA _,rfl,y,l1⟩ ?_;rintro k fr d z ⟨i,rfl,hi,rfl,oT,leq⟩;refine Uy ?_;refine Kl.intro (fun p=>?_) (fun hf=>?_)
 .have a:i<f.length:=CC p;clear p;have ad:=e.TA i NH;have ld:=(e.le Nn.RP leq).Uc i NH;rw[sY a]at ld;have j:f.take (i+1)=f.take i++[f[i]]:=EL a;have l:=hf f[i] (j9 a);generalize f[i]=x at*;have A:abX Tryz.prog 59 (.slice (some ⟨T,0,none⟩) n n) (.int .i64 (x:Int))=some (.pointer (some ⟨T,x,none⟩)):=by rw[Wc Uh AV Ji x l];simp[Ip]
  have st:acs Tryz.prog d 4 (.pointer (some ⟨T,x,none⟩)) (.bool true)=some (d.put T (.cells (Bo (eJ n (f.take (i+1)))))):=by rw[QB (P:=Tryz.prog) (t:=4) (x:=.bool true) AV Ji oT (off:=x) (by rw[ahw,qc];exact l) rfl rfl,Tr,j,ael _ l]
  simp only[HO,seval,ad,ld,A,st,Tw i NH];exact lgA NH ⟨i+1,rfl,a,rfl,aae.Y3 _ _ _,leq.put _ nT⟩
 .have m:f.length<=i:=vp hf;rw[HV m]at oT;refine Uy ?_;refine⟨GS.full oT (by grind[ahw,qc]) NH,leq,fun b hb=>by grind[blk]⟩
theorem QQ(j:LA)(lv:Value)(xs:RZ)(P:Int->Bool)(F:FuncId){fn:Func}{c:Code}(b:Good Tryz.prog F fn c)(cap:List Value)(h:aae)(d:RL RP h lv xs)(u:xs.length<=100000)(hf:∀x∈xs,AC Tryz.prog j F (.int .i64 x::cap) h fun y h'=>y=.bool (P x)/\h'=h):
  AC Tryz.prog j 168 [lv,.func (.func F) #[] cap.toArray] h fun x h'=>((x=.int .i64 (-1)/\xs.any P=false)\/∃i:Nat,x=.int .i64 (i:Nat)/\xs.any P=true)/\h'=h:=by
 refine AC.vE ⟨Tryz.func168,rfl,WY⟩ Tryz.ntmps168 Tryz.results168 fun o=>?_;simp only[Br,seval];have p:=fun g=>d.DH g;refine Sk p ?_;refine lIn (fun k fr l=>∃i:Nat,k=xs.length-i/\i<=xs.length/\fr=mkF [(0,lv),(1,.func (.func F) #[] cap.toArray),(7,.int .i64 (xs.length:Nat)),(8,.int .i64 (i:Nat))]/\l=h/\(xs.take i).any P=false) ⟨0,rfl,WA _,rfl,rfl,rfl⟩ ?_;rintro k fr l q ⟨i,rfl,hi,rfl,rfl,e⟩;refine Uy ?_;refine Kl.intro (fun m=>?_) (fun hf=>?_)
 .have a:i<xs.length:=CC m;clear m;have ad:=d.TA i a;have ld:=d.Uc i a;have r:xs.take (i+1)=xs.take i++[xs[i]]:=EL a;have s:=j9 a;have t:=hf xs[i] s;generalize xs[i]=x at*;simp only[HO,seval,ad,ld];refine TC.intro PJ b (by simpa using t) ?_;rintro y h2 v ⟨rfl,rfl⟩;cases w:P x with
  |true=>refine Uy ?_;grind
  |false=>refine Sk (Tw i NH) ?_;refine lgA NH ⟨i+1,rfl,a,rfl,rfl,?_⟩;grind
 .have f:xs.length<=i:=vp hf;rw[HV f]at e;refine Uy ?_;grind
theorem xN(b:LA)(lv:Value)(xs:RZ)(P:Int->Bool)(F:FuncId){fn:Func}{c:Code}(a:Good Tryz.prog F fn c)(cap:List Value)(h:aae)(f:RL RP h lv xs)(g:xs.length<=100000)(hf:∀x∈xs,AC Tryz.prog b F (.int .i64 x::cap) h fun y h'=>y=.bool (P x)/\h'=h):
  AC Tryz.prog b 139 [lv,.func (.func F) #[] cap.toArray] h fun x h'=>x=.bool (xs.any P)/\h'=h:=by
 refine AC.vE ⟨Tryz.func139,rfl,WY⟩ Tryz.ntmps139 Tryz.results139 fun j=>?_;simp only[Br,seval];refine Uy ?_;refine kCi Tryz.func168 (QQ b lv xs P F a cap h f g hf) ?_;rintro x h2 k ⟨⟨rfl,e⟩|⟨i,rfl,e⟩,rfl⟩
 .have d:decide ((-1:Int)>=0)=false:=by decide
  refine Sk (XC d e) ?_;grind
 .have d:decide ((i:Int)>=0)=true:=XJ NH;refine Sk (XC d e) ?_;grind
attribute [local instance] Classical.propDecidable
theorem out_any(l:LA)(B n f d e v:Nat)(bv m o j p:Value)(F:Cs)(h:aae)(hs:Sr h B n bv m o j p)(hi:RL (RL sJ) h j (F.map (eJ n)))(hf:f<F.length)(q:v<n)(r:h.own e=some (.cells [.pointer (some ⟨B,0,none⟩)]))(s:h.own d=some (.cells [.int .i64 (f:Int)])):
  AC Tryz.prog l 138 [.int .i64 (v:Int),.pointer (some ⟨e,0,none⟩),.pointer (some ⟨d,0,none⟩)] h fun x h'=>x=.bool (!decide (v∈F.getD f []))/\h'=h:=by
 refine AC.vE ⟨Tryz.func138,rfl,WY⟩ Tryz.ntmps138 Tryz.results138 fun t=>?_;simp only[Br,seval];have a:f<(F.map (eJ n)).length:=pw;have l3:acd Tryz.prog h 72 ⟨e,0,none⟩=some (.pointer (some ⟨B,0,none⟩)):=by rw[Fq Tryz.underlying72 rfl r];rfl
 have w:acd Tryz.prog h 3 ⟨d,0,none⟩=some (.int .i64 (f:Int)):=by rw[Fq Ac rfl s];rfl
 have ad:=hi.addr (P:=Tryz.prog) qS26 Uh Ji (k:=.i64) f a;obtain⟨u,lu,g⟩:=hi.load (P:=Tryz.prog) Uh rfl f a;have y:(F.map (eJ n))[f]=eJ n (F.getD f []):=pw;rw[y]at g;have b:v<(eJ n (F.getD f [])).length:=by grind[qc]
 have i:=g.LB (k:=.i64) v b;have c:=g.W7 v b;have z:(eJ n (F.getD f []))[v]=decide (v∈F.getD f []):=by have:=NN (F.getD f []) q;grind
 rw[z]at c;refine Uy ?_;refine gh (tA [0,1,2,3,4,5,6,7,8,9,10,11] .done) ?_;simp only[HO,seval,Qg,l3,w,sf4,Ip,Gc,hs.l4,ad,lu,i,c]
 try exact⟨trivial,trivial⟩
theorem box72(x:Value)(a:x.oneCell'=true)(b:x.cells=#[x]):zF h x=some (.pointer (some ⟨h.next,0,none⟩),h.alloc (.cells [x])):=by grind[zF,IF]
theorem allocI(h:aae):agH Tryz.prog h 3=some (.pointer (some ⟨h.next,0,none⟩),h.alloc (.cells [.int .i64 0])):=rfl
theorem newI(hw:WF h)(x:Int):∃a h2,agH Tryz.prog h 3=some (.pointer (some ⟨h.next,0,none⟩),a)/\acs Tryz.prog a 3 (.pointer (some ⟨h.next,0,none⟩)) (.int .i64 x)=some h2/\Le h h2/\WF h2/\h2.own h.next=some (.cells [.int .i64 x]):=by
 obtain⟨a,c,l1,w1,b⟩:=Tt hw [.int .i64 0]
 have d:h.own h.next=none:=(Le.refl h).next hw (qL0 _)
 have st:=QB (P:=Tryz.prog) (t:=3) (x:=.int .i64 x) Ac Ji b (off:=0) Ma rfl rfl;grind[allocI,Le.put,WF.put,WF.lt,aae.Y3]
theorem NR(p:LA)(B n:Nat)(bv M N q O o r:Value)(F:Cs)(Fm:RZ)(a:II)(h:aae)(hs:Sr h B n bv M N q O)(hi:RL (RL sJ) h q (F.map (eJ n)))(U:RL RP h o Fm)(ha:RL RP h r (aaa a))(s:∀x∈Fm,∃v:Nat,x=(v:Int)/\v<n)(t:∀f∈a,f<F.length)(V:Fm.length<=100000)(W:a.length<=100000):
  AC Tryz.prog p 97 [.pointer (some ⟨B,0,none⟩),o,r] h fun x h'=>GI h' x (aaa (zh F Fm a))/\Le h h'/\Z2 h x:=by
 refine AC.vE ⟨qS30,rfl,WY⟩ Tryz.ntmps97 Tryz.results97 fun u=>?_;simp only[Br,seval];obtain⟨w,X,l1,w1,o1⟩:=Tt u [.pointer (some ⟨B,0,none⟩)];have P:=box72 (h:=h) (.pointer (some ⟨B,0,none⟩)) rfl rfl;rw[X]at P;have z:(aaa a).length=a.length:=y6 a;have Q:=fun g=>ha.DH g;rw[z]at Q
 generalize h.next=A at*
 refine Sk (XC P Q) ?_;refine lIn (fun k fr l=>∃(i:Nat)(m:Value),k=a.length-i/\i<=a.length/\fr=mkF [(1,o),(3,.pointer (some ⟨A,0,none⟩)),(7,m),(11,r),(12,.int .i64 (a.length:Nat)),(13,.int .i64 (i:Nat))]/\Le w l/\GI l m (aaa (zh F Fm (a.take i)))/\Z2 w m) ⟨0,_,rfl,WA _,rfl,Le.refl _,GI.nil _,fun b hb=>by simp[blk]at hb⟩ ?_;rintro k fr l C ⟨i,m,rfl,aa,rfl,D,g,ap⟩;refine Uy ?_;refine Kl.intro (fun R=>?_) (fun hf=>?_)
 .have c:i<a.length:=CC R;clear R;have ad:=ha.TA i NH;have ld:=(ha.le Nn.RP (l1.trans D)).Uc i NH;rw[sY c]at ld;have ae:a.take (i+1)=a.take i++[a[i]]:=EL c;have E:=t a[i] (j9 c);generalize a[i]=f at*;obtain⟨h2,h3,e2,e3,l3,w3,S⟩:=newI C (f:Int);have e:=D.trans l3;have j:=l1.trans e
  have G:acd Tryz.prog h3 3 ⟨l.next,0,none⟩=some (.int .i64 (f:Int)):=by rw[Fq Ac rfl S];rfl
  have key:=xN p o Fm (fun x=>!decide (x.toNat∈F.getD f [])) 138 ⟨Tryz.func138,rfl,WY⟩ [.pointer (some ⟨A,0,none⟩),.pointer (some ⟨l.next,0,none⟩)] h3 (U.le Nn.RP j) V fun x H=>by
   obtain⟨v,rfl,hv⟩:=s x H
   have:=out_any p B n f l.next A v bv M N q O F h3 (hs.le j) (hi.le (Nn.RL Nn.sJ) j) E hv (e.own _ _ o1) S
   rw[af8];exact this
  simp only[HO,seval,ad,ld,e2,e3];refine kCi Tryz.func139 key ?_;rintro y h4 w4 ⟨rfl,rfl⟩
  have d:zh F Fm (a.take (i+1))=zh F Fm (a.take i)++if(Fm.any fun x=>!decide (x.toNat∈F.getD f []))=false then[f]else[]:=by grind[zh,fitsB]
  cases hb:(Fm.any fun x=>!decide (x.toNat∈F.getD f []))with
  |true=>rw[hb]at d;refine Sk (Tw i NH) ?_;refine lgA NH ⟨i+1,m,rfl,c,rfl,e,?_,ap⟩;grind[GI.le]
  |false=>
   rw[hb,AE rfl]at d;have g3:=g.le l3;have I:(aaa (zh F Fm (a.take i))).length<=100000:=by grind[y6,zh]
   obtain⟨J,h5,h6,e5,e6,T,w6,l5,K,-⟩:=g3.push w3 (f:Int) I;obtain⟨l6,a6⟩:=K w e ap;have e7:aaa (zh F Fm (a.take i))++[(f:Int)]=aaa (zh F Fm (a.take (i+1))):=by grind[aaa]
   rw[e7]at T;refine Sk (xU G e5 e6 (Tw i NH)) ?_;exact lgA NH ⟨i+1,J,rfl,c,rfl,l6,T,a6⟩
 .have L:a.length<=i:=vp hf;rw[HV L]at g;refine Uy ?_;exact⟨g,l1.trans D,fun b hb=>l1.none (ap b hb)⟩
end
end Go.Fw
