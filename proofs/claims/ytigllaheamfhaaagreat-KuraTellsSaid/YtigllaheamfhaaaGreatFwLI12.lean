/- A text. -/
import Derived.Test.YtigllaheamfhaaaGreatFwKA5
set_option linter.all false
set_option maxRecDepth 99999
set_option maxHeartbeats 9999999
open Go.Proofs
open Option renaming some→Z,none→Y
open Bool renaming true→tT,false→fF
open List renaming replicate→rP,range→rG
open Go.Value renaming slice→sL,pointer→pT
open Go renaming Value→vV
open Go.Proofs.Tryz renaming prog→pG
open Go.Proofs.Tryz
open List
namespace Go.Fw
section
attribute [local instance] Classical.propDecidable
noncomputable def runM(n:Nat)(rows:AM):Nat->ShM->Option ShM
  |0,S=>Z S
  |k+1,S=>if S.left=[]then Z S else match AU n rows S with
    |some a=>runM n rows k a
    |none=>Y
def ZO(f:II):List (Nat×Nat×Nat):=(rG f.length).map fun i=>(f.getD i 0,f.getD ((i+f.length-1)%f.length) 0,f.getD ((i+1)%f.length) 0)
def XN(T:AM)(t:Nat×Nat×Nat):AM:=T.set t.1 ((T.getD t.1 []).set t.2.1 (t.2.2:Int))
def N4(n:Nat)(Jv:Cs):AM:=(Jv.flatMap ZO).foldl XN (rP n (rP n (-1)))
def itI(T:RZ):Nat->Int->Int
 |0,u=>u
 |k+1,u=>T.getD (itI T k u).toNat 0
def lH(T:AM)(rows:AM)(v:Nat):RZ:=(rG (rows.getD v []).length).map fun k=>itI (T.getD v []) k ((rows.getD v []).getD 0 0)
def xY(n:Nat)(rows:AM)(Jv:Cs):AM:=(rG n).map (lH (N4 n Jv) rows)
def zl(n:Nat)(es:xLP):II:=(DO n (es.drop 1) (es.getD 0 (0,0)).1.toNat (es.getD 0 (0,0)).2.toNat).map Int.toNat
noncomputable def ahf(n:Nat)(es:xLP):ShM:=Mw n es (zl n es) (MF n (Qw n (aa5 (ZH (zl n es)))) es)
noncomputable def embM(n:Nat)(es:xLP):Option AM:=(runM n (Zh n es) es.length (ahf n es)).map fun S=>xY n (Zh n es) S.Jv
section
variable{n:Nat}{es:List Pr}{H:Nat->Nat->Prop}{S:ShM}
theorem run_ok(hR:InR n es)(hA:D3 es)(D:QG (eN n es)):∀(k:Nat)(H:Nat->Nat->Prop)(S:ShM),Z8 n es H S->OW es H<=k->
  (runM n (Zh n es) k S=Y/\¬XU n (eN n es))\/∃a b,runM n (Zh n es) k S=Z a/\Z8 n es b a/\a.left=[]
 |0,H,S,I,h=>by
  refine .inr ⟨S,H,rfl,I,?_⟩;refine ZT fun q=>?_;have⟨p,l,e⟩:=eR q;have P:=I.Aa p (by rw[e];simp);have⟨x,t,i⟩:=eR P.ne;have f:x∈p.zp:=by rw[i];simp
  have⟨v,w,e3,d,j⟩:=P.UQ hR f;have m:x∈es.filter fun e=>decide (¬H e.1.toNat e.2.toNat):=by rw[K4];refine⟨P.sub.subset f,?_⟩;rw[e3,Ix d];simpa using j.2
  have o:(es.filter fun e=>decide (¬H e.1.toNat e.2.toNat)).length=0:=Nat.le_zero.1 h;grind
 |k+1,H,S,I,h=>by
  rw[runM];by_cases c:S.left=[]
  .grind
  .rw[abE c];rcases I.lay hR hA D c with⟨g,h2⟩|⟨a,b,g,h2,h3⟩
   .grind
   .rw[g];exact run_ok hR hA D k b a h2 NH
def MC(T:AM)(v u:Nat):Int:=(T.getD v []).getD u 0
theorem sQ{T:AM}{t:Nat×Nat×Nat}(h:T.length=n/\∀v,v<n->(T.getD v []).length=n):(XN T t).length=n/\∀v,v<n->((XN T t).getD v []).length=n:=by grind[XN]
theorem tabS_get{T:AM}{t:Nat×Nat×Nat}(h:T.length=n/\∀v,v<n->(T.getD v []).length=n)(a:t.1<n)(h2:t.2.1<n)(v u:Nat):MC (XN T t) v u=if t.1=v/\t.2.1=u then(t.2.2:Int)else MC T v u:=by grind[MC,XN]
theorem Vx{G:Nat->Nat->Nat}:∀(a:List (Nat×Nat×Nat))(T:AM),(T.length=n/\∀v,v<n->(T.getD v []).length=n)->(∀t∈a,t.1<n/\t.2.1<n/\t.2.2=G t.1 t.2.1)->
  ((a.foldl XN T).length=n/\∀v,v<n->((a.foldl XN T).getD v []).length=n)/\∀v u,(MC T v u=(G v u:Int)\/∃t∈a,t.1=v/\t.2.1=u)->MC (a.foldl XN T) v u=(G v u:Int)
 |[],T,h,_=>by grind
 |t::a,T,h,hg=>by have⟨c,d,e⟩:=hg t Ma;have⟨k1,k2⟩:=Vx a (XN T t) (sQ h) fun t b=>hg t (by simp[b]);grind[tabS_get]
theorem aoY{f:II}(nd:f.Nodup){i:Nat}(hi:i<f.length):f.getD ((i+f.length-1)%f.length) 0=pv f (f.getD i 0):=by
 have a:(i+f.length-1)%f.length<f.length:=Q4 _ NH;have b:=dN nd a;have e:((i+f.length-1)%f.length+1)%f.length=i:=by rw[qL222,show i+f.length-1+1=i+f.length by omega,aoD,im hi]
 grind[c7]
theorem vh{f:II}(nd:f.Nodup){t:Nat×Nat×Nat}(h:t∈ZO f):t.1∈f/\t.2.1=pv f t.1/\t.2.2=nx f t.1:=by grind[ZO,aoY,dN]
theorem aoZ{f:II}(nd:f.Nodup){v:Nat}(h:v∈f):(v,pv f v,nx f v)∈ZO f:=by obtain⟨i,hi,rfl⟩:=Yi.1 h;refine aev.2 ⟨i,j3.2 hi,?_⟩;grind[aoY,dN]
def HN{T:RZ}{g:Nat->Nat}{P:Nat->Prop}(a:∀u,P u->T.getD u 0=(g u:Int))(b:∀u,P u->P (g u)){u:Nat}(c:P u):∀k,itI T k (u:Int)=((it g k u:Nat):Int)/\P (it g k u)
 |0=>⟨rfl,c⟩
 |k+1=>by have⟨e,p⟩:=HN a b c k;refine⟨?_,b _ p⟩;rw[itI,e,yM,a _ p];rfl
theorem circ_ok(q:bX ⟨(n:Int),es⟩)(A:zW n es){r:Nat->II}{F:Cs}(G:abK n r F)(fl:Flat n r)(B:∀x y,y∈r x↔y∈eN n es x):
  Av n es (xY n (Zh n es) F)/\Flat n (Xl (xY n (Zh n es) F)):=by
 have hR:=q.GD;have hA:=q.q9;have s:=MG hR hA;have z:∀f∈F,f.Nodup:=G.O.nd;let a:Nat->Nat->Nat:=fun v u=>nx (r v) u;have j:∀t∈F.flatMap ZO,t.1<n/\t.2.1<n/\t.2.2=a t.1 t.2.1:=fun t C=>by have⟨f,hf,h⟩:=uu.1 C;have⟨d,h2,h3⟩:=vh (z f hf) h;have⟨M,N,Q⟩:=G.O.pv hf d;have hi:=G.O.akH G.Rl hf d;refine⟨G.Rl.lt _ _ hi,by rw[h2];exact G.Rl.lt _ _ (G.Rl.sy _ _ hi),?_⟩;grind
 have D:(rP n (rP n (-1:Int))).length=n/\∀v,v<n->((rP n (rP n (-1:Int))).getD v []).length=n:=hGr;obtain⟨-,E⟩:=Vx (F.flatMap ZO) _ D j;have m:∀v u,u∈r v->MC (N4 n F) v u=(a v u:Int):=fun v u i=>by
  refine E v u (.inr ?_);have⟨f,hf,I,e⟩:=G.O.cover u v (G.Rl.sy _ _ i);have b:v∈f:=by grind[ZP]
  refine⟨_,uu.2 ⟨f,hf,aoZ (z f hf) b⟩,rfl,?_⟩;grind[c7]
 have row:∀v,v<n->∃u c,eN n es v=u::c/\(Zh n es).getD v []=(u:Int)::kz c/\u∈r v:=fun v b=>by have⟨w,hw⟩:=A.ne hR b;have⟨u,c,e⟩:=eR ((aU hR).2 ⟨w,hw⟩);have hb:=(qG n es).back hR v;refine⟨u,c,e,?_,hGr⟩;rw[<-hb];show(eN n es v).map _=_;rw[e];rfl
 have cyc:∀v,v<n->∃l:II,lH (N4 n F) (Zh n es) v=kz l/\Cyc (r v) l:=fun v b=>by
  have⟨u,c,J,K,i⟩:=row v b;have hlen:((Zh n es).getD v []).length=(r v).length:=by
   have d:(eN n es v).length=((Zh n es).getD v []).length:=by grind[kz]
   rw[<-d];exact(yR (s.nd v) (G.Rl.nd v) hGr).length_eq
  refine⟨(rG (r v).length).map fun k=>it (a v) k u,?_,nZ G.Rl G.O (next:=a) (fun f hf x o=>(G.O.pv hf o).2.2) i⟩
  unfold lH;rw[hlen,K];show _=((rG (r v).length).map fun k=>it (a v) k u).map fun(x:Nat)=>(x:Int);rw[KG];refine Qn fun k _=>?_;exact(HN (g:=a v) (P:=fun x=>x∈r v) (fun x o=>m v x o) (by grind[ZP]) i k).1
 have get:∀v,v<n->(xY n (Zh n es) F).getD v []=lH (N4 n F) (Zh n es) v:=by grind[xY]
 have p:∀v,v<n->∃l:II,(xY n (Zh n es) F).getD v []=kz l/\Xl (xY n (Zh n es) F) v=l/\Cyc (r v) l:=fun v b=>by
  have⟨l,d,h2⟩:=cyc v b;refine⟨l,hGr,?_,h2⟩;unfold Xl;rw[get v b,d,kz,KG]
  conv=>rhs;rw[<-alZ l]
  grind[map_congr_left]
 have len:(xY n (Zh n es) F).length=n:=by simp[xY]
 have R:Av n es (xY n (Zh n es) F):=⟨len,fun v b=>by have⟨l,d,h2,h3⟩:=p v b;rw[d];have L:l.Perm (eN n es v):=h3.perm.symm.trans (yR (G.Rl.nd v) (s.nd v) fun x=>B v x);have:=L.map fun(x:Nat)=>(x:Int);rw[(qG n es).back hR v]at this;exact this⟩;refine⟨R,?_⟩;have same:pP r (Xl (xY n (Zh n es) F)):=fun v=>by
  by_cases b:v<n
  .grind
  .have J:r v=[]:=qH.2 fun w hw=>b (G.Rl.lt _ _ hw);grind[Xl,xY,Cyc.refl]
 exact(same.flat G.Rl).1 fl
theorem Mz(l:II):(kz l).map Int.toNat=l:=by
 rw[kz,KG]
 conv=>rhs;rw[<-alZ l]
 grind[map_congr_left]
theorem ringM_ok(c:bX ⟨(n:Int),es⟩){a b:Nat}{rest:xLP}(d:es=((a:Int),(b:Int))::rest)(F:Far n rest b (NY (Zh n rest) n b))(e:Pu rest b a):
  DO n rest a b=kz (zl n es)/\Ho n es (zl n es):=by grind[path_ring,zl,Mz]
theorem XU.an5{E E':Nat->II}(h:∀v w,w∈E v↔w∈E' v):XU n E↔XU n E':=⟨fun⟨R,a,h2,h3⟩=>⟨R,a,h2,hGr⟩,fun⟨R,a,h2,h3⟩=>⟨R,a,h2,hGr⟩⟩
theorem Vg(hR:InR n es)(hA:D3 es){rs:AM}(G:Av n es rs)(fl:Flat n (Xl rs)):XU n (eN n es):=⟨Xl rs,G.jD hR hA,fl,(by grind[Av.mem,vD])⟩
theorem many_no(b:bX ⟨(n:Int),es⟩)(a:zW n es)(h:3*n<es.length+6):¬XU n (eN n es):=fun⟨R,c,h2,h3⟩=>by
 have hR:=b.GD;have D:=(a.Z7 hR).same h3;have ne:∀v,v<n->R v≠[]:=fun v d e=>by have⟨w,hw⟩:=a.ne hR d;have:=(h3 v w).2 ((vD hR).2 hw);grind
 have:=(UU c h2 D a.n3 ne).1;have hA:D3 es:=b.q9;grind[Ud,D3.nodup,vD]
end
variable {es:List Pr} {n:Nat}
theorem heads_all(c:0<n)(h:∀u v,u<n->v<n->Pu es u v):(Es n es).length=1:=by
 have m0:0∈Es n es:=by grind[QO]
 have nd:=qD n es
 match hh:Es n es with
 |[]=>grind
 |[_]=>rfl
 |a::b::l=>
  have ha:a∈Es n es:=by rw[hh];simp
  have hb:b∈Es n es:=by rw[hh];simp
  grind[QO]
inductive Rc (A:Nat->Nat->Prop) (c:Nat):Nat->Nat->Prop
 |refl {u:Nat}:Rc A c u u
 |step {u v w:Nat}:Rc A c u v->A v w->v≠c->w≠c->Rc A c u w
section
variable{A B:Nat->Nat->Prop}{c u v w a b n:Nat}
theorem Rc.trans(h:Rc A c u v)(k:Rc A c v w):Rc A c u w:=by induction k with|refl=>exact h|step _ a d h2 e=>exact e.step a d h2
theorem Rc.one(h:A u v)(d:u≠c)(h2:v≠c):Rc A c u v:=Rc.refl.step h d h2
theorem Rc.symm(sy:∀x y,A x y->A y x)(h:Rc A c u v):Rc A c v u:=by
 induction h with
 |refl=>exact .refl
 |step _ a d h2 e=>exact(Rc.one (sy _ _ a) h2 d).trans e
theorem Rc.sub(h:∀x y,A x y->x≠c->y≠c->Rc B c x y)(k:Rc A c u v):Rc B c u v:=by
 induction k with|refl=>exact .refl|step _ a d h2 e=>exact(by grind[Rc.trans])
def upA(A:Nat->Nat->Prop)(a b m x y:Nat):Prop:=(A x y/\¬(x=a/\y=b)/\¬(x=b/\y=a))\/(x=m/\(y=a\/y=b))\/(y=m/\(x=a\/x=b))
end
section
variable{n:Nat}{es:List Pr}
abbrev sg(L:xLP):xLP:=aa5 (L.map lZ)
theorem ai8(L:xLP)(x y:Nat):Jp (sg L) x y↔Jp L x y:=by
 have key:∀p:Pr,lZ p=((x:Int),(y:Int))->p=((x:Int),(y:Int))\/p=((y:Int),(x:Int)):=by grind[lZ]
 have d:∀p:Pr,lZ p=((y:Int),(x:Int))->p=((x:Int),(y:Int))\/p=((y:Int),(x:Int)):=by grind[lZ]
 have i:lZ ((x:Int),(y:Int))=((x:Int),(y:Int))\/lZ ((x:Int),(y:Int))=((y:Int),(x:Int)):=by simp only[lZ,jf];omega
 have g:lZ ((y:Int),(x:Int))=lZ ((x:Int),(y:Int)):=by simp only[lZ,jf];omega
 unfold Jp sg;simp only[Wb,aev];constructor
 .rintro(⟨p,f,e⟩|⟨p,f,e⟩)
  .rcases key p e with rfl|rfl<;>simp[f]
  .rcases d p e with rfl|rfl<;>simp[f]
 .rintro(h|h)
  .exact hGr
  .exact hGr
theorem InR.up{m:Nat}(h:InR n es)(e:n<=m):InR m es:=fun p d=>by have:=h p d;omega
theorem planar_up(hR:InR n es){m:Nat}(d:n<=m):XU m (eN m es)↔XU n (eN n es):=by obtain⟨k,rfl⟩:=qL172 d;have:=XU.mores (n:=n) (E:=eN n es) (fun v w h=>(((vD hR).1 h).lt hR).1) k;rw[<-this];exact(by grind[XU.congr,vD,InR.up])
end
end
section
attribute [local irreducible] Kp MQ lU KO1 KO KN KX KE VK Kl ZJ TC aab
variable {c i j m t:Nat}
def pair_any(d:abw)(a b:Nat)(h:aai):AC pG d 85 [a,b] h fun x h'=>x=UI (GW a b)/\Le h h':=by
 refine AC.vF func85 ntmps85 results85 fun c=>?_;have⟨e,f,l1,w1,g⟩:=Tt c [.int .i64 0,.int .i64 0]
 have i:h.own h.next=Y:=(Le.refl h).next c (qL0 _)
 have st:=aoN (p:=(min (a:Int) (b:Int),max (a:Int) (b:Int))) g
 have oo:=aai.Y3 e h.next (.cells (xM (min (a:Int) (b:Int),max (a:Int) (b:Int))))
 have ld:=uM oo;simp only[HO,seval,alloc45',f,Dv,z6,xe,st,ld];exact⟨rfl,l1.put _ i⟩
theorem tmod_step(h:0<m):((c:Int)+1).tmod (m:Int)=(((c+1)%m:Nat):Int):=hGr
theorem ke(hi:i<m)(a:j<m)(b:t<=(j+m-i)%m):(i+t)%m=j↔t=(j+m-i)%m:=by
 have c:(j+m-i)%m<m:=Q4 _ NH;have e:(i+(j+m-i)%m)%m=j:=by grind[Nat.add_mod_mod,Nat.add_mod_right,Nat.mod_eq_of_lt]
 constructor
 .intro h;have:=aeQ hi (show t<m by omega);grind
 grind
theorem Ra(z:abw)(v:vV)(f:II)(i j:Nat)(h:aai)(o:RL RP h v (kz f))(hi:i<f.length)(A:j<f.length)(Q:f.length<=1000):
  AC pG z 117 [v,i,j] h fun x h'=>GI h' x (kz (Qk f i j))/\Le h h'/\Z2 h x:=by
 refine AC.vF func117 ntmps117 results117 fun a=>?_;have B:(kz f).length=f.length:=y6 f;have y:=fun g=>o.TA g;rw[B]at y;have ad:∀c,c<f.length->aao pG 47 v (.int .i64 (c:Int))=Z (pT (Z (aaq v c))):=fun c p=>o.DH c NH;have ld:∀g,Le h g->∀c,c<f.length->aaC pG g 3 (aaq v c)=Z (.int .i64 ((f.getD c 0:Nat):Int)):=fun g C c p=>by rw[(o.le Nn.RP C).Uc c NH,sY p,D4 p]
 have⟨E,F,l1,w1,G⟩:=Tt a [((f.getD i 0:Nat):Int)];simp only[HO,seval,ad i hi,ld h (Le.refl _) i hi,DQ,F]
 have nB:h.own h.next=Y:=(Le.refl h).next a (qL0 _)
 have D:(j+f.length-i)%f.length<f.length:=Q4 _ NH;let L:Nat->II:=fun t=>(rG (t+1)).map fun t=>f.getD ((i+t)%f.length) 0;have H:L 0=[f.getD i 0]:=by grind[Nat.mod_eq_of_lt]
 have I:GI E (sL (Z h.next) 1 1) (kz (L 0)):=by rw[H];exact GS.full G rfl (show 1<1000000000000 by decide)
 refine lIn (fun k fr l=>∃(t:Nat)(n:vV),k=(j+f.length-i)%f.length-t/\t<=(j+f.length-i)%f.length/\fr=mkF [(0,v),(1,.int .i64 (((i+t)%f.length:Nat):Int)),(2,j),(7,n)]/\GI l n (kz (L t))/\Le h l/\Z2 h n) ⟨0,_,rfl,Z6 _,by rw[DF,im hi],I,l1,fun b hb=>by grind[blk]⟩ ?_;rintro k fr l q ⟨t,n,rfl,J,rfl,g,leq,ap⟩;have st:=ke hi A J;have R:(i+t)%f.length<f.length:=Q4 _ NH;by_cases c:(i+t)%f.length=j
 .have d:decide ((((i+t)%f.length:Nat):Int)=(j:Int))=tT:=EL NH;refine Sk (XC @bne.eq_1.{0} d) ?_
  grind[Qk]
 .have d:decide ((((i+t)%f.length:Nat):Int)=(j:Int))=fF:=Sb NH;have r:t<(j+f.length-i)%f.length:=hGr;have aw:=aaa ((i+t)%f.length) NH;have K:((i+t)%f.length+1)%f.length=(i+(t+1))%f.length:=by rw[qL222];rfl
  have e:(i+(t+1))%f.length<f.length:=Q4 _ NH;have M:¬((f.length:Int)=0):=NH;have N:=tmod_step (c:=(i+t)%f.length) (m:=f.length) NH;rw[K]at N;have s:(((((i+t)%f.length+1:Nat):Int))).tmod (f.length:Int)=(((i+(t+1))%f.length:Nat):Int):=hGr;have u:aaY .i64 (((i+(t+1))%f.length:Nat):Int)=(((i+(t+1))%f.length:Nat):Int):=cT _ NH NH;obtain⟨w,S,T,e4,O,U,V,l4,hf,-⟩:=g.push q ((f.getD ((i+(t+1))%f.length) 0:Nat):Int) (by grind[y6]);have⟨l5,P⟩:=hf h leq ap;simp only[HO,seval,bne,d,aw,y,M,s,u,ad _ e,ld l leq _ e,e4,O];refine lgA NH ⟨t+1,w,rfl,r,rfl,?_,l5,P⟩;have:L (t+1)=L t++[f.getD ((i+(t+1))%f.length) 0]:=by grind[range_succ]
  grind[kz]
variable {h:aai} {v:Value} {xs:RZ}
theorem GI.tail(g:GI h v xs)(hi:i<=xs.length):
  ∃u,abf Tryz.prog 47 v (some (.int .i64 (i:Int))) none none=some u/\((i=xs.length/\xO u 0)\/(i<xs.length/\∃cap,u=.slice (some (aaq v i)) (xs.length-i) cap)):=by
 obtain⟨k,⟨rfl,d⟩|⟨id,c,cap,rfl,l,m,f⟩⟩:=g
 .have:i=0:=NH;subst this;refine⟨.slice none 0 0,?_,.inl ⟨d.symm,⟨none,0,rfl,Ma⟩⟩⟩;have:¬UNK<=0:=by decide
  simp[abf,Mb,Ac,this,abm,abL]
 .have h2:(0:Int)<=(i:Int):=NH;have h3:(i:Int)<=(xs.length:Int):=NH;have b:UA Tryz.prog 3=1:=Ji;rcases f with rfl|⟨rfl,j⟩
  .refine⟨.slice (some (Ip ⟨id,0,none⟩ i)) (xs.length-i) (UNK+1),by simp[abf,Mb,Ac,b,abm,abL,h2,h3],?_⟩;by_cases c:i=xs.length
   .exact .inl ⟨c,⟨_,_,by rw[c,aj3],Ma⟩⟩
   .exact .inr ⟨NH,_,rfl⟩
  .have a:¬UNK<=xs.length:=Bc.2 (V9 j WY)
   refine⟨.slice (if xs.length=i then some ⟨id,0,none⟩else some (Ip ⟨id,0,none⟩ i)) (xs.length-i) (xs.length-i),by simp[abf,Mb,Ac,b,abm,abL,h2,h3,a],?_⟩
   by_cases c:i=xs.length
   .refine .inl ⟨c,⟨_,_,by rw[c,aj3],Ma⟩⟩
   .exact .inr ⟨NH,_,by rw[abE (fun e=>c e.symm)];rfl⟩
theorem elem_tail(g:GI h v xs)(hi:i<xs.length):aaq (sL (Z (aaq v i)) (xs.length-i) c) j=aaq v (i+j):=by
 obtain⟨a,⟨rfl,b⟩|⟨id,c,cap,rfl,d,e,f⟩⟩:=g
 all_goals grind[fA,Ub]
theorem rev_w(h:m<=100000)(a:2*j<=m):aaY .i64 ((m:Int)-1-(j:Int)-1)=(m:Int)-1-((j+1:Nat):Int):=by grind[ie]
def rev_2(h:2*j+1<m):2*(j+1)<=m:=NH
theorem xB(U:abw)(u v:vV)(xs:RZ)(i:Nat)(h:aai)(g:GI h v xs)(hn:xs.length<=100000)(L:(i=xs.length/\xO u 0)\/(i<xs.length/\∃cap,u=sL (Z (aaq v i)) (xs.length-i) cap)):
  AC pG U 89 [u] h fun _ h'=>GI h' v (xs.take i++(xs.drop i).reverse)/\(∀f,Le f h->Z2 f v->Le f h')/\∀b o,h.own b=Z o->blk v≠Z b->h'.own b=Z o:=by
 have V:i<=xs.length:=hGr;have n:(xs.drop i).length=xs.length-i:=aeP;have lu:∀w,aeh pG w 47 u=Z (.int .i64 ((xs.drop i).length:Int)):=fun w=>by
  rcases L with⟨e,a,c,rfl,_⟩|⟨_,cap,rfl⟩
  .rw[Jg Mb w,n,e,aj3]
  .rw[Jg Mb w,n]
 refine AC.vF qS31 ntmps89 results89 fun W=>?_;have X:aaY .i64 (((xs.drop i).length:Int)-1)=((xs.drop i).length:Int)-1-((0:Nat):Int):=by grind[ie]
 simp only[HO,seval,lu,X];refine lIn (fun k fr y=>∃(j:Nat)(ys:RZ),k=(xs.drop i).length-j/\2*j<=(xs.drop i).length/\fr=mkF [(0,u),(2,j),(3,.int .i64 (((xs.drop i).length:Int)-1-(j:Int)))]/\aju (xs.drop i) ys j/\GI y v (xs.take i++ys)/\(∀f,Le f h->Z2 f v->Le f y)/\∀b o,h.own b=Z o->blk v≠Z b->y.own b=Z o) ⟨0,xs.drop i,rfl,Z6 _,rfl,aju.zero _,by grind[take_append_drop],fun f z _=>z,fun b o hb _=>hb⟩ ?_;rintro k fr y A ⟨j,ys,rfl,hj,rfl,R,M,lq,kq⟩;have B:(xs.drop i).length<=100000:=NH;generalize aa:xs.drop i=ds at*;by_cases c:2*j+1<ds.length
 .have d:decide ((j:Int)<(ds.length:Int)-1-(j:Int))=tT:=EL NH;have C:(ds.length:Int)-1-(j:Int)=((ds.length-1-j:Nat):Int):=NH;have N:j<ys.length:=by rw[R.1];omega
  have h2:ds.length-1-j<ys.length:=by rw[R.1];omega
  have D:i<xs.length:=NH;obtain⟨_,cap,rfl⟩:=L.resolve_left fun q=>by omega
  have tl:(xs.take i).length=i:=hGr;have ll:(xs.take i++ys).length=xs.length:=by rw[Eh,tl,R.1];omega
  have E:i+j<(xs.take i++ys).length:=hGr;have O:i+(ds.length-1-j)<(xs.take i++ys).length:=hGr;have Q:=GI.rl M;have r:∀p:Nat,p<xs.length-i->aao pG 47 (sL (Z (aaq v i)) (xs.length-i) cap) (.int .i64 (p:Int))=Z (pT (Z (aaq v (i+p)))):=fun p F=>by rw[Wc (P:=pG) Mb Ac Ji p F,<-elem_tail g D (c:=cap)];rfl
  have G:=r j NH;have s:=r (ds.length-1-j) NH;have ld1:=Q.Uc _ E;have t:=Q.Uc _ O;have ge:∀p (F:i+p<(xs.take i++ys).length)(H:p<ys.length),(xs.take i++ys)[i+p]=ys[p]:=fun p F H=>by rw[getElem_append_right NH];exact getElem_congr_idx NH
  rw[ge _ E N]at ld1;rw[ge _ O h2]at t;have st:∀(I:RZ) p x,(xs.take i++I).set (i+p) x=xs.take i++I.set p x:=fun I p x=>by grind[set_append_right,Nat.add_sub_cancel_left]
  have⟨h5,e5,S,w5,l5,k5⟩:=GI.store M A E ys[ds.length-1-j];rw[st]at S;have⟨h6,e6,T,w6,l6,k6⟩:=GI.store S w5 (i:=i+(ds.length-1-j)) hGr ys[j];rw[st]at T;have R6:=R.step c N h2;have J:=aaa j NH;have K:=rev_w (m:=ds.length) (j:=j) B hj;rw[<-C]at s;refine Sk d ?_;refine gh (fRn 0 13 (JQ 13 [0,1,4,5,6,7,11,12] (tA [14] (JQ 15 [0,1,2,3,4,5,6,7,8,9,10,11,12,13,14] .done)))) ?_;simp only[HO,seval,Qg,G,s,ld1,t,e5,e6,J,K];exact lgA NH ⟨j+1,_,rfl,rev_2 c,rfl,R6,T,fun f z af=>l6 f (l5 f (lq f z af) af) af,fun b o hb l=>k6 b o (k5 b o (kq b o hb l) l) l⟩
 .have d:decide ((j:Int)<(ds.length:Int)-1-(j:Int))=fF:=Sb NH;refine Sk d ?_;grind[aju.fin]
def sf0(a:Addr):aca pG 98 (pT (Z a)) 0=Z (pT (Z (Ip a 0))):=rfl
def sf1(a:Addr):aca pG 98 (pT (Z a)) 1=Z (pT (Z (Ip a 1))):=rfl
def sf2(a:Addr):aca pG 98 (pT (Z a)) 2=Z (pT (Z (Ip a 2))):=rfl
def sf4(a:Addr):aca pG 98 (pT (Z a)) 4=Z (pT (Z (Ip a 4))):=rfl
structure Sr (h:aai) (B:Nat) (n:Nat) (bv ov fv iv lv:vV):Prop where
 o:h.own B=Z (.cells [n,bv,ov,fv,iv,lv])
section
variable{h:aai}{B n:Nat}{bv ov fv iv lv:vV}
theorem Sr.le{h':aai}(s:Sr h B n bv ov fv iv lv)(e:Le h h'):Sr h' B n bv ov fv iv lv:=⟨e.own _ _ s.o⟩
def Sr.l0(s:Sr h B n bv ov fv iv lv):aaC pG h 3 ⟨B,0,Y⟩=Z (.int .i64 n):=by rw[Fq Ac rfl s.o];rfl
def Sr.l1(s:Sr h B n bv ov fv iv lv):aaC pG h 45 ⟨B,1,Y⟩=Z bv:=by rw[Fq qS6 rfl s.o];rfl
def Sr.l2(s:Sr h B n bv ov fv iv lv):aaC pG h 94 ⟨B,2,Y⟩=Z ov:=by rw[Fq Uh rfl s.o];rfl
def Sr.l3(s:Sr h B n bv ov fv iv lv):aaC pG h 45 ⟨B,3,Y⟩=Z fv:=by rw[Fq qS6 rfl s.o];rfl
def Sr.l4(s:Sr h B n bv ov fv iv lv):aaC pG h 95 ⟨B,4,Y⟩=Z iv:=by rw[Fq qS27 rfl s.o];rfl
def Sr.l5(s:Sr h B n bv ov fv iv lv):aaC pG h 96 ⟨B,5,Y⟩=Z lv:=by rw[Fq afm rfl s.o];rfl
end
theorem qc(n:Nat)(f:II):(eJ n f).length=n:=by simp[eJ]
theorem NN{n v:Nat}(f:II)(a:v<n):(eJ n f)[v]?=Z (decide (v∈f)):=by grind[eJ]
theorem stand_nil(n:Nat):eJ n []=rP n fF:=by apply mJ;grind[NN,qc]
theorem afr{n v:Nat}(f:II)(a:v<n):eJ n (f++[v])=(eJ n f).set v tT:=by apply mJ;grind[NN,qc]
theorem bJ(q:abw)(B n:Nat)(bv ov fv iv lv v:vV)(f:II)(h:aai)(hs:Sr h B n bv ov fv iv lv)(e:RL RP h v (kz f))(hf:∀x∈f,x<n)(r:n<=1000)(C:f.length<=1000):
  AC pG q 109 [pT (Z B),v] h fun x h'=>GS 1 h' x n (Bo (eJ n f))/\Le h h'/\Z2 h x:=by
 refine AC.vF func109 ntmps109 results109 fun c=>?_;have⟨s,u,l1,w1,w⟩:=Tt c (rP n (.bool fF));have mk:=mk100 h n r;rw[u]at mk;have hlen:(kz f).length=f.length:=y6 f;have o:=fun g=>e.TA g;rw[hlen]at o;simp only[HO,seval,sf0,Ip,Gc,hs.l0,mk,o]
 have nT:h.own h.next=Y:=(Le.refl h).next c (qL0 _)
 generalize h.next=T at*
 have y:s.own T=Z (.cells (Bo (eJ n (f.take 0)))):=by rw[w,qL232,stand_nil];simp[Bo]
 refine lIn (fun k fr d=>∃i:Nat,k=f.length-i/\i<=f.length/\fr=mkF [(5,sL (Z T) n n),(13,v),(14,(f.length:Nat)),(15,(i:Nat))]/\d.own T=Z (.cells (Bo (eJ n (f.take i))))/\Le h d) ⟨0,rfl,Z6 _,rfl,y,l1⟩ ?_;rintro k fr d z ⟨i,rfl,hi,rfl,oT,leq⟩;refine Uy ?_;refine Kl.intro (fun p=>?_) (fun hf=>?_)
 .have a:i<f.length:=acb p;clear p;have ad:=e.DH i NH;have ld:=(e.le Nn.RP leq).Uc i NH;rw[sY a]at ld;have j:f.take (i+1)=f.take i++[f[i]]:=XJ a;have l:=hf f[i] (aaf a);generalize f[i]=x at*;have A:aao pG 94 (sL (Z T) n n) (.int .i64 (x:Int))=Z (pT (Z ⟨T,x,Y⟩)):=by rw[Wc Uh eY Ji x l];simp[Ip]
  have st:aaK pG d 4 (pT (Z ⟨T,x,Y⟩)) (.bool tT)=Z (d.put T (.cells (Bo (eJ n (f.take (i+1)))))):=by rw[QB (P:=pG) (t:=4) (x:=.bool tT) eY Ji oT (off:=x) (by rw[ahm,qc];exact l) rfl rfl,Tr,j,afr _ l]
  simp only[HO,seval,ad,ld,A,st,aaa i NH];exact lgA NH ⟨i+1,rfl,a,rfl,aai.Y3 _ _ _,leq.put _ nT⟩
 .have m:f.length<=i:=vp hf;rw[HV m]at oT;refine Uy ?_;refine⟨GS.full oT (by grind[ahm,qc]) NH,leq,fun b hb=>by grind[blk]⟩
theorem QQ(j:abw)(lv:vV)(xs:RZ)(P:Int->Bool)(F:FuncId){fn:Func}{c:Code}(b:Good pG F fn c)(cap:xLV)(h:aai)(d:RL RP h lv xs)(u:xs.length<=100000)(hf:∀x∈xs,AC pG j F (.int .i64 x::cap) h fun y h'=>y=.bool (P x)/\h'=h):
  AC pG j 131 [lv,.func (.func F) #[] cap.toArray] h fun x h'=>((x=.int .i64 (-1)/\xs.any P=fF)\/∃i:Nat,x=(i:Nat)/\xs.any P=tT)/\h'=h:=by
 refine AC.vF func131 ntmps131 results131 fun o=>?_;have p:=fun g=>d.TA g;refine Sk p ?_;refine lIn (fun k fr l=>∃i:Nat,k=xs.length-i/\i<=xs.length/\fr=mkF [(0,lv),(1,.func (.func F) #[] cap.toArray),(7,(xs.length:Nat)),(8,(i:Nat))]/\l=h/\(xs.take i).any P=fF) ⟨0,rfl,Z6 _,rfl,rfl,rfl⟩ ?_;rintro k fr l q ⟨i,rfl,hi,rfl,rfl,e⟩;refine Uy ?_;refine Kl.intro (fun m=>?_) (fun hf=>?_)
 .have a:i<xs.length:=acb m;clear m;have ad:=d.DH i a;have ld:=d.Uc i a;have r:xs.take (i+1)=xs.take i++[xs[i]]:=XJ a;have s:=aaf a;have t:=hf xs[i] s;generalize xs[i]=x at*;simp only[HO,seval,ad,ld];refine TC.intro PJ b (by simpa using t) ?_;rintro y h2 w2 ⟨rfl,rfl⟩;cases v:P x with
  |true=>refine Uy ?_;grind
  |false=>refine Sk (aaa i NH) ?_;refine lgA NH ⟨i+1,rfl,a,rfl,rfl,?_⟩;grind
 .have f:xs.length<=i:=vp hf;rw[HV f]at e;refine Uy ?_;grind
theorem xN(b:abw)(lv:vV)(xs:RZ)(P:Int->Bool)(F:FuncId){fn:Func}{c:Code}(a:Good pG F fn c)(cap:xLV)(h:aai)(f:RL RP h lv xs)(g:xs.length<=100000)(hf:∀x∈xs,AC pG b F (.int .i64 x::cap) h fun y h'=>y=.bool (P x)/\h'=h):
  AC pG b 115 [lv,.func (.func F) #[] cap.toArray] h fun x h'=>x=.bool (xs.any P)/\h'=h:=by
 refine AC.vF func115 ntmps115 results115 fun j=>?_;refine Uy ?_;refine kCi func131 (QQ b lv xs P F a cap h f g hf) ?_;rintro x h2 w2 ⟨⟨rfl,e⟩|⟨i,rfl,e⟩,rfl⟩
 .have d:decide ((-1:Int)>=0)=fF:=by decide
  refine Sk (XC d e) ?_;grind
 .have d:decide ((i:Int)>=0)=tT:=EL NH;refine Sk (XC d e) ?_;grind
attribute [local instance] Classical.propDecidable
theorem out_any(l:abw)(B n f d e v:Nat)(bv m o j p:vV)(F:Cs)(h:aai)(hs:Sr h B n bv m o j p)(hi:RL (RL sJ) h j (F.map (eJ n)))(hf:f<F.length)(q:v<n)(r:h.own e=Z (.cells [pT (Z B)]))(s:h.own d=Z (.cells [f])):
  AC pG l 114 [v,pT (Z e),pT (Z d)] h fun x h'=>x=.bool (!decide (v∈F.getD f []))/\h'=h:=by
 refine AC.vF func114 ntmps114 results114 fun t=>?_;have a:f<(F.map (eJ n)).length:=hGr;have l3:aaC pG h 92 ⟨e,0,Y⟩=Z (pT (Z B)):=by rw[Fq underlying92 rfl r];rfl
 have w:aaC pG h 3 ⟨d,0,Y⟩=Z (.int .i64 (f:Int)):=by rw[Fq Ac rfl s];rfl
 have ad:=hi.addr (P:=pG) qS27 Uh Ji (k:=.i64) f a;have⟨u,lu,g⟩:=hi.load (P:=pG) Uh rfl f a;have y:(F.map (eJ n))[f]=eJ n (F.getD f []):=hGr;rw[y]at g;have b:v<(eJ n (F.getD f [])).length:=by grind[qc]
 have i:=g.LB (k:=.i64) v b;have c:=g.W7 v b;have z:(eJ n (F.getD f []))[v]=decide (v∈F.getD f []):=by have:=NN (F.getD f []) q;grind
 rw[z]at c;refine Uy ?_;refine gh (fRn 0 12 .done) ?_;simp only[HO,seval,Qg,l3,w,sf4,Ip,Gc,hs.l4,ad,lu,i,c]
 try exact⟨trivial,trivial⟩
theorem box72(x:vV)(a:x.oneCell'=tT)(b:x.cells=#[x]):zF h x=Z (pT (Z h.next),h.alloc (.cells [x])):=by grind[zF,IF]
theorem allocI(h:aai):abO pG h 3=Z (pT (Z h.next),h.alloc (.cells [.int .i64 0])):=rfl
theorem newI(hw:WF h)(x:Int):∃a h2,abO pG h 3=Z (pT (Z h.next),a)/\aaK pG a 3 (pT (Z h.next)) x=Z h2/\Le h h2/\WF h2/\h2.own h.next=Z (.cells [x]):=by
 have⟨a,c,l1,w1,b⟩:=Tt hw [.int .i64 0]
 have d:h.own h.next=Y:=(Le.refl h).next hw (qL0 _)
 have st:=QB (P:=pG) (t:=3) (x:=x) Ac Ji b (off:=0) Ma rfl rfl;grind[allocI,Le.put,WF.put,WF.lt,aai.Y3]
theorem NR(p:abw)(B n:Nat)(bv M N q O o r:vV)(F:Cs)(Fm:RZ)(a:II)(h:aai)(hs:Sr h B n bv M N q O)(hi:RL (RL sJ) h q (F.map (eJ n)))(U:RL RP h o Fm)(ha:RL RP h r (kz a))(s:∀x∈Fm,∃v:Nat,x=(v:Int)/\v<n)(t:∀f∈a,f<F.length)(V:Fm.length<=100000)(W:a.length<=100000):
  AC pG p 92 [pT (Z B),o,r] h fun x h'=>GI h' x (kz (zh F Fm a))/\Le h h'/\Z2 h x:=by
 refine AC.vF qS32 ntmps92 results92 fun u=>?_;have⟨w,X,l1,w1,o1⟩:=Tt u [pT (Z B)];have P:=box72 (h:=h) (pT (Z B)) rfl rfl;rw[X]at P;have z:(kz a).length=a.length:=y6 a;have Q:=fun g=>ha.TA g;rw[z]at Q
 generalize h.next=A at*
 refine Sk (XC P Q) ?_;refine lIn (fun k fr l=>∃(i:Nat)(m:vV),k=a.length-i/\i<=a.length/\fr=mkF [(1,o),(3,pT (Z A)),(7,m),(11,r),(12,(a.length:Nat)),(13,(i:Nat))]/\Le w l/\GI l m (kz (zh F Fm (a.take i)))/\Z2 w m) ⟨0,_,rfl,Z6 _,rfl,Le.refl _,GI.nil _,fun b hb=>by simp[blk]at hb⟩ ?_;rintro k fr l C ⟨i,m,rfl,aa,rfl,D,g,ap⟩;refine Uy ?_;refine Kl.intro (fun R=>?_) (fun hf=>?_)
 .have c:i<a.length:=acb R;clear R;have ad:=ha.DH i NH;have ld:=(ha.le Nn.RP (l1.trans D)).Uc i NH;rw[sY c]at ld;have ae:a.take (i+1)=a.take i++[a[i]]:=XJ c;have E:=t a[i] (aaf c);generalize a[i]=f at*;have⟨h2,h3,e2,e3,l3,w3,S⟩:=newI C (f:Int);have e:=D.trans l3;have j:=l1.trans e
  have G:aaC pG h3 3 ⟨l.next,0,Y⟩=Z (.int .i64 (f:Int)):=by rw[Fq Ac rfl S];rfl
  have key:=xN p o Fm (fun x=>!decide (x.toNat∈F.getD f [])) 114 ⟨func114,rfl,WY⟩ [pT (Z A),pT (Z ⟨l.next,0,Y⟩)] h3 (U.le Nn.RP j) V fun x H=>by
   obtain⟨v,rfl,hv⟩:=s x H
   have:=out_any p B n f l.next A v bv M N q O F h3 (hs.le j) (hi.le (Nn.RL Nn.sJ) j) E hv (e.own _ _ o1) S
   rw[yM];exact this
  simp only[HO,seval,ad,ld,e2,e3];refine kCi func115 key ?_;rintro y h4 w4 ⟨rfl,rfl⟩
  have d:zh F Fm (a.take (i+1))=zh F Fm (a.take i)++if(Fm.any fun x=>!decide (x.toNat∈F.getD f []))=fF then[f]else[]:=by grind[zh,fitsB]
  cases hb:(Fm.any fun x=>!decide (x.toNat∈F.getD f []))with
  |true=>rw[hb]at d;refine Sk (aaa i NH) ?_;refine lgA NH ⟨i+1,m,rfl,c,rfl,e,?_,ap⟩;grind[GI.le]
  |false=>
   rw[hb,abe rfl]at d;have g3:=g.le l3;have I:(kz (zh F Fm (a.take i))).length<=100000:=by grind[y6,zh]
   obtain⟨J,h5,h6,e5,e6,T,w6,l5,K,-⟩:=g3.push w3 (f:Int) I;have⟨l6,a6⟩:=K w e ap;have e7:kz (zh F Fm (a.take i))++[(f:Int)]=kz (zh F Fm (a.take (i+1))):=by grind[kz]
   rw[e7]at T;refine Sk (xU G e5 e6 (aaa i NH)) ?_;exact lgA NH ⟨i+1,J,rfl,c,rfl,l6,T,a6⟩
 .have L:a.length<=i:=vp hf;rw[HV L]at g;refine Uy ?_;exact⟨g,l1.trans D,fun b hb=>l1.none (ap b hb)⟩
variable {a b:Int} {p:Pr} {pl:RZ} {α:Type}
theorem Qc{n:Nat}{way:II}(a:way.length<=1000):∀i,i<=way.length->∀(v:Nat) x,(KI n way i)[v]?=Z x->-1<=x/\x<=1000
 |0,_,v,x,h=>by grind[KI.eq_1]
 |i+1,hi,v,x,h=>by
  rw[KI,Tn]at h;split at h
  .grind
  .exact Qc a i NH v x h
theorem Zz(ha:pl.getD p.1.toNat 0=a)(hb:pl.getD p.2.toNat 0=b)(h:a<0\/b<0\/(a-b≠1/\b-a≠1)):aI pl p=tT:=by grind[aI]
theorem ao0(ha:pl.getD p.1.toNat 0=a)(hb:pl.getD p.2.toNat 0=b)(c:¬a<0)(h2:¬b<0)(h3:a-b=1\/b-a=1):aI pl p=fF:=by grind[aI]
def ID{x y:Int}(a:-1<=x/\x<=1000)(b:-1<=y/\y<=1000):aaY .i64 (x-y)=x-y:=ie _ NH NH
theorem fil_b{l:List α}(q:α->Bool)(h:l.length<=1000)(j:Nat):((l.take j).filter q).length+1<=100000:=hGr
theorem QJ(h:m<=1000):m<=40000:=NH
def Lb(h:j<m)(h2:m<=40000):j<4611686018427387904:=NH
theorem Bs(W0:abw)(B n:Nat)(bv ov fv iv lv ev P:vV)(zp:xLP)(way:II)(h:aai)(hs:Sr h B n bv ov fv iv lv)(Q:PR h ev zp)(hw:RL RP h P (kz way))(hR:InR n zp)(R:∀x∈way,x<n)(hn:n<=300)(z:zp.length<=1000)(hl:way.length<=1000):
  AC pG W0 97 [pT (Z B),ev,P] h fun x h'=>GP h' x (V8 n zp way)/\Le h h'/\Z2 h x:=by
 refine AC.vF func97 ntmps97 results97 fun S=>?_;have⟨h1,e1,l1,w1,o1⟩:=Tt S [.int .i64 (-1)];have s1:=hs.le l1;refine Sk (bG @DQ e1 @sf0 @Ip.eq_1 @Gc s1.l0) ?_;refine kCi alD (rN W0 _ n NH h1 (RL.Wh (RS.whole o1 rfl))) ?_;rintro x h2 w2 ⟨T,rfl,hT,o2,l2⟩
 have nT:h.own T=Y:=l1.next w1 hT
 have A:=l1.trans l2;have oT:h2.own T=Z (.cells (Bp (KI n way 0))):=by rw[o2];simp[Bp,KI]
 have hlen:(kz way).length=way.length:=y6 way;have ll:=fun g=>hw.TA g;rw[hlen]at ll;have r:=fun(k:IntKind) j hj=>Kx T n k j hj;refine Sk ll ?_;refine lIn (fun k fr U=>∃i:Nat,k=way.length-i/\i<=way.length/\fr=mkF [(1,ev),(7,sL (Z T) n n),(21,P),(22,(way.length:Nat)),(23,(i:Nat))]/\U.own T=Z (.cells (Bp (KI n way i)))/\Le h U) ⟨0,rfl,Z6 _,rfl,oT,A⟩ ?_;clear oT o2 l2 w2 A;rintro k fr U V ⟨i,rfl,hi,rfl,oT,M⟩;refine Uy ?_;refine Kl.intro (fun C=>?_) (fun hf=>?_)
 .have e:i<way.length:=acb C;clear C;have ad:=hw.DH i NH;have ld:=(hw.le Nn.RP M).Uc i NH;rw[sY e]at ld;have hx:=R way[i] (aaf e);have W:way.getD i 0=way[i]:=D4 e;have st:=stI oT (i:=way[i]) (by grind[Ou]) (i:Int);simp only[HO,seval,ad,ld,r _ _ hx,st,aaa i (Lb e (QJ hl))];refine lgA (JS e) ⟨i+1,rfl,e,rfl,?_,M.put _ nT⟩;rw[aai.Y3,KI,W]
 have D:way.length<=i:=vp hf;obtain rfl:i=way.length:=NH;have rD:=Qc (n:=n) hl way.length (qL0 _);have aq:=Ou n way way.length;have X:=fun g=>Q.len g;unfold V8;generalize KI n way way.length=pl at*;refine Sk X ?_;refine lIn (fun k fr l=>∃(j:Nat)(m:vV),k=zp.length-j/\j<=zp.length/\fr=mkF [(7,sL (Z T) n n),(10,m),(33,ev),(34,(zp.length:Nat)),(35,(j:Nat))]/\l.own T=Z (.cells (Bp pl))/\Le h l/\GP l m ((zp.take j).filter (aI pl))/\Z2 h m/\blk m≠Z T) ⟨0,_,rfl,Z6 _,rfl,oT,M,GP.nil _,fun b hb=>by simp[blk]at hb,by simp[blk]⟩ ?_;clear oT M V;rintro k fr l F ⟨j,m,rfl,hj,rfl,oT,lz,g,ap,nb⟩;refine Uy ?_;refine Kl.intro (fun C=>?_) (fun hf=>?_)
 rotate_left
 .have D:zp.length<=j:=vp hf;rw[HV D]at g;refine Uy ?_;grind
 have c:j<zp.length:=acb C;clear C;have aa:=CA c;have ar:zp.take (j+1)=zp.take j++[zp[j]]:=XJ c;have⟨p1,p2,p3⟩:=hR zp[j] (aaf c);have ad:=Q.addr (k:=.i64) j c;have ld:=(Q.le lz).load aa;generalize zp[j]=p at*;have⟨h3,h4,e3,e4,l4,w4,o4⟩:=Ut F p
 have av:l.own l.next=Y:=(Le.refl l).next F (qL0 _)
 have G:=lz.trans l4;have f:=l4.own _ _ oT;have g4:=g.le l4;have Lp:=uM o4;have L0:=lK o4;have L1:=HY o4
 generalize l.next=E at*
 obtain⟨a,ea⟩:∃a:Nat,p.1=(a:Int):=⟨p.1.toNat,NH⟩;obtain⟨b,eb⟩:∃b:Nat,p.2=(b:Int):=⟨p.2.toNat,NH⟩;have ae:a<n:=NH;have ag:b<n:=NH;rw[ea]at L0;rw[eb]at L1;have ai:a<pl.length:=hGr;have aj:b<pl.length:=hGr;have hA:=CA ai;have hB:=CA aj;have rA:=rD a _ hA;have rB:=rD b _ hB;have H:pl.getD p.1.toNat 0=pl[a]:=hGr;have gB:pl.getD p.2.toNat 0=pl[b]:=hGr;have lA:=ldI f hA;have lB:=ldI f hB;generalize pl[a]=x at*;generalize pl[b]=y at*;have s:=ID rA rB;have I:=ID rB rA;have aw:=aaa j (Lb c (QJ z));have al:=fil_b (aI pl) z j
 have yes:aI pl p=tT->∃d u o,aas pG h4 22 1 [(0,UI p)]=Z (sL (Z h4.next) 1 1,u)/\aaR pG u 22 22 m (sL (Z h4.next) 1 1)=Z (d,o)/\o.own T=Z (.cells (Bp pl))/\Le h o/\GP o d ((zp.take (j+1)).filter (aI pl))/\Z2 h d/\blk d≠Z T:=fun q=>by have⟨d,u,o,v,w,g7,w7,l6,ay,az⟩:=g4.push w4 p al;grind
 have no:aI pl p=fF->(zp.take (j+1)).filter (aI pl)=(zp.take j).filter (aI pl):=fun q=>by grind
 simp only[HO,seval,ad,ld,e3,e4];refine gh (fRn 0 12 .done) ?_;simp only[HO,seval,Qg,Dh,Z0,Ip,Gc,L0,L1,r _ a ae,r _ b ag,lA,lB];by_cases c1:x<0
 .obtain⟨d,u,o,v,w,r1,r2,J,K,L⟩:=yes (Zz H gB (.inl c1));simp only[HO,seval,c1,Lp,v,w,aw];exact lgA (JS c) ⟨j+1,d,rfl,c,rfl,r1,r2,J,K,L⟩
 by_cases c2:y<0
 .obtain⟨d,u,o,v,w,r1,r2,J,K,L⟩:=yes (Zz H gB (.inr (.inl c2)));simp only[HO,seval,c1,c2,Lp,v,w,aw];exact lgA (JS c) ⟨j+1,d,rfl,c,rfl,r1,r2,J,K,L⟩
 by_cases N:x-y=1
 .have t:=no (ao0 H gB c1 c2 (.inl N));have d3:decide (x-y=1)=tT:=EL N;simp only[HO,seval,c1,c2,s,bne,d3,aw];exact lgA (JS c) ⟨j+1,m,rfl,c,rfl,f,G,by rw[t];exact g4,ap,nb⟩
 have d3:decide (x-y=1)=fF:=Sb N;by_cases O:y-x=1
 .have t:=no (ao0 H gB c1 c2 (.inr O));have d4:decide (y-x=1)=tT:=EL O;simp only[HO,seval,c1,c2,s,I,bne,d3,d4,aw];exact lgA (JS c) ⟨j+1,m,rfl,c,rfl,f,G,by rw[t];exact g4,ap,nb⟩
 have d4:decide (y-x=1)=fF:=Sb O;have⟨d,u,o,v,w,r1,r2,J,K,L⟩:=yes (Zz H gB (.inr (.inr ⟨N,O⟩)));simp only[HO,seval,c1,c2,s,I,bne,d3,d4,Lp,v,w,aw];exact lgA (JS c) ⟨j+1,d,rfl,c,rfl,r1,r2,J,K,L⟩
def Hj(h:aai):abO pG h 47=Z (pT (Z h.next),h.alloc (.cells [.slice Y 0 0])):=rfl
structure LL (b0 h:aai) (S5 T6 M7 T n start:Nat) (mv:vV) (st:RZ×II):Prop where
 oS:h.own S5=Z (.cells [start])
 o6:h.own T6=Z (.cells [sL (Z T) n n])
 oT:h.own T=Z (.cells (Bp st.1))
 oM:h.own M7=Z (.cells [mv])
 gm:GI h mv (kz st.2)
 nS:b0.own S5=Y
 n6:b0.own T6=Y
 nT:b0.own T=Y
 nM:b0.own M7=Y
 am:Z2 b0 mv
 d1:T≠T6
 d2:T≠M7
 d3:T≠S5
 d4:M7≠S5
 d5:M7≠T6
 m1:blk mv≠Z S5
 m2:blk mv≠Z T6
 m3:blk mv≠Z T
 m4:blk mv≠Z M7
 le:Le b0 h
section
variable{b0 h:aai}{S5 T6 M7 T n start:Nat}{mv:vV}{st:RZ×II}
theorem LL.up{h':aai}(W:LL b0 h S5 T6 M7 T n start mv st)(e:Le h h'):LL b0 h' S5 T6 M7 T n start mv st:={W with oS:=e.own _ _ W.oS,o6:=e.own _ _ W.o6,oT:=e.own _ _ W.oT,oM:=e.own _ _ W.oM,gm:=W.gm.le e,le:=W.le.trans e}
def LL.lS(W:LL b0 h S5 T6 M7 T n start mv st):aaC pG h 3 ⟨S5,0,Y⟩=Z (.int .i64 (start:Int)):=by rw[Fq Ac rfl W.oS];rfl
def LL.l6(W:LL b0 h S5 T6 M7 T n start mv st):aaC pG h 47 ⟨T6,0,Y⟩=Z (sL (Z T) n n):=by rw[Fq Mb rfl W.o6];rfl
def LL.lM(W:LL b0 h S5 T6 M7 T n start mv st):aaC pG h 47 ⟨M7,0,Y⟩=Z mv:=by rw[Fq Mb rfl W.oM];rfl
end
theorem meet_yes{start:Nat}{st:RZ×II}{v by_:Nat}(h:v≠start)(h2:st.1.getD v 0<0):ahi start st v by_=(st.1.set v (by_:Int),st.2++[v]):=by grind[ahi]
theorem ao1{start:Nat}{st:RZ×II}{v by_:Nat}(h:v=start\/¬st.1.getD v 0<0):ahi start st v by_=st:=by grind[ahi]
theorem K8(l:abw){b0 h:aai}{S5 T6 M7 T n start:Nat}{mv:vV}{st:RZ×II}(W:LL b0 h S5 T6 M7 T n start mv st)(y:st.1.length=n){v by_:Nat}(m:v<n)(z:st.2.length<=1000):
  AC pG l 116 [v,by_,pT (Z S5),pT (Z T6),pT (Z M7)] h fun _ h'=>∃d,LL b0 h' S5 T6 M7 T n start d (ahi start st v by_):=by
 refine AC.vF qS36 ntmps116 results116 fun e=>?_;have o:=CA (show v<st.1.length by omega);have gd:st.1.getD v 0=st.1[v]'(by omega):=D4 NH
 have k:=Kx T n .i64 v m;have ld:=ldI W.oT o;generalize st.1[v]'(by omega)=x at*
 by_cases c1:v=start
 .have d1:decide ((v:Int)=(start:Int))=tT:=EL NH;refine Sk (Yb W.lS @bne.eq_1.{0} d1) ?_
  grind[ao1]
 have d1:decide ((v:Int)=(start:Int))=fF:=Sb NH;by_cases c2:x<0
 rotate_left
 .simp only[HO,seval,W.lS,bne,d1,W.l6,k,ld,c2];grind[ao1]
 have st1:=stI W.oT (i:=v) NH (by_:Int);have b:LL b0 (h.put T (.cells (Bp (st.1.set v (by_:Int))))) S5 T6 M7 T n start mv (st.1.set v (by_:Int),st.2):=
  {W with
   oS:=by grind[aai.By,LL.d3,LL.oS]
   o6:=by grind[aai.By,LL.d1,LL.o6]
   oT:=aai.Y3 _ _ _
   oM:=by grind[aai.By,LL.d2,LL.oM]
   gm:=GS.put W.gm _ W.m3
   le:=W.le.put _ W.nT}
 have w1:WF (h.put T (.cells (Bp (st.1.set v (by_:Int))))):=e.put _ (e.lt W.oT);rw[meet_yes c1 hGr];simp only[HO,seval,W.lS,bne,d1,W.l6,k,ld,c2,st1];generalize h.put T (.cells (Bp (st.1.set v (by_:Int))))=A at*;have⟨d,h2,h3,p,e3,f,B,l2,hf,g⟩:=b.gm.push w1 (v:Int) (by grind[y6]);have⟨l3,q⟩:=hf b0 b.le b.am;have⟨r,m1⟩:=g _ _ b.oS b.m1;have⟨s,m2⟩:=g _ _ b.o6 b.m2;have⟨u,m3⟩:=g _ _ b.oT b.m3;have⟨j,m4⟩:=g _ _ b.oM b.m4;have stM:=QB (P:=pG) (t:=47) (x:=d) Mb Ji j (off:=0) Ma (by obtain⟨a,c,rfl,_⟩:=f.rl.sl;rfl) f.rl.sl.one;simp only[HO,seval,b.lM,p,e3,stM];have w:kz st.2++[(v:Int)]=kz (st.2++[v]):=by simp[kz]
 rw[w]at f;exact⟨d,{b with
   oS:=by grind[aai.By,LL.d4]
   o6:=by grind[aai.By,LL.d5]
   oT:=by grind[aai.By,LL.d2]
   oM:=aai.Y3 _ _ _
   gm:=GS.put f _ m4
   am:=q,m1:=m1,m2:=m2,m3:=m3,m4:=m4
   le:=l3.put _ W.nM}⟩
variable {n:Nat} {rows:AM}
def pf0(a:Addr):aca pG 130 (pT (Z a)) 0=Z (pT (Z (Ip a 0))):=rfl
def pf1(a:Addr):aca pG 130 (pT (Z a)) 1=Z (pT (Z (Ip a 1))):=rfl
def pf2(a:Addr):aca pG 130 (pT (Z a)) 2=Z (pT (Z (Ip a 2))):=rfl
theorem way_at{on:List Bool}{p:wW}{start i:Nat}(h2:¬p.Fm.length<2)(a:(p.Fm.headD 0).toNat=start)(hi:i<n+1)(b:∀j,j<i->XG rows on start (SL n start p.zp) j=fF)(hs:XG rows on start (SL n start p.zp) i=tT):
  J6 n rows on p=match(acz rows start (SL n start p.zp) i).2[i]? with
   |some v=>traceM (acz rows start (SL n start p.zp) i).1 start n v
   |none=>[]:=by grind[List.find?_range_eq_some,J6]
theorem headI0:∀{l:RZ}(h:0<l.length),l.headD 0=l[0]
 |_::_,_=>rfl
def sub_lt1(h:i<n):n+1-(i+1)<n+1-i:=NH
theorem TL(fr:RZ)(start:Nat):∀f,traceM fr start f start=[start]
 |0=>rfl
 |f+1=>by grind[traceM.eq_2]
abbrev TT1:Nat->Prop:=fun _=>True
abbrev TT2:Nat->Nat->Prop:=fun _ _=>True
def trc_k{k f:Nat}(h:k<f+1)(j:Nat)(a:j<k):j<f:=NH
theorem way_any(W0:abw)(B n:Nat)(bv ov fv iv lv ea fa ta:vV)(es:xLP)(on:List Bool)(p:wW)(h:aai)(hs:Sr h B n bv ov fv iv lv)(hb:RL (RL RP) h bv (Zh n es))(ho:RL sJ h ov on)(cx:on.length=n)(Q:PR h ea p.zp)(R:RL RP h fa p.Fm)(bF:ta.oneCell'=tT)(hR:InR n es)(bH:InR n p.zp)(bI:∀x∈p.Fm,∃v:Nat,x=(v:Int)/\v<n)(hn:n<=300)(cz:es.length<=1000)(bN:p.zp.length<=1000)(cC:p.Fm.length<=1000):
  AC pG W0 93 [pT (Z B),.agg #[ea,fa,ta]] h fun x h'=>GI h' x (kz (J6 n (Zh n es) on p))/\Le h h'/\Z2 h x:=by
 refine AC.vF func93 ntmps93 results93 fun bQ=>?_;have⟨S,e1,l1,w1,o1⟩:=Tt bQ [ea,fa,ta];have bx:=aBox3 (h:=h) (a:=ea) (b:=fa) (c:=ta) Q.sl.one R.one bF;rw[e1]at bx
 have P0:∀g,Le S g->aaC pG g 22 ⟨h.next,0,Y⟩=Z ea/\aaC pG g 47 ⟨h.next,1,Y⟩=Z fa:=fun g lg=>by have o:=lg.own _ _ o1;exact⟨by rw[Fq AV rfl o];rfl,by rw[Fq Mb rfl o];rfl⟩
 generalize h.next=P at*
 have lf:=fun g=>R.TA g;by_cases c2:p.Fm.length<2
 .have d2:decide ((p.Fm.length:Int)<2)=tT:=EL NH;refine Sk (rE bx @pf1 @Ip.eq_1 @Gc ((P0 S (Le.refl _)).2) lf @d2) ?_;have e:J6 n (Zh n es) on p=[]:=by grind[J6]
  rw[e];exact⟨GI.nil _,l1,fun b hb=>by grind[blk]⟩
 have d2:decide ((p.Fm.length:Int)<2)=fF:=Sb NH;have f0:0<p.Fm.length:=NH;have aJ:=R.DH 0 f0;have aK:=(R.le Nn.RP l1).Uc 0 f0;have⟨start,bT,cE⟩:=bI _ (aaf f0);have aL:(p.Fm.headD 0).toNat=start:=by grind[headI0]
 rw[bT]at aK;have⟨h2,h3,e2,e3,l3,w3,o3⟩:=newI w1 (start:Int);simp only[Gg]at aJ;refine Sk (rk bx @pf1 @Ip.eq_1 @Gc ((P0 S (Le.refl _)).2) lf @d2 aJ aK e2 e3) ?_
 have aN:h.own S.next=Y:=l1.next w1 (qL0 _)
 generalize S.next=m at*
 have ai:=l1.trans l3;have⟨h4,e4,l4,w4,o4⟩:=Tt w3 [.int .i64 (-1)];have s4:=hs.le (ai.trans l4);refine Sk (bG @DQ e4 @sf0 @Ip.eq_1 @Gc s4.l0) ?_;refine kCi alD (rN W0 _ n NH h4 (RL.Wh (RS.whole o4 rfl))) ?_;rintro x C w5 ⟨T,rfl,hT,o5,l5⟩;have U:=l4.trans l5;have aP:=ai.trans U
 have nT:h.own T=Y:=(ai.trans l4).next w4 hT
 have aT:C.own T=Z (.cells (Bp (rP n (-1)))):=by rw[o5];simp[Bp]
 have aV:=U.own _ _ o3;have⟨h6,e6,l6,w6,o6⟩:=Tt w5 [.slice Y 0 0]
 have n6:h.own C.next=Y:=aP.next w5 (qL0 _)
 have aW:T≠C.next:=fun e=>by have:=w5.lt aT;omega
 have bW:C.next≠m:=fun e=>by have:=w5.lt aV;omega
 have aX:=QB (P:=pG) (t:=47) (x:=sL (Z T) n n) Mb Ji o6 (off:=0) Ma rfl rfl;refine Sk (Yb @Hj e6 aX) ?_
 have aj:Le h (h6.put C.next (.cells (([.slice Y 0 0]:xLV).set 0 (sL (Z T) n n)))):=(aP.trans l6).put _ n6
 have w7:WF (h6.put C.next (.cells (([.slice Y 0 0]:xLV).set 0 (sL (Z T) n n)))):=w6.put _ (w6.lt o6)
 have al:(h6.put C.next (.cells (([.slice Y 0 0]:xLV).set 0 (sL (Z T) n n)))).own T=Z (.cells (Bp (rP n (-1)))):=by grind[aai.By,Le.own]
 have aq:(h6.put C.next (.cells (([.slice Y 0 0]:xLV).set 0 (sL (Z T) n n)))).own m=Z (.cells [start]):=by grind[aai.By,Le.own]
 have ar:(h6.put C.next (.cells (([.slice Y 0 0]:xLV).set 0 (sL (Z T) n n)))).own C.next=Z (.cells [sL (Z T) n n]):=aai.Y3 _ _ _
 have P7:Le S (h6.put C.next (.cells (([.slice Y 0 0]:xLV).set 0 (sL (Z T) n n)))):=((l3.trans U).trans l6).put _ ((l3.trans U).next w5 (qL0 _))
 have a6:T≠m:=fun e=>by have:=w4.lt (l4.own _ _ o3);omega
 generalize C.next=y at*
 generalize h6.put y (.cells (([.slice Y 0 0]:xLV).set 0 (sL (Z T) n n)))=h7 at*;have⟨h8,e8,l8,w8,o8⟩:=Tt w7 [.slice Y 0 0]
 have n8:h.own h7.next=Y:=aj.next w7 (qL0 _)
 have dM:∀{b o},h7.own b=Z o->h7.next≠b:=fun{b o} ob e=>by have:=w7.lt ob;omega
 have bY:=fun g=>Q.len g;refine Sk (rE @Hj e8 @pf0 @Ip.eq_1 @Gc ((P0 h8 (P7.trans l8)).1) bY) ?_
 have W8:LL h h8 m y h7.next T n start (.slice Y 0 0) (rP n (-1),[]):=⟨l8.own _ _ aq,l8.own _ _ ar,l8.own _ _ al,o8,GI.nil _,aN,n6,nT,n8,fun b hb=>by grind[blk],aW,fun e=>dM al e.symm,a6,dM aq,dM ar,by simp[blk],by simp[blk],by simp[blk],by simp[blk],aj.trans l8⟩
 generalize h7.next=M at*
 clear dM n8 o8 P7 ar aq al w7 aj aX bW aW n6 o6 w6 l6 e6 aV aT o5 e4 e8;clear a6 nT aN P0 hT;have a7:BF n start TT1 TT2 ((p.zp.take 0).foldl (abY start) (rP n (-1),[])):=BF.zero;refine lIn (fun k fr hq=>∃(i:Nat)(r:vV),k=p.zp.length-i/\i<=p.zp.length/\fr=mkF [(0,pT (Z B)),(5,pT (Z m)),(6,pT (Z y)),(7,pT (Z M)),(8,.func (.func 116) #[] #[pT (Z m),pT (Z y),pT (Z M)]),(32,ea),(33,(p.zp.length:Nat)),(34,(i:Nat))]/\
   LL h hq m y M T n start r ((p.zp.take i).foldl (abY start) (rP n (-1),[]))/\BF n start TT1 TT2 ((p.zp.take i).foldl (abY start) (rP n (-1),[]))) ⟨0,_,rfl,Z6 _,rfl,W8,a7⟩ ?_
 clear a7 W8 w8 l8;rintro k fr hq a8 ⟨i,r,rfl,hi,rfl,W,F⟩;refine Uy ?_;refine Kl.intro (fun ht=>?_) (fun hf=>?_)
 .have d:i<p.zp.length:=acb ht;clear ht;have bZ:=CA d;have b0:p.zp.take (i+1)=p.zp.take i++[p.zp[i]]:=XJ d;have b1:=aaf d;have⟨p1,p2,p3⟩:=bH p.zp[i] b1;have ad:=Q.addr (k:=.i64) i d;have ld:=(Q.le W.le).load bZ;have N:(p.zp.take (i+1)).foldl (abY start) (rP n (-1),[])=abY start ((p.zp.take i).foldl (abY start) (rP n (-1),[])) p.zp[i]:=hGr;have F1:=(F.Vk [p.zp[i]] fun e he=>by grind[jB]).1;rw[show[p.zp[i]].foldl (abY start) ((p.zp.take i).foldl (abY start) (rP n (-1),[]))=abY start ((p.zp.take i).foldl (abY start) (rP n (-1),[])) p.zp[i]from rfl]at F1;rw[N.symm]at F1;have hm:=F.jI;have hlen:=F.len;generalize p.zp[i]=e at*;have⟨g3,g4,q3,q4,m4,v4,u4⟩:=Ut a8 e;have W4:=W.up m4;have V:=lK u4;have X:=HY u4
  generalize hq.next=E at*
  have aw:=aaa i (Lb d (QJ bN));obtain⟨a,ha⟩:∃a:Nat,e.1=(a:Int):=⟨e.1.toNat,NH⟩;obtain⟨b,sZ⟩:∃b:Nat,e.2=(b:Int):=⟨e.2.toNat,NH⟩;have b2:a<n:=NH;have b3:b<n:=NH;rw[ha]at V;rw[sZ]at X;have aa:((p.zp.take i).foldl (abY start) (rP n (-1),[])).2.length<=1000:=NH;by_cases c1:a=start
  .have d1:decide ((a:Int)=(start:Int))=tT:=EL NH;have eB:abY start ((p.zp.take i).foldl (abY start) (rP n (-1),[])) e=ahi start ((p.zp.take i).foldl (abY start) (rP n (-1),[])) b start:=by grind[abY]
   rw[eB]at N;simp only[HO,seval,ad,ld,q3,q4,Dh,Z0,Ip,Gc,V,X,W4.lS,ag6,d1];refine kCi qS36 (K8 W0 W4 hlen (v:=b) (by_:=start) b3 aa) ?_;rintro x g5 v5 ⟨D,O⟩;simp only[HO,seval,aw];exact lgA (JS d) ⟨i+1,D,rfl,d,rfl,by rw[N];exact O,F1⟩
  have d1:decide ((a:Int)=(start:Int))=fF:=Sb NH;by_cases c3:b=start
  .have d3:decide ((b:Int)=(start:Int))=tT:=EL NH;have eB:abY start ((p.zp.take i).foldl (abY start) (rP n (-1),[])) e=ahi start ((p.zp.take i).foldl (abY start) (rP n (-1),[])) a start:=by grind[abY]
   rw[eB]at N;simp only[HO,seval,ad,ld,q3,q4,Dh,Z0,Ip,Gc,V,X,W4.lS,ag6,d1,d3];refine kCi qS36 (K8 W0 W4 hlen (v:=a) (by_:=start) b2 aa) ?_;rintro x g5 v5 ⟨D,O⟩;simp only[HO,seval,aw];exact lgA (JS d) ⟨i+1,D,rfl,d,rfl,by rw[N];exact O,F1⟩
  .have d3:decide ((b:Int)=(start:Int))=fF:=Sb NH;have eB:abY start ((p.zp.take i).foldl (abY start) (rP n (-1),[])) e=(p.zp.take i).foldl (abY start) (rP n (-1),[]):=by grind[abY]
   rw[eB]at N;simp only[HO,seval,ad,ld,q3,q4,Dh,Z0,Ip,Gc,V,X,W4.lS,ag6,d1,d3,aw];exact lgA (JS d) ⟨i+1,r,rfl,d,rfl,by rw[N];exact W4,F1⟩
 have z:p.zp.length<=i:=vp hf;rw[HV z]at W F;have ae:p.zp.foldl (abY start) (rP n (-1),[])=SL n start p.zp:=rfl;rw[ae]at W F;refine Uy ?_;have ba:SL n start p.zp=acz (Zh n es) start (SL n start p.zp) 0:=rfl;rw[ba]at W F;refine lIn (fun k fr hz=>∃(i:Nat)(r:vV),k=n+1-i/\fr=mkF [(0,pT (Z B)),(5,pT (Z m)),(6,pT (Z y)),(7,pT (Z M)),(8,.func (.func 116) #[] #[pT (Z m),pT (Z y),pT (Z M)]),(11,(i:Nat))]/\
   LL h hz m y M T n start r (acz (Zh n es) start (SL n start p.zp) i)/\BF n start TT1 TT2 (acz (Zh n es) start (SL n start p.zp) i)/\i<=(acz (Zh n es) start (SL n start p.zp) i).2.length/\∀j,j<i->XG (Zh n es) on start (SL n start p.zp) j=fF) ⟨0,r,rfl,rfl,W,F,Z6 _,fun j hj=>absurd hj (y5 _)⟩ ?_
 clear a8 W F z hf hi ba ae i r;rintro k fr hz b4 ⟨i,r,rfl,rfl,W,F,b5,b6⟩;have aa:=F.jI;have hlen:=F.len;have lm:=fun g=>W.gm.rl.TA g;rw[y6]at lm;have av:=way_at (p:=p) (i:=i) (n:=n) (rows:=Zh n es) (on:=on) c2 aL NH b6;simp only[HO,seval,W.lM,lm];refine Kl.intro (fun ht=>?_) (fun hf=>?_)
 rotate_left
 .have z:(acz (Zh n es) start (SL n start p.zp) i).2.length<=i:=vp hf;have ay:(acz (Zh n es) start (SL n start p.zp) i).2[i]?=Y:=aex z;have e:=av (by grind[XG]);simp only[ay]at e;rw[e];refine Uy ?_;exact⟨GI.nil _,W.le,fun b hb=>by grind[blk]⟩
 have d:i<(acz (Zh n es) start (SL n start p.zp) i).2.length:=acb ht;clear ht;have l:=CA d;have az:=W.gm.rl.DH i (by rw[y6];exact d);have G:=W.gm.rl.Uc i (by rw[y6];exact d);rw[sY d]at G;have bb:=aaf d;have b8:=(F.lt _ bb).1;generalize (acz (Zh n es) start (SL n start p.zp) i).2[i]=v at l G bb b8;have sz:=hs.le W.le;have H:v<on.length:=hGr;have aA:=ho.LB (k:=.i64) v H;have A:=(ho.le Nn.sJ W.le).W7 v H;have b9:Wg on v=on[v]:=D4 H;rw[<-b9]at A;have bg:i<n:=NH;cases aB:Wg on v with
 |true=>
  rw[aB]at A;have e:=av (by grind[XG]);simp only[l]at e;rw[e];refine Sk (aoh W.lM az G @sf2 @Ip.eq_1 @Gc sz.l2 aA A) ?_;have par:=F.par;clear e aB;generalize acz (Zh n es) start (SL n start p.zp) i=st at*;refine lIn (fun k fr hy=>∃(cur:Nat)(xv:vV)(L:II),fr=mkF [(5,pT (Z m)),(6,pT (Z y)),(12,(cur:Nat)),(13,xv)]/\LL h hy m y M T n start r st/\GI hy xv (kz L)/\Z2 hz xv/\Le hz hy/\
    traceM st.1 start k cur++L.reverse=traceM st.1 start n v/\(cur=start\/∃q,q<k/\st.2[q]?=Z cur)/\L.length+k=n) ⟨v,_,[],rfl,W,GI.nil _,fun b hb=>by grind[blk],Le.refl _,Ma,.inr ⟨i,bg,l⟩,Ma⟩ ?_
  rintro k fr hy aC ⟨cur,xv,L,rfl,Wy,gx,ax,bh,aD,bj,cJ⟩;by_cases cs:cur=start
  .subst cs;have ds:decide ((cur:Int)=(cur:Int))=tT:=EL rfl;obtain⟨aE,g4,g5,q4,q5,I,v5,m4,aF,-⟩:=gx.push aC (cur:Int) (by grind[y6]);have⟨m5,a5⟩:=aF hz bh ax;have e6:kz L++[(cur:Int)]=kz (L++[cur]):=by simp[kz]
   rw[e6]at I;simp only[HO,seval,Wy.lS,bne,ds,q4,q5];refine kCi qS31 (Wk W0 aE _ g5 I (by rw[y6,Eh,vY];omega)) ?_;rintro x g6 v6 ⟨bk,cc,-⟩;refine Uy ?_;have e7:(kz (L++[cur])).reverse=kz (traceM st.1 cur n v):=by rw[<-aD,TL];simp[kz]
   rw[e7]at bk;have l6:=cc hz m5 a5;exact⟨bk,W.le.trans l6,fun b hb=>W.le.none (a5 b hb)⟩
  .have ds:decide ((cur:Int)=(start:Int))=fF:=Sb NH;have⟨q,cd,bm⟩:=bj.resolve_left cs;obtain⟨f,rfl⟩:∃f,k=f+1:=⟨k-1,NH⟩;have cf:=(F.lt cur (BS bm)).1;have⟨aE,g4,g5,q4,q5,I,v5,m4,aF,cK⟩:=gx.push aC (cur:Int) (by grind[y6]);have⟨m5,a5⟩:=aF hz bh ax;have O:=W.up m5;have e6:kz L++[(cur:Int)]=kz (L++[cur]):=by simp[kz]
   rw[e6]at I;have hL:=CA (show cur<st.1.length by grind);have ld:=ldI O.oT hL;have gd:st.1.getD cur 0=st.1[cur]'(by grind):=D4 _
   rw[traceM,abE cs]at aD;have cg:∃J:Nat,st.1.getD cur 0=(J:Int)/\(J=start\/∃q,q<f/\st.2[q]?=Z J):=by
    rcases par q cur bm with⟨S,_⟩|⟨j,u,S,h2,h3,_⟩
    .grind
    .exact⟨u,h3,.inr ⟨j,trc_k cd j S,h2⟩⟩
   have⟨J,ag,bo⟩:=cg;rw[<-gd,ag]at ld;rw[ag,yM]at aD;simp only[HO,seval,Wy.lS,bne,ds,q4,q5,O.l6,Kx T n .i64 cur cf,ld];refine lgA (afC _) ⟨J,aE,L++[cur],rfl,O,I,a5,m5,?_,bo,?_⟩
   .grind
   grind
 |false=>
  rw[aB]at A;have cj:XG (Zh n es) on start (SL n start p.zp) i=fF:=by grind[XG]
  have br:acz (Zh n es) start (SL n start p.zp) (i+1)=abU start (acz (Zh n es) start (SL n start p.zp) i) v ((Zh n es).getD v []):=by rw[acz,l]
  have aH:v<(Zh n es).length:=by grind[Xq]
  have bz:=hb.NS v aH;have⟨uv,ck,s⟩:=hb.Wm v aH;have bA:(Zh n es).getD v []=(Zh n es)[v]:=D4 aH;generalize (Zh n es)[v]=row at s bA;have lr:=fun g=>s.TA g;have cM:row.length<=3000:=by have:=bV n es row hGr;omega
  rw[bA]at br;simp only[HO,seval,W.lM,az,G,sf1,sf2,Ip,Gc,sz.l1,sz.l2,aA,A,bz,ck hz W.le,lr];clear av lm az G sz aA A bz;generalize acz (Zh n es) start (SL n start p.zp) i=st at*;refine lIn (fun k fr hy=>∃(q:Nat)(r:vV),k=row.length-q/\q<=row.length/\fr=mkF [(0,pT (Z B)),(5,pT (Z m)),(6,pT (Z y)),(7,pT (Z M)),(8,.func (.func 116) #[] #[pT (Z m),pT (Z y),pT (Z M)]),(11,(i:Nat)),(12,(v:Nat)),(98,uv),(99,(row.length:Nat)),(100,(q:Nat))]/\
    LL h hy m y M T n start r (abU start st v (row.take q))/\BF n start TT1 TT2 (abU start st v (row.take q))/\i<(abU start st v (row.take q)).2.length/\(abU start st v (row.take q)).2[i]?=Z v) ⟨0,r,rfl,Z6 _,rfl,W,F,d,l⟩ ?_
  clear b4 W F d l aa hlen b5;clear r;rintro k fr hy aC ⟨q,r,rfl,hq,rfl,W,F,d,l⟩;refine Uy ?_;refine Kl.intro (fun ht=>?_) (fun hf=>?_)
  .have K:q<row.length:=acb ht;clear ht;have cm:=s.DH q K;have cp:=(s.le Nn.RP W.le).Uc q K;have b0:row.take (q+1)=row.take q++[row[q]]:=XJ K;have cq:row[q]∈(Zh n es).getD v []:=hGr;generalize row[q]=x at*;obtain⟨w,rfl,bB⟩:=Ru hR cq;have N:abU start st v (row.take (q+1))=ahi start (abU start st v (row.take q)) w v:=by grind[abU]
   have hm:=F.jI;have hlen:=F.len;obtain⟨F1,⟨t,et⟩,-⟩:=F.meet (v:=w) (by_:=v) bB (.inr ⟨i,l,trivial⟩);rw[<-N]at F1 et;have aw:=aaa q NH;refine Sk (XC cm cp) ?_;refine kCi qS36 (K8 W0 W hlen (v:=w) (by_:=v) bB NH) ?_;rintro x g5 v5 ⟨D,O⟩;rw[<-N]at O;simp only[HO,seval,aw];exact lgA (JS K) ⟨q+1,D,rfl,K,rfl,O,F1,hGr,Z5 et l⟩
  .have z:row.length<=q:=vp hf;rw[HV z,<-br]at W F d;have aw:=aaa i NH;simp only[HO,seval,aw];refine lgA (sub_lt1 bg) ⟨i+1,r,rfl,rfl,W,F,d,fun j hj=>?_⟩;grind
end
end Go.Fw
