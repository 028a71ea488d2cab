/- A text. -/
import Derived.Test.YtnakkbhjoiheoaaGreatFwKC2
set_option linter.all false
set_option maxRecDepth 99999
set_option maxHeartbeats 9999999
open Go.Proofs
open Option renaming some→Z,none→Y
open Bool renaming true→tT,false→fF
open List renaming replicate→rP,range→rG
open Go.Value renaming slice→sL,pointer→pT
open Go renaming Value→vV
open Go.Proofs.Tryz renaming prog→pG
open Go.Proofs.Tryz
open List
namespace Go.Fw
section
attribute [local instance] Classical.propDecidable
attribute [local irreducible] Jz JL vq cQ
theorem sing_of{l:II}{y:Nat}(nd:l.Nodup)(h:∀w,w∈l↔w=y):l=[y]:=by have a:l.Perm [y]:=hGr;grind[perm_singleton]
def ai5(x y v:Nat):II:=if v=x then[y]else if v=y then[x]else[]
theorem mem_oneR{x y v w:Nat}(ne:x≠y):w∈ai5 x y v↔(v=x/\w=y)\/(v=y/\w=x):=by grind[ai5]
theorem ajn{n x y:Nat}(a:x<n)(c:y<n)(ne:x≠y):V7 n (ai5 x y):=by
 refine⟨fun v=>?_,fun v w h=>?_,fun v w h=>?_,fun v h=>?_⟩
 all_goals grind[ai5]
theorem oneR_flat{n x y:Nat}(d:x<n)(g:y<n)(ne:x≠y):Flat n (ai5 x y):=by
 have P:=(agx (n:=n+3) (A:=fun _ _=>False) NH fun _ _ q=>q).aac (v:=x) (a:=y) (fun _ q=>q) NH NH ne;have⟨R,r,f,m⟩:=P;have e:R=ai5 x y:=by
  funext v;unfold ai5;by_cases c:v=x
  .subst c;rw[WA rfl];exact sing_of (r.nd v) fun w=>by grind
  rw[IE c];by_cases h2:v=y
  .subst h2;rw[WA rfl];exact sing_of (r.nd v) fun w=>by grind
  rw[IE h2];exact Tn.2 hGr
 grind[ajn,adV]
theorem V7.upto{n m:Nat}{r:Nat->II}(R:V7 m r)(h:m<=n):V7 n r:=⟨R.nd,fun v w q=>aiq (R.lt v w q) h,R.sy,R.ir⟩
theorem aiX{m:Nat}{r:Nat->II}(R:V7 m r):∀k:Nat,Flat m r->Flat (m+k) r
 |0,f=>f
 |k+1,f=>(adV (by grind[V7.upto])).2 (aiX R k f)
noncomputable def ag2(n:Nat)(b:xLP)(v:Nat):RZ:=
 if b.length=1 then(if(v:Int)=(b.headD (0,0)).1 then[(b.headD (0,0)).2]else if(v:Int)=(b.headD (0,0)).2 then[(b.headD (0,0)).1]else[])
 else if v∈aag n b then(((ajk (aag n b).length (aat n b)).getD []).getD (abD n b (v:Int)) []).map fun j=>(((aag n b).getD j.toNat 0:Nat):Int)else[]
noncomputable def acr(n:Nat)(b:xLP)(v:Nat):II:=(ag2 n b v).map Int.toNat
structure ah0 (n:Nat) (b:xLP):Prop where
 Rl:V7 n (acr n b)
 flat:Flat n (acr n b)
 mem:∀v w,w∈acr n b v↔Jp b v w
 nat:∀v,ag2 n b v=(acr n b v).map fun(w:Nat)=>(w:Int)
section
variable{n:Nat}{b:List Pr}(O:aeo n b)
include O
theorem aeo.rowOne(a:b.length=1):ah0 n b:=by
 have hR:=O.1.GD;obtain⟨p,rfl⟩:=ak2.1 a;have⟨a1,a2,d⟩:=hR p Ma;have⟨f,c⟩:=p;obtain⟨x,rfl⟩:=Sb a1;obtain⟨y,rfl⟩:=Sb (show 0<=c by omega);have ne:x≠y:=NH;have e:acr n [((x:Int),(y:Int))]=ai5 x y:=by grind[acr,ag2,ai5]
 refine⟨by grind[ajn],by grind[oneR_flat],fun v w=>?_,fun v=>?_⟩
 .rw[e,mem_oneR ne];grind[Jp]
 .unfold acr ag2;by_cases c1:(v:Int)=(x:Int)
  .simp[c1]
  .all_goals grind
theorem aeo.rowMany(h2:2<=b.length){rs:AM}(o:ajk (aag n b).length (aat n b)=Z rs)(G:Av (aag n b).length (aat n b) rs)(hf:Flat (aag n b).length (Xl rs)):ah0 n b:=by
 have hR:=O.1.GD;have i:=ad6 O.1;have a:=i.GD;have c:=G.jD a i.q9;have g:(aag n b).length<=n:=by have:=OM (fun v=>b.any fun p=>aO p ((v:Nat):Int)) (rG n);rw[y5]at this;exact this
 have N:=(ren_V n b).flip;have d:=c.upto g;have l:Flat n (Xl rs):=by grind[aiX,Nat.add_sub_cancel']
 have m:∀j,j<(aag n b).length->ofV n b j=(aag n b).getD j 0:=by grind[ofV,acw]
 have row:∀v,v∈aag n b->ag2 n b v=(rs.getD (abD n b (v:Int)) []).map fun j=>(((aag n b).getD j.toNat 0:Nat):Int):=by grind[ag2]
 have k:∀v,v∉aag n b->ag2 n b v=[]:=by grind[ag2]
 have e:acr n b=uH n (ofV n b) (toV n b) (Xl rs):=by
  funext v;unfold acr;by_cases f:v∈aag n b
  .have h:=(aeT.1 f).1;rw[row v f];unfold uH;rw[WA h,(toV_idx (b:=b) f).1,Xl,Vn,Vn];grind[map_congr_left,Av.nat,Int.toNat_natCast]
  grind[uH,abk,Xl,Av.len]
 refine⟨by grind[aef],by grind[pd],fun v w=>?_,fun v=>?_⟩
 .rw[e,uX N d,G.mem a,abR hR];grind[abk,Jp.lt,toV_lt]
 .unfold acr;by_cases f:v∈aag n b
  .rw[row v f];simp
  grind
end
theorem blk_apart{n:Nat}{es:xLP}(j:bX ⟨(n:Int),es⟩){k:Int}(hb:abb n es k∈vq n es){r:Nat->II}(hA:∀v w,w∈r v->Jp es v w/\cQ n es (GW v w)≠k){x y:Nat}(p:∃w,Jp (abb n es k) x w)(q:∃w,Jp (abb n es k) y w)(ne:x≠y)(c:Cr r x y):False:=by
 have hR:=j.GD;have O:=aaQ j hb;have⟨G,f⟩:=p;have⟨H,g⟩:=q;obtain⟨z,z',rfl,A,I,B⟩:=agI (S:=fun u=>u=x) (O.bp f g) rfl (Hs ne);obtain⟨l,nd,⟨t,m⟩,⟨s,J⟩,o,-⟩:=uF c;cases t with
 |nil=>grind
 |cons a t=>
  have K:=hA _ _ (o 0 z a (by rw[m];rfl) (by rw[m];rfl));have L:z∉a::t:=hGr;have walk:∀(i u:Nat),(a::t)[i]?=Z u->Cn (wo z) es a u:=fun i=>by
   induction i with
   |zero=>intro u d;injection d with d;subst d;exact .refl hGr
   |succ i C=>intro u d;have D:=(Ny.1 d).1;have hi:i<(a::t).length:=NH;have E:=C _ (Gc hi);refine .step E (hA _ _ (o (i+1) _ u hGr hGr)).1 hGr
  have h:y∈a::t:=hGr;have⟨i,hi⟩:=aax.1 h;have c1:=walk i y hi;have c2:Cn (wo z) es z' y:=Cn.mono (fun e F=>(aaw.1 F).1) (agf (fun u d=>iO fun e=>by grind) B);grind[abM,dR,Cn.trans,Cn.symm]
noncomputable def ag3(n:Nat)(bs:List xLP):AM:=(rG n).map fun v=>bs.flatMap fun b=>ag2 n b v
theorem aic(n:Nat)(bs:List xLP):(ag3 n bs).length=n:=by simp[ag3]
theorem aiB{n:Nat}{bs:List xLP}{v:Nat}(a:v<n):(ag3 n bs).getD v []=bs.flatMap fun b=>ag2 n b v:=by grind[ag3]
theorem catN_ok{n:Nat}{es:xLP}(a:bX ⟨(n:Int),es⟩):∀(pre:RZ),pre.Nodup->(∀k∈pre,abb n es k∈vq n es/\ah0 n (abb n es k))->
  V7 n (fun v=>pre.flatMap fun k=>acr n (abb n es k) v)/\Flat n (fun v=>pre.flatMap fun k=>acr n (abb n es k) v)/\∀v w,w∈(pre.flatMap fun k=>acr n (abb n es k) v)↔∃k∈pre,Jp (abb n es k) v w:=by
 have hR:=a.GD;have key:∀(m:Nat)(pre:RZ),pre.length=m->pre.Nodup->(∀k∈pre,abb n es k∈vq n es/\ah0 n (abb n es k))->
  V7 n (fun v=>pre.flatMap fun k=>acr n (abb n es k) v)/\Flat n (fun v=>pre.flatMap fun k=>acr n (abb n es k) v)/\∀v w,w∈(pre.flatMap fun k=>acr n (abb n es k) v)↔∃k∈pre,Jp (abb n es k) v w:=by
  intro m
  induction m with
  |zero=>
   intro pre g _ _;obtain rfl:=im g;have P:=agx (n:=n+3) (A:=fun _ _=>False) NH fun _ _ q=>q;have⟨R,r,f,m⟩:=P;have e:R=fun v=>([]:RZ).flatMap fun k=>acr n (abb n es k) v:=by funext v;exact Tn.2 hGr
   rw[e]at f;have i:∀N,V7 N (fun v=>([]:RZ).flatMap fun k=>acr n (abb n es k) v):=fun N=>⟨fun v=>by simp,hGr,hGr,hGr⟩;exact⟨i n,(by grind[adV]),hGr⟩
  |succ m j=>
   intro pre C nd h;obtain⟨pre,k,rfl⟩:∃l k,pre=l++[k]:=⟨pre.dropLast,pre.getLast hGr,(Cj _).symm⟩;obtain⟨n1,-,n3⟩:=ZT.1 nd;have⟨o,p,d⟩:=j pre hGr n1 hGr;have⟨hb,B⟩:=h k Ma;have H:abC n (fun v=>pre.flatMap fun k=>acr n (abb n es k) v) (acr n (abb n es k)) fun z=>∃w,Jp (abb n es k) z w:=by refine⟨o,B.Rl,(by grind[ah0.mem]),fun x y s t ne c=>?_⟩;refine blk_apart a hb (fun v w q=>?_) s t ne c;have⟨D,u,q⟩:=(d v w).1 q;grind[abM]
   have e:(fun v=>(pre++[k]).flatMap fun k=>acr n (abb n es k) v)=aar (fun v=>pre.flatMap fun k=>acr n (abb n es k) v) (acr n (abb n es k)):=by grind[aar]
   rw[e];refine⟨H.Rl,H.flat p B.flat,fun v w=>?_⟩;have:((pre++[k]).flatMap fun k=>acr n (abb n es k) v)=aar (fun v=>pre.flatMap fun k=>acr n (abb n es k) v) (acr n (abb n es k)) v:=by simp[aar]
   rw[this,aaT,d,B.mem];grind
 grind
theorem cert_ok{n:Nat}{es:xLP}(c:bX ⟨(n:Int),es⟩)(h:∀b∈vq n es,ah0 n b):Av n es (ag3 n (vq n es))/\Flat n (Xl (ag3 n (vq n es))):=by
 have hR:=c.GD;have⟨a,f⟩:=ahE (cQ n es) _ es rfl;have eb:vq n es=(CY (cQ n es) es).map fun k=>abb n es k:=aaB n es;have g:∀k∈CY (cQ n es) es,abb n es k∈vq n es/\ah0 n (abb n es k):=hGr;have⟨e,m,i⟩:=catN_ok c _ a g;have row:∀v,(vq n es).flatMap (fun b=>ag2 n b v)=((CY (cQ n es) es).flatMap fun k=>acr n (abb n es k) v).map fun(w:Nat)=>(w:Int):=fun v=>by
  rw[eb,qL230,qL231];have o:∀L:RZ,(∀k∈L,ag2 n (abb n es k) v=(acr n (abb n es k) v).map fun(w:Nat)=>(w:Int))->(L.flatMap fun k=>ag2 n (abb n es k) v)=L.flatMap fun k=>(acr n (abb n es k) v).map fun(w:Nat)=>(w:Int):=fun L=>by
   induction L<;>grind
  grind[ah0.nat]
 have p:Xl (ag3 n (vq n es))=fun v=>(CY (cQ n es) es).flatMap fun k=>acr n (abb n es k) v:=by
  funext v;unfold Xl;by_cases d:v<n
  .rw[aiB d,row v,Vn];exact(V3 hGr).trans (QU _)
  .rw[VU,AQ (by grind[aic])];symm;refine Tn.2 fun w hw=>?_;have:=e.lt v w hw;omega
 have mem:∀v w,w∈((CY (cQ n es) es).flatMap fun k=>acr n (abb n es k) v)↔Jp es v w:=fun v w=>by
  rw[i];constructor
  .grind[abM]
  .intro q;exact⟨cQ n es (GW v w),(by grind[H4]),(by grind[abM])⟩
 refine⟨⟨aic _ _,fun v d=>?_⟩,hGr⟩;rw[aiB d,row v];have j:((CY (cQ n es) es).flatMap fun k=>acr n (abb n es k) v).Perm (agX (Zh n es) v):=agD (e.nd v) (agE hR c.q9 v) (by grind[acu]);have l:=j.map fun(w:Nat)=>(w:Int);refine l.trans (List.Perm.of_eq ?_);unfold agX;rw[Vn];refine(V3 fun x r=>?_).trans (QU _);grind[Ru]
end
variable {n:Nat}
def aem{b:xLP}(O:aeo n b):aak n b↔XU n (eN n b):=ako O.1
variable {N a b m x y:Nat} {p q:Nat->Nat} {r:Nat->II}
def hP(n m:Nat)(x:Nat):Nat:=if x<m then n+x else x-m
def hQ(n m:Nat)(y:Nat):Nat:=if y<n then y+m else y-n
def swN(a b:Nat)(x:Nat):Nat:=if x=a then b else if x=b then a else x
theorem ren_hP(n m:Nat):Ren (n+m) (hP n m) (hQ n m):=by
 refine⟨fun v h=>?_,fun v h=>?_,fun v h=>?_,fun v h=>?_⟩
 all_goals grind[hP,hQ]
theorem ren_sw(ha:a<N)(hb:b<N):Ren N (swN a b) (swN a b):=by
 refine⟨fun v h=>?_,fun v h=>?_,fun v h=>?_,fun v h=>?_⟩
 all_goals grind[swN]
theorem Ren.comp{p q a b:Nat->Nat}(h:Ren N p q)(h':Ren N a b):Ren N (fun x=>a (p x)) (fun y=>q (b y)):=⟨by grind[Ren.pl],(by grind[Ren.ql]),(by grind[Ren.pq,Ren.ql]),(by grind[Ren.qp,Ren.pl])⟩
theorem cr_in(R:V7 n r)(h:Cr r x y):x=y\/(x<n/\y<n):=by
 induction h with
 |refl=>grind
 |step _ a b=>have c:=R.lt _ _ a;have h2:=R.lt _ _ (R.sy _ _ a);grind
theorem akP{c a E:Nat->II}{S:Nat->Prop}(N:Ren (n+m) p q)(rg:V7 n c)(g:V7 m a)(z:∀x y,y∈E x↔y∈c x\/(x<n+m/\y<n+m/\q y∈a (q x)))(A:∀x,x<m->S (p x))(B:∀x y,S x->S y->x<n->y<n->x=y):XU (n+m) E↔XU n c/\XU m a:=by
 have b:V7 (n+m) a:=by grind[V7.upto]
 have i:V7 (n+m) (uH (n+m) p q a):=aef N b;have C:∀x y,y∈uH (n+m) p q a x↔x<n+m/\y<n+m/\q y∈a (q x):=by grind[uX]
 have e:XU (n+m) c↔XU n c:=by grind[XU.al0,V7.lt]
 have d:XU (n+m) a↔XU m a:=by rw[qL258];exact XU.al0 (fun v w h=>g.lt v w h) n
 have j:∀x y,y∈uH (n+m) p q a x->S x:=by grind[Ren.pq,V7.lt]
 constructor
 .intro f;refine⟨e.1 (f.less hGr (by grind[V7.sy])),d.1 ?_⟩;have k:XU (n+m) (uH (n+m) p q a):=f.less hGr (by grind[V7.sy]);refine XU.ren (p:=q) (q:=p) ⟨N.ql,N.pl,N.qp,N.pq⟩ (fun v w=>?_) k;constructor
  .intro h;have D:=b.lt _ _ h;have hw:=b.lt _ _ (b.sy _ _ h);grind[Ren.pl,Ren.qp]
  grind[Ren.qp]
 .rintro⟨hg,hh⟩;have⟨r,l,o,m1⟩:=hg;have⟨s,t,u,m2⟩:=XU.ren (E':=uH (n+m) p q a) N hGr (d.2 hh);have H:abC (n+m) r s S:=⟨by grind[V7.upto],t,hGr,(by grind[cr_in])⟩;exact⟨aar r s,H.Rl,H.flat (aiX l m o) u,(by grind[aaT])⟩
end Go.Fw
namespace Go.Fw
attribute [local irreducible] Kp MQ lU KO1 KO KN KX KE VK Kl ZJ TC aab
attribute [local irreducible] Jz JL vq cQ
structure ag5 (b0 h:aai) (L:Nat) (us0 us:xLV) (rows:AM):Prop where
 oL:h.own L=Z (.cells us0)
 len0:us0.length=rows.length
 len:us.length=rows.length
 gs:∀(v:Nat) u r,us[v]?=Z u->rows[v]?=Z r->GS 1 h u r.length (Bp r)
 nL:∀(v:Nat) u,us[v]?=Z u->blk u≠Z L
 TE:∀(v w:Nat) u u' b,v≠w->us[v]?=Z u->us[w]?=Z u'->blk u=Z b->blk u'≠Z b
 ap:∀(v:Nat) u,us[v]?=Z u->Z2 b0 u
 le:Le b0 h
 bL:b0.own L=Y
section
variable{b0 h h':aai}{L:Nat}{us0 us:List vV}{rows:AM}
def Rows.w(R:Rows b0 h L us rows):ag5 b0 h L us us rows:=⟨R.oL,R.len,R.len,R.gs,R.nL,R.TE,R.ap,R.le,R.bL⟩
def ag5.r(R:ag5 b0 h L us us rows):Rows b0 h L us rows:=⟨R.oL,R.len,R.gs,R.nL,R.TE,R.ap,R.le,R.bL⟩
theorem ag5.up(R:ag5 b0 h L us0 us rows)(e:Le h h'):ag5 b0 h' L us0 us rows:=⟨e.own _ _ R.oL,R.len0,R.len,fun v u r a b=>(R.gs v u r a b).le e,R.nL,R.TE,R.ap,R.le.trans e,R.bL⟩
def ag5.fresh(R:ag5 b0 h L us0 us rows){id:Nat}(a:h.own id=Y):id≠L/\∀(v:Nat) u,us[v]?=Z u->blk u≠Z id:=by refine⟨(fun e=>by rw[e,R.oL]at a;cases a),fun v u b hb=>?_⟩;obtain⟨q,c⟩:∃q,rows[v]?=Z q:=⟨_,CA (by have:=R.len;have:=(Ny.1 b).1;omega)⟩;exact(R.gs v u q b c).Sy hb a
def ag5.app(R:ag5 b0 h L us0 us rows)(f:WF h){w:Nat}{r:RZ}(C:rows[w]?=Z r){id:Nat}{x:Int}(G:h.own id=Z (.cells [x]))(I:r.length<=100000):
  ∃u u' l,us[w]?=Z u/\aaR pG h 28 28 u (sL (Z id) 1 1)=Z (u',l)/\ag5 b0 l L us0 (us.set w u') (rows.set w (r++[x]))/\WF l/\Le b0 l/\xO u' (r.length+1)/\
   (∀b o,h.own b=Z o->(∀(v:Nat) a,us[v]?=Z a->blk a≠Z b)->l.own b=Z o/\∀(v:Nat) a,(us.set w u')[v]?=Z a->blk a≠Z b):=by
 have i:w<us.length:=by have:=R.len;have:=(Ny.1 C).1;omega
 have k:=CA i;generalize us[w]=u at k;have g:=R.gs w u r k C;have⟨u',l,D,E,hf⟩:=g.push (P:=pG) (t:=28) Ji G (yG _) rfl NH;have y:WF l:=xr f D;have⟨A,B⟩:=aG hf f R.oL (R.nL w u k);have⟨l5,H⟩:=hf b0 f R.le (R.ap w u k);refine⟨u,u',l,k,D,⟨A,by simpa using R.len0,by simpa using R.len,fun v a q ha d=>?_,fun v a ha=>?_,fun v v' a a' b n ha mi hb=>?_,fun v a ha=>?_,l5,R.bL⟩,y,l5,E.cs.sl,fun b o hb p=>?_⟩
 .rw[j3]at ha d;by_cases e:w=v
  .subst e;rw[WA rfl,WA i]at ha;rw[WA rfl,WA (by have:=R.len;omega)]at d;injection ha with ha;injection d with d;subst ha;subst d;rw[aaf];have:Bp (r++[x])=Bp r++[.int .i64 x]:=by simp[Bp]
   rw[this];exact E
  .rw[IE e]at ha d;refine(R.gs v a q ha d).kept fun b o hb j=>(aG hf f j fun s=>R.TE w v u a b e k ha s hb).1
 .rw[j3]at ha;by_cases e:w=v
  .subst e;rw[WA rfl,WA i]at ha;injection ha with ha;subst ha;exact B
  .rw[IE e]at ha;exact R.nL v a ha
 .rw[j3]at ha mi;have m:∀(z:Nat) c,us[z]?=Z c->∀b,blk c=Z b->∃o,h.own b=Z o:=fun z c F b hb=>by
   obtain⟨q,d⟩:∃q,rows[z]?=Z q:=⟨_,CA (by have:=R.len;have:=(Ny.1 F).1;omega)⟩;exact jz.1 ((R.gs z c q F d).Sy hb)
  by_cases e:w=v
  .subst e;rw[WA rfl,WA i]at ha;injection ha with ha;subst ha;rw[IE n]at mi;intro sZ;have⟨o,j⟩:=m v' a' mi b sZ;exact(aG hf f j fun s=>R.TE w v' u a' b n k mi s sZ).2 hb
  .rw[IE e]at ha;by_cases e':w=v'
   .subst e';rw[WA rfl,WA i]at mi;injection mi with mi;subst mi;have⟨o,j⟩:=m v a ha b hb;exact(aG hf f j fun s=>R.TE w v u a b e k ha s hb).2
   .rw[IE e']at mi;exact R.TE v v' a a' b n ha mi hb
 .rw[j3]at ha;by_cases e:w=v
  .subst e;rw[WA rfl,WA i]at ha;injection ha with ha;subst ha;exact H
  .rw[IE e]at ha;exact R.ap v a ha
 .obtain⟨k1,k2⟩:=aG hf f hb (p w u k);refine⟨k1,fun v a ha=>?_⟩;rw[j3]at ha;by_cases e:w=v
  .subst e;rw[WA rfl,WA i]at ha;injection ha with ha;subst ha;exact k2
  .rw[IE e]at ha;exact p v a ha
def ag5.st(R:ag5 b0 h L us0 us rows)(a:WF h){w k:Nat}{u':vV}(hw:w<rows.length)(hs:xO u' k):aaK pG h 28 (pT (Z ⟨L,w,Y⟩)) u'=Z (h.put L (.cells (us0.set w u')))/\ag5 b0 (h.put L (.cells (us0.set w u'))) L (us0.set w u') us rows/\WF (h.put L (.cells (us0.set w u'))):=by have st:=QB (P:=pG) (t:=28) (x:=u') Mb Ji R.oL (off:=w) (by rw[R.len0];exact hw) (by obtain⟨_,_,rfl,_⟩:=hs;rfl) hs.one;refine⟨st,⟨aai.Y3 _ _ _,by simpa using R.len0,R.len,fun v u r b c=>GS.put (R.gs v u r b c) _ (R.nL v u b),R.nL,R.TE,R.ap,R.le.put _ R.bL,R.bL⟩,a.put _ (a.lt R.oL)⟩
end
def Rows.ix{n:Nat}(L:Nat)(k:IntKind)(j:Nat)(a:j<n):aao pG 26 (sL (Z L) n n) (.int k j)=Z (pT (Z ⟨L,j,Y⟩)):=by rw[Wc qS22 Mb Ji j a];simp[Ip]
theorem Rows.base{b0 a h:aai}{L:Nat}{us:xLV}{rows:AM}(R:Rows a h L us rows)(e:Le b0 a):Rows b0 h L us rows:=
 have key:∀b,a.own b=Y->b0.own b=Y:=fun b hb=>by
  cases c:b0.own b with
  |none=>rfl
  |some o=>rw[e.own _ _ c]at hb;cases hb
 ⟨R.oL,R.len,R.gs,R.nL,R.TE,fun v u d b hb=>key b (R.ap v u d b hb),e.trans R.le,key L R.bL⟩
noncomputable def aiC(n:Nat)(rows:AM)(b:xLP):AM:=(rG n).map fun v=>rows.getD v []++ag2 n b v
def addR_len(n:Nat)(rows:AM)(b:xLP):(aiC n rows b).length=n:=by simp[aiC]
def ag5.rest{b0 g:aai}{L x y idx:Nat}{us:xLV}{rows:AM}{rx ry:RZ}{c:vV}{a:Int}{z:Int}(p:ag5 b0 g L us (us.set x c) (rows.set x (rx++[z])))(q:WF g)(ne:x≠y)(E:x<rows.length)(l:rows[y]?=Z ry)(s:ry.length<=100000)(ox:g.own idx=Z (.cells [a]))(f:xO c (rx.length+1)):
  ∃e b d m i,us[y]?=Z e/\aaR pG g 28 28 e (sL (Z idx) 1 1)=Z (b,d)/\aaK pG d 28 (pT (Z ⟨L,x,Y⟩)) c=Z m/\aaK pG m 28 (pT (Z ⟨L,y,Y⟩)) b=Z i/\
   d.own L=Z (.cells us)/\Rows b0 i L ((us.set x c).set y b) ((rows.set x (rx++[z])).set y (ry++[a]))/\WF i:=by
 have j:(rows.set x (rx++[z]))[y]?=Z ry:=by rw[j3,IE ne];exact l
 obtain⟨e,b,d,n,t,o,w1,-,k,-⟩:=p.app q j ox s;have u:((rows.set x (rx++[z])).set y (ry++[a])).length=rows.length:=by simp
 have v:=(Ny.1 l).1;have⟨s2,A,w2⟩:=o.st w1 (w:=x) NH f;have⟨B,C,D⟩:=A.st w2 (w:=y) NH k;rw[j3,IE ne]at n;exact⟨e,b,d,_,_,n,t,s2,B,o.oL,C.r,D⟩
def ajI(W0:LA)(b0 h:aai)(L n:Nat)(us:xLV)(rows:AM)(R:Rows b0 h L us rows)(av:rows.length=n)(bv:vV)(x y:Nat)(hp:PR b0 bv [((x:Int),(y:Int))])(hx:x<n)(hy:y<n)(ne:x≠y)(o:∀r∈rows,r.length<=1000):
  AC pG W0 35 [sL (Z L) n n,bv] h fun v h'=>v=.bool tT/\∃f,f.length=n/\Rows b0 h' L f ((rows.set x (rows.getD x []++[(y:Int)])).set y (rows.getD y []++[(x:Int)])):=by
 have D:=hp.le R.le;have lb:=fun g=>hp.len g;refine AC.vF func35 ntmps35 results35 fun q=>?_;have d1:decide ((([((x:Int),(y:Int))]:xLP).length:Int)=1)=tT:=rfl;have ad:=hp.addr (k:=.i64) 0 Ma;have L0:=D.l0 (i:=0) (p:=((x:Int),(y:Int))) rfl;have L1:=D.l1 (i:=0) (p:=((x:Int),(y:Int))) rfl;simp only[Int.ofNat_zero,ur]at ad;refine Sk (XC lb d1) ?_;refine gh (fRn 0 10 .done) ?_;simp only[HO,seval,Qg,ad,Dh,Z0,L0,L1];have gx:rows[x]?=Z (rows.getD x []):=by rw[VU,Gc NH];rfl
 have gy:rows[y]?=Z (rows.getD y []):=by rw[VU,Gc NH];rfl
 have qx:(rows.getD x []).length<=100000:=by have:=o _ (XJ gx);omega
 have qy:(rows.getD y []).length<=100000:=by have:=o _ (XJ gy);omega
 generalize rows.getD x []=rx at*;generalize rows.getD y []=ry at*;have E:=R.w;have ay:=Rows.ix (n:=n) L .i64 x hx;have az:=Rows.ix (n:=n) L .i64 y hy;have c:∀(g:aai),g.own L=Z (.cells us)->∀(v:Nat)(u:vV),us[v]?=Z u->aaC pG g 28 ⟨L,v,Y⟩=Z u:=fun g ho v u hu=>by rw[Fq Mb rfl ho];exact hu
 have aC:∃d e,us[x]?=Z d/\us[y]?=Z e:=⟨_,_,CA (by have:=R.len;omega),CA (by have:=R.len;omega)⟩;have⟨d,e,a,b⟩:=aC;have⟨a1,aD,j,s,G⟩:=Tt q [.int .i64 (y:Int)];have H:=DQ h (y:Int);rw[aD]at H;obtain⟨l,ua,a2,q1,aF,t,aH,-,aJ,-⟩:=(E.up j).app s gx G qx;obtain rfl:d=l:=by rw[a]at q1;injection q1
 have⟨a3,aK,I,aL,aN⟩:=Tt aH [.int .i64 (x:Int)];have J:=DQ a2 (x:Int);rw[aK]at J;obtain⟨m,cd,a4,a5,a6,q2,K,aP,aT,aW,RA,-⟩:=(t.up I).rest aL ne NH gy qy aN aJ;obtain rfl:e=m:=by rw[b]at q2;injection q2
 have M:=c a1 (j.own _ _ R.oL);have N:=c a2 t.oL;have O:=c a3 (I.own _ _ t.oL);have P:=c a4 aW;have⟨b2,aX,z,a7,a8⟩:=Tt s [.int .i64 (x:Int)];have Q:=DQ a1 (x:Int);rw[aX]at Q
 have bb:a1.own a1.next=Y:=(Le.refl a1).next s (qL0 _)
 obtain⟨l,ub,b3,q3,bg,S,bh,-,bk,kb⟩:=((E.up j).up z).app a7 gx (z.own _ _ G) qx;obtain rfl:d=l:=by rw[a]at q3;injection q3
 obtain⟨bm,-⟩:=kb _ _ a8 ((E.up j).fresh bb).2;obtain⟨m,cf,b4,b5,b6,q4,T,bo,br,bx,RB,-⟩:=S.rest bh ne NH gy qy bm bk;obtain rfl:e=m:=by rw[b]at q4;injection q4
 have LB2:=c b2 (z.own _ _ (j.own _ _ R.oL));have U:=c b3 S.oL;have V:=c b4 bx;have⟨c1,bB,A,bF,bH⟩:=Tt q [.int .i64 (x:Int)];have W:=DQ h (x:Int);rw[bB]at W;have⟨c2,bI,B,bN,bQ⟩:=Tt bF [.int .i64 (y:Int)];have X:=DQ c1 (y:Int);rw[bI]at X
 have bW:h.own h.next=Y:=(Le.refl h).next q (qL0 _)
 obtain⟨l,uc,c3,q5,ecc,aa,bY,-,bZ,kc⟩:=((E.up A).up B).app bN gx bQ qx;obtain rfl:d=l:=by rw[a]at q5;injection q5
 obtain⟨b1,-⟩:=kc _ _ (B.own _ _ bH) (E.fresh bW).2;obtain⟨m,cg,c4,c5,c6,q6,ae,b8,b9,cc,RC,-⟩:=aa.rest bY ne NH gy qy b1 bZ;obtain rfl:e=m:=by rw[b]at q6;injection q6
 have ai:=c c1 (A.own _ _ R.oL);have aj:=c c2 (B.own _ _ (A.own _ _ R.oL));have aq:=c c3 aa.oL;have ar:=c c4 cc;have LH:=c h R.oL;have C:us.length=n:=by rw[R.len];exact av
 apply Ya (F:=fun(fr:aam)(h5:aai)=>∃f,f.length=n/\Rows b0 h5 L f ((rows.set x (rx++[(y:Int)])).set y (ry++[(x:Int)])))
 .intro cont;refine gh (fRn 0 9 (tA [11,12,13,14,15] (.ch 9 [8] (.ch 10 [7,9] (JQ 16 [15] (JQ 17 [10,14,16] (tA [18] (JQ 19 [0,1,4,5,6,7,8,9,10,14,17,18] (tA [20] (JQ 21 [0,1,2,3,4,5,6,7,8,9,10,11,12,13,14,15,16,17,18,19,20] .done)))))) (JQ 16 [15] (JQ 10 [7,9] (JQ 17 [10,14,16] (tA [18] (JQ 19 [0,1,4,5,6,7,8,9,10,14,17,18] (tA [20] (JQ 21 [0,1,2,3,4,5,6,7,8,9,10,11,12,13,14,15,16,17,18,19,20] .done)))))))) (JQ 16 [15] (JQ 9 [8] (JQ 10 [7,9] (JQ 17 [10,14,16] (tA [18] (JQ 19 [0,1,4,5,6,7,8,9,10,14,17,18] (tA [20] (JQ 21 [0,1,2,3,4,5,6,7,8,9,10,11,12,13,14,15,16,17,18,19,20] .done))))))))))) ?_;simp only[kJJ,seval,Qg,ay,az,LH x d a,LH y e b,M x d a,M y e b,N x d a,N y e b,O x d a,O y e b,P x d a,P y e b,LB2 x d a,LB2 y e b,U x d a,U y e b,V x d a,V y e b,ai x d a,ai y e b,aj x d a,aj y e b,aq x d a,aq y e b,ar x d a,ar y e b,H,aF,J,K,aP,aT,Q,bg,T,bo,br,W,X,ecc,ae,b8,b9];refine⟨⟨?_,?_⟩,?_⟩
  .refine KN.UJ fun fr' h' x y=>cont fr' h' ?_;subst x y;exact⟨_,by simp[C],RA⟩
  .refine KN.UJ fun fr' h' x y=>cont fr' h' ?_;subst x y;exact⟨_,by simp[C],RB⟩
  .refine KN.UJ fun fr' h' x y=>cont fr' h' ?_;subst x y;exact⟨_,by simp[C],RC⟩
 rintro fr h5 ⟨f,hl,R'⟩;refine Uy ?_;exact⟨trivial,f,hl,R'⟩
end Go.Fw
namespace Go.Fw
section
attribute [local irreducible] Jz JL vq cQ
noncomputable def aiD(n:Nat)(b:xLP)(j:Int):Int:=(((aag n b).getD j.toNat 0:Nat):Int)
noncomputable def stR(n:Nat)(rows:AM)(b:xLP)(rs:AM)(i k:Nat):AM:=(rG n).map fun v=>rows.getD v []++(if v∈aag n b then(if abD n b (v:Int)<i then rs.getD (abD n b (v:Int)) []else if abD n b (v:Int)=i then(rs.getD i []).take k else[])else[]).map (aiD n b)
section
variable{n:Nat}{rows:AM}{b:List Pr}{rs:AM}{i k:Nat}
def ahF:(stR n rows b rs i k).length=n:=by simp[stR]
def ahZ{v:Nat}(a:v<n):(stR n rows b rs i k)[v]?=Z (rows.getD v []++(if v∈aag n b then(if abD n b (v:Int)<i then rs.getD (abD n b (v:Int)) []else if abD n b (v:Int)=i then(rs.getD i []).take k else[])else[]).map (aiD n b)):=by simp[stR,a]
def stR_start(c:rows.length=n):stR n rows b rs 0 0=rows:=by
 refine EH fun v=>?_;by_cases a:v<n
 .rw[ahZ a]
  have e:(if v∈aag n b then(if abD n b (v:Int)<0 then rs.getD (abD n b (v:Int)) []else if abD n b (v:Int)=0 then(rs.getD 0 []).take 0 else[])else[])=[]:=by simp
  rw[e,map_nil,age,VU,Gc NH];rfl
 .rw[AQ (by rw[ahF];omega),AQ NH]
def ajJ{w:Nat}(h:(aag n b)[i]?=Z w):abD n b (w:Int)=i:=by refine(idx_eq ?_).symm;show(kz (aag n b))[i]?=_;unfold kz;rw[Q4,h];rfl
def stR_step{w:Nat}{j:Int}(hw:(aag n b)[i]?=Z w)(g:(rs.getD i [])[k]?=Z j):(stR n rows b rs i k).set w ((stR n rows b rs i k).getD w []++[aiD n b j])=stR n rows b rs i (k+1):=by
 have f:=XJ hw;have h:=(aeT.1 f).1;have hi:=ajJ hw;refine EH fun v=>?_;by_cases d:v<n
 .rw[ahZ d,j3];by_cases e:w=v
  .subst e;rw[WA rfl,WA (by rw[ahF];exact d),VU,ahZ d,alR,WA f,hi,IE (qL257 i),WA rfl,WA f,IE (qL257 i),WA rfl];rw[Cg,dU,g];simp
  .rw[IE e,ahZ d];by_cases a:v∈aag n b
   .rw[WA a,WA a];have:abD n b (v:Int)≠i:=fun q=>e (by
     have⟨l,c⟩:=aax.1 a;have:=ajJ c;rw[q]at this;subst this;rw[hw]at c;injection c)
    rw[IE this,IE this]
   .rw[IE a,IE a]
 .rw[AQ (by rw[afM,ahF];omega),AQ (by rw[ahF];omega)]
def stR_next:stR n rows b rs i (rs.getD i []).length=stR n rows b rs (i+1) 0:=by
 refine EH fun v=>?_;by_cases c:v<n
 .rw[ahZ c,ahZ c];by_cases a:v∈aag n b
  .rw[WA a,WA a];by_cases d:abD n b (v:Int)<i
   .rw[WA d,WA NH]
   .rw[IE d];by_cases h2:abD n b (v:Int)=i
    .rw[WA h2,WA NH,alJ,h2]
    .rw[IE h2,IE NH];split<;>rfl
  .rw[IE a,IE a]
 .rw[AQ (by rw[ahF];omega),AQ (by rw[ahF];omega)]
def stR_end(d:b.length≠1)(e:ajk (aag n b).length (aat n b)=Z rs):stR n rows b rs (aag n b).length 0=aiC n rows b:=by
 unfold stR aiC;refine V3 fun v g=>?_;congr 1;unfold ag2;rw[IE d];by_cases a:v∈aag n b
 .obtain⟨h,c⟩:=aax.1 a;have f:=ajJ c;have h2:=(Ny.1 c).1;rw[WA a,WA a,WA (by rw[f];exact h2),e];rfl
 .rw[IE a,IE a];rfl
end
def Rows.blks{b0 h:aai}{L:Nat}{us:xLV}{rows:AM}(R:Rows b0 h L us rows):(L::us.filterMap blk).Nodup/\(∀b∈L::us.filterMap blk,h.own b≠Y)/\∀b∈L::us.filterMap blk,b0.own b=Y:=by
 have mem:∀b,b∈us.filterMap blk↔∃v u,us[v]?=Z u/\blk u=Z b:=fun b=>by
  rw[mem_filterMap];constructor
  .rintro⟨u,c,e⟩;have⟨v,a⟩:=aax.1 c;exact⟨v,u,a,e⟩
  .rintro⟨v,u,a,e⟩;exact⟨u,XJ a,e⟩
 refine⟨xD.2 ⟨fun h=>?_,?_⟩,fun b hb=>?_,fun b hb=>?_⟩
 .obtain⟨v,u,a,e⟩:=(mem L).1 h;exact R.nL v u a e
 .unfold List.Nodup;rw[pairwise_filterMap,Yi];intro i j hi d f b hb l sZ e;subst e;exact R.TE i j _ _ b NH (Gc hi) (Gc d) hb sZ
 .rcases qL7.1 hb with rfl|hb
  .rw[R.oL];simp
  .obtain⟨v,u,a,e⟩:=(mem b).1 hb;obtain⟨q,g⟩:∃q,rows[v]?=Z q:=⟨_,CA (by have:=R.len;have:=(Ny.1 a).1;omega)⟩;exact(R.gs v u q a g).Sy e
 .rcases qL7.1 hb with rfl|hb
  .exact R.bL
  .obtain⟨v,u,a,e⟩:=(mem b).1 hb;exact R.ap v u a b e
def Rows.over{b0 h g h':aai}{L:Nat}{us:xLV}{rows:AM}(R:Rows b0 h L us rows)(f:Le g h')(c:∀b∈L::us.filterMap blk,g.own b=Y/\h'.own b=h.own b):Rows g h' L us rows:=by have mem:∀{v:Nat}{u b},us[v]?=Z u->blk u=Z b->b∈L::us.filterMap blk:=fun{v u b} a e=>qL7.2 (.inr (mem_filterMap.2 ⟨u,XJ a,e⟩));have d:=c L Ma;exact⟨by rw[d.2];exact R.oL,R.len,fun v u r a j=>(R.gs v u r a j).kept fun b o hb l=>by rw[(c b (mem a hb)).2];exact l,R.nL,R.TE,fun v u a b hb=>(c b (mem a hb)).1,f,d.1⟩
attribute [local irreducible] Kp MQ lU KO1 KO KN KX KE VK Kl ZJ TC aab
variable {a b:Nat}
def stpP(h:a<b):b-(a+1)<b-a:=NH
def ajo(W0:LA)(b0 h:aai)(L n:Nat)(us:xLV)(rows:AM)(R:Rows b0 h L us rows)(aP:rows.length=n)(bv:vV)(b:xLP)(b1:PR b0 bv b)(O:aeo n b)(h2:2<=b.length)(hl:b.length<=594)(hn:n<=200)(aT:∀r∈rows,r.length<=1000):
  AC pG W0 35 [sL (Z L) n n,bv] h fun v h'=>(v=.bool fF/\¬XU n (eN n b)/\Le h h')\/(v=.bool tT/\ah0 n b/\∃m,m.length=n/\Rows b0 h' L m (aiC n rows b)):=by
 have hp:=b1.le R.le;have hR:=O.1.GD;have ll:=fun g=>hp.len g;refine AC.vF func35 ntmps35 results35 fun da=>?_;have d1:decide ((b.length:Int)=1)=fF:=Z6 NH;refine Sk (XC ll d1) ?_;obtain⟨rv,aW⟩:∃rv,rv=vV.slice (Z L) n n:=⟨_,rfl⟩;rw[<-aW];refine lIn (fun k fr hq=>∃(i:Nat)(sv:vV),k=b.length-i/\i<=b.length/\fr=mkF [(0,rv),(1,bv),(7,sv),(53,bv),(54,.int .i64 b.length),(55,.int .i64 i)]/\GI hq sv (adJ (b.take i))/\Le h hq/\Z2 h sv) ⟨0,_,rfl,Og _,rfl,GI.nil h,Le.refl _,fun b hb=>by simp[blk]at hb⟩ ?_;rintro k fr hq b2 ⟨i,sv,rfl,hi,rfl,g,lq,ap⟩;refine Uy ?_;refine Kl.intro (fun t=>?_) (fun hf=>?_)
 .have a:i<b.length:=acb t;clear t;have A:=CA a;have Q:b.take (i+1)=b.take i++[b[i]]:=EL a;have hle:(adJ (b.take i)).length<=2000:=by rw[agu,uu];omega
  generalize b[i]=p at A Q;have ad:=hp.addr (k:=.i64) i a;have ld:=(hp.le lq).load A;have⟨db,h3,e2,e3,S,b3,o3⟩:=Ut b2 p;have m0:=lK o3;have m1:=HY o3;have l3:=lq.trans S;have⟨H,e4,l4,w4,o4⟩:=Tt b3 [p.1,p.2];have bs:=mkKI2 h3 p.1 p.2;rw[e4]at bs
  have r4:RL RP H (sL (Z h3.next) 2 2) [p.1,p.2]:=RL.Wh (RS.whole o4 rfl)
  obtain⟨jv,h6,e6,g6,w6,f6,-⟩:=GI.join ((g.le S).le l4) w4 r4 (by simp;omega);have⟨l6,aj⟩:=f6 h (l3.trans l4) ap;rw[<-agH,<-Q]at g6;simp only[HO,seval,ad,ld,e2,e3,Dh,Z0,Ip,BS,m0,m1,bs,e6,aaa i NH];exact lgA NH ⟨i+1,jv,rfl,a,rfl,g6,l6,aj⟩
 have C:b.length<=i:=vp hf;rw[abe C]at g;refine Uy ?_;refine kCi qS23 (VQ W0 g (by rw[agu];omega)) ?_;rintro x dc w2 ⟨rfl,g2,k2⟩;have b4:=k2 h lq ap;refine Uy ?_;refine kCi func58 (VY W0 g2 (by rw[OX,agu];omega)) ?_;rintro vv h3 w3 ⟨r3,b5,k3⟩;have S:=k3 h b4 ap;rw[adX hR]at r3;have av:Z2 h vv:=fun c hc=>ap c (by rw[<-b5];exact hc);have lv:=fun g=>r3.DH g;rw[y6]at lv;have dd:(aag n b).length<=200:=ff (OM _ _) (by simp;omega);have b6:(kz (aag n b)).Pairwise (·<·):=by unfold kz;rw[Uz];exact(b7.filter _).imp fun h=>by omega
 have aX:(kz (aag n b)).Nodup:=b6.imp fun h=>by omega
 obtain⟨H,e4,l4,w4,o4⟩:∃H,h3.alloc (.map [])=H/\Le h3 H/\WF H/\H.own h3.next=Z (.map []):=⟨_,rfl,(Le.refl h3).alloc w3 _,w3.alloc _,aai.zT _ _⟩
 have nM:h3.own h3.next=Y:=(Le.refl h3).next w3 (qL0 _)
 simp only[HO,seval,lv,e4,qS38]
 generalize h3.next=M at*
 refine lIn (fun k fr y=>∃(i:Nat)(al:List (Int×Int)),k=(aag n b).length-i/\i<=(aag n b).length/\fr=mkF [(0,rv),(1,bv),(7,vv),(10,.map (Z M)),(74,vv),(75,.int .i64 (aag n b).length),(76,.int .i64 i)]/\
   y.own M=Z (.map (aie al))/\(∀(j:Nat) v,j<i->(kz (aag n b))[j]?=Z v->abo al v=Z (j:Int))/\Le h3 y) ⟨0,[],rfl,Og _,rfl,o4,fun j v T=>absurd T (NC j),l4⟩ ?_
 clear o4 l4 e4 w4;clear H;rintro k fr y U ⟨i,al,rfl,hi,rfl,oM,a6,lz⟩;refine Uy ?_;refine Kl.intro (fun t=>?_) (fun hf=>?_)
 .have a:i<(aag n b).length:=acb t;clear t;have d:i<(kz (aag n b)).length:=by rw[y6];exact a
  have ad:=r3.TA i d;have ld:=(r3.le Nn.RP lz).Uc i d;have hv:=Gc d;generalize (kz (aag n b))[i]=v at hv ld;have st:=mapI_set oM v (i:Int);have aw:=aaa i NH;have l5:=lz.put (.map (aie (acs al v (i:Int)))) nM;have w5:=U.put (.map (aie (acs al v (i:Int)))) (U.lt oM);simp only[HO,seval,ad,ld,st,aw];refine lgA NH ⟨i+1,acs al v (i:Int),rfl,a,rfl,aai.Y3 _ _ _,fun j v' T V=>?_,l5⟩;rw[XR];by_cases e:j=i
  .subst e;rw[WA (Option.some.inj (hv.symm.trans V))]
  .have:v≠v':=fun q=>e (by
    subst q;exact(qL166 (Ny.1 V).1 aX).1 (V.trans hv.symm))
   rw[IE this];exact a6 j v' NH V
 have C:(aag n b).length<=i:=vp hf;obtain rfl:i=(aag n b).length:=NH;clear C hf hi;have⟨h5,h6,e5,e6,l6,w6,nX,G0⟩:=GX.new U ((aag n b).length:Int);refine Sk (IX lv @ait e5 e6 ll) ?_;have aF:=S.trans lz
 have b8:y.own y.next=Y:=(Le.refl y).next U (qL0 _)
 generalize y.next=X at*
 refine lIn (fun k fr hy=>∃(i:Nat)(ev:vV),k=b.length-i/\i<=b.length/\fr=mkF [(0,rv),(7,vv),(10,.map (Z M)),(13,pT (Z X)),(88,bv),(89,.int .i64 b.length),(90,.int .i64 i)]/\GX hy X (aag n b).length ev (aat n b|>.take i)/\Le y hy/\Z2 y ev) ⟨0,_,rfl,Og _,rfl,G0,l6,fun b hb=>by simp[blk]at hb⟩ ?_;clear G0 w6 l6 e6 e5;rintro k fr hy b9 ⟨i,ev,rfl,hi,rfl,G,J,az⟩;refine Uy ?_;refine Kl.intro (fun t=>?_) (fun hf=>?_)
 .have a:i<b.length:=acb t;clear t;have A:=CA a;have cc:(aat n b)[i]?=Z ((abD n b b[i].1:Int),(abD n b b[i].2:Int)):=by rw[aat,Q4,A];rfl
  have Q:(aat n b).take (i+1)=(aat n b).take i++[((abD n b b[i].1:Int),(abD n b b[i].2:Int))]:=by rw[dU,cc];rfl
  have a8:((aat n b).take i).length+1<=100000:=by rw[uu];omega
  have cd:=XJ A;have s:∀x,aO b[i] x=tT->abo al x=Z (abD n b x:Int):=fun x hx=>by
   have:x∈kz (aag n b):=by rw[<-adX hR,jn,Wv,aeS];exact⟨_,cd,hx⟩
   have⟨j,T⟩:=aax.1 this;have bb:=(Ny.1 T).1;rw[y6]at bb;rw[a6 j x bb T,<-idx_eq T]
  have cf:=s b[i].1 (by simp[aO]);have cg:=s b[i].2 (by simp[aO]);generalize b[i]=p at*;have ad:=hp.addr (k:=.i64) i a;have ld:=(hp.le (aF.trans J)).load A;have⟨de,h6,e6,s6,l6,w6,o6⟩:=Ut b9 p;have m0:=lK o6;have m1:=HY o6;have aw:=aaa i NH;have bg:=(J.trans l6).own _ _ oM;have k1:=aiO bg p.1 fF;have k2:=aiO bg p.2 fF;rw[cf]at k1;rw[cg]at k2;simp only[cond_false,alR]at k1 k2;have G6:=G.le l6;obtain⟨v',g4,g5,g6,q4,q5,q6,G7,dg,l7,f7,-⟩:=G6.push' w6 ((abD n b p.1:Int),(abD n b p.2:Int)) a8;have⟨ck,a7⟩:=f7 y (J.trans l6) b8 az;rw[<-Q]at G7;have cm:=xe (abD n b p.1:Int) (abD n b p.2:Int);simp only[HO,seval,ad,ld,e6,s6,Dh,Z0,Di,Ip,BS,m0,m1,k1,k2,G6.ld.2.2,cm,q4,q5,q6,aw];exact lgA NH ⟨i+1,v',rfl,a,rfl,G7,ck,a7⟩
 have C:b.length<=i:=vp hf;have a8:(aat n b).length=b.length:=by simp[aat]
 rw[abe NH]at G;have D:=aF.trans J;have Ry:=R.up D;have⟨cp,bh,cq⟩:=Ry.blks;have ay:∀c∈L::us.filterMap blk,h.own c≠Y:=R.blks.2.1;have cx:∀c,blk ev=Z c->c∉L::us.filterMap blk:=fun c hc s=>by have h1:=az c hc;have⟨o,P⟩:=jz.1 (ay c s);rw[aF.own _ _ P]at h1;cases h1
 have cz:∀c∈L::us.filterMap blk,blk vv≠Z c:=fun c s hc=>ay c s (av c hc);have bk:=GS.Fi G.gp cx;refine Sk G.ld.1 ?_;refine kCi func59 (AC.side (L::us.filterMap blk) hy _ bh cp (Im W0 _ ⟨((aag n b).length:Int),aat n b⟩ (rem (L::us.filterMap blk) hy) ⟨ev,rfl,GP.pr bk,GS.okc bk⟩)) ?_;rintro x h9 w9 ⟨W,⟨lr,ov,e,rfl,I⟩,l9,aH⟩;have bm:Le h h9:=by
  refine⟨?_,fun c o P=>?_⟩
  .have e1:=l9.ext;have e2:=lr.ext;rw[e1,e2,vL];exact D.ext
  .by_cases s:c∈L::us.filterMap blk
   .rw[(aH c s).2];exact D.own _ _ P
   .exact l9.own _ _ (lr.own _ _ (Th.2 ⟨D.own _ _ P,s⟩))
 have bo:e≠0->¬XU n (eN n b):=fun he hP=>by obtain⟨rs,-,-,-,q,-⟩:=I.XK (ad6 O.1) (O.two h2) ((afA hR).2 hP);exact he q
 by_cases he:e=0
 rotate_left
 .have d0:decide (e=0)=fF:=Z6 he;refine Sk (XC @bne.eq_1.{0} d0) ?_
  exact .inl ⟨trivial,bo he,bm⟩
 subst he;obtain⟨rs,hX,hG,hF,aJ⟩:∃rs,ajk (aag n b).length (aat n b)=Z rs/\Av (aag n b).length (aat n b) rs/\Flat (aag n b).length (Xl rs)/\RL (RL RP) W ov rs:=by
  rcases I with⟨-,q,-⟩|⟨-,-,q,-⟩|⟨-,-,-,-,q,-⟩|⟨-,-,rs,q1,q2,q3,-,q4⟩
  .omega
  .omega
  .omega
  .exact⟨rs,q1,q2,q3,q4⟩
 have BR:=O.rowMany h2 hX hG hF;have R9:=Ry.over l9 aH;have aa:RL RP W vv (kz (aag n b)):=(RL.remK (r3.le Nn.RP (lz.trans J)) cz).le Nn.RP lr;have cC:rs.length=(aag n b).length:=hG.len;have cE:=fun g=>aJ.qP6 g;have d0:decide ((0:Int)=0)=tT:=by decide
 have cJ:Le b0 W:=by
  refine⟨?_,fun c o P=>?_⟩
  .rw[lr.ext,vL,D.ext];exact R.le.ext
  .have s:c∉L::us.filterMap blk:=fun s=>by rw[cq c s]at P;cases P
   exact lr.own _ _ (Th.2 ⟨D.own _ _ (R.le.own _ _ P),s⟩)
 have cK:∀(i:Nat) j,j∈rs.getD i []->0<=j/\j<((aag n b).length:Int):=fun i j T=>by obtain⟨-,w,rfl,hw,-⟩:=hG.nat (ad6 O.1).GD T;omega
 have K:∀i,(rs.getD i []).length<=200:=fun i=>by
  by_cases hi:i<(aag n b).length
  .have s:=hG.jD (ad6 O.1).GD (ad6 O.1).q9;have nd:=s.nd i;have:=tf nd (B:=rG (aag n b).length) fun w hw=>abV.2 (s.lt w i (s.sy i w hw));rw[y5]at this;have e2:(Xl rs i).length=(rs.getD i []).length:=by simp[Xl]
   omega
  .rw[VU,AQ NH];simp
 refine Sk (xU @bne.eq_1.{0} d0 cE cC) ?_
 have cM:b.length≠1:=NH;have z:=stR_start (b:=b) (rs:=rs) aP;have br:Rows W h9 L us (stR n rows b rs 0 0):=by rw[z];exact R9
 have aK:∀i k,∀r∈stR n rows b rs i k,r.length<=1200:=fun i k r hr=>by
  obtain⟨v,hv,rfl⟩:=aev.1 hr;rw[aaf,wI];have h1:(rows.getD v []).length<=1000:=by
   rw[VU];cases y:rows[v]? with
   |none=>simp
   |some r=>exact aT r (XJ y)
  have h2:(if v∈aag n b then(if abD n b (v:Int)<i then rs.getD (abD n b (v:Int)) []else if abD n b (v:Int)=i then(rs.getD i []).take k else[])else[]).length<=200:=by
   split
   .split
    .exact K _
    .split
     .rw[uu];have:=K i;omega
     .simp
   .simp
  omega
 have bx:us.length=n:=by rw[R.len];exact aP
 refine lIn (fun k fr y=>∃(i:Nat)(us:xLV),k=(aag n b).length-i/\i<=(aag n b).length/\fr=mkF [(0,rv),(7,vv),(116,ov),(117,.int .i64 (aag n b).length),(118,.int .i64 i)]/\us.length=n/\Rows W y L us (stR n rows b rs i 0)) ⟨0,us,rfl,Og _,rfl,bx,br⟩ ?_;clear br R9 bx z aH l9 w9 bm;clear h9;rintro k fr bB bF ⟨i,m,rfl,hi,rfl,E,Rz⟩;refine Uy ?_;refine Kl.intro (fun t=>?_) (fun hf=>?_)
 rotate_left
 .have C:(aag n b).length<=i:=vp hf;obtain rfl:i=(aag n b).length:=NH;rw[stR_end cM hX]at Rz;refine Uy ?_;exact .inr ⟨trivial,BR,m,E,Rz.base cJ⟩
 have a:i<(aag n b).length:=acb t;clear t;have aL:i<rs.length:=NH;have cN:=aJ.qP7 i aL;have⟨cv,ae,cP⟩:=aJ.loadS Mb rfl i aL;have cR:rs.getD i []=rs[i]:=by rw[VU,Gc aL];rfl
 rw[<-cR]at ae;have cU:=fun g=>ae.DH g;have cW:=aaa i NH;have d:i<(kz (aag n b)).length:=by rw[y6];exact a
 have cZ:=aa.TA i d;have ai:=fun g (l:Le W g)=>(aa.le Nn.RP l).Uc i d;have c0:=CA a;have c3:(kz (aag n b))[i]=(((aag n b)[i]:Nat):Int):=by simp[kz]
 rw[c3]at ai;have aq:(aag n b)[i]<n:=(aeT.1 (AE a)).1;generalize (aag n b)[i]=w at*;have bH:=Rows.ix (n:=n) L .i64 w aq;rw[<-aW]at bH;refine Sk (Yb cN (cP bB Rz.le) cU) ?_;refine lIn (fun k fr hy=>∃(j:Nat)(us:xLV),k=(rs.getD i []).length-j/\j<=(rs.getD i []).length/\fr=mkF [(0,rv),(7,vv),(18,.int .i64 i),(116,ov),(117,.int .i64 (aag n b).length),(118,.int .i64 i),(123,cv),(124,.int .i64 (rs.getD i []).length),(125,.int .i64 j)]/\us.length=n/\Rows W hy L us (stR n rows b rs i j)) ⟨0,m,rfl,Og _,rfl,E,Rz⟩ ?_;clear Rz E bF;clear m bB;rintro k fr N bI ⟨j,m,rfl,T,rfl,E,F⟩;refine Uy ?_;refine Kl.intro (fun t=>?_) (fun hf=>?_)
 rotate_left
 .have C:(rs.getD i []).length<=j:=vp hf;obtain rfl:j=(rs.getD i []).length:=NH;rw[stR_next]at F;refine Sk cW ?_;exact lgA (stpP a) ⟨i+1,m,rfl,a,rfl,E,F⟩
 have f:j<(rs.getD i []).length:=acb t;clear t;have adc:=ae.TA j f;have bN:=fun g (l:Le W g)=>(ae.le Nn.RP l).Uc j f;have bQ:=Gc f;have aC:=cK i _ (AE f);generalize (rs.getD i [])[j]=x at bQ aC bN;obtain⟨x,rfl⟩:=Sb aC.1;have bW:x<(aag n b).length:=NH;have aD:x<(kz (aag n b)).length:=by rw[y6];exact bW
 have c4:=aa.TA x aD;have ar:=fun g (l:Le W g)=>(aa.le Nn.RP l).Uc x aD;have bY:(kz (aag n b))[x]=aiD n b (x:Int):=by unfold aiD;rw[vZ,VU,Gc bW];simp[kz]
 rw[bY]at ar;have c5:=aaa j (by have:=K i;omega);have hlen:(stR n rows b rs i j).length=n:=ahF;have aN:=CA (show w<(stR n rows b rs i j).length by rw[hlen];exact aq);have c6:(stR n rows b rs i j)[w]'(by rw[hlen];exact aq)=(stR n rows b rs i j).getD w []:=by rw[VU,Gc (by rw[hlen];exact aq)];rfl
 rw[c6]at aN;have bZ:((stR n rows b rs i j).getD w []).length<=100000:=by have:=aK i j _ (XJ aN);omega
 obtain⟨u,u',H,h5,h6,hu,e4,e5,e6,l4,l5,c9,R6,w6,-⟩:=F.push bI aN (aiD n b (x:Int)) bZ;rw[stR_step c0 bQ]at R6;have bs:=DQ N (aiD n b (x:Int));rw[e4]at bs;have J:=F.le;have lu:∀g:aai,g.own L=Z (.cells m)->aaC pG g 28 ⟨L,w,Y⟩=Z u:=fun g P=>by rw[Fq Mb rfl P];exact hu
 simp only[HO,seval,adc,bN N J];refine gh (fRn 0 16 (JQ 16 [15] (JQ 17 [11,16] (tA [18] (JQ 19 [0,1,2,3,4,5,6,7,8,9,10,11,12,13,14,15,16,17,18] .done))))) ?_;simp only[HO,seval,Qg,bH,cZ,ai N J,ai H (J.trans l4),ai h5 l5,c4,ar N J,ar H (J.trans l4),ar h5 l5,lu N F.oL,lu H (l4.own _ _ F.oL),lu h5 c9,bs,e5,e6,c5];exact lgA (stpP f) ⟨j+1,_,rfl,f,rfl,by simpa using E,R6⟩
def ajK(i:LA)(b0 h:aai)(L n:Nat)(us:xLV)(rows:AM)(R:Rows b0 h L us rows)(a:rows.length=n)(bv:vV)(b:xLP)(f:PR b0 bv b)(O:aeo n b)(s:b.length<=594)(t:n<=200)(d:∀r∈rows,r.length<=1000):
  AC pG i 35 [sL (Z L) n n,bv] h fun v h'=>(v=.bool fF/\¬XU n (eN n b)/\Le h h')\/(v=.bool tT/\ah0 n b/\∃c,c.length=n/\Rows b0 h' L c (aiC n rows b)):=by
 have hR:=O.1.GD;by_cases o:b.length=1
 rotate_left
 .have A:0<b.length:=fE.2 O.2.1;exact ajo i b0 h L n us rows R a bv b f O NH s t d
 have u:=O.rowOne o;obtain⟨p,rfl⟩:=ak2.1 o;have⟨a1,a2,w⟩:=hR p Ma;have⟨B,z⟩:=p;simp only at a1 a2 w;obtain⟨x,rfl⟩:=Sb a1;obtain⟨y,rfl⟩:=Sb (show 0<=z by omega);have ne:x≠y:=NH;refine(ajI i b0 h L n us rows R a bv x y f NH NH ne d).mono ?_;rintro v h' ⟨rfl,c,j,R'⟩;refine .inr ⟨rfl,u,c,j,?_⟩;have e:(rows.set x (rows.getD x []++[(y:Int)])).set y (rows.getD y []++[(x:Int)])=aiC n rows [((x:Int),(y:Int))]:=by
  refine EH fun v=>?_;by_cases k:v<n
  .have g:(aiC n rows [((x:Int),(y:Int))])[v]?=Z (rows.getD v []++ag2 n [((x:Int),(y:Int))] v):=by simp[aiC,k]
   rw[g,j3,afM,j3];unfold ag2;rw[WA (show[((x:Int),(y:Int))].length=1 from rfl)];simp only[qL204,Int.natCast_inj];by_cases c1:y=v
   .subst c1;have c2:¬y=x:=fun q=>ne q.symm;simp[c2,a,k]
   .by_cases c2:x=v
    .subst c2;simp[c1,a,k]
    .have l:¬v=y:=fun q=>c1 q.symm;have m:¬v=x:=fun q=>c2 q.symm;simp only[c1,c2,l,m,if_false,age];rw[VU,Gc NH];rfl
  .rw[AQ (by simp;omega),AQ (by rw[addR_len];omega)]
 rw[<-e];exact R'
variable {es:List Pr} {i n:Nat}
def certM_nil(n:Nat):ag3 n []=rP n []:=by
 refine EH fun v=>?_;by_cases a:v<n
 .simp[ag3,a]
 .rw[AQ (by rw[aic];omega),AQ (by simp;omega)]
def ajL(n:Nat)(pre:List xLP)(b:xLP):ag3 n (pre++[b])=aiC n (ag3 n pre) b:=by unfold aiC;refine V3 fun v a=>?_;rw[aiB (abV.1 a)];simp
def ajM(m:bX ⟨(n:Int),es⟩)(h:∀(j:Nat) b,j<i->(vq n es)[j]?=Z b->ah0 n b):∀r∈ag3 n ((vq n es).take i),r.length<=n:=by
 have hR:=m.GD;have⟨c,o⟩:=ahE (cQ n es) _ es rfl;have eb:vq n es=(CY (cQ n es) es).map fun k=>abb n es k:=aaB n es;have e:∀k∈(CY (cQ n es) es).take i,abb n es k∈vq n es/\ah0 n (abb n es k):=fun k e=>by
  have⟨j,d⟩:=aax.1 e;rw[afC]at d;split at d
  .rename_i f;have hb:(vq n es)[j]?=Z (abb n es k):=by rw[eb,Q4,d];rfl
   exact⟨XJ hb,h j _ f hb⟩
  .cases d
 obtain⟨g,-,-⟩:=catN_ok m _ (c.sublist (List.take_sublist i _)) e;intro r l;obtain⟨v,q,rfl⟩:=aev.1 l;have nd:=g.nd v;have:=tf nd (B:=rG n) fun w hw=>abV.2 (g.lt w v (g.sy v w hw));rw[y5]at this;refine ff (Nat.le_of_eq ?_) this;rw[eb,<-qL256,qL230];generalize (CY (cQ n es) es).take i=L
 induction L with
 |nil=>rfl
 |cons a L p=>rw[aj3,aj3,aaf,aaf,p];simp[acr]
def ah0.alx{b:xLP}(B:ah0 n b)(hR:aV n b):XU n (eN n b):=⟨acr n b,B.Rl,B.flat,fun v w=>by rw[B.mem,vD hR]⟩
def aiE(G:GM)(h':aai)(x:vV):Prop:=
 (¬bX G/\x=.tuple #[.slice Y 0 0,.slice Y 0 0,.int .i64 20])\/
 (bX G/\aak G.n.toNat G.es/\∃b,x=.tuple #[b,.slice Y 0 0,.int .i64 0]/\RL (RL RP) h' b (ag3 G.n.toNat (vq G.n.toNat G.es))/\Av G.n.toNat G.es (ag3 G.n.toNat (vq G.n.toNat G.es))/\Flat G.n.toNat (Xl (ag3 G.n.toNat (vq G.n.toNat G.es))))\/
 (bX G/\¬aak G.n.toNat G.es/\∃a,x=.tuple #[.slice Y 0 0,a,.int .i64 0]/\PR h' a (abv G)/\Ct a (abv G).length)
def ahd(A:LA)(v:vV)(G:GM)(h:aai)(hg:GR h v G):
  AC pG A 14 [v] h fun x h'=>Le h h'/\aiE G h' x:=by
 have o:=hg;have⟨K,es⟩:=G
 obtain⟨ev,rfl,hp⟩:=hg.open
 refine AC.vF akW ntmps14 results14 fun M=>?_;obtain⟨h1,b1,f,ay,-,I⟩:=r8 (n:=K) M hp
 generalize h.next=B at*
 have N:=I h1 (Le.refl _);refine Sk (XC b1 N.1) ?_;refine kCi qS6 (ak A _ ⟨K,es⟩ h1 (o.le f)) ?_;rintro x h2 w2 ⟨⟨bb,rfl,s⟩,l2⟩;cases bb with
 |false=>refine Uy ?_;exact⟨f.trans l2,.inl ⟨(fun q=>by cases s.2 q),rfl⟩⟩
 |true=>
 have d:=s.1 rfl;clear s;have h0:0<=K:=d.n0;obtain⟨n,rfl⟩:=Sb h0;have Q:(n:Int)<=200:=d.n1;refine Sk ((I h2 l2).1) ?_;refine kCi func34 (Cw A _ ⟨(n:Int),es⟩ h2 (o.le (f.trans l2))) ?_;rintro x h3 w3 ⟨l3,⟨u,-⟩|⟨-,bv,rfl,hB⟩⟩
 .exact absurd d u
 have l:=l2.trans l3;simp only[vZ]at hB;have d0:decide ((0:Int)=0)=tT:=by decide
 have mk:abl pG h3 26 (.int .i64 (n:Int)) (.int .i64 (n:Int))=Z (sL (Z h3.next) n n,h3.alloc (.cells (rP n (.slice Y 0 0)))):=Ye (P:=pG) (t:=26) (z:=.slice Y 0 0) h3 qS22 Ji rfl rfl rfl Ji Mb Ji n NH
 have⟨h4,e4,l4,w4,o4⟩:=Tt w3 (rP n (.slice Y 0 0));rw[e4]at mk
 have nL:h3.own h3.next=Y:=(Le.refl h3).next w3 (qL0 _)
 have A3:=I h3 l;have lB:=fun g=>hB.len (P:=pG) akq g;have R0:=Rows.start (b0:=h3) o4 l4 nL
 generalize h3.next=L at*
 have az:=afx n es;have C:=d.len;simp only at C;simp only[HO,seval,bne,d0,Ii,Ip,BS,A3.2.1,mk,lB];clear e4 mk o4;refine lIn (fun k fr J=>∃(i:Nat)(us:xLV),k=(vq n es).length-i/\i<=(vq n es).length/\fr=mkF [(1,pT (Z B)),(7,sL (Z L) n n),(26,bv),(27,.int .i64 (vq n es).length),(28,i)]/\
   us.length=n/\Rows h3 J L us (ag3 n ((vq n es).take i))/\∀(j:Nat) b,j<i->(vq n es)[j]?=Z b->ah0 n b) ⟨0,rP n (.slice Y 0 0),rfl,Og _,rfl,qL252,by rw[alZ,certM_nil];exact R0,fun j b D=>absurd D (NC j)⟩ ?_
 clear R0 l4 w4;clear h4;rintro k fr J aC ⟨i,us,rfl,hi,rfl,S,R,m⟩;refine Uy ?_;refine Kl.intro (fun ht=>?_) (fun hf=>?_)
 rotate_left
 .have T:(vq n es).length<=i:=vp hf;rw[abe T]at R;have E:∀b∈vq n es,ah0 n b:=fun b hb=>by
   have⟨j,D⟩:=aax.1 hb;exact m j b (by have:=(Ny.1 D).1;omega) D
  have⟨c1,c2⟩:=cert_ok d E;have w:aak n es:=(acp d).2 fun b hb=>(aem (aaQ d hb)).2 ((E b hb).alx (aaQ d hb).1.GD);refine Uy ?_;exact⟨(f.trans l).trans R.le,.inr (.inl ⟨d,w,_,rfl,R.rl S,c1,c2⟩)⟩
 have a:i<(vq n es).length:=acb ht;clear ht;have U:=CA a;have O:=aaQ d (AE a);have V:(vq n es)[i].Sublist es:=by obtain⟨p,-,e⟩:=aaP.1 (AE a);rw[e];exact ajm _
 have W:=hB.addr (P:=pG) akq eY Ji (k:=.i64) i a;have⟨xb,pb,X⟩:=hB.loadS eY rfl i a;have aa:(vq n es).take (i+1)=(vq n es).take i++[(vq n es)[i]]:=EL a;have ae:(vq n es)[i].length<=594:=ff V.length_le C;have ai:=ajM d m;have aj:(vq n es)[i]∈vq n es:=AE a;generalize (vq n es)[i]=b at*;have aw:=aaa i NH;refine Sk (XC W (X J R.le)) ?_;refine kCi func35 (ajK A h3 J L n us _ R (aic _ _) xb b pb O ae NH (fun r aq=>by have:=ai r aq;omega)) ?_;rintro x h5 w5 (⟨rfl,ar,l5⟩|⟨rfl,BR,av,F,R'⟩)
 .have w:¬aak n es:=fun q=>ar ((aem O).1 ((acp d).1 q b aj));have y:=R.le.trans l5;refine Sk ((I h5 (l.trans y)).1) ?_;refine kCi func36 (KFind_any A _ ⟨(n:Int),es⟩ h5 (o.le (f.trans (l.trans y)))) ?_;rintro x h6 w6 ⟨l6,⟨u,-⟩|⟨-,lv,rfl,pl,ct⟩⟩
  .exact absurd d u
  refine Uy ?_;exact⟨(f.trans (l.trans y)).trans l6,.inr (.inr ⟨d,w,lv,rfl,pl,ct⟩)⟩
 .rw[<-ajL,<-aa]at R';simp only[HO,seval,aw];exact lgA (stpP a) ⟨i+1,av,rfl,a,rfl,F,R',fun j c D H=>by
    by_cases e:j=i
    .subst e;rw[U]at H;injection H with H;rw[<-H];exact BR
    .exact m j c NH H⟩
end
section
attribute [local instance] Classical.propDecidable
attribute [local irreducible] Kp MQ lU KO1 KO KN KX KE VK Kl ZJ TC aab
variable {es:List Pr}
def ajH(h:aaz es≠0):bX ⟨200,es⟩:=si fun q=>h (IE q)
def CertG(G:GM)(rs:AM)(ps:xLP):Prop:=bX G/\((ps=[]/\Av G.n.toNat G.es rs/\z8 G.n.toNat G.es rs)\/(ps≠[]/\rs=[]/\aaz ps≠0/\∀p∈ps,p∈G.es))
def ahY(s:LA)(v z y:vV)(G:GM)(rs:AM)(ps:xLP)(h:aai)(hg:GR h v G)(R:RL (RL RP) h z rs)(hw:PR h y ps):
  AC pG s 19 [v,z,y] h fun x h'=>RR (CertG G rs ps) x/\Le h h':=by
 have u:=hg;have⟨A,es⟩:=G
 obtain⟨ev,rfl,S⟩:=hg.open
 refine AC.vF qS24 ntmps19 results19 fun C=>?_;obtain⟨D,b1,a,aa,-,F⟩:=r8 (n:=A) C S
 generalize h.next=B at*
 have lR:=fun g=>R.qP6 g;have T:=fun g=>hw.len g;refine Sk (XC b1 ((F D (Le.refl _)).1)) ?_;refine kCi qS6 (ak s _ ⟨A,es⟩ D (u.le a)) ?_;rintro x h2 w2 ⟨⟨H,rfl,j⟩,l2⟩;cases H with
 |false=>refine Uy ?_;exact⟨.f (fun q=>by cases j.2 q.1),a.trans l2⟩
 |true=>
 have U:=j.1 rfl;clear j;have b:=a.trans l2;refine Sk T ?_;by_cases r:ps=[]
 .subst r;have d:decide (((([]:xLP).length:Nat):Int)=0)=tT:=by decide
  refine Sk (XC d ((F h2 l2).1)) ?_;refine kCi func24 (Plane_any s _ z ⟨A,es⟩ rs h2 (u.le b) (R.le (Nn.RL Nn.RP) b)) ?_;rintro x h3 w3 ⟨⟨H,rfl,j⟩,l3⟩;refine Uy ?_;refine⟨⟨H,rfl,j.trans ⟨fun q=>⟨q.1,.inl ⟨rfl,q.2⟩⟩,fun q=>⟨q.1,?_⟩⟩⟩,b.trans l3⟩;rcases q.2 with q|q
  .exact q.2
  .exact absurd rfl q.1
 have ae:0<ps.length:=fE.2 r;have d:decide ((ps.length:Int)=0)=fF:=Z6 NH;refine Sk (XC d lR) ?_;by_cases c1:rs=[]
 rotate_left
 .have:0<rs.length:=fE.2 c1;have d1:decide ((rs.length:Int)>0)=tT:=HV NH;refine Sk d1 ?_;refine⟨.f fun q=>?_,b⟩;rcases q.2 with q|q
  .exact r q.1
  .exact c1 q.2.1
 subst c1;have d1:decide (((([]:AM).length:Nat):Int)>0)=fF:=by decide
 refine Sk d1 ?_;refine kCi func25 (Kind_any s y ps h2 (hw.le b)) ?_;rintro x h3 w3 ⟨rfl,l3⟩;by_cases c2:aaz ps=0
 .have d2:decide (aaz ps=0)=tT:=HV c2;refine Sk @d2 ?_;refine⟨.f fun q=>?_,b.trans l3⟩;rcases q.2 with q|q
  .exact r q.1
  .exact q.2.2.1 c2
 have d2:decide (aaz ps=0)=fF:=Z6 c2;have I:=l2.trans l3;have J:=U.len;have K:=(ajH c2).len;simp only at J K;refine Sk (XC @d2 T) ?_;refine lIn (fun k fr o=>∃(i:Nat),k=ps.length-i/\i<=ps.length/\fr=mkF [(3,pT (Z B)),(26,y),(27,.int .i64 ps.length),(28,.int .i64 i)]/\Le D o/\∀p∈ps.take i,p∈es) ⟨0,rfl,Og _,rfl,I,Ma⟩ ?_;rintro k fr o L ⟨i,rfl,hi,rfl,M,l⟩;refine Uy ?_;refine Kl.intro (fun V=>?_) (fun hf=>?_)
 rotate_left
 .have N:ps.length<=i:=vp hf;rw[abe N]at l;refine Uy ?_;exact⟨.t ⟨U,.inr ⟨r,rfl,c2,l⟩⟩,a.trans M⟩
 have e:i<ps.length:=acb V;clear V;have O:=CA e;have w:=AE e;have P:ps.take (i+1)=ps.take i++[ps[i]]:=EL e;generalize ps[i]=p at*;have ad:=hw.addr (k:=.i64) i e;have ld:=(hw.le (a.trans M)).load O;have⟨ai,W,e6,s6,l6,w6,o6⟩:=Ut L p;have Q:=uM o6;have aw:=aaa i NH;have m:=M.trans l6
 generalize o.next=E at*
 simp only[HO,seval,ad,ld,e6,s6,Q,Di,Ip,BS,(F W m).2.2];refine kCi func43 (aiZ s ev es p W (S.le (a.trans m)) NH) ?_;rintro x h7 w7 ⟨rfl,X⟩;by_cases c:p∈es
 .have dc:decide (p∈es)=tT:=HV c;simp only[HO,seval,dc,aw];exact lgA (JS e) ⟨i+1,rfl,e,rfl,m.trans X,fun q o=>by
    rw[P,yM,Gw]at o;rcases o with o|rfl
    .exact l q o
    .exact c⟩
 .have dc:decide (p∈es)=fF:=Z6 c;refine Sk dc ?_;refine⟨.f fun q=>?_,a.trans (m.trans X)⟩;rcases q.2 with q|q
  .exact r q.1
  .exact c (q.2.2.2 p w)
end
end Go.Fw
