/- A text. -/
import Derived.Test.YtnakkbhjoiheoaaGreatFwKC2
set_option linter.all false
set_option maxRecDepth 99999
set_option maxHeartbeats 9999999
open Go.Proofs
open Option renaming some→Z,none→Y
open Bool renaming true→tT,false→fF
open List renaming replicate→rP,range→rG
open Go.Value renaming slice→sL,pointer→pT
open Go renaming Value→vV
open Go.Proofs.Tryz renaming prog→pG
open Go.Proofs.Tryz
open List
namespace Go.Fw
section
attribute [local instance] Classical.propDecidable
attribute [local irreducible] Jz JL vq cQ
theorem sing_of{l:II}{y:Nat}(nd:l.Nodup)(h:∀w,w∈l↔w=y):l=[y]:=by have a:l.Perm [y]:=hGr;grind[perm_singleton]
def ai5(x y v:Nat):II:=if v=x then[y]else if v=y then[x]else[]
theorem mem_oneR{x y v w:Nat}(ne:x≠y):w∈ai5 x y v↔(v=x/\w=y)\/(v=y/\w=x):=by grind[ai5]
theorem ajn{n x y:Nat}(a:x<n)(c:y<n)(ne:x≠y):V7 n (ai5 x y):=by
 refine⟨fun v=>?_,fun v w h=>?_,fun v w h=>?_,fun v h=>?_⟩
 all_goals grind[ai5]
theorem oneR_flat{n x y:Nat}(d:x<n)(g:y<n)(ne:x≠y):Flat n (ai5 x y):=by
 have P:=(agx (n:=n+3) (A:=fun _ _=>False) NH fun _ _ q=>q).aac (v:=x) (a:=y) (fun _ q=>q) NH NH ne;have⟨R,r,f,m⟩:=P;have e:R=ai5 x y:=by
  funext v;unfold ai5;by_cases c:v=x
  .subst c;rw[qL7 rfl];exact sing_of (r.nd v) fun w=>by grind
  rw[Z6 c];by_cases h2:v=y
  .subst h2;rw[qL7 rfl];exact sing_of (r.nd v) fun w=>by grind
  rw[Z6 h2];exact jz.2 hGr
 grind[ajn,adV]
theorem V7.upto{n m:Nat}{r:Nat->II}(R:V7 m r)(h:m<=n):V7 n r:=⟨R.nd,fun v w q=>ag4 (R.lt v w q) h,R.sy,R.ir⟩
theorem aiX{m:Nat}{r:Nat->II}(R:V7 m r):∀k:Nat,Flat m r->Flat (m+k) r
 |0,f=>f
 |k+1,f=>(adV (by grind[V7.upto])).2 (aiX R k f)
noncomputable def ag2(n:Nat)(b:xLP)(v:Nat):RZ:=
 if b.length=1 then(if(v:Int)=(b.headD (0,0)).1 then[(b.headD (0,0)).2]else if(v:Int)=(b.headD (0,0)).2 then[(b.headD (0,0)).1]else[])
 else if v∈aag n b then(((ajk (aag n b).length (aat n b)).getD []).getD (abD n b (v:Int)) []).map fun j=>(((aag n b).getD j.toNat 0:Nat):Int)else[]
noncomputable def acr(n:Nat)(b:xLP)(v:Nat):II:=(ag2 n b v).map Int.toNat
structure ah0 (n:Nat) (b:xLP):Prop where
 Rl:V7 n (acr n b)
 flat:Flat n (acr n b)
 mem:∀v w,w∈acr n b v↔Jp b v w
 nat:∀v,ag2 n b v=(acr n b v).map fun(w:Nat)=>(w:Int)
section
variable{n:Nat}{b:List Pr}(O:aeo n b)
include O
theorem aeo.rowOne(a:b.length=1):ah0 n b:=by
 have hR:=O.1.GD;obtain⟨p,rfl⟩:=Bc.1 a;have⟨a1,a2,d⟩:=hR p Ma;have⟨f,c⟩:=p;obtain⟨x,rfl⟩:=HV a1;obtain⟨y,rfl⟩:=HV (show 0<=c by omega);have ne:x≠y:=NH;have e:acr n [((x:Int),(y:Int))]=ai5 x y:=by grind[acr,ag2,ai5]
 refine⟨by grind[ajn],by grind[oneR_flat],fun v w=>?_,fun v=>?_⟩
 .rw[e,mem_oneR ne];grind[Jp]
 .unfold acr ag2;by_cases c1:(v:Int)=(x:Int)
  .simp[c1]
  .all_goals grind
theorem aeo.rowMany(h2:2<=b.length){rs:AM}(o:ajk (aag n b).length (aat n b)=Z rs)(G:Av (aag n b).length (aat n b) rs)(hf:Flat (aag n b).length (Xl rs)):ah0 n b:=by
 have hR:=O.1.GD;have i:=ad6 O.1;have a:=i.GD;have c:=G.jD a i.q9;have g:(aag n b).length<=n:=by have:=KG (fun v=>b.any fun p=>aO p ((v:Nat):Int)) (rG n);rw[y5]at this;exact this
 have N:=(ren_V n b).flip;have d:=c.upto g;have l:Flat n (Xl rs):=by grind[aiX,Nat.add_sub_cancel']
 have m:∀j,j<(aag n b).length->ofV n b j=(aag n b).getD j 0:=by grind[ofV,acw]
 have row:∀v,v∈aag n b->ag2 n b v=(rs.getD (abD n b (v:Int)) []).map fun j=>(((aag n b).getD j.toNat 0:Nat):Int):=by grind[ag2]
 have k:∀v,v∉aag n b->ag2 n b v=[]:=by grind[ag2]
 have e:acr n b=uH n (ofV n b) (toV n b) (Xl rs):=by
  funext v;unfold acr;by_cases f:v∈aag n b
  .have h:=(aeT.1 f).1;rw[row v f];unfold uH;rw[qL7 h,(toV_idx (b:=b) f).1,Xl,im,im];grind[map_congr_left,Av.nat,Int.toNat_natCast]
  grind[uH,abk,Xl,Av.len]
 refine⟨by grind[aef],by grind[pd],fun v w=>?_,fun v=>?_⟩
 .rw[e,uX N d,G.mem a,abR hR];grind[abk,Jp.lt,toV_lt]
 .unfold acr;by_cases f:v∈aag n b
  .rw[row v f];simp
  grind
end
theorem blk_apart{n:Nat}{es:xLP}(j:bX ⟨(n:Int),es⟩){k:Int}(hb:abb n es k∈vq n es){r:Nat->II}(hA:∀v w,w∈r v->Jp es v w/\cQ n es (GW v w)≠k){x y:Nat}(p:∃w,Jp (abb n es k) x w)(q:∃w,Jp (abb n es k) y w)(ne:x≠y)(c:Cr r x y):False:=by
 have hR:=j.GD;have O:=aaQ j hb;have⟨G,f⟩:=p;have⟨H,g⟩:=q;obtain⟨z,z',rfl,A,I,B⟩:=agI (S:=fun u=>u=x) (O.bp f g) rfl (ff ne);obtain⟨l,nd,⟨t,m⟩,⟨s,J⟩,o,-⟩:=uF c;cases t with
 |nil=>grind
 |cons a t=>
  have K:=hA _ _ (o 0 z a (by rw[m];rfl) (by rw[m];rfl));have L:z∉a::t:=hGr;have walk:∀(i u:Nat),(a::t)[i]?=Z u->Cn (wo z) es a u:=fun i=>by
   induction i with
   |zero=>intro u d;injection d with d;subst d;exact .refl hGr
   |succ i C=>intro u d;have D:=(Ny.1 d).1;have hi:i<(a::t).length:=NH;have E:=C _ (Gc hi);refine .step E (hA _ _ (o (i+1) _ u hGr hGr)).1 hGr
  have h:y∈a::t:=hGr;have⟨i,hi⟩:=vZ.1 h;have c1:=walk i y hi;have c2:Cn (wo z) es z' y:=Cn.mono (fun e F=>(aaw.1 F).1) (agf (fun u d=>iO fun e=>by grind) B);grind[abM,dR,Cn.trans,Cn.symm]
noncomputable def ag3(n:Nat)(bs:List xLP):AM:=(rG n).map fun v=>bs.flatMap fun b=>ag2 n b v
theorem aic(n:Nat)(bs:List xLP):(ag3 n bs).length=n:=by simp[ag3]
theorem aiB{n:Nat}{bs:List xLP}{v:Nat}(a:v<n):(ag3 n bs).getD v []=bs.flatMap fun b=>ag2 n b v:=by grind[ag3]
theorem catN_ok{n:Nat}{es:xLP}(a:bX ⟨(n:Int),es⟩):∀(pre:RZ),pre.Nodup->(∀k∈pre,abb n es k∈vq n es/\ah0 n (abb n es k))->
  V7 n (fun v=>pre.flatMap fun k=>acr n (abb n es k) v)/\Flat n (fun v=>pre.flatMap fun k=>acr n (abb n es k) v)/\∀v w,w∈(pre.flatMap fun k=>acr n (abb n es k) v)↔∃k∈pre,Jp (abb n es k) v w:=by
 have hR:=a.GD;have key:∀(m:Nat)(pre:RZ),pre.length=m->pre.Nodup->(∀k∈pre,abb n es k∈vq n es/\ah0 n (abb n es k))->
  V7 n (fun v=>pre.flatMap fun k=>acr n (abb n es k) v)/\Flat n (fun v=>pre.flatMap fun k=>acr n (abb n es k) v)/\∀v w,w∈(pre.flatMap fun k=>acr n (abb n es k) v)↔∃k∈pre,Jp (abb n es k) v w:=by
  intro m
  induction m with
  |zero=>
   intro pre g _ _;obtain rfl:=abZ g;have P:=agx (n:=n+3) (A:=fun _ _=>False) NH fun _ _ q=>q;have⟨R,r,f,m⟩:=P;have e:R=fun v=>([]:RZ).flatMap fun k=>acr n (abb n es k) v:=by funext v;exact jz.2 hGr
   rw[e]at f;have i:∀N,V7 N (fun v=>([]:RZ).flatMap fun k=>acr n (abb n es k) v):=fun N=>⟨fun v=>by simp,hGr,hGr,hGr⟩;exact⟨i n,(by grind[adV]),hGr⟩
  |succ m j=>
   intro pre C nd h;obtain⟨pre,k,rfl⟩:∃l k,pre=l++[k]:=⟨pre.dropLast,pre.getLast hGr,(Ex _).symm⟩;obtain⟨n1,-,n3⟩:=aaf.1 nd;have⟨o,p,d⟩:=j pre hGr n1 hGr;have⟨hb,B⟩:=h k Ma;have H:abC n (fun v=>pre.flatMap fun k=>acr n (abb n es k) v) (acr n (abb n es k)) fun z=>∃w,Jp (abb n es k) z w:=by refine⟨o,B.Rl,(by grind[ah0.mem]),fun x y s t ne c=>?_⟩;refine blk_apart a hb (fun v w q=>?_) s t ne c;have⟨D,u,q⟩:=(d v w).1 q;grind[abM]
   have e:(fun v=>(pre++[k]).flatMap fun k=>acr n (abb n es k) v)=aar (fun v=>pre.flatMap fun k=>acr n (abb n es k) v) (acr n (abb n es k)):=by grind[aar]
   rw[e];refine⟨H.Rl,H.flat p B.flat,fun v w=>?_⟩;have:((pre++[k]).flatMap fun k=>acr n (abb n es k) v)=aar (fun v=>pre.flatMap fun k=>acr n (abb n es k) v) (acr n (abb n es k)) v:=by simp[aar]
   rw[this,aaT,d,B.mem];grind
 grind
theorem cert_ok{n:Nat}{es:xLP}(c:bX ⟨(n:Int),es⟩)(h:∀b∈vq n es,ah0 n b):Av n es (ag3 n (vq n es))/\Flat n (Xl (ag3 n (vq n es))):=by
 have hR:=c.GD;have⟨a,f⟩:=ahE (cQ n es) _ es rfl;have eb:vq n es=(CY (cQ n es) es).map fun k=>abb n es k:=aaB n es;have g:∀k∈CY (cQ n es) es,abb n es k∈vq n es/\ah0 n (abb n es k):=hGr;have⟨e,m,i⟩:=catN_ok c _ a g;have row:∀v,(vq n es).flatMap (fun b=>ag2 n b v)=((CY (cQ n es) es).flatMap fun k=>acr n (abb n es k) v).map fun(w:Nat)=>(w:Int):=fun v=>by
  rw[eb,qL230,qL231];have o:∀L:RZ,(∀k∈L,ag2 n (abb n es k) v=(acr n (abb n es k) v).map fun(w:Nat)=>(w:Int))->(L.flatMap fun k=>ag2 n (abb n es k) v)=L.flatMap fun k=>(acr n (abb n es k) v).map fun(w:Nat)=>(w:Int):=fun L=>by
   induction L<;>grind
  grind[ah0.nat]
 have p:Xl (ag3 n (vq n es))=fun v=>(CY (cQ n es) es).flatMap fun k=>acr n (abb n es k) v:=by
  funext v;unfold Xl;by_cases d:v<n
  .rw[aiB d,row v,im];exact(V3 hGr).trans (ahJ _)
  .rw[Db,AQ (by grind[aic])];symm;refine jz.2 fun w hw=>?_;have:=e.lt v w hw;omega
 have mem:∀v w,w∈((CY (cQ n es) es).flatMap fun k=>acr n (abb n es k) v)↔Jp es v w:=fun v w=>by
  rw[i];constructor
  .grind[abM]
  .intro q;exact⟨cQ n es (GW v w),(by grind[H4]),(by grind[abM])⟩
 refine⟨⟨aic _ _,fun v d=>?_⟩,hGr⟩;rw[aiB d,row v];have j:((CY (cQ n es) es).flatMap fun k=>acr n (abb n es k) v).Perm (agX (Zh n es) v):=agD (e.nd v) (agE hR c.q9 v) (by grind[acu]);have l:=j.map fun(w:Nat)=>(w:Int);refine l.trans (List.Perm.of_eq ?_);unfold agX;rw[im];refine(V3 fun x r=>?_).trans (ahJ _);grind[Ru]
end
variable {n:Nat}
def aem{b:xLP}(O:aeo n b):aak n b↔XU n (eN n b):=ako O.1
section
attribute [local irreducible] Kp MQ lU KO1 KO KN KX KE VK Kl ZJ TC aab
attribute [local irreducible] Jz JL vq cQ
structure ag5 (b0 h:aai) (L:Nat) (us0 us:xLV) (rows:AM):Prop where
 oL:h.own L=Z (.cells us0)
 len0:us0.length=rows.length
 len:us.length=rows.length
 gs:∀(v:Nat) u r,us[v]?=Z u->rows[v]?=Z r->GS 1 h u r.length (Bp r)
 nL:∀(v:Nat) u,us[v]?=Z u->blk u≠Z L
 TE:∀(v w:Nat) u u' b,v≠w->us[v]?=Z u->us[w]?=Z u'->blk u=Z b->blk u'≠Z b
 ap:∀(v:Nat) u,us[v]?=Z u->Z2 b0 u
 le:Le b0 h
 bL:b0.own L=Y
section
variable{b0 h h':aai}{L:Nat}{us0 us:List vV}{rows:AM}
def Rows.w(R:Rows b0 h L us rows):ag5 b0 h L us us rows:=⟨R.oL,R.len,R.len,R.gs,R.nL,R.TE,R.ap,R.le,R.bL⟩
def ag5.r(R:ag5 b0 h L us us rows):Rows b0 h L us rows:=⟨R.oL,R.len,R.gs,R.nL,R.TE,R.ap,R.le,R.bL⟩
theorem ag5.up(R:ag5 b0 h L us0 us rows)(e:Le h h'):ag5 b0 h' L us0 us rows:=⟨e.own _ _ R.oL,R.len0,R.len,fun v u r a b=>(R.gs v u r a b).le e,R.nL,R.TE,R.ap,R.le.trans e,R.bL⟩
def ag5.fresh(R:ag5 b0 h L us0 us rows){id:Nat}(a:h.own id=Y):id≠L/\∀(v:Nat) u,us[v]?=Z u->blk u≠Z id:=by refine⟨(fun e=>by rw[e,R.oL]at a;cases a),fun v u b hb=>?_⟩;obtain⟨q,c⟩:∃q,rows[v]?=Z q:=⟨_,CA (by have:=R.len;have:=(Ny.1 b).1;omega)⟩;exact(R.gs v u q b c).Sy hb a
def ag5.app(R:ag5 b0 h L us0 us rows)(f:WF h){w:Nat}{r:RZ}(C:rows[w]?=Z r){id:Nat}{x:Int}(G:h.own id=Z (.cells [x]))(I:r.length<=100000):
  ∃u u' l,us[w]?=Z u/\aaR pG h 28 28 u (sL (Z id) 1 1)=Z (u',l)/\ag5 b0 l L us0 (us.set w u') (rows.set w (r++[x]))/\WF l/\Le b0 l/\xO u' (r.length+1)/\
   (∀b o,h.own b=Z o->(∀(v:Nat) a,us[v]?=Z a->blk a≠Z b)->l.own b=Z o/\∀(v:Nat) a,(us.set w u')[v]?=Z a->blk a≠Z b):=by
 have i:w<us.length:=by have:=R.len;have:=(Ny.1 C).1;omega
 have k:=CA i;generalize us[w]=u at k;have g:=R.gs w u r k C;have⟨u',l,D,E,hf⟩:=g.push (P:=pG) (t:=28) Ji G (yG _) rfl NH;have y:WF l:=xr f D;have⟨A,B⟩:=aG hf f R.oL (R.nL w u k);have⟨l5,H⟩:=hf b0 f R.le (R.ap w u k);refine⟨u,u',l,k,D,⟨A,by simpa using R.len0,by simpa using R.len,fun v a q ha d=>?_,fun v a ha=>?_,fun v v' a a' b n ha mi hb=>?_,fun v a ha=>?_,l5,R.bL⟩,y,l5,E.cs.sl,fun b o hb p=>?_⟩
 .rw[fj]at ha d;by_cases e:w=v
  .subst e;rw[qL7 rfl,qL7 i]at ha;rw[qL7 rfl,qL7 (by have:=R.len;omega)]at d;injection ha with ha;injection d with d;subst ha;subst d;rw[aev];have:Bp (r++[x])=Bp r++[.int .i64 x]:=by simp[Bp]
   rw[this];exact E
  .rw[Z6 e]at ha d;refine(R.gs v a q ha d).kept fun b o hb j=>(aG hf f j fun s=>R.TE w v u a b e k ha s hb).1
 .rw[fj]at ha;by_cases e:w=v
  .subst e;rw[qL7 rfl,qL7 i]at ha;injection ha with ha;subst ha;exact B
  .rw[Z6 e]at ha;exact R.nL v a ha
 .rw[fj]at ha mi;have m:∀(z:Nat) c,us[z]?=Z c->∀b,blk c=Z b->∃o,h.own b=Z o:=fun z c F b hb=>by
   obtain⟨q,d⟩:∃q,rows[z]?=Z q:=⟨_,CA (by have:=R.len;have:=(Ny.1 F).1;omega)⟩;exact vg.1 ((R.gs z c q F d).Sy hb)
  by_cases e:w=v
  .subst e;rw[qL7 rfl,qL7 i]at ha;injection ha with ha;subst ha;rw[Z6 n]at mi;intro sZ;have⟨o,j⟩:=m v' a' mi b sZ;exact(aG hf f j fun s=>R.TE w v' u a' b n k mi s sZ).2 hb
  .rw[Z6 e]at ha;by_cases e':w=v'
   .subst e';rw[qL7 rfl,qL7 i]at mi;injection mi with mi;subst mi;have⟨o,j⟩:=m v a ha b hb;exact(aG hf f j fun s=>R.TE w v u a b e k ha s hb).2
   .rw[Z6 e']at mi;exact R.TE v v' a a' b n ha mi hb
 .rw[fj]at ha;by_cases e:w=v
  .subst e;rw[qL7 rfl,qL7 i]at ha;injection ha with ha;subst ha;exact H
  .rw[Z6 e]at ha;exact R.ap v a ha
 .obtain⟨k1,k2⟩:=aG hf f hb (p w u k);refine⟨k1,fun v a ha=>?_⟩;rw[fj]at ha;by_cases e:w=v
  .subst e;rw[qL7 rfl,qL7 i]at ha;injection ha with ha;subst ha;exact k2
  .rw[Z6 e]at ha;exact p v a ha
def ag5.st(R:ag5 b0 h L us0 us rows)(a:WF h){w k:Nat}{u':vV}(hw:w<rows.length)(hs:xO u' k):aaK pG h 28 (pT (Z ⟨L,w,Y⟩)) u'=Z (h.put L (.cells (us0.set w u')))/\ag5 b0 (h.put L (.cells (us0.set w u'))) L (us0.set w u') us rows/\WF (h.put L (.cells (us0.set w u'))):=by have st:=QB (P:=pG) (t:=28) (x:=u') Mb Ji R.oL (off:=w) (by rw[R.len0];exact hw) (by obtain⟨_,_,rfl,_⟩:=hs;rfl) hs.one;refine⟨st,⟨aai.Y3 _ _ _,by simpa using R.len0,R.len,fun v u r b c=>GS.put (R.gs v u r b c) _ (R.nL v u b),R.nL,R.TE,R.ap,R.le.put _ R.bL,R.bL⟩,a.put _ (a.lt R.oL)⟩
end
def Rows.ix{n:Nat}(L:Nat)(k:IntKind)(j:Nat)(a:j<n):aao pG 26 (sL (Z L) n n) (.int k j)=Z (pT (Z ⟨L,j,Y⟩)):=by rw[Wc qS20 Mb Ji j a];simp[Ip]
theorem Rows.base{b0 a h:aai}{L:Nat}{us:xLV}{rows:AM}(R:Rows a h L us rows)(e:Le b0 a):Rows b0 h L us rows:=
 have key:∀b,a.own b=Y->b0.own b=Y:=fun b hb=>by
  cases c:b0.own b with
  |none=>rfl
  |some o=>rw[e.own _ _ c]at hb;cases hb
 ⟨R.oL,R.len,R.gs,R.nL,R.TE,fun v u d b hb=>key b (R.ap v u d b hb),e.trans R.le,key L R.bL⟩
noncomputable def aiC(n:Nat)(rows:AM)(b:xLP):AM:=(rG n).map fun v=>rows.getD v []++ag2 n b v
def addR_len(n:Nat)(rows:AM)(b:xLP):(aiC n rows b).length=n:=by simp[aiC]
def ag5.rest{b0 g:aai}{L x y idx:Nat}{us:xLV}{rows:AM}{rx ry:RZ}{c:vV}{a:Int}{z:Int}(p:ag5 b0 g L us (us.set x c) (rows.set x (rx++[z])))(q:WF g)(ne:x≠y)(E:x<rows.length)(l:rows[y]?=Z ry)(s:ry.length<=100000)(ox:g.own idx=Z (.cells [a]))(f:xO c (rx.length+1)):
  ∃e b d m i,us[y]?=Z e/\aaR pG g 28 28 e (sL (Z idx) 1 1)=Z (b,d)/\aaK pG d 28 (pT (Z ⟨L,x,Y⟩)) c=Z m/\aaK pG m 28 (pT (Z ⟨L,y,Y⟩)) b=Z i/\
   d.own L=Z (.cells us)/\Rows b0 i L ((us.set x c).set y b) ((rows.set x (rx++[z])).set y (ry++[a]))/\WF i:=by
 have j:(rows.set x (rx++[z]))[y]?=Z ry:=by rw[fj,Z6 ne];exact l
 obtain⟨e,b,d,n,t,o,w1,-,k,-⟩:=p.app q j ox s;have u:((rows.set x (rx++[z])).set y (ry++[a])).length=rows.length:=by simp
 have v:=(Ny.1 l).1;have⟨s2,A,w2⟩:=o.st w1 (w:=x) NH f;have⟨B,C,D⟩:=A.st w2 (w:=y) NH k;rw[fj,Z6 ne]at n;exact⟨e,b,d,_,_,n,t,s2,B,o.oL,C.r,D⟩
def ajI(W0:LA)(b0 h:aai)(L n:Nat)(us:xLV)(rows:AM)(R:Rows b0 h L us rows)(av:rows.length=n)(bv:vV)(x y:Nat)(hp:PR b0 bv [((x:Int),(y:Int))])(hx:x<n)(hy:y<n)(ne:x≠y)(o:∀r∈rows,r.length<=1000):
  AC pG W0 35 [sL (Z L) n n,bv] h fun v h'=>v=.bool tT/\∃f,f.length=n/\Rows b0 h' L f ((rows.set x (rows.getD x []++[(y:Int)])).set y (rows.getD y []++[(x:Int)])):=by
 have D:=hp.le R.le;have lb:=fun g=>hp.len g;refine AC.vF func35 ntmps35 results35 fun q=>?_;have d1:decide ((([((x:Int),(y:Int))]:xLP).length:Int)=1)=tT:=rfl;have ad:=hp.addr (k:=.i64) 0 Ma;have L0:=D.l0 (i:=0) (p:=((x:Int),(y:Int))) rfl;have L1:=D.l1 (i:=0) (p:=((x:Int),(y:Int))) rfl;simp only[Int.ofNat_zero,ur]at ad;refine Sk (XC lb d1) ?_;refine gh (fRn 0 10 .done) ?_;simp only[HO,seval,Qg,ad,Dh,Z0,L0,L1];have gx:rows[x]?=Z (rows.getD x []):=by rw[Db,Gc NH];rfl
 have gy:rows[y]?=Z (rows.getD y []):=by rw[Db,Gc NH];rfl
 have qx:(rows.getD x []).length<=100000:=by have:=o _ (BS gx);omega
 have qy:(rows.getD y []).length<=100000:=by have:=o _ (BS gy);omega
 generalize rows.getD x []=rx at*;generalize rows.getD y []=ry at*;have E:=R.w;have ay:=Rows.ix (n:=n) L .i64 x hx;have az:=Rows.ix (n:=n) L .i64 y hy;have c:∀(g:aai),g.own L=Z (.cells us)->∀(v:Nat)(u:vV),us[v]?=Z u->aaC pG g 28 ⟨L,v,Y⟩=Z u:=fun g ho v u hu=>by rw[Fq Mb rfl ho];exact hu
 have aC:∃d e,us[x]?=Z d/\us[y]?=Z e:=⟨_,_,CA (by have:=R.len;omega),CA (by have:=R.len;omega)⟩;have⟨d,e,a,b⟩:=aC;have⟨a1,aD,j,s,G⟩:=Tt q [.int .i64 (y:Int)];have H:=DQ h (y:Int);rw[aD]at H;obtain⟨l,ua,a2,q1,aF,t,aH,-,aJ,-⟩:=(E.up j).app s gx G qx;obtain rfl:d=l:=by rw[a]at q1;injection q1
 have⟨a3,aK,I,aL,aN⟩:=Tt aH [.int .i64 (x:Int)];have J:=DQ a2 (x:Int);rw[aK]at J;obtain⟨m,cd,a4,a5,a6,q2,K,aP,aT,aW,RA,-⟩:=(t.up I).rest aL ne NH gy qy aN aJ;obtain rfl:e=m:=by rw[b]at q2;injection q2
 have M:=c a1 (j.own _ _ R.oL);have N:=c a2 t.oL;have O:=c a3 (I.own _ _ t.oL);have P:=c a4 aW;have⟨b2,aX,z,a7,a8⟩:=Tt s [.int .i64 (x:Int)];have Q:=DQ a1 (x:Int);rw[aX]at Q
 have bb:a1.own a1.next=Y:=(Le.refl a1).next s (qL0 _)
 obtain⟨l,ub,b3,q3,bg,S,bh,-,bk,kb⟩:=((E.up j).up z).app a7 gx (z.own _ _ G) qx;obtain rfl:d=l:=by rw[a]at q3;injection q3
 obtain⟨bm,-⟩:=kb _ _ a8 ((E.up j).fresh bb).2;obtain⟨m,cf,b4,b5,b6,q4,T,bo,br,bx,RB,-⟩:=S.rest bh ne NH gy qy bm bk;obtain rfl:e=m:=by rw[b]at q4;injection q4
 have LB2:=c b2 (z.own _ _ (j.own _ _ R.oL));have U:=c b3 S.oL;have V:=c b4 bx;have⟨c1,bB,A,bF,bH⟩:=Tt q [.int .i64 (x:Int)];have W:=DQ h (x:Int);rw[bB]at W;have⟨c2,bI,B,bN,bQ⟩:=Tt bF [.int .i64 (y:Int)];have X:=DQ c1 (y:Int);rw[bI]at X
 have bW:h.own h.next=Y:=(Le.refl h).next q (qL0 _)
 obtain⟨l,uc,c3,q5,ecc,aa,bY,-,bZ,kc⟩:=((E.up A).up B).app bN gx bQ qx;obtain rfl:d=l:=by rw[a]at q5;injection q5
 obtain⟨b1,-⟩:=kc _ _ (B.own _ _ bH) (E.fresh bW).2;obtain⟨m,cg,c4,c5,c6,q6,ae,b8,b9,cc,RC,-⟩:=aa.rest bY ne NH gy qy b1 bZ;obtain rfl:e=m:=by rw[b]at q6;injection q6
 have ai:=c c1 (A.own _ _ R.oL);have aj:=c c2 (B.own _ _ (A.own _ _ R.oL));have aq:=c c3 aa.oL;have ar:=c c4 cc;have LH:=c h R.oL;have C:us.length=n:=by rw[R.len];exact av
 apply Ya (F:=fun(fr:aam)(h5:aai)=>∃f,f.length=n/\Rows b0 h5 L f ((rows.set x (rx++[(y:Int)])).set y (ry++[(x:Int)])))
 .intro cont;refine gh (fRn 0 9 (tA [11,12,13,14,15] (.ch 9 [8] (.ch 10 [7,9] (JQ 16 [15] (JQ 17 [10,14,16] (tA [18] (JQ 19 [0,1,4,5,6,7,8,9,10,14,17,18] (tA [20] (JQ 21 [0,1,2,3,4,5,6,7,8,9,10,11,12,13,14,15,16,17,18,19,20] .done)))))) (JQ 16 [15] (JQ 10 [7,9] (JQ 17 [10,14,16] (tA [18] (JQ 19 [0,1,4,5,6,7,8,9,10,14,17,18] (tA [20] (JQ 21 [0,1,2,3,4,5,6,7,8,9,10,11,12,13,14,15,16,17,18,19,20] .done)))))))) (JQ 16 [15] (JQ 9 [8] (JQ 10 [7,9] (JQ 17 [10,14,16] (tA [18] (JQ 19 [0,1,4,5,6,7,8,9,10,14,17,18] (tA [20] (JQ 21 [0,1,2,3,4,5,6,7,8,9,10,11,12,13,14,15,16,17,18,19,20] .done))))))))))) ?_;simp only[kJJ,seval,Qg,ay,az,LH x d a,LH y e b,M x d a,M y e b,N x d a,N y e b,O x d a,O y e b,P x d a,P y e b,LB2 x d a,LB2 y e b,U x d a,U y e b,V x d a,V y e b,ai x d a,ai y e b,aj x d a,aj y e b,aq x d a,aq y e b,ar x d a,ar y e b,H,aF,J,K,aP,aT,Q,bg,T,bo,br,W,X,ecc,ae,b8,b9];refine⟨⟨?_,?_⟩,?_⟩
  .refine KN.UJ fun fr' h' x y=>cont fr' h' ?_;subst x y;exact⟨_,by simp[C],RA⟩
  .refine KN.UJ fun fr' h' x y=>cont fr' h' ?_;subst x y;exact⟨_,by simp[C],RB⟩
  .refine KN.UJ fun fr' h' x y=>cont fr' h' ?_;subst x y;exact⟨_,by simp[C],RC⟩
 rintro fr h5 ⟨f,hl,R'⟩;refine Uy ?_;exact⟨trivial,f,hl,R'⟩
noncomputable def aiD(n:Nat)(b:xLP)(j:Int):Int:=(((aag n b).getD j.toNat 0:Nat):Int)
noncomputable def stR(n:Nat)(rows:AM)(b:xLP)(rs:AM)(i k:Nat):AM:=(rG n).map fun v=>rows.getD v []++(if v∈aag n b then(if abD n b (v:Int)<i then rs.getD (abD n b (v:Int)) []else if abD n b (v:Int)=i then(rs.getD i []).take k else[])else[]).map (aiD n b)
section
variable{n:Nat}{rows:AM}{b:List Pr}{rs:AM}{i k:Nat}
def ahF:(stR n rows b rs i k).length=n:=by simp[stR]
def ahZ{v:Nat}(a:v<n):(stR n rows b rs i k)[v]?=Z (rows.getD v []++(if v∈aag n b then(if abD n b (v:Int)<i then rs.getD (abD n b (v:Int)) []else if abD n b (v:Int)=i then(rs.getD i []).take k else[])else[]).map (aiD n b)):=by simp[stR,a]
def stR_start(c:rows.length=n):stR n rows b rs 0 0=rows:=by
 refine EH fun v=>?_;by_cases a:v<n
 .rw[ahZ a]
  have e:(if v∈aag n b then(if abD n b (v:Int)<0 then rs.getD (abD n b (v:Int)) []else if abD n b (v:Int)=0 then(rs.getD 0 []).take 0 else[])else[])=[]:=by simp
  rw[e,map_nil,ak3,Db,Gc NH];rfl
 .rw[AQ (by rw[ahF];omega),AQ NH]
def ajJ{w:Nat}(h:(aag n b)[i]?=Z w):abD n b (w:Int)=i:=by refine(idx_eq ?_).symm;show(kz (aag n b))[i]?=_;unfold kz;rw[Q4,h];rfl
def stR_step{w:Nat}{j:Int}(hw:(aag n b)[i]?=Z w)(g:(rs.getD i [])[k]?=Z j):(stR n rows b rs i k).set w ((stR n rows b rs i k).getD w []++[aiD n b j])=stR n rows b rs i (k+1):=by
 have f:=BS hw;have h:=(aeT.1 f).1;have hi:=ajJ hw;refine EH fun v=>?_;by_cases d:v<n
 .rw[ahZ d,fj];by_cases e:w=v
  .subst e;rw[qL7 rfl,qL7 (by rw[ahF];exact d),Db,ahZ d,alR,qL7 f,hi,Z6 (Nat.lt_irrefl i),qL7 rfl,qL7 f,Z6 (Nat.lt_irrefl i),qL7 rfl];rw[rY,fE,g];simp
  .rw[Z6 e,ahZ d];by_cases a:v∈aag n b
   .rw[qL7 a,qL7 a];have:abD n b (v:Int)≠i:=fun q=>e (by
     have⟨l,c⟩:=vZ.1 a;have:=ajJ c;rw[q]at this;subst this;rw[hw]at c;injection c)
    rw[Z6 this,Z6 this]
   .rw[Z6 a,Z6 a]
 .rw[AQ (by rw[Ua,ahF];omega),AQ (by rw[ahF];omega)]
def stR_next:stR n rows b rs i (rs.getD i []).length=stR n rows b rs (i+1) 0:=by
 refine EH fun v=>?_;by_cases c:v<n
 .rw[ahZ c,ahZ c];by_cases a:v∈aag n b
  .rw[qL7 a,qL7 a];by_cases d:abD n b (v:Int)<i
   .rw[qL7 d,qL7 NH]
   .rw[Z6 d];by_cases h2:abD n b (v:Int)=i
    .rw[qL7 h2,qL7 NH,TV,h2]
    .rw[Z6 h2,Z6 NH];split<;>rfl
  .rw[Z6 a,Z6 a]
 .rw[AQ (by rw[ahF];omega),AQ (by rw[ahF];omega)]
def stR_end(d:b.length≠1)(e:ajk (aag n b).length (aat n b)=Z rs):stR n rows b rs (aag n b).length 0=aiC n rows b:=by
 unfold stR aiC;refine V3 fun v g=>?_;congr 1;unfold ag2;rw[Z6 d];by_cases a:v∈aag n b
 .obtain⟨h,c⟩:=vZ.1 a;have f:=ajJ c;have h2:=(Ny.1 c).1;rw[qL7 a,qL7 a,qL7 (by rw[f];exact h2),e];rfl
 .rw[Z6 a,Z6 a];rfl
end
def Rows.blks{b0 h:aai}{L:Nat}{us:xLV}{rows:AM}(R:Rows b0 h L us rows):(L::us.filterMap blk).Nodup/\(∀b∈L::us.filterMap blk,h.own b≠Y)/\∀b∈L::us.filterMap blk,b0.own b=Y:=by
 have mem:∀b,b∈us.filterMap blk↔∃v u,us[v]?=Z u/\blk u=Z b:=fun b=>by
  rw[mem_filterMap];constructor
  .rintro⟨u,c,e⟩;have⟨v,a⟩:=vZ.1 c;exact⟨v,u,a,e⟩
  .rintro⟨v,u,a,e⟩;exact⟨u,BS a,e⟩
 refine⟨xD.2 ⟨fun h=>?_,?_⟩,fun b hb=>?_,fun b hb=>?_⟩
 .obtain⟨v,u,a,e⟩:=(mem L).1 h;exact R.nL v u a e
 .unfold List.Nodup;rw[pairwise_filterMap,QD];intro i j hi d f b hb l sZ e;subst e;exact R.TE i j _ _ b NH (Gc hi) (Gc d) hb sZ
 .rcases Sb.1 hb with rfl|hb
  .rw[R.oL];simp
  .obtain⟨v,u,a,e⟩:=(mem b).1 hb;obtain⟨q,g⟩:∃q,rows[v]?=Z q:=⟨_,CA (by have:=R.len;have:=(Ny.1 a).1;omega)⟩;exact(R.gs v u q a g).Sy e
 .rcases Sb.1 hb with rfl|hb
  .exact R.bL
  .obtain⟨v,u,a,e⟩:=(mem b).1 hb;exact R.ap v u a b e
def Rows.over{b0 h g h':aai}{L:Nat}{us:xLV}{rows:AM}(R:Rows b0 h L us rows)(f:Le g h')(c:∀b∈L::us.filterMap blk,g.own b=Y/\h'.own b=h.own b):Rows g h' L us rows:=by have mem:∀{v:Nat}{u b},us[v]?=Z u->blk u=Z b->b∈L::us.filterMap blk:=fun{v u b} a e=>Sb.2 (.inr (mem_filterMap.2 ⟨u,BS a,e⟩));have d:=c L Ma;exact⟨by rw[d.2];exact R.oL,R.len,fun v u r a j=>(R.gs v u r a j).kept fun b o hb l=>by rw[(c b (mem a hb)).2];exact l,R.nL,R.TE,fun v u a b hb=>(c b (mem a hb)).1,f,d.1⟩
variable {a b:Nat}
def stpP(h:a<b):b-(a+1)<b-a:=NH
def ajo(W0:LA)(b0 h:aai)(L n:Nat)(us:xLV)(rows:AM)(R:Rows b0 h L us rows)(aP:rows.length=n)(bv:vV)(b:xLP)(b1:PR b0 bv b)(O:aeo n b)(h2:2<=b.length)(hl:b.length<=594)(hn:n<=200)(aT:∀r∈rows,r.length<=1000):
  AC pG W0 35 [sL (Z L) n n,bv] h fun v h'=>(v=.bool fF/\¬XU n (eN n b)/\Le h h')\/(v=.bool tT/\ah0 n b/\∃m,m.length=n/\Rows b0 h' L m (aiC n rows b)):=by
 have hp:=b1.le R.le;have hR:=O.1.GD;have ll:=fun g=>hp.len g;refine AC.vF func35 ntmps35 results35 fun da=>?_;have d1:decide ((b.length:Int)=1)=fF:=IE NH;refine Sk (XC ll d1) ?_;obtain⟨rv,aW⟩:∃rv,rv=vV.slice (Z L) n n:=⟨_,rfl⟩;rw[<-aW];refine lIn (fun k fr hq=>∃(i:Nat)(sv:vV),k=b.length-i/\i<=b.length/\fr=mkF [(0,rv),(1,bv),(7,sv),(53,bv),(54,.int .i64 b.length),(55,.int .i64 i)]/\GI hq sv (adJ (b.take i))/\Le h hq/\Z2 h sv) ⟨0,_,rfl,Og _,rfl,GI.nil h,Le.refl _,fun b hb=>by simp[blk]at hb⟩ ?_;rintro k fr hq b2 ⟨i,sv,rfl,hi,rfl,g,lq,ap⟩;refine Uy ?_;refine Kl.intro (fun t=>?_) (fun hf=>?_)
 .have a:i<b.length:=acb t;clear t;have A:=CA a;have Q:b.take (i+1)=b.take i++[b[i]]:=XJ a;have hle:(adJ (b.take i)).length<=2000:=by rw[agu,uu];omega
  generalize b[i]=p at A Q;have ad:=hp.addr (k:=.i64) i a;have ld:=(hp.le lq).load A;have⟨db,h3,e2,e3,S,b3,o3⟩:=Ut b2 p;have m0:=lK o3;have m1:=HY o3;have l3:=lq.trans S;have⟨H,e4,l4,w4,o4⟩:=Tt b3 [p.1,p.2];have bs:=mkKI2 h3 p.1 p.2;rw[e4]at bs
  have r4:RL RP H (sL (Z h3.next) 2 2) [p.1,p.2]:=RL.Wh (RS.whole o4 rfl)
  obtain⟨jv,h6,e6,g6,w6,f6,-⟩:=GI.join ((g.le S).le l4) w4 r4 (by simp;omega);have⟨l6,aj⟩:=f6 h (l3.trans l4) ap;rw[<-agH,<-Q]at g6;simp only[HO,seval,ad,ld,e2,e3,Dh,Z0,Ip,EL,m0,m1,bs,e6,aaa i NH];exact lgA NH ⟨i+1,jv,rfl,a,rfl,g6,l6,aj⟩
 have C:b.length<=i:=vp hf;rw[yM C]at g;refine Uy ?_;refine kCi qS21 (VQ W0 g (by rw[agu];omega)) ?_;rintro x dc w2 ⟨rfl,g2,k2⟩;have b4:=k2 h lq ap;refine Uy ?_;refine kCi func58 (VY W0 g2 (by rw[OX,agu];omega)) ?_;rintro vv h3 w3 ⟨r3,b5,k3⟩;have S:=k3 h b4 ap;rw[adX hR]at r3;have av:Z2 h vv:=fun c hc=>ap c (by rw[<-b5];exact hc);have lv:=fun g=>r3.DH g;rw[y6]at lv;have dd:(aag n b).length<=200:=K4 (KG _ _) (by simp;omega);have b6:(kz (aag n b)).Pairwise (·<·):=by unfold kz;rw[Uz];exact(bC.filter _).imp fun h=>by omega
 have aX:(kz (aag n b)).Nodup:=b6.imp fun h=>by omega
 obtain⟨H,e4,l4,w4,o4⟩:∃H,h3.alloc (.map [])=H/\Le h3 H/\WF H/\H.own h3.next=Z (.map []):=⟨_,rfl,(Le.refl h3).alloc w3 _,w3.alloc _,aai.zT _ _⟩
 have nM:h3.own h3.next=Y:=(Le.refl h3).next w3 (qL0 _)
 simp only[HO,seval,lv,e4,qS37]
 generalize h3.next=M at*
 refine lIn (fun k fr y=>∃(i:Nat)(al:List (Int×Int)),k=(aag n b).length-i/\i<=(aag n b).length/\fr=mkF [(0,rv),(1,bv),(7,vv),(10,.map (Z M)),(74,vv),(75,.int .i64 (aag n b).length),(76,.int .i64 i)]/\
   y.own M=Z (.map (aie al))/\(∀(j:Nat) v,j<i->(kz (aag n b))[j]?=Z v->abo al v=Z (j:Int))/\Le h3 y) ⟨0,[],rfl,Og _,rfl,o4,fun j v T=>absurd T (air j),l4⟩ ?_
 clear o4 l4 e4 w4;clear H;rintro k fr y U ⟨i,al,rfl,hi,rfl,oM,a6,lz⟩;refine Uy ?_;refine Kl.intro (fun t=>?_) (fun hf=>?_)
 .have a:i<(aag n b).length:=acb t;clear t;have d:i<(kz (aag n b)).length:=by rw[y6];exact a
  have ad:=r3.TA i d;have ld:=(r3.le Nn.RP lz).Uc i d;have hv:=Gc d;generalize (kz (aag n b))[i]=v at hv ld;have st:=mapI_set oM v (i:Int);have aw:=aaa i NH;have l5:=lz.put (.map (aie (acs al v (i:Int)))) nM;have w5:=U.put (.map (aie (acs al v (i:Int)))) (U.lt oM);simp only[HO,seval,ad,ld,st,aw];refine lgA NH ⟨i+1,acs al v (i:Int),rfl,a,rfl,aai.Y3 _ _ _,fun j v' T V=>?_,l5⟩;rw[XR];by_cases e:j=i
  .subst e;rw[qL7 (Option.some.inj (hv.symm.trans V))]
  .have:v≠v':=fun q=>e (by
    subst q;exact(qL165 (Ny.1 V).1 aX).1 (V.trans hv.symm))
   rw[Z6 this];exact a6 j v' NH V
 have C:(aag n b).length<=i:=vp hf;obtain rfl:i=(aag n b).length:=NH;clear C hf hi;have⟨h5,h6,e5,e6,l6,w6,nX,G0⟩:=GX.new U ((aag n b).length:Int);refine Sk (IX lv @ait e5 e6 ll) ?_;have aF:=S.trans lz
 have b8:y.own y.next=Y:=(Le.refl y).next U (qL0 _)
 generalize y.next=X at*
 refine lIn (fun k fr hy=>∃(i:Nat)(ev:vV),k=b.length-i/\i<=b.length/\fr=mkF [(0,rv),(7,vv),(10,.map (Z M)),(13,pT (Z X)),(88,bv),(89,.int .i64 b.length),(90,.int .i64 i)]/\GX hy X (aag n b).length ev (aat n b|>.take i)/\Le y hy/\Z2 y ev) ⟨0,_,rfl,Og _,rfl,G0,l6,fun b hb=>by simp[blk]at hb⟩ ?_;clear G0 w6 l6 e6 e5;rintro k fr hy b9 ⟨i,ev,rfl,hi,rfl,G,J,az⟩;refine Uy ?_;refine Kl.intro (fun t=>?_) (fun hf=>?_)
 .have a:i<b.length:=acb t;clear t;have A:=CA a;have cc:(aat n b)[i]?=Z ((abD n b b[i].1:Int),(abD n b b[i].2:Int)):=by rw[aat,Q4,A];rfl
  have Q:(aat n b).take (i+1)=(aat n b).take i++[((abD n b b[i].1:Int),(abD n b b[i].2:Int))]:=by rw[fE,cc];rfl
  have a8:((aat n b).take i).length+1<=100000:=by rw[uu];omega
  have cd:=BS A;have s:∀x,aO b[i] x=tT->abo al x=Z (abD n b x:Int):=fun x hx=>by
   have:x∈kz (aag n b):=by rw[<-adX hR,jn,Wv,aeS];exact⟨_,cd,hx⟩
   have⟨j,T⟩:=vZ.1 this;have bb:=(Ny.1 T).1;rw[y6]at bb;rw[a6 j x bb T,<-idx_eq T]
  have cf:=s b[i].1 (by simp[aO]);have cg:=s b[i].2 (by simp[aO]);generalize b[i]=p at*;have ad:=hp.addr (k:=.i64) i a;have ld:=(hp.le (aF.trans J)).load A;have⟨de,h6,e6,s6,l6,w6,o6⟩:=Ut b9 p;have m0:=lK o6;have m1:=HY o6;have aw:=aaa i NH;have bg:=(J.trans l6).own _ _ oM;have k1:=aiO bg p.1 fF;have k2:=aiO bg p.2 fF;rw[cf]at k1;rw[cg]at k2;simp only[cond_false,alR]at k1 k2;have G6:=G.le l6;obtain⟨v',g4,g5,g6,q4,q5,q6,G7,dg,l7,f7,-⟩:=G6.push' w6 ((abD n b p.1:Int),(abD n b p.2:Int)) a8;have⟨ck,a7⟩:=f7 y (J.trans l6) b8 az;rw[<-Q]at G7;have cm:=xe (abD n b p.1:Int) (abD n b p.2:Int);simp only[HO,seval,ad,ld,e6,s6,Dh,Z0,Di,Ip,EL,m0,m1,k1,k2,G6.ld.2.2,cm,q4,q5,q6,aw];exact lgA NH ⟨i+1,v',rfl,a,rfl,G7,ck,a7⟩
 have C:b.length<=i:=vp hf;have a8:(aat n b).length=b.length:=by simp[aat]
 rw[yM NH]at G;have D:=aF.trans J;have Ry:=R.up D;have⟨cp,bh,cq⟩:=Ry.blks;have ay:∀c∈L::us.filterMap blk,h.own c≠Y:=R.blks.2.1;have cx:∀c,blk ev=Z c->c∉L::us.filterMap blk:=fun c hc s=>by have h1:=az c hc;have⟨o,P⟩:=vg.1 (ay c s);rw[aF.own _ _ P]at h1;cases h1
 have cz:∀c∈L::us.filterMap blk,blk vv≠Z c:=fun c s hc=>ay c s (av c hc);have bk:=GS.Fi G.gp cx;refine Sk G.ld.1 ?_;refine kCi func59 (AC.side (L::us.filterMap blk) hy _ bh cp (Im W0 _ ⟨((aag n b).length:Int),aat n b⟩ (rem (L::us.filterMap blk) hy) ⟨ev,rfl,GP.pr bk,GS.okc bk⟩)) ?_;rintro x h9 w9 ⟨W,⟨lr,ov,e,rfl,I⟩,l9,aH⟩;have bm:Le h h9:=by
  refine⟨?_,fun c o P=>?_⟩
  .have e1:=l9.ext;have e2:=lr.ext;rw[e1,e2,vL];exact D.ext
  .by_cases s:c∈L::us.filterMap blk
   .rw[(aH c s).2];exact D.own _ _ P
   .exact l9.own _ _ (lr.own _ _ (Th.2 ⟨D.own _ _ P,s⟩))
 have bo:e≠0->¬XU n (eN n b):=fun he hP=>by obtain⟨rs,-,-,-,q,-⟩:=I.XK (ad6 O.1) (O.two h2) ((afA hR).2 hP);exact he q
 by_cases he:e=0
 rotate_left
 .have d0:decide (e=0)=fF:=IE he;refine Sk (XC @bne.eq_1.{0} d0) ?_
  exact .inl ⟨trivial,bo he,bm⟩
 subst he;obtain⟨rs,hX,hG,hF,aJ⟩:∃rs,ajk (aag n b).length (aat n b)=Z rs/\Av (aag n b).length (aat n b) rs/\Flat (aag n b).length (Xl rs)/\RL (RL RP) W ov rs:=by
  rcases I with⟨-,q,-⟩|⟨-,-,q,-⟩|⟨-,-,-,-,q,-⟩|⟨-,-,rs,q1,q2,q3,-,q4⟩
  .omega
  .omega
  .omega
  .exact⟨rs,q1,q2,q3,q4⟩
 have BR:=O.rowMany h2 hX hG hF;have R9:=Ry.over l9 aH;have aa:RL RP W vv (kz (aag n b)):=(RL.remK (r3.le Nn.RP (lz.trans J)) cz).le Nn.RP lr;have cC:rs.length=(aag n b).length:=hG.len;have cE:=fun g=>aJ.qP6 g;have d0:decide ((0:Int)=0)=tT:=by decide
 have cJ:Le b0 W:=by
  refine⟨?_,fun c o P=>?_⟩
  .rw[lr.ext,vL,D.ext];exact R.le.ext
  .have s:c∉L::us.filterMap blk:=fun s=>by rw[cq c s]at P;cases P
   exact lr.own _ _ (Th.2 ⟨D.own _ _ (R.le.own _ _ P),s⟩)
 have cK:∀(i:Nat) j,j∈rs.getD i []->0<=j/\j<((aag n b).length:Int):=fun i j T=>by obtain⟨-,w,rfl,hw,-⟩:=hG.nat (ad6 O.1).GD T;omega
 have K:∀i,(rs.getD i []).length<=200:=fun i=>by
  by_cases hi:i<(aag n b).length
  .have s:=hG.jD (ad6 O.1).GD (ad6 O.1).q9;have nd:=s.nd i;have:=tf nd (B:=rG (aag n b).length) fun w hw=>EP.2 (s.lt w i (s.sy i w hw));rw[y5]at this;have e2:(Xl rs i).length=(rs.getD i []).length:=by simp[Xl]
   omega
  .rw[Db,AQ NH];simp
 refine Sk (xU @bne.eq_1.{0} d0 cE cC) ?_
 have cM:b.length≠1:=NH;have z:=stR_start (b:=b) (rs:=rs) aP;have br:Rows W h9 L us (stR n rows b rs 0 0):=by rw[z];exact R9
 have aK:∀i k,∀r∈stR n rows b rs i k,r.length<=1200:=fun i k r hr=>by
  obtain⟨v,hv,rfl⟩:=ZT.1 hr;rw[aev,j3];have h1:(rows.getD v []).length<=1000:=by
   rw[Db];cases y:rows[v]? with
   |none=>simp
   |some r=>exact aT r (BS y)
  have h2:(if v∈aag n b then(if abD n b (v:Int)<i then rs.getD (abD n b (v:Int)) []else if abD n b (v:Int)=i then(rs.getD i []).take k else[])else[]).length<=200:=by
   split
   .split
    .exact K _
    .split
     .rw[uu];have:=K i;omega
     .simp
   .simp
  omega
 have bx:us.length=n:=by rw[R.len];exact aP
 refine lIn (fun k fr y=>∃(i:Nat)(us:xLV),k=(aag n b).length-i/\i<=(aag n b).length/\fr=mkF [(0,rv),(7,vv),(116,ov),(117,.int .i64 (aag n b).length),(118,.int .i64 i)]/\us.length=n/\Rows W y L us (stR n rows b rs i 0)) ⟨0,us,rfl,Og _,rfl,bx,br⟩ ?_;clear br R9 bx z aH l9 w9 bm;clear h9;rintro k fr bB bF ⟨i,m,rfl,hi,rfl,E,Rz⟩;refine Uy ?_;refine Kl.intro (fun t=>?_) (fun hf=>?_)
 rotate_left
 .have C:(aag n b).length<=i:=vp hf;obtain rfl:i=(aag n b).length:=NH;rw[stR_end cM hX]at Rz;refine Uy ?_;exact .inr ⟨trivial,BR,m,E,Rz.base cJ⟩
 have a:i<(aag n b).length:=acb t;clear t;have aL:i<rs.length:=NH;have cN:=aJ.qP7 i aL;have⟨cv,ae,cP⟩:=aJ.loadS Mb rfl i aL;have cR:rs.getD i []=rs[i]:=by rw[Db,Gc aL];rfl
 rw[<-cR]at ae;have cU:=fun g=>ae.DH g;have cW:=aaa i NH;have d:i<(kz (aag n b)).length:=by rw[y6];exact a
 have cZ:=aa.TA i d;have ai:=fun g (l:Le W g)=>(aa.le Nn.RP l).Uc i d;have c0:=CA a;have c3:(kz (aag n b))[i]=(((aag n b)[i]:Nat):Int):=by simp[kz]
 rw[c3]at ai;have aq:(aag n b)[i]<n:=(aeT.1 (si a)).1;generalize (aag n b)[i]=w at*;have bH:=Rows.ix (n:=n) L .i64 w aq;rw[<-aW]at bH;refine Sk (Yb cN (cP bB Rz.le) cU) ?_;refine lIn (fun k fr hy=>∃(j:Nat)(us:xLV),k=(rs.getD i []).length-j/\j<=(rs.getD i []).length/\fr=mkF [(0,rv),(7,vv),(18,.int .i64 i),(116,ov),(117,.int .i64 (aag n b).length),(118,.int .i64 i),(123,cv),(124,.int .i64 (rs.getD i []).length),(125,.int .i64 j)]/\us.length=n/\Rows W hy L us (stR n rows b rs i j)) ⟨0,m,rfl,Og _,rfl,E,Rz⟩ ?_;clear Rz E bF;clear m bB;rintro k fr N bI ⟨j,m,rfl,T,rfl,E,F⟩;refine Uy ?_;refine Kl.intro (fun t=>?_) (fun hf=>?_)
 rotate_left
 .have C:(rs.getD i []).length<=j:=vp hf;obtain rfl:j=(rs.getD i []).length:=NH;rw[stR_next]at F;refine Sk cW ?_;exact lgA (stpP a) ⟨i+1,m,rfl,a,rfl,E,F⟩
 have f:j<(rs.getD i []).length:=acb t;clear t;have adc:=ae.TA j f;have bN:=fun g (l:Le W g)=>(ae.le Nn.RP l).Uc j f;have bQ:=Gc f;have aC:=cK i _ (si f);generalize (rs.getD i [])[j]=x at bQ aC bN;obtain⟨x,rfl⟩:=HV aC.1;have bW:x<(aag n b).length:=NH;have aD:x<(kz (aag n b)).length:=by rw[y6];exact bW
 have c4:=aa.TA x aD;have ar:=fun g (l:Le W g)=>(aa.le Nn.RP l).Uc x aD;have bY:(kz (aag n b))[x]=aiD n b (x:Int):=by unfold aiD;rw[aax,Db,Gc bW];simp[kz]
 rw[bY]at ar;have c5:=aaa j (by have:=K i;omega);have hlen:(stR n rows b rs i j).length=n:=ahF;have aN:=CA (show w<(stR n rows b rs i j).length by rw[hlen];exact aq);have c6:(stR n rows b rs i j)[w]'(by rw[hlen];exact aq)=(stR n rows b rs i j).getD w []:=by rw[Db,Gc (by rw[hlen];exact aq)];rfl
 rw[c6]at aN;have bZ:((stR n rows b rs i j).getD w []).length<=100000:=by have:=aK i j _ (BS aN);omega
 obtain⟨u,u',H,h5,h6,hu,e4,e5,e6,l4,l5,c9,R6,w6,-⟩:=F.push bI aN (aiD n b (x:Int)) bZ;rw[stR_step c0 bQ]at R6;have bs:=DQ N (aiD n b (x:Int));rw[e4]at bs;have J:=F.le;have lu:∀g:aai,g.own L=Z (.cells m)->aaC pG g 28 ⟨L,w,Y⟩=Z u:=fun g P=>by rw[Fq Mb rfl P];exact hu
 simp only[HO,seval,adc,bN N J];refine gh (fRn 0 16 (JQ 16 [15] (JQ 17 [11,16] (tA [18] (JQ 19 [0,1,2,3,4,5,6,7,8,9,10,11,12,13,14,15,16,17,18] .done))))) ?_;simp only[HO,seval,Qg,bH,cZ,ai N J,ai H (J.trans l4),ai h5 l5,c4,ar N J,ar H (J.trans l4),ar h5 l5,lu N F.oL,lu H (l4.own _ _ F.oL),lu h5 c9,bs,e5,e6,c5];exact lgA (stpP f) ⟨j+1,_,rfl,f,rfl,by simpa using E,R6⟩
def ajK(i:LA)(b0 h:aai)(L n:Nat)(us:xLV)(rows:AM)(R:Rows b0 h L us rows)(a:rows.length=n)(bv:vV)(b:xLP)(f:PR b0 bv b)(O:aeo n b)(s:b.length<=594)(t:n<=200)(d:∀r∈rows,r.length<=1000):
  AC pG i 35 [sL (Z L) n n,bv] h fun v h'=>(v=.bool fF/\¬XU n (eN n b)/\Le h h')\/(v=.bool tT/\ah0 n b/\∃c,c.length=n/\Rows b0 h' L c (aiC n rows b)):=by
 have hR:=O.1.GD;by_cases o:b.length=1
 rotate_left
 .have A:0<b.length:=abz.2 O.2.1;exact ajo i b0 h L n us rows R a bv b f O NH s t d
 have u:=O.rowOne o;obtain⟨p,rfl⟩:=Bc.1 o;have⟨a1,a2,w⟩:=hR p Ma;have⟨B,z⟩:=p;simp only at a1 a2 w;obtain⟨x,rfl⟩:=HV a1;obtain⟨y,rfl⟩:=HV (show 0<=z by omega);have ne:x≠y:=NH;refine(ajI i b0 h L n us rows R a bv x y f NH NH ne d).mono ?_;rintro v h' ⟨rfl,c,j,R'⟩;refine .inr ⟨rfl,u,c,j,?_⟩;have e:(rows.set x (rows.getD x []++[(y:Int)])).set y (rows.getD y []++[(x:Int)])=aiC n rows [((x:Int),(y:Int))]:=by
  refine EH fun v=>?_;by_cases k:v<n
  .have g:(aiC n rows [((x:Int),(y:Int))])[v]?=Z (rows.getD v []++ag2 n [((x:Int),(y:Int))] v):=by simp[aiC,k]
   rw[g,fj,Ua,fj];unfold ag2;rw[qL7 (show[((x:Int),(y:Int))].length=1 from rfl)];simp only[qL204,Int.natCast_inj];by_cases c1:y=v
   .subst c1;have c2:¬y=x:=fun q=>ne q.symm;simp[c2,a,k]
   .by_cases c2:x=v
    .subst c2;simp[c1,a,k]
    .have l:¬v=y:=fun q=>c1 q.symm;have m:¬v=x:=fun q=>c2 q.symm;simp only[c1,c2,l,m,if_false,ak3];rw[Db,Gc NH];rfl
  .rw[AQ (by simp;omega),AQ (by rw[addR_len];omega)]
 rw[<-e];exact R'
variable {es:List Pr} {i:Nat}
def certM_nil(n:Nat):ag3 n []=rP n []:=by
 refine EH fun v=>?_;by_cases a:v<n
 .simp[ag3,a]
 .rw[AQ (by rw[aic];omega),AQ (by simp;omega)]
def ajL(n:Nat)(pre:List xLP)(b:xLP):ag3 n (pre++[b])=aiC n (ag3 n pre) b:=by unfold aiC;refine V3 fun v a=>?_;rw[aiB (EP.1 a)];simp
def ajM(m:bX ⟨(n:Int),es⟩)(h:∀(j:Nat) b,j<i->(vq n es)[j]?=Z b->ah0 n b):∀r∈ag3 n ((vq n es).take i),r.length<=n:=by
 have hR:=m.GD;have⟨c,o⟩:=ahE (cQ n es) _ es rfl;have eb:vq n es=(CY (cQ n es) es).map fun k=>abb n es k:=aaB n es;have e:∀k∈(CY (cQ n es) es).take i,abb n es k∈vq n es/\ah0 n (abb n es k):=fun k e=>by
  have⟨j,d⟩:=vZ.1 e;rw[aex]at d;split at d
  .rename_i f;have hb:(vq n es)[j]?=Z (abb n es k):=by rw[eb,Q4,d];rfl
   exact⟨BS hb,h j _ f hb⟩
  .cases d
 obtain⟨g,-,-⟩:=catN_ok m _ (c.sublist (List.take_sublist i _)) e;intro r l;obtain⟨v,q,rfl⟩:=ZT.1 l;have nd:=g.nd v;have:=tf nd (B:=rG n) fun w hw=>EP.2 (g.lt w v (g.sy v w hw));rw[y5]at this;refine K4 (Nat.le_of_eq ?_) this;rw[eb,<-qL258,qL230];generalize (CY (cQ n es) es).take i=L
 induction L with
 |nil=>rfl
 |cons a L p=>rw[aj3,aj3,aev,aev,p];simp[acr]
def ah0.alx{b:xLP}(B:ah0 n b)(hR:aV n b):XU n (eN n b):=⟨acr n b,B.Rl,B.flat,fun v w=>by rw[B.mem,vD hR]⟩
def aiE(G:GM)(h':aai)(x:vV):Prop:=
 (¬bX G/\x=.tuple #[.slice Y 0 0,.slice Y 0 0,.int .i64 20])\/
 (bX G/\aak G.n.toNat G.es/\∃b,x=.tuple #[b,.slice Y 0 0,.int .i64 0]/\RL (RL RP) h' b (ag3 G.n.toNat (vq G.n.toNat G.es))/\Av G.n.toNat G.es (ag3 G.n.toNat (vq G.n.toNat G.es))/\Flat G.n.toNat (Xl (ag3 G.n.toNat (vq G.n.toNat G.es))))\/
 (bX G/\¬aak G.n.toNat G.es/\∃a,x=.tuple #[.slice Y 0 0,a,.int .i64 0]/\PR h' a (abv G)/\Ct a (abv G).length)
def ahd(A:LA)(v:vV)(G:GM)(h:aai)(hg:GR h v G):
  AC pG A 14 [v] h fun x h'=>Le h h'/\aiE G h' x:=by
 have o:=hg;have⟨K,es⟩:=G
 obtain⟨ev,rfl,hp⟩:=hg.open
 refine AC.vF qS32 ntmps14 results14 fun M=>?_;obtain⟨h1,b1,f,ay,-,I⟩:=r8 (n:=K) M hp
 generalize h.next=B at*
 have N:=I h1 (Le.refl _);refine Sk (XC b1 N.1) ?_;refine kCi qS5 (ak A _ ⟨K,es⟩ h1 (o.le f)) ?_;rintro x h2 w2 ⟨⟨bb,rfl,s⟩,l2⟩;cases bb with
 |false=>refine Uy ?_;exact⟨f.trans l2,.inl ⟨(fun q=>by cases s.2 q),rfl⟩⟩
 |true=>
 have d:=s.1 rfl;clear s;have h0:0<=K:=d.n0;obtain⟨n,rfl⟩:=HV h0;have Q:(n:Int)<=200:=d.n1;refine Sk ((I h2 l2).1) ?_;refine kCi func34 (Cw A _ ⟨(n:Int),es⟩ h2 (o.le (f.trans l2))) ?_;rintro x h3 w3 ⟨l3,⟨u,-⟩|⟨-,bv,rfl,hB⟩⟩
 .exact absurd d u
 have l:=l2.trans l3;simp only[aax]at hB;have d0:decide ((0:Int)=0)=tT:=by decide
 have mk:abl pG h3 26 (.int .i64 (n:Int)) (.int .i64 (n:Int))=Z (sL (Z h3.next) n n,h3.alloc (.cells (rP n (.slice Y 0 0)))):=Ye (P:=pG) (t:=26) (z:=.slice Y 0 0) h3 qS20 Ji rfl rfl rfl Ji Mb Ji n NH
 have⟨h4,e4,l4,w4,o4⟩:=Tt w3 (rP n (.slice Y 0 0));rw[e4]at mk
 have nL:h3.own h3.next=Y:=(Le.refl h3).next w3 (qL0 _)
 have A3:=I h3 l;have lB:=fun g=>hB.len (P:=pG) alD g;have R0:=Rows.start (b0:=h3) o4 l4 nL
 generalize h3.next=L at*
 have az:=afx n es;have C:=d.len;simp only at C;simp only[HO,seval,bne,d0,Ii,Ip,EL,A3.2.1,mk,lB];clear e4 mk o4;refine lIn (fun k fr J=>∃(i:Nat)(us:xLV),k=(vq n es).length-i/\i<=(vq n es).length/\fr=mkF [(1,pT (Z B)),(7,sL (Z L) n n),(26,bv),(27,.int .i64 (vq n es).length),(28,i)]/\
   us.length=n/\Rows h3 J L us (ag3 n ((vq n es).take i))/\∀(j:Nat) b,j<i->(vq n es)[j]?=Z b->ah0 n b) ⟨0,rP n (.slice Y 0 0),rfl,Og _,rfl,qL255,by rw[qL252,certM_nil];exact R0,fun j b D=>absurd D (air j)⟩ ?_
 clear R0 l4 w4;clear h4;rintro k fr J aC ⟨i,us,rfl,hi,rfl,S,R,m⟩;refine Uy ?_;refine Kl.intro (fun ht=>?_) (fun hf=>?_)
 rotate_left
 .have T:(vq n es).length<=i:=vp hf;rw[yM T]at R;have E:∀b∈vq n es,ah0 n b:=fun b hb=>by
   have⟨j,D⟩:=vZ.1 hb;exact m j b (by have:=(Ny.1 D).1;omega) D
  have⟨c1,c2⟩:=cert_ok d E;have w:aak n es:=(acp d).2 fun b hb=>(aem (aaQ d hb)).2 ((E b hb).alx (aaQ d hb).1.GD);refine Uy ?_;exact⟨(f.trans l).trans R.le,.inr (.inl ⟨d,w,_,rfl,R.rl S,c1,c2⟩)⟩
 have a:i<(vq n es).length:=acb ht;clear ht;have U:=CA a;have O:=aaQ d (si a);have V:(vq n es)[i].Sublist es:=by obtain⟨p,-,e⟩:=aaP.1 (si a);rw[e];exact ajm _
 have W:=hB.addr (P:=pG) alD eY Ji (k:=.i64) i a;have⟨xb,pb,X⟩:=hB.loadS eY rfl i a;have aa:(vq n es).take (i+1)=(vq n es).take i++[(vq n es)[i]]:=XJ a;have ae:(vq n es)[i].length<=594:=K4 V.length_le C;have ai:=ajM d m;have aj:(vq n es)[i]∈vq n es:=si a;generalize (vq n es)[i]=b at*;have aw:=aaa i NH;refine Sk (XC W (X J R.le)) ?_;refine kCi func35 (ajK A h3 J L n us _ R (aic _ _) xb b pb O ae NH (fun r aq=>by have:=ai r aq;omega)) ?_;rintro x h5 w5 (⟨rfl,ar,l5⟩|⟨rfl,BR,av,F,R'⟩)
 .have w:¬aak n es:=fun q=>ar ((aem O).1 ((acp d).1 q b aj));have y:=R.le.trans l5;refine Sk ((I h5 (l.trans y)).1) ?_;refine kCi func36 (KFind_any A _ ⟨(n:Int),es⟩ h5 (o.le (f.trans (l.trans y)))) ?_;rintro x h6 w6 ⟨l6,⟨u,-⟩|⟨-,lv,rfl,pl,ct⟩⟩
  .exact absurd d u
  refine Uy ?_;exact⟨(f.trans (l.trans y)).trans l6,.inr (.inr ⟨d,w,lv,rfl,pl,ct⟩)⟩
 .rw[<-ajL,<-aa]at R';simp only[HO,seval,aw];exact lgA (stpP a) ⟨i+1,av,rfl,a,rfl,F,R',fun j c D H=>by
    by_cases e:j=i
    .subst e;rw[U]at H;injection H with H;rw[<-H];exact BR
    .exact m j c NH H⟩
end
section
attribute [local instance] Classical.propDecidable
attribute [local irreducible] Kp MQ lU KO1 KO KN KX KE VK Kl ZJ TC aab
variable {es:List Pr}
def ajH(h:aaz es≠0):bX ⟨200,es⟩:=j9 fun q=>h (Z6 q)
def CertG(G:GM)(rs:AM)(ps:xLP):Prop:=bX G/\((ps=[]/\Av G.n.toNat G.es rs/\z8 G.n.toNat G.es rs)\/(ps≠[]/\rs=[]/\aaz ps≠0/\∀p∈ps,p∈G.es))
def ahY(s:LA)(v z y:vV)(G:GM)(rs:AM)(ps:xLP)(h:aai)(hg:GR h v G)(R:RL (RL RP) h z rs)(hw:PR h y ps):
  AC pG s 19 [v,z,y] h fun x h'=>RR (CertG G rs ps) x/\Le h h':=by
 have u:=hg;have⟨A,es⟩:=G
 obtain⟨ev,rfl,S⟩:=hg.open
 refine AC.vF qS22 ntmps19 results19 fun C=>?_;obtain⟨D,b1,a,aa,-,F⟩:=r8 (n:=A) C S
 generalize h.next=B at*
 have lR:=fun g=>R.qP6 g;have T:=fun g=>hw.len g;refine Sk (XC b1 ((F D (Le.refl _)).1)) ?_;refine kCi qS5 (ak s _ ⟨A,es⟩ D (u.le a)) ?_;rintro x h2 w2 ⟨⟨H,rfl,j⟩,l2⟩;cases H with
 |false=>refine Uy ?_;exact⟨.f (fun q=>by cases j.2 q.1),a.trans l2⟩
 |true=>
 have U:=j.1 rfl;clear j;have b:=a.trans l2;refine Sk T ?_;by_cases r:ps=[]
 .subst r;have d:decide (((([]:xLP).length:Nat):Int)=0)=tT:=by decide
  refine Sk (XC d ((F h2 l2).1)) ?_;refine kCi func24 (Plane_any s _ z ⟨A,es⟩ rs h2 (u.le b) (R.le (Nn.RL Nn.RP) b)) ?_;rintro x h3 w3 ⟨⟨H,rfl,j⟩,l3⟩;refine Uy ?_;refine⟨⟨H,rfl,j.trans ⟨fun q=>⟨q.1,.inl ⟨rfl,q.2⟩⟩,fun q=>⟨q.1,?_⟩⟩⟩,b.trans l3⟩;rcases q.2 with q|q
  .exact q.2
  .exact absurd rfl q.1
 have ae:0<ps.length:=abz.2 r;have d:decide ((ps.length:Int)=0)=fF:=IE NH;refine Sk (XC d lR) ?_;by_cases c1:rs=[]
 rotate_left
 .have:0<rs.length:=abz.2 c1;have d1:decide ((rs.length:Int)>0)=tT:=WA NH;refine Sk d1 ?_;refine⟨.f fun q=>?_,b⟩;rcases q.2 with q|q
  .exact r q.1
  .exact c1 q.2.1
 subst c1;have d1:decide (((([]:AM).length:Nat):Int)>0)=fF:=by decide
 refine Sk d1 ?_;refine kCi func25 (Kind_any s y ps h2 (hw.le b)) ?_;rintro x h3 w3 ⟨rfl,l3⟩;by_cases c2:aaz ps=0
 .have d2:decide (aaz ps=0)=tT:=WA c2;refine Sk @d2 ?_;refine⟨.f fun q=>?_,b.trans l3⟩;rcases q.2 with q|q
  .exact r q.1
  .exact q.2.2.1 c2
 have d2:decide (aaz ps=0)=fF:=IE c2;have I:=l2.trans l3;have J:=U.len;have K:=(ajH c2).len;simp only at J K;refine Sk (XC @d2 T) ?_;refine lIn (fun k fr o=>∃(i:Nat),k=ps.length-i/\i<=ps.length/\fr=mkF [(3,pT (Z B)),(26,y),(27,.int .i64 ps.length),(28,.int .i64 i)]/\Le D o/\∀p∈ps.take i,p∈es) ⟨0,rfl,Og _,rfl,I,Ma⟩ ?_;rintro k fr o L ⟨i,rfl,hi,rfl,M,l⟩;refine Uy ?_;refine Kl.intro (fun V=>?_) (fun hf=>?_)
 rotate_left
 .have N:ps.length<=i:=vp hf;rw[yM N]at l;refine Uy ?_;exact⟨.t ⟨U,.inr ⟨r,rfl,c2,l⟩⟩,a.trans M⟩
 have e:i<ps.length:=acb V;clear V;have O:=CA e;have w:=si e;have P:ps.take (i+1)=ps.take i++[ps[i]]:=XJ e;generalize ps[i]=p at*;have ad:=hw.addr (k:=.i64) i e;have ld:=(hw.le (a.trans M)).load O;have⟨ai,W,e6,s6,l6,w6,o6⟩:=Ut L p;have Q:=uM o6;have aw:=aaa i NH;have m:=M.trans l6
 generalize o.next=E at*
 simp only[HO,seval,ad,ld,e6,s6,Q,Di,Ip,EL,(F W m).2.2];refine kCi func43 (aiZ s ev es p W (S.le (a.trans m)) NH) ?_;rintro x h7 w7 ⟨rfl,X⟩;by_cases c:p∈es
 .have dc:decide (p∈es)=tT:=WA c;simp only[HO,seval,dc,aw];exact lgA (JS e) ⟨i+1,rfl,e,rfl,m.trans X,fun q o=>by
    rw[P,abe,Gw]at o;rcases o with o|rfl
    .exact l q o
    .exact c⟩
 .have dc:decide (p∈es)=fF:=IE c;refine Sk dc ?_;refine⟨.f fun q=>?_,a.trans (m.trans X)⟩;rcases q.2 with q|q
  .exact r q.1
  .exact c (q.2.2.2 p w)
end
section
attribute [local irreducible] Kp MQ lU KO1 KO KN KX KE VK Kl ZJ TC aab
attribute [local irreducible] Jz JL vq cQ
variable {es:List Pr} {h':aai} {n:Nat} {rs:AM} {x:Value}
def noR:bX ⟨((0:Nat):Int),[]⟩:=V5 WY WY WY WY
def RN(h:aai):RL (RL RP) h (.slice Y 0 0) []:=(Lj.nil (RL RP) h).rl (Nn.RL Nn.RP)
def aiE.plan(c:aiE ⟨(n:Int),es⟩ h' x)(b:bX ⟨(n:Int),es⟩)(d:aak n es):
  ∃a rs,x=.tuple #[a,.slice Y 0 0,.int .i64 0]/\RL (RL RP) h' a rs/\Av n es rs/\Flat n (Xl rs):=by
 rcases c with⟨q,-⟩|⟨-,-,a,e,h2,h3,f⟩|⟨-,q,-⟩
 .exact absurd b q
 .exact⟨a,_,e,h2,h3,f⟩
 .exact absurd d q
def aiE.twist(c:aiE ⟨(n:Int),es⟩ h' x)(b:bX ⟨(n:Int),es⟩)(d:¬aak n es):
  ∃a,x=.tuple #[.slice Y 0 0,a,.int .i64 0]/\PR h' a (abv ⟨(n:Int),es⟩)/\Ct a (abv ⟨(n:Int),es⟩).length:=by
 rcases c with⟨q,-⟩|⟨-,q,-⟩|⟨-,-,q⟩
 .exact absurd b q
 .exact absurd q d
 .exact q
def aiF(a:bX ⟨(n:Int),es⟩)(G:Av n es rs)(F:Flat n (Xl rs)):CertG ⟨(n:Int),es⟩ rs []:=⟨a,.inl ⟨rfl,G,(En a.GD a.q9 G).2 F⟩⟩
def ahU (W0:LA) (h:aai):AC Tryz.prog W0 11 [] h fun x h'=>x=.bool true/\Le h h':=by
 refine AC.vF Tryz.func11 Tryz.ntmps11 Tryz.results11 fun hwf=>?_;have d0:decide ((0:Int)=0)=true:=by decide
 have d5:decide ((5:Int)=5)=true:=by decide
 have d4:decide ((4:Int)=4)=true:=by decide
 have aw0:aaY .i64 (0+0)=0:=by decide
 have E5:afP 0 5 5=k5L:=by decide
 obtain⟨h1,e1,l1,w1,o1⟩:=Tt hwf (Iu ajl);have m1:=mkP6 h (0,1) (0,2) (1,2) (2,3) (2,4) (3,4);have hk:Iu [(0,1),(0,2),(1,2),(2,3),(2,4),(3,4)]=Iu ajl:=rfl;rw[hk,e1]at m1
 have p1:PR h1 (.slice (some ⟨h.next,0,none⟩) 6 6) ajl:=PR.made o1 rfl
 obtain⟨h2,h3,a2,s2,l3,w3,lG⟩:=newG (n:=5) w1 p1;have bg:=Wj (n:=5) p1.sl;obtain⟨h4,h5,a4,s4,l5,w5,nX,G0⟩:=GX.new w3 5;simp only[HO,Nat.reduceLT,↓reduceIte,Nat.reduceEqDiff,reduceCtorEq,xe,m1,bg,a2,s2,ait,a4,s4]
 generalize h.next=R1 at*
 generalize h1.next=T at*
 generalize h3.next=X at*
 have p3:=p1.le l3;have l03:=l1.trans l3;clear p1 m1 e1 o1 a2 s2 a4 s4 bg hk w1;refine aab.intro (fun k fr hq=>∃(i:Nat) (v:Value),k=5-i/\i<=5/\fr=mkF [(1,.pointer (some ⟨T,0,none⟩)),(2,.pointer (some ⟨X,0,none⟩)),(23,.int .i64 (i:Nat))]/\GX hq X 5 v (afP 0 5 i)/\Le h3 hq/\Z2 h3 v)
  5 [(1,.pointer (some ⟨T,0,none⟩)),(2,.pointer (some ⟨X,0,none⟩)),(23,.int .i64 (0:Nat))] fD ⟨0,_,rfl,Og _,rfl,G0,l5,fun b hb=>by simp[blk]at hb⟩ ?_
 clear G0 l5 w5;rintro k fr hq hwq ⟨i,v,rfl,hi,rfl,G,lq,ap⟩;have hb1:=ad5 0 5 i;by_cases c:i<5
 .have dc:decide ((i:Int)<5)=true:=WA NH;have tc:((i:Int)<5)=True:=eq_true NH;have aw:=aaa i NH;simp only[HO,Nat.reduceLT,↓reduceIte,Nat.reduceEqDiff,reduceCtorEq,dc,tc,aw];refine aab.intro (fun k fr hz=>∃(j:Nat) (v:Value),k=5-j/\i+1<=j/\j<=5/\fr=mkF [(1,.pointer (some ⟨T,0,none⟩)),(2,.pointer (some ⟨X,0,none⟩)),(3,.int .i64 (i:Nat)),(4,.int .i64 (j:Nat)),(23,.int .i64 (i:Nat))]/\GX hz X 5 v (afP 0 5 i++acJ i j)/\Le h3 hz/\Z2 h3 v)
   (5-(i+1)) [(1,.pointer (some ⟨T,0,none⟩)),(2,.pointer (some ⟨X,0,none⟩)),(3,.int .i64 (i:Nat)),(4,.int .i64 (i+1:Nat)),(23,.int .i64 (i:Nat))] fD ⟨i+1,v,rfl,qL0 _,NH,rfl,by simpa[acJ]using G,lq,ap⟩ ?_
  clear G lq ap hwq;clear hq v;rintro k fr hz hwz ⟨j,v,rfl,hj,hj5,rfl,G,lq,ap⟩;by_cases c2:j<5
  rotate_left
  .have dc:decide (((j:Nat):Int)<5)=false:=IE NH;have tc:(((j:Nat):Int)<5)=False:=eq_false NH;obtain rfl:j=5:=NH;simp only[HO,Nat.reduceLT,↓reduceIte,Nat.reduceEqDiff,reduceCtorEq,dc,tc,aw];exact tn (5-(i+1)) [(1,.pointer (some ⟨T,0,none⟩)),(2,.pointer (some ⟨X,0,none⟩)),(23,.int .i64 (i+1:Nat))] NH fD ⟨i+1,v,rfl,NH,rfl,by rw[afP,EL];exact G,lq,ap⟩
  have dc:decide (((j:Nat):Int)<5)=true:=WA NH;have tc:(((j:Nat):Int)<5)=True:=eq_true NH;have awj:=aaa j NH;have hb2:=ad4 i j;obtain⟨v',g4,g5,g6,q4,q5,q6,G7,w7,l7,f7,-⟩:=G.push' hwz ((i:Int),(j:Int)) (by rw[aev];omega);obtain⟨l7',a7⟩:=f7 h3 lq nX ap;rw[rY,<-afy hj]at G7;have bld:=xe (i:Int) (j:Int);simp only[HO,Nat.reduceLT,↓reduceIte,Nat.reduceEqDiff,reduceCtorEq,dc,tc,Di,Ip,EL,G.ld.2.2,bld,q4,q5,q6,awj];exact tn (5-(j+1)) [(1,.pointer (some ⟨T,0,none⟩)),(2,.pointer (some ⟨X,0,none⟩)),(3,.int .i64 (i:Nat)),(4,.int .i64 (j+1:Nat)),(23,.int .i64 (i:Nat))] NH fD ⟨j+1,v',rfl,NH,NH,rfl,G7,l7',a7⟩
 obtain rfl:i=5:=NH;have dc:decide (((5:Nat):Int)<5)=false:=by decide
 have tc:(((5:Nat):Int)<5)=False:=eq_false NH;rw[E5]at G;clear hb1 c hi ap nX;simp only[HO,Nat.reduceLT,↓reduceIte,Nat.reduceEqDiff,reduceCtorEq,dc,tc,(lG hq lq).1];refine TC.intro PJ ⟨qS32,rfl,WY⟩ (ahd W0 _ ⟨((5:Nat):Int),ajl⟩ hq ⟨_,rfl,p3.le lq⟩) ?_;rintro x h7 w7 ⟨l7,C⟩;obtain⟨rv,rs,rfl,hrv,RG,FL⟩:=C.plan bowR (acG bowR WY);clear C;simp only[HO,Nat.reduceLT,↓reduceIte,Nat.reduceEqDiff,reduceCtorEq,(G.le l7).ld.1];refine TC.intro PJ ⟨qS32,rfl,WY⟩ (ahd W0 _ ⟨((5:Nat):Int),k5L⟩ h7 ⟨v,rfl,(G.le l7).gp.pr⟩) ?_;rintro x h8 w8 ⟨l8,C⟩;obtain⟨wv,rfl,hw,-⟩:=C.twist k5R k5_np;clear C;rw[fnd_k5]at hw;simp only[HO,Nat.reduceLT,↓reduceIte,Nat.reduceEqDiff,reduceCtorEq,aew,agO];refine TC.intro PJ ⟨qS32,rfl,WY⟩ (ahd W0 _ ⟨((0:Nat):Int),[]⟩ h8 ⟨_,rfl,PR.nil _⟩) ?_;rintro x h9 w9 ⟨l9,C⟩;obtain⟨tv,ts,rfl,htv,TG,TF⟩:=C.plan noR (acG noR WY);clear C;have l79:=l8.trans l9;have hrv9:=hrv.le (Nn.RL Nn.RP) l79;have lr:=fun g=>hrv.qP6 g;have lt:=fun g=>htv.qP6 g;have lnR:=fun g=>(RN g).qP6 g;have lnP:=fun g=>(PR.nil g).len g;rw[RG.len]at lr;rw[TG.len]at lt;have h2l:2<rs.length:=by rw[RG.len];decide
 have ad:=hrv.qP7 2 h2l;obtain⟨u,lu',hu⟩:=hrv.NS 2 h2l;have lu:=fun g l=>lu' g l;have hul:(rs[2]'h2l).length=4:=by
  have:=(RG.perm 2 WY).length_eq;rw[Db,Gc h2l]at this;exact this.trans WY
 have llu:=fun g=>hu.DH g;rw[hul]at llu;have d55:decide (((5:Nat):Int)=5)=true:=by decide
 have d44:decide (((4:Nat):Int)=4)=true:=by decide
 have dn0:decide (((([]:List Pr).length:Nat):Int)=0)=true:=by decide
 have dn1:decide (((([]:AM).length:Nat):Int)=0)=true:=by decide
 simp only[ur]at ad;have l39:=lq.trans (l7.trans l79);have G9:=G.le (l7.trans l79);simp only[HO,Nat.reduceLT,↓reduceIte,Nat.reduceEqDiff,reduceCtorEq,aw0,d0,lr,d55,ad,lu h9 l79,llu,d44,lnP,dn0,(lG h9 l39).1];refine TC.intro PJ ⟨qS22,rfl,WY⟩ (ahY W0 _ rv (.slice none 0 0) ⟨((5:Nat):Int),ajl⟩ rs [] h9 ⟨_,rfl,p3.le l39⟩ hrv9 (PR.nil _)) ?_;rintro x h10 w10 ⟨⟨bb,rfl,hbb⟩,l10⟩;obtain rfl:bb=true:=hbb.2 (aiF bowR RG FL);clear hbb;have G10:=G9.le l10;have hw10:=hw.le (l9.trans l10);simp only[HO,Nat.reduceLT,↓reduceIte,Nat.reduceEqDiff,reduceCtorEq,lnR,dn1,Di,Ip,EL,G10.ld.2.2];refine TC.intro PJ ⟨Tryz.func17,rfl,WY⟩ (abn W0 wv v k5L k5L h10 hw10 G10.gp.pr WY) ?_;rintro x h11 w11 ⟨rfl,rfl⟩;have sp:decide (k5L=k5L)=true:=WA rfl;simp only[HO,Nat.reduceLT,↓reduceIte,Nat.reduceEqDiff,reduceCtorEq,sp,G10.ld.1];refine TC.intro PJ ⟨qS22,rfl,WY⟩ (ahY W0 _ (.slice none 0 0) wv ⟨((5:Nat):Int),k5L⟩ [] k5L h11 ⟨v,rfl,G10.gp.pr⟩ (RN _) hw10) ?_;rintro x h12 w12 ⟨⟨bb,rfl,hbb⟩,l12⟩;obtain rfl:bb=true:=hbb.2 ⟨k5R,.inr ⟨WY,rfl,by rw[kind_k5];decide,fun p hp=>hp⟩⟩;clear hbb;have aw00:aaY .i64 (((0:Nat):Int)+((([]:List Pr).length:Nat):Int))=0:=by decide
 simp only[HO,Nat.reduceLT,↓reduceIte,Nat.reduceEqDiff,reduceCtorEq,lt,lnP,aw00,d0,aew,agO];refine TC.intro PJ ⟨qS22,rfl,WY⟩ (ahY W0 _ tv (.slice none 0 0) ⟨((0:Nat):Int),[]⟩ ts [] h12 ⟨_,rfl,PR.nil _⟩ (htv.le (Nn.RL Nn.RP) (l10.trans l12)) (PR.nil _)) ?_;rintro x h13 w13 ⟨⟨bb,rfl,hbb⟩,l13⟩;obtain rfl:bb=true:=hbb.2 (aiF noR TG TF);clear hbb;have l913:=l10.trans (l12.trans l13);have l313:=l39.trans l913;simp only[HO,Nat.reduceLT,↓reduceIte,Nat.reduceEqDiff,reduceCtorEq,Di,Ip,EL,(lG h13 l313).1,(lG h13 l313).2.2];refine TC.intro PJ ⟨qS22,rfl,WY⟩ (ahY W0 _ rv _ ⟨((5:Nat):Int),ajl⟩ rs ajl h13 ⟨_,rfl,p3.le l313⟩ (hrv9.le (Nn.RL Nn.RP) l913) (p3.le l313)) ?_;rintro x h14 w14 ⟨⟨bb,rfl,hbb⟩,l14⟩;obtain rfl:bb=false:=by
  cases bb with
  |false=>rfl
  |true=>
   rcases(hbb.1 rfl).2 with q|q
   .exact absurd q.1 WY
   .have:=RG.len;rw[q.2.1]at this;cases this
 refine Uy ?_;exact⟨trivial,(l03.trans l313).trans l14⟩
end
section
attribute [local irreducible] Kp MQ lU KO1 KO KN KX KE VK Kl ZJ TC aab
attribute [local irreducible] Jz JL vq cQ aaN
variable {es:List Pr} {h':aai} {n:Nat}
def CertAll(n:Nat)(es:xLP)(rs:AM)(ws:xLP):Prop:=CertG ⟨(n:Int),es⟩ rs ws/\((aak n es/\ws=[]/\Av n es rs/\z8 n es rs)\/(¬aak n es/\rs=[]/\ws≠[]/\ws.Sublist es/\aaz ws≠0))
theorem aiE.all{x:vV}(c:aiE ⟨(n:Int),es⟩ h' x)(b:bX ⟨(n:Int),es⟩):
  ∃f d rs ws,x=.tuple #[f,d,.int .i64 0]/\RL (RL RP) h' f rs/\PR h' d ws/\Ct d ws.length/\CertAll n es rs ws:=by
 by_cases a:aak n es
 .obtain⟨f,rs,g,h2,h3,i⟩:=c.plan b a;have hP:=(En b.GD b.q9 h3).2 i;exact⟨f,_,rs,[],g,h2,PR.nil _,⟨Y,0,rfl,.inl ⟨WY,qL0 _⟩⟩,⟨b,.inl ⟨rfl,h3,hP⟩⟩,.inl ⟨a,rfl,h3,hP⟩⟩
 .obtain⟨d,g,h2,h3⟩:=c.twist b a;have h:=fnd_kind b a;have hs:=(ajQ (G:=⟨(n:Int),es⟩) a).1;have e:abv ⟨(n:Int),es⟩≠[]:=fun q=>a ((fnd_nil b).1 q);exact⟨_,d,[],_,g,RN _,h2,h3,⟨b,.inr ⟨e,rfl,h,fun p j=>hs.subset j⟩⟩,.inr ⟨a,rfl,e,hs,h⟩⟩
variable {i j k r:Nat}
def lg_4(h:i<r)(h2:r<=50):aaY .i64 (4*(i:Int))=((4*i:Nat):Int):=by rw[ie _ NH NH];omega
def lg_j(h:i<r)(h2:r<=50)(h3:j<4):aaY .i64 (((4*i:Nat):Int)+(j:Int))=((4*i+j:Nat):Int):=by rw[ie _ NH NH];omega
def lg_m(h:i<r)(h2:r<=50)(h3:j<4)(a:0<i):aaY .i64 (((4*i+j:Nat):Int)-4)=((4*i+j-4:Nat):Int):=by rw[ie _ NH NH];omega
def lg_k(h:r<=50)(h2:k<=4)(h3:2<=r):aaY .i64 (((4*r:Nat):Int)-(k:Int))=((4*r-k:Nat):Int):=by rw[ie _ NH NH];omega
def lg_l(h:i<r)(h2:r<=50)(h3:j<4):(ad8 i j).length+1<=100000/\(ad8 i j++[(((4*i+j:Nat):Int),((4*i+(j+1)%4:Nat):Int))]).length+1<=100000:=by have:=afQ i j;rw[aev,Bn];omega
def lg_mod(j:Nat):((j+1:Nat):Int).tmod 4=(((j+1)%4:Nat):Int):=by rw[qL216 NH];omega
theorem akV (W0:LA) (x:Int) (tw:Bool) (h:aai) (hx:(Go.Lit.int .u8 x).wf=true):AC Tryz.prog W0 9 [.int .u8 x,.bool tw] h fun y h'=>y=.bool true:=by
  obtain⟨x0,x1⟩:=u8_rng hx;clear hx;obtain⟨y0,rfl⟩:=HV x0;clear x0;refine AC.vF Tryz.func9 Tryz.ntmps9 Tryz.results9 fun hwf=>?_;obtain⟨m,hm⟩:∃m,m=y0%49:=⟨_,rfl⟩;obtain⟨r,hk⟩:∃r,r=m+2:=⟨_,rfl⟩;have h2:2≤r:=NH;have h50:r≤50:=NH;have hrem:aaY .i64 (2+(aaY .i64 (y0:Int)).tmod 49)=(r:Int):=by
    rw[ie (y0:Int) NH NH,qL216 NH,ie _ NH NH];omega
  have hc:acX Tryz.prog h 5 3 (.int .u8 (y0:Int))=some (.int .i64 (aaY .i64 (y0:Int)),h):=by simp only[acX,qS33,Ac]
  have c49:¬((49:Int)=0):=by decide
  have c4:¬((4:Int)=0):=by decide
  simp only[HO,Nat.reduceLT,↓reduceIte,Nat.reduceEqDiff,reduceCtorEq,hc,c49,hrem];refine aab.intro (fun n fr hq=>∃(i:Nat) (lv:Value),n=r-i∧i≤r∧fr=mkF [(1,.bool tw),(5,.int .i64 (r:Nat)),(6,lv),(18,.int .i64 (r:Nat)),(19,.int .i64 (i:Nat))]∧GP hq lv (ad8 i 0))
    r [(1,.bool tw),(5,.int .i64 (r:Nat)),(6,.slice none 0 0),(18,.int .i64 (r:Nat)),(19,.int .i64 (0:Nat))] fD
    ⟨0,_,rfl,Og _,rfl,GP.nil _⟩ ?_
  clear hc;rintro n fr hq hwq ⟨i,lv,rfl,hi,rfl,gl⟩;simp only[HO,Nat.reduceLT,↓reduceIte,Nat.reduceEqDiff,reduceCtorEq];refine Kl.intro (fun ht=>?_) (fun hf=>?_)
  · have hlt:i<r:=acb ht
    clear ht;have a4:=lg_4 hlt h50;have awi:=aaa i NH;simp only[HO,Nat.reduceLT,↓reduceIte,Nat.reduceEqDiff,reduceCtorEq];refine aab.intro (fun n fr hy=>∃(j:Nat) (lv:Value),n=4-j∧j≤4∧fr=mkF [(1,.bool tw),(5,.int .i64 (r:Nat)),(6,lv),(7,.int .i64 (i:Nat)),(18,.int .i64 (r:Nat)),(19,.int .i64 (i:Nat)),(22,.int .i64 (j:Nat))]∧GP hy lv (ad8 i j))
      4 [(1,.bool tw),(5,.int .i64 (r:Nat)),(6,lv),(7,.int .i64 (i:Nat)),(18,.int .i64 (r:Nat)),(19,.int .i64 (i:Nat)),(22,.int .i64 (0:Nat))] fD
      ⟨0,_,rfl,Og _,rfl,gl⟩ ?_
    clear gl hwq;clear lv hq;rintro n fr hy hwy ⟨j,lv,rfl,hj,rfl,gl⟩;simp only[HO,Nat.reduceLT,↓reduceIte,Nat.reduceEqDiff,reduceCtorEq];refine Kl.intro (fun ht=>?_) (fun hf=>?_)
    rotate_left
    · obtain rfl:j=4:=by have:=qL185 hf;omega
      rw[stkL_row]at gl;simp only[HO,Nat.reduceLT,↓reduceIte,Nat.reduceEqDiff,reduceCtorEq,awi];exact tn (r-(i+1)) [(1,.bool tw),(5,.int .i64 (r:Nat)),(6,lv),(18,.int .i64 (r:Nat)),(19,.int .i64 (i+1:Nat))] (stpP hlt) fD ⟨i+1,lv,rfl,hlt,rfl,gl⟩
    have hj4:j<4:=by have:=ag1 ht;omega
    clear ht;have aj:=lg_j hlt h50 hj4;have awj:=aaa j NH;have tm:=lg_mod j;have am:=lg_j hlt h50 (V9 (j+1) (by omega:0<4));obtain⟨l1,l2⟩:=lg_l hlt h50 hj4;obtain⟨v',g4,g5,e4,e5,gl',w5,-,-,-⟩:=gl.push hwy (((4*i+j:Nat):Int),((4*i+(j+1)%4:Nat):Int)) l1;by_cases ci:0<i
    · have di:decide ((i:Int)>0)=true:=WA NH
      have an:=lg_m hlt h50 hj4 ci;obtain⟨v2,g6,g7,e6,e7,gl2,w7,-,-,-⟩:=gl'.push w5 (((4*i+j-4:Nat):Int),((4*i+j:Nat):Int)) l2;have es:ad8 i j++[(((4*i+j:Nat):Int),((4*i+(j+1)%4:Nat):Int))]++[(((4*i+j-4:Nat):Int),((4*i+j:Nat):Int))]=ad8 i (j+1):=by rw[aj9,afa,qL7 ci,rY];rfl
      rw[es]at gl2;simp only[HO,Nat.reduceLT,↓reduceIte,Nat.reduceEqDiff,reduceCtorEq,a4,aj,awj,tm,am,c4,xe,e4,e5,di,an,e6,e7];exact tn (4-(j+1)) [(1,.bool tw),(5,.int .i64 (r:Nat)),(6,v2),(7,.int .i64 (i:Nat)),(18,.int .i64 (r:Nat)),(19,.int .i64 (i:Nat)),(22,.int .i64 (j+1:Nat))] (stpP hj4) fD ⟨j+1,v2,rfl,hj4,rfl,gl2⟩
    · have di:decide ((i:Int)>0)=false:=IE NH
      have es:ad8 i j++[(((4*i+j:Nat):Int),((4*i+(j+1)%4:Nat):Int))]=ad8 i (j+1):=by rw[aj9,afa,Z6 ci]
      rw[es]at gl';simp only[HO,Nat.reduceLT,↓reduceIte,Nat.reduceEqDiff,reduceCtorEq,a4,aj,awj,tm,am,c4,xe,e4,e5,di];exact tn (4-(j+1)) [(1,.bool tw),(5,.int .i64 (r:Nat)),(6,v'),(7,.int .i64 (i:Nat)),(18,.int .i64 (r:Nat)),(19,.int .i64 (i:Nat)),(22,.int .i64 (j+1:Nat))] (stpP hj4) fD ⟨j+1,v',rfl,hj4,rfl,gl'⟩
  obtain rfl:i=r:=by have:=vp hf;omega
  clear hf hi;have a4:aaY .i64 (4*(i:Int))=((4*i:Nat):Int):=by rw[ie _ NH NH];omega
  have sl:=afQ i 0;simp only[HO,Nat.reduceLT,↓reduceIte,Nat.reduceEqDiff,reduceCtorEq];apply Ya (F:=fun(fr:aam) (hz:aai)=>∃(lv':Value) (L:List Pr),Fj fr [(1,.bool tw),(5,.int .i64 (i:Nat)),(6,lv')]∧WF hz∧GP hz lv' L∧L.length≤1000∧YG ((4*i:Nat):Int) L∧(XU (4*i) (eN (4*i) (sg L))↔tw=false))
  · intro cont
    cases tw with
    |false=>
      simp only[kJJ,Nat.reduceLT,↓reduceIte,Nat.reduceEqDiff,reduceCtorEq,Nat.reduceBEq,Qg];refine KN.UJ fun fr' h' x y=>cont fr' h' ?_;rw[x,y];exact⟨lv,_,fD,hwq,gl,NH,stk_ok h2 h50,fun _=>rfl,fun _=>stk_pl h2 h50⟩
    |true=>
      have k4:=lg_k (k:=4) h50 NH h2;have k2:=lg_k (k:=2) h50 NH h2;obtain⟨h4,e4,l4,w4,o4⟩:=Tt hwq (Iu (twL i))
      have px:PR h4 (.slice (some ⟨hq.next,0,none⟩) 3 3) (twL i):=PR.made o4 rfl
      have mk:=mkP3 hq ((0:Int),(2:Int)) ((1:Int),(3:Int)) (((4*i-4:Nat):Int),((4*i-2:Nat):Int));rw[show Iu [((0:Int),(2:Int)),((1:Int),(3:Int)),(((4*i-4:Nat):Int),((4*i-2:Nat):Int))]=Iu (twL i)from rfl,e4]at mk;obtain⟨v',h5,e5,g5,w5,-,-⟩:=(gl.le l4).join w4 px (by simp[twL];omega);have k4':aaY .i64 (((4*i:Nat):Int)-4)=((4*i-4:Nat):Int):=k4;have k2':aaY .i64 (((4*i:Nat):Int)-2)=((4*i-2:Nat):Int):=k2;simp only[kJJ,Nat.reduceLT,↓reduceIte,Nat.reduceEqDiff,reduceCtorEq,Nat.reduceBEq,Qg,a4,k4',k2',xe,mk,e5];refine KN.UJ fun fr' h' x y=>cont fr' h' ?_;rw[x,y];exact⟨v',_,fD,w5,g5,by simp[twL];omega,stT_ok h2 h50,fun q=>absurd q (stT_np h2 h50),fun q=>by cases q⟩
  clear gl hwq;clear lv hq;rintro fr hz ⟨lv,L,hfr,wz,gL,lL,ok,hpl⟩;simp only[Fj]at hfr;obtain⟨f1,f5,f6,-⟩:=hfr;have hr:=ok.right;simp only[HO,Nat.reduceLT,↓reduceIte,Nat.reduceEqDiff,reduceCtorEq,f1,f5,f6,a4];refine TC.intro PJ ⟨Tryz.func26,rfl,WY⟩ (amf W0 ((4*i:Nat):Int) lv L hz gL.pr NH) ?_;rintro x h1 w1 ⟨l1,⟨hno,-⟩|⟨-,ev,rfl,ge,-⟩⟩
  ·exact absurd ok hno
  obtain⟨h3,h4,e3,e4,l4,w4,oX,-⟩:=newGo w1 (n:=((4*i:Nat):Int)) ge.pr;have pe:=(ge.le l4).pr;have ldX:=fun g (l:Le h4 g)=>ldGo ge.pr (l.own _ _ oX)
  generalize h1.next=X at*
  have d00:decide ((0:Int)=0)=true:=by decide
  have aw0:aaY .i64 ((0:Int)+0)=0:=ie _ NH NH;by_cases ce:tw=true∧12<i
  · obtain⟨rfl,c12⟩:=ce
    have d12:decide ((i:Int)>12)=true:=WA NH;simp only[HO,Nat.reduceLT,↓reduceIte,Nat.reduceEqDiff,reduceCtorEq,f1,f5,f6,e3,e4,d12,d00];refine TC.intro PJ ⟨Tryz.func11,rfl,WY⟩ (ahU W0 h4) ?_;rintro x h5 w5 ⟨rfl,l5⟩;simp only[HO,Nat.reduceLT,↓reduceIte,Nat.reduceEqDiff,reduceCtorEq]
  have main:∀d:Bool,decide ((i:Int)>12)=d→(tw&&d)=false:=fun d hd=>by
    cases tw
    ·rfl
    ·rw[←hd];exact IE fun q=>ce ⟨rfl,NH⟩
  have key:∀ws:List Pr,(aak (4*i) (sg L)∧ws=[]∨¬aak (4*i) (sg L)∧ws≠[])→decide ((ws.length:Int)>0)=tw:=fun ws q=>by
    rw[ako hr,hpl]at q;rcases q with⟨rfl,rfl⟩|⟨q1,q2⟩
    ·rfl
    · have:=abz.2 q2
      have e:tw=true:=by cases tw;exact absurd rfl q1;rfl
      rw[e];exact WA NH
  cases d12:decide ((i:Int)>12)
  all_goals
    have md:=main _ d12;cases tw
    all_goals
      first
      |(cases md;done)
      | (simp only [HO, Nat.reduceLT, ↓reduceIte, Nat.reduceEqDiff, reduceCtorEq, f1, f5, f6, e3, e4, d12, ldX h4 (Le.refl _)]
         refine TC.intro PJ ⟨qS32,rfl,WY⟩ (ahd W0 _ ⟨((4*i:Nat):Int),sg L⟩ h4 ⟨ev,rfl,pe⟩) ?_;rintro x h5 w5 ⟨l5,C⟩;obtain⟨rv,wv,rs,ws,rfl,hrv,hwv,-,CG,CC⟩:=C.all hr;have lw:=fun g=>hwv.len g;simp only[HO,Nat.reduceLT,↓reduceIte,Nat.reduceEqDiff,reduceCtorEq,aw0,d00,ldX h5 l5];refine TC.intro PJ ⟨qS22,rfl,WY⟩ (ahY W0 _ rv wv ⟨((4*i:Nat):Int),sg L⟩ rs ws h5 ⟨ev,rfl,pe.le l5⟩ hrv hwv) ?_;rintro x h6 w6 ⟨⟨bb,rfl,hbb⟩,l6⟩;obtain rfl:bb=true:=hbb.2 CG;have kw:=key ws (CC.imp (fun q=>⟨q.1,q.2.1⟩) fun q=>⟨q.1,q.2.2.1⟩);simp only[HO,Nat.reduceLT,↓reduceIte,Nat.reduceEqDiff,reduceCtorEq,f1,lw,kw,eqBo,beq_self_eq_true];refine TC.intro PJ ⟨Tryz.func11,rfl,WY⟩ (ahU W0 h6) ?_;rintro x h7 w7 ⟨rfl,l7⟩;simp only[HO,Nat.reduceLT,↓reduceIte,Nat.reduceEqDiff,reduceCtorEq])
end
section
open Go.Proofs Go.ChangeShapes Go.WideShapes Go.RowKit Go.ChangeAt
open Go.Proofs.YtnakkbhjoiheoaaGreat
def afK(os:Os)(started:os.Started)(H:Type)(enc:TypeId×vV->H):
  ReturnsInHanded {} Tryz.checked os 9 .any (Rows.planarLargeSpec.pre6 enc pG Tryz.f9 Rows.planarLargeRow.domain fF) (Rows.planarLargeSpec.post enc pG Tryz.f9 fF tT fF fF):=by
 have own:ownKnob pG.godebug=Option.none:=Ji;have laidOut:laidOutB pG=tT:=Ji;refine returnsInHanded_of_change (C:=Tryz.checked) own started Ji func9
  (ChangeSpec.witness6 (enc:=enc) (C:=Tryz.checked) fF ⟨#[],#[.int .u8 0,.bool fF],[]⟩ 8 Ji Ji Ji Ji) ?_
 intro W base args ds gs before c i k _;have b:∀(j:Nat) t v,Tryz.f9.params[j]?=Z t->args[j]?=Z v->vV.okWide pG W .any base t v:=c;have f:=i;obtain⟨p,q,g,r,rfl,s,u⟩:=i;have hA:DataW.TrodAll enc pG W 0 (fun _=>tT) tT Tryz.f9.params.toList args.toList ds p:=g;rw[Tryz.params9]at hA b;obtain⟨l,z,A,B,D,E,a,rfl,rfl,m,hA⟩:=trodAll_cons hA;obtain⟨n,w1,d1,F,G,I,rfl,rfl,rfl,o,hA⟩:=trodAll_cons hA;obtain⟨rfl,rfl,rfl⟩:=trodAll_nil hA;obtain rfl:args=#[l,n]:=by cases args;simp_all
 obtain⟨rfl,rfl⟩:=trodVars_none r;obtain⟨x0,rfl,rfl,rfl,h⟩:=open_int qS33 (b 0 5 l rfl rfl) m;obtain⟨x1,rfl,rfl,rfl⟩:=open_bool AV (b 1 4 n rfl rfl) o;refine(akV (LA.of W) x0 x1 (ext0 W) h [] (fun _=>⟨0,0,0⟩) W [.int .u8 x0,.bool x1] (Rel.start W _) ?_).mono ?_
 .exact .cons (.flat rfl) (.cons (.flat rfl) ((.nil _ _)))
 .rintro e w ⟨x,x',J,h',rfl,R,-,-,y,rfl,-⟩;obtain rfl:=y.YE;have hb:=R.below;have d:DataW.Trod enc pG w W.heap.size (fun _=>fF) fF 4 (.bool tT) (.lit (.bool tT)) []:=⟨1,by simp[DataW.trod,vV.cells,AV]⟩;have a:=
   tcons (Below.trod laidOut Ji (ag1 Ji) m hb Ma) (tcons (Below.trod laidOut Ji (ag1 Ji) o hb Ma) (trodAll_mk0))
  try simp only[ak3,gK]at a
  exact⟨_,rfl,_,_,_,[],_,[],f,trodAll_mk1 d,a,rfl,hb.frame _,fun e=>by cases e⟩
def planarLarge_said:Rows.PlanarLargeSaid:=
 OpenClaim.holds_of_wide 9 Tryz.f9 rfl rfl rfl rfl rfl rfl rfl ⟨rfl,rfl,rfl,rfl,rfl⟩ rfl rfl rfl rfl rfl Ji func9 Ji
  (ag1 Ji) (by unfold Func.isWrapper;first|(rw[qL7 iw];kernel_rfl)|(rw[Z6 iw];exact⟨rfl,rfl⟩))
  (fun os started H enc _=>afK os started H enc)
end
end Go.Fw
