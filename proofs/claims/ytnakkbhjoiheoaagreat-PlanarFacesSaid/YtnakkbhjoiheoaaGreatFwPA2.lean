/- A text. -/
import Derived.Test.YtnakkbhjoiheoaaGreatFwKA7
set_option linter.all false
set_option maxRecDepth 99999
set_option maxHeartbeats 9999999
open Go.Proofs
open Option renaming some→Z,none→Y
open Bool renaming true→tT,false→fF
open List renaming range→rG
open Go.Value renaming slice→sL,pointer→pT
open Go renaming Value→vV
open Go.Proofs.Tryz renaming prog→pG
open Go.Proofs.Tryz
namespace Go.Fw
section
attribute [local irreducible] Kp MQ lU KO1 KO KN KX KE VK Kl ZJ TC aab
attribute [local irreducible] Jz JL vq cQ
structure ag5 (b0 h:aai) (L:Nat) (us0 us:xLV) (rows:AM):Prop where
 oL:h.own L=Z (.cells us0)
 len0:us0.length=rows.length
 len:us.length=rows.length
 gs:∀(v:Nat) u r,us[v]?=Z u->rows[v]?=Z r->GS 1 h u r.length (Bp r)
 nL:∀(v:Nat) u,us[v]?=Z u->blk u≠Z L
 TE:∀(v w:Nat) u u' b,v≠w->us[v]?=Z u->us[w]?=Z u'->blk u=Z b->blk u'≠Z b
 ap:∀(v:Nat) u,us[v]?=Z u->Z2 b0 u
 le:Le b0 h
 bL:b0.own L=Y
section
variable{b0 h h':aai}{L:Nat}{us0 us:List vV}{rows:AM}
def Rows.w(R:Rows b0 h L us rows):ag5 b0 h L us us rows:=⟨R.oL,R.len,R.len,R.gs,R.nL,R.TE,R.ap,R.le,R.bL⟩
def ag5.r(R:ag5 b0 h L us us rows):Rows b0 h L us rows:=⟨R.oL,R.len,R.gs,R.nL,R.TE,R.ap,R.le,R.bL⟩
theorem ag5.up(R:ag5 b0 h L us0 us rows)(e:Le h h'):ag5 b0 h' L us0 us rows:=⟨e.own _ _ R.oL,R.len0,R.len,fun v u r a b=>(R.gs v u r a b).le e,R.nL,R.TE,R.ap,R.le.trans e,R.bL⟩
def ag5.fresh(R:ag5 b0 h L us0 us rows){id:Nat}(a:h.own id=Y):id≠L/\∀(v:Nat) u,us[v]?=Z u->blk u≠Z id:=by refine⟨(fun e=>by rw[e,R.oL]at a;cases a),fun v u b hb=>?_⟩;obtain⟨q,c⟩:∃q,rows[v]?=Z q:=⟨_,CA (by have:=R.len;have:=(Ny.1 b).1;omega)⟩;exact(R.gs v u q b c).Sy hb a
def ag5.app(R:ag5 b0 h L us0 us rows)(f:WF h){w:Nat}{r:RZ}(C:rows[w]?=Z r){id:Nat}{x:Int}(G:h.own id=Z (.cells [.int .i64 x]))(I:r.length<=100000):
  ∃u u' l,us[w]?=Z u/\aaR pG h 28 28 u (sL (Z ⟨id,0,Y⟩) 1 1)=Z (u',l)/\ag5 b0 l L us0 (us.set w u') (rows.set w (r++[x]))/\WF l/\Le b0 l/\xO u' (r.length+1)/\
   (∀b o,h.own b=Z o->(∀(v:Nat) a,us[v]?=Z a->blk a≠Z b)->l.own b=Z o/\∀(v:Nat) a,(us.set w u')[v]?=Z a->blk a≠Z b):=by
 have i:w<us.length:=by have:=R.len;have:=(Ny.1 C).1;omega
 have k:=CA i;generalize us[w]=u at k;have g:=R.gs w u r k C;obtain⟨u',l,D,E,hf⟩:=g.push (P:=pG) (t:=28) Ji G (yG _) rfl NH;have y:WF l:=xr f D;obtain⟨A,B⟩:=aG hf f R.oL (R.nL w u k);obtain⟨l5,H⟩:=hf b0 f R.le (R.ap w u k);refine⟨u,u',l,k,D,⟨A,by simpa using R.len0,by simpa using R.len,fun v a q ha d=>?_,fun v a ha=>?_,fun v v' a a' b n ha mi hb=>?_,fun v a ha=>?_,l5,R.bL⟩,y,l5,E.cs.sl,fun b o hb p=>?_⟩
 .rw[Tn]at ha d;by_cases e:w=v
  .subst e;rw[Z6 rfl,Z6 i]at ha;rw[Z6 rfl,Z6 (by have:=R.len;omega)]at d;injection ha with ha;injection d with d;subst ha;subst d;rw[ZT];have:Bp (r++[x])=Bp r++[.int .i64 x]:=by simp[Bp]
   rw[this];exact E
  .rw[abe e]at ha d;refine(R.gs v a q ha d).kept fun b o hb j=>(aG hf f j fun s=>R.TE w v u a b e k ha s hb).1
 .rw[Tn]at ha;by_cases e:w=v
  .subst e;rw[Z6 rfl,Z6 i]at ha;injection ha with ha;subst ha;exact B
  .rw[abe e]at ha;exact R.nL v a ha
 .rw[Tn]at ha mi;have m:∀(z:Nat) c,us[z]?=Z c->∀b,blk c=Z b->∃o,h.own b=Z o:=fun z c F b hb=>by
   obtain⟨q,d⟩:∃q,rows[z]?=Z q:=⟨_,CA (by have:=R.len;have:=(Ny.1 F).1;omega)⟩;exact N8.1 ((R.gs z c q F d).Sy hb)
  by_cases e:w=v
  .subst e;rw[Z6 rfl,Z6 i]at ha;injection ha with ha;subst ha;rw[abe n]at mi;intro sZ;obtain⟨o,j⟩:=m v' a' mi b sZ;exact(aG hf f j fun s=>R.TE w v' u a' b n k mi s sZ).2 hb
  .rw[abe e]at ha;by_cases e':w=v'
   .subst e';rw[Z6 rfl,Z6 i]at mi;injection mi with mi;subst mi;obtain⟨o,j⟩:=m v a ha b hb;exact(aG hf f j fun s=>R.TE w v u a b e k ha s hb).2
   .rw[abe e']at mi;exact R.TE v v' a a' b n ha mi hb
 .rw[Tn]at ha;by_cases e:w=v
  .subst e;rw[Z6 rfl,Z6 i]at ha;injection ha with ha;subst ha;exact H
  .rw[abe e]at ha;exact R.ap v a ha
 .obtain⟨k1,k2⟩:=aG hf f hb (p w u k);refine⟨k1,fun v a ha=>?_⟩;rw[Tn]at ha;by_cases e:w=v
  .subst e;rw[Z6 rfl,Z6 i]at ha;injection ha with ha;subst ha;exact k2
  .rw[abe e]at ha;exact p v a ha
def ag5.st(R:ag5 b0 h L us0 us rows)(a:WF h){w k:Nat}{u':vV}(hw:w<rows.length)(hs:xO u' k):aaK pG h 28 (pT (Z ⟨L,w,Y⟩)) u'=Z (h.put L (.cells (us0.set w u')))/\ag5 b0 (h.put L (.cells (us0.set w u'))) L (us0.set w u') us rows/\WF (h.put L (.cells (us0.set w u'))):=by have st:=QB (P:=pG) (t:=28) (x:=u') Mb Ji R.oL (off:=w) (by rw[R.len0];exact hw) (by obtain⟨_,_,rfl,_⟩:=hs;rfl) hs.one;refine⟨st,⟨aai.Y3 _ _ _,by simpa using R.len0,R.len,fun v u r b c=>GS.put (R.gs v u r b c) _ (R.nL v u b),R.nL,R.TE,R.ap,R.le.put _ R.bL,R.bL⟩,a.put _ (a.lt R.oL)⟩
end
def Rows.ix{n:Nat}(L:Nat)(k:IntKind)(j:Nat)(a:j<n):aao pG 26 (sL (Z L) n n) (.int k j)=Z (pT (Z ⟨L,j,Y⟩)):=by rw[Wc qS20 Mb Ji j a];simp[Ip]
def Rows.base{b0 a h:aai}{L:Nat}{us:xLV}{rows:AM}(R:Rows a h L us rows)(e:Le b0 a):Rows b0 h L us rows:=
 have key:∀b,a.own b=Y->b0.own b=Y:=fun b hb=>by
  cases c:b0.own b with
  |none=>rfl
  |some o=>rw[e.own _ _ c]at hb;cases hb
 ⟨R.oL,R.len,R.gs,R.nL,R.TE,fun v u d b hb=>key b (R.ap v u d b hb),e.trans R.le,key L R.bL⟩
noncomputable def aiC(n:Nat)(rows:AM)(b:xLP):AM:=(rG n).map fun v=>rows.getD v []++ag2 n b v
def addR_len(n:Nat)(rows:AM)(b:xLP):(aiC n rows b).length=n:=by simp[aiC]
def ag5.rest{b0 g:aai}{L x y idx:Nat}{us:xLV}{rows:AM}{rx ry:RZ}{c:vV}{a:Int}{z:Int}(p:ag5 b0 g L us (us.set x c) (rows.set x (rx++[z])))(q:WF g)(ne:x≠y)(E:x<rows.length)(l:rows[y]?=Z ry)(s:ry.length<=100000)(ox:g.own idx=Z (.cells [a]))(f:xO c (rx.length+1)):
  ∃e b d m i,us[y]?=Z e/\aaR pG g 28 28 e (sL (Z idx) 1 1)=Z (b,d)/\aaK pG d 28 (pT (Z ⟨L,x,Y⟩)) c=Z m/\aaK pG m 28 (pT (Z ⟨L,y,Y⟩)) b=Z i/\
   d.own L=Z (.cells us)/\Rows b0 i L ((us.set x c).set y b) ((rows.set x (rx++[z])).set y (ry++[a]))/\WF i:=by
 have j:(rows.set x (rx++[z]))[y]?=Z ry:=by rw[Tn,abe ne];exact l
 obtain⟨e,b,d,n,t,o,w1,-,k,-⟩:=p.app q j ox s;have u:((rows.set x (rx++[z])).set y (ry++[a])).length=rows.length:=by simp
 have v:=(Ny.1 l).1;obtain⟨s2,A,w2⟩:=o.st w1 (w:=x) NH f;obtain⟨B,C,D⟩:=A.st w2 (w:=y) NH k;rw[Tn,abe ne]at n;exact⟨e,b,d,_,_,n,t,s2,B,o.oL,C.r,D⟩
def ajI(W0:LA)(b0 h:aai)(L n:Nat)(us:xLV)(rows:AM)(R:Rows b0 h L us rows)(aq:rows.length=n)(bv:vV)(x y:Nat)(hp:PR b0 bv [((x:Int),(y:Int))])(hx:x<n)(hy:y<n)(ne:x≠y)(o:∀r∈rows,r.length<=1000):
  AC pG W0 35 [sL (Z L) n n,bv] h fun v h'=>v=.bool tT/\∃f,f.length=n/\Rows b0 h' L f ((rows.set x (rows.getD x []++[(y:Int)])).set y (rows.getD y []++[(x:Int)])):=by
 have D:=hp.le R.le;have lb:=fun g=>hp.len g;refine AC.vE ⟨func35,rfl,WY⟩ ntmps35 results35 fun q=>?_;simp only[Br,seval];have d1:decide ((([((x:Int),(y:Int))]:xLP).length:Int)=1)=tT:=rfl;have ad:=hp.addr (k:=.i64) 0 Ma;have L0:=D.l0 (i:=0) (p:=((x:Int),(y:Int))) rfl;have L1:=D.l1 (i:=0) (p:=((x:Int),(y:Int))) rfl;simp only[Int.ofNat_zero,NC]at ad;refine Sk (XC lb d1) ?_;refine gh (tA [0,1,2,3,4,5,6,7,8,9] .done) ?_;simp only[HO,seval,Qg,ad,Dh,Z0,L0,L1];have gx:rows[x]?=Z (rows.getD x []):=by rw[xD,BS NH];rfl
 have gy:rows[y]?=Z (rows.getD y []):=by rw[xD,BS NH];rfl
 have qx:(rows.getD x []).length<=100000:=by have:=o _ (Gc gx);omega
 have qy:(rows.getD y []).length<=100000:=by have:=o _ (Gc gy);omega
 generalize rows.getD x []=rx at*;generalize rows.getD y []=ry at*;have E:=R.w;have ar:=Rows.ix (n:=n) L .i64 x hx;have av:=Rows.ix (n:=n) L .i64 y hy;have c:∀(g:aai),g.own L=Z (.cells us)->∀(v:Nat)(u:vV),us[v]?=Z u->aaC pG g 28 ⟨L,v,Y⟩=Z u:=fun g ho v u hu=>by rw[Fq Mb rfl ho];exact hu
 have ay:∃d e,us[x]?=Z d/\us[y]?=Z e:=⟨_,_,CA (by have:=R.len;omega),CA (by have:=R.len;omega)⟩;obtain⟨d,e,a,b⟩:=ay;obtain⟨a1,az,j,s,G⟩:=Tt q [.int .i64 (y:Int)];have H:=DQ h (y:Int);rw[az]at H;obtain⟨l,ua,a2,q1,aC,t,aD,-,aF,-⟩:=(E.up j).app s gx G qx;obtain rfl:d=l:=by rw[a]at q1;injection q1
 obtain⟨a3,aH,I,aJ,aK⟩:=Tt aD [.int .i64 (x:Int)];have J:=DQ a2 (x:Int);rw[aH]at J;obtain⟨m,cd,a4,a5,a6,q2,K,aP,aT,aW,RA,-⟩:=(t.up I).rest aJ ne NH gy qy aK aF;obtain rfl:e=m:=by rw[b]at q2;injection q2
 have M:=c a1 (j.own _ _ R.oL);have N:=c a2 t.oL;have O:=c a3 (I.own _ _ t.oL);have P:=c a4 aW;obtain⟨b2,aX,z,a7,a8⟩:=Tt s [.int .i64 (x:Int)];have Q:=DQ a1 (x:Int);rw[aX]at Q
 have bb:a1.own a1.next=Y:=(Le.refl a1).next s (qL0 _)
 obtain⟨l,ub,b3,q3,bg,S,bh,-,bk,kb⟩:=((E.up j).up z).app a7 gx (z.own _ _ G) qx;obtain rfl:d=l:=by rw[a]at q3;injection q3
 obtain⟨bm,-⟩:=kb _ _ a8 ((E.up j).fresh bb).2;obtain⟨m,cf,b4,b5,b6,q4,T,bo,br,bx,RB,-⟩:=S.rest bh ne NH gy qy bm bk;obtain rfl:e=m:=by rw[b]at q4;injection q4
 have LB2:=c b2 (z.own _ _ (j.own _ _ R.oL));have U:=c b3 S.oL;have V:=c b4 bx;obtain⟨c1,bB,A,bF,bH⟩:=Tt q [.int .i64 (x:Int)];have W:=DQ h (x:Int);rw[bB]at W;obtain⟨c2,bI,B,bN,bQ⟩:=Tt bF [.int .i64 (y:Int)];have X:=DQ c1 (y:Int);rw[bI]at X
 have bW:h.own h.next=Y:=(Le.refl h).next q (qL0 _)
 obtain⟨l,uc,c3,q5,ecc,aa,bY,-,bZ,kc⟩:=((E.up A).up B).app bN gx bQ qx;obtain rfl:d=l:=by rw[a]at q5;injection q5
 obtain⟨b1,-⟩:=kc _ _ (B.own _ _ bH) (E.fresh bW).2;obtain⟨m,cg,c4,c5,c6,q6,ae,b8,b9,cc,RC,-⟩:=aa.rest bY ne NH gy qy b1 bZ;obtain rfl:e=m:=by rw[b]at q6;injection q6
 have ag:=c c1 (A.own _ _ R.oL);have ai:=c c2 (B.own _ _ (A.own _ _ R.oL));have aj:=c c3 aa.oL;have al:=c c4 cc;have LH:=c h R.oL;have C:us.length=n:=by rw[R.len];exact aq
 apply Ya (F:=fun(fr:lC)(h5:aai)=>∃f,f.length=n/\Rows b0 h5 L f ((rows.set x (rx++[(y:Int)])).set y (ry++[(x:Int)])))
 .intro cont;refine gh (tA [0,1,2,3,4,5,6,7,8,11,12,13,14,15] (.ch 9 [8] (.ch 10 [7,9] (JQ 16 [15] (JQ 17 [10,14,16] (tA [18] (JQ 19 [0,1,4,5,6,7,8,9,10,14,17,18] (tA [20] (JQ 21 [0,1,2,3,4,5,6,7,8,9,10,11,12,13,14,15,16,17,18,19,20] .done)))))) (JQ 16 [15] (JQ 10 [7,9] (JQ 17 [10,14,16] (tA [18] (JQ 19 [0,1,4,5,6,7,8,9,10,14,17,18] (tA [20] (JQ 21 [0,1,2,3,4,5,6,7,8,9,10,11,12,13,14,15,16,17,18,19,20] .done)))))))) (JQ 16 [15] (JQ 9 [8] (JQ 10 [7,9] (JQ 17 [10,14,16] (tA [18] (JQ 19 [0,1,4,5,6,7,8,9,10,14,17,18] (tA [20] (JQ 21 [0,1,2,3,4,5,6,7,8,9,10,11,12,13,14,15,16,17,18,19,20] .done)))))))))) ?_;simp only[kJJ,seval,Qg,ar,av,LH x d a,LH y e b,M x d a,M y e b,N x d a,N y e b,O x d a,O y e b,P x d a,P y e b,LB2 x d a,LB2 y e b,U x d a,U y e b,V x d a,V y e b,ag x d a,ag y e b,ai x d a,ai y e b,aj x d a,aj y e b,al x d a,al y e b,H,aC,J,K,aP,aT,Q,bg,T,bo,br,W,X,ecc,ae,b8,b9];refine⟨⟨?_,?_⟩,?_⟩
  .refine KN.UJ fun fr' h' x y=>cont fr' h' ?_;subst x y;exact⟨_,by simp[C],RA⟩
  .refine KN.UJ fun fr' h' x y=>cont fr' h' ?_;subst x y;exact⟨_,by simp[C],RB⟩
  .refine KN.UJ fun fr' h' x y=>cont fr' h' ?_;subst x y;exact⟨_,by simp[C],RC⟩
 rintro fr h5 ⟨f,hl,R'⟩;refine Uy ?_;exact⟨trivial,f,hl,R'⟩
noncomputable def aiD(n:Nat)(b:xLP)(j:Int):Int:=(((aag n b).getD j.toNat 0:Nat):Int)
noncomputable def stR(n:Nat)(rows:AM)(b:xLP)(rs:AM)(i k:Nat):AM:=(rG n).map fun v=>rows.getD v []++(if v∈aag n b then(if abD n b (v:Int)<i then rs.getD (abD n b (v:Int)) []else if abD n b (v:Int)=i then(rs.getD i []).take k else[])else[]).map (aiD n b)
section
variable{n:Nat}{rows:AM}{b:List Pr}{rs:AM}{i k:Nat}
def ahF:(stR n rows b rs i k).length=n:=by simp[stR]
def ahZ{v:Nat}(a:v<n):(stR n rows b rs i k)[v]?=Z (rows.getD v []++(if v∈aag n b then(if abD n b (v:Int)<i then rs.getD (abD n b (v:Int)) []else if abD n b (v:Int)=i then(rs.getD i []).take k else[])else[]).map (aiD n b)):=by simp[stR,a]
def ahB(c:rows.length=n):stR n rows b rs 0 0=rows:=by
 refine j3 fun v=>?_;by_cases a:v<n
 .rw[ahZ a]
  have e:(if v∈aag n b then(if abD n b (v:Int)<0 then rs.getD (abD n b (v:Int)) []else if abD n b (v:Int)=0 then(rs.getD 0 []).take 0 else[])else[])=[]:=by simp
  rw[e,agB,aik,xD,BS NH];rfl
 .rw[V3 (by rw[ahF];omega),V3 NH]
def ajJ{w:Nat}(h:(aag n b)[i]?=Z w):abD n b (w:Int)=i:=by refine(idx_eq ?_).symm;show(kz (aag n b))[i]?=_;unfold kz;rw[bC,h];rfl
def stR_step{w:Nat}{j:Int}(hw:(aag n b)[i]?=Z w)(g:(rs.getD i [])[k]?=Z j):(stR n rows b rs i k).set w ((stR n rows b rs i k).getD w []++[aiD n b j])=stR n rows b rs i (k+1):=by
 have f:=Gc hw;have h:=(aeT.1 f).1;have hi:=ajJ hw;refine j3 fun v=>?_;by_cases d:v<n
 .rw[ahZ d,Tn];by_cases e:w=v
  .subst e;rw[Z6 rfl,Z6 (by rw[ahF];exact d),xD,ahZ d,agR,Z6 f,hi,abe (Nat.lt_irrefl i),Z6 rfl,Z6 f,abe (Nat.lt_irrefl i),Z6 rfl];rw[Bx,Ua,g];simp
  .rw[abe e,ahZ d];by_cases a:v∈aag n b
   .rw[Z6 a,Z6 a];have:abD n b (v:Int)≠i:=fun q=>e (by
     obtain⟨l,c⟩:=yM.1 a;have:=ajJ c;rw[q]at this;subst this;rw[hw]at c;injection c)
    rw[abe this,abe this]
   .rw[abe a,abe a]
 .rw[V3 (by rw[adN,ahF];omega),V3 (by rw[ahF];omega)]
def stR_next:stR n rows b rs i (rs.getD i []).length=stR n rows b rs (i+1) 0:=by
 refine j3 fun v=>?_;by_cases c:v<n
 .rw[ahZ c,ahZ c];by_cases a:v∈aag n b
  .rw[Z6 a,Z6 a];by_cases d:abD n b (v:Int)<i
   .rw[Z6 d,Z6 NH]
   .rw[abe d];by_cases h2:abD n b (v:Int)=i
    .rw[Z6 h2,Z6 NH,dr,h2]
    .rw[abe h2,abe NH];split<;>rfl
  .rw[abe a,abe a]
 .rw[V3 (by rw[ahF];omega),V3 (by rw[ahF];omega)]
def stR_end(d:b.length≠1)(e:ajk (aag n b).length (aat n b)=Z rs):stR n rows b rs (aag n b).length 0=aiC n rows b:=by
 unfold stR aiC;refine vY fun v g=>?_;congr 1;unfold ag2;rw[abe d];by_cases a:v∈aag n b
 .obtain⟨h,c⟩:=yM.1 a;have f:=ajJ c;have h2:=(Ny.1 c).1;rw[Z6 a,Z6 a,Z6 (by rw[f];exact h2),e];rfl
 .rw[abe a,abe a];rfl
end
def Rows.blks{b0 h:aai}{L:Nat}{us:xLV}{rows:AM}(R:Rows b0 h L us rows):(L::us.filterMap blk).Nodup/\(∀b∈L::us.filterMap blk,h.own b≠Y)/\∀b∈L::us.filterMap blk,b0.own b=Y:=by
 have mem:∀b,b∈us.filterMap blk↔∃v u,us[v]?=Z u/\blk u=Z b:=fun b=>by
  rw[List.mem_filterMap];constructor
  .rintro⟨u,c,e⟩;obtain⟨v,a⟩:=yM.1 c;exact⟨v,u,a,e⟩
  .rintro⟨v,u,a,e⟩;exact⟨u,Gc a,e⟩
 refine⟨abV.2 ⟨fun h=>?_,?_⟩,fun b hb=>?_,fun b hb=>?_⟩
 .obtain⟨v,u,a,e⟩:=(mem L).1 h;exact R.nL v u a e
 .unfold List.Nodup;rw[List.pairwise_filterMap,qH];intro i j hi d f b hb l sZ e;subst e;exact R.TE i j _ _ b NH (BS hi) (BS d) hb sZ
 .rcases Og.1 hb with rfl|hb
  .rw[R.oL];simp
  .obtain⟨v,u,a,e⟩:=(mem b).1 hb;obtain⟨q,g⟩:∃q,rows[v]?=Z q:=⟨_,CA (by have:=R.len;have:=(Ny.1 a).1;omega)⟩;exact(R.gs v u q a g).Sy e
 .rcases Og.1 hb with rfl|hb
  .exact R.bL
  .obtain⟨v,u,a,e⟩:=(mem b).1 hb;exact R.ap v u a b e
def Rows.over{b0 h g h':aai}{L:Nat}{us:xLV}{rows:AM}(R:Rows b0 h L us rows)(f:Le g h')(c:∀b∈L::us.filterMap blk,g.own b=Y/\h'.own b=h.own b):Rows g h' L us rows:=by have mem:∀{v:Nat}{u b},us[v]?=Z u->blk u=Z b->b∈L::us.filterMap blk:=fun{v u b} a e=>Og.2 (.inr (List.mem_filterMap.2 ⟨u,Gc a,e⟩));have d:=c L Ma;exact⟨by rw[d.2];exact R.oL,R.len,fun v u r a j=>(R.gs v u r a j).kept fun b o hb l=>by rw[(c b (mem a hb)).2];exact l,R.nL,R.TE,fun v u a b hb=>(c b (mem a hb)).1,f,d.1⟩
variable {a b:Nat}
def stpP(h:a<b):b-(a+1)<b-a:=NH
def ajo(W0:LA)(b0 h:aai)(L n:Nat)(us:xLV)(rows:AM)(R:Rows b0 h L us rows)(aW:rows.length=n)(bv:vV)(b:xLP)(b3:PR b0 bv b)(O:aeo n b)(h2:2<=b.length)(hl:b.length<=594)(hn:n<=200)(aX:∀r∈rows,r.length<=1000):
  AC pG W0 35 [sL (Z L) n n,bv] h fun v h'=>(v=.bool fF/\¬XU n (eN n b)/\Le h h')\/(v=.bool tT/\ah0 n b/\∃m,m.length=n/\Rows b0 h' L m (aiC n rows b)):=by
 have hp:=b3.le R.le;have hR:=O.1.GD;have ll:=fun g=>hp.len g;refine AC.vE ⟨func35,rfl,WY⟩ ntmps35 results35 fun dc=>?_;simp only[Br,seval];have d1:decide ((b.length:Int)=1)=fF:=WA NH;refine Sk (XC ll d1) ?_;obtain⟨Q,a6⟩:∃Q,Q=vV.slice (Z L) n n:=⟨_,rfl⟩;rw[<-a6];refine lIn (fun k fr hq=>∃(i:Nat)(sv:vV),k=b.length-i/\i<=b.length/\fr=mkF [(0,Q),(1,bv),(7,sv),(53,bv),(54,.int .i64 b.length),(55,.int .i64 i)]/\GI hq sv (adJ (b.take i))/\Le h hq/\Z2 h sv) ⟨0,_,rfl,vZ _,rfl,GI.nil h,Le.refl _,fun b hb=>by simp[blk]at hb⟩ ?_;rintro k fr hq b4 ⟨i,sv,rfl,hi,rfl,g,lq,ap⟩;refine Uy ?_;refine Kl.intro (fun t=>?_) (fun hf=>?_)
 .have a:i<b.length:=CC t;clear t;have A:=CA a;have T:b.take (i+1)=b.take i++[b[i]]:=XJ a;have hle:(adJ (b.take i)).length<=2000:=by rw[adi,Bn];omega
  generalize b[i]=p at A T;have ad:=hp.addr (k:=.i64) i a;have ld:=(hp.le lq).load A;obtain⟨dd,h3,e2,e3,U,b5,o3⟩:=Ut b4 p;have m0:=lK o3;have m1:=HY o3;have l3:=lq.trans U;obtain⟨H,e4,l4,w4,o4⟩:=Tt b5 [p.1,p.2];have bs:=mkKI2 h3 p.1 p.2;rw[e4]at bs
  have r4:RL RP H (sL (Z h3.next) 2 2) [p.1,p.2]:=RL.Wh (RS.whole o4 rfl)
  obtain⟨jv,h6,e6,g6,w6,f6,-⟩:=GI.join ((g.le U).le l4) w4 r4 (by simp;omega);obtain⟨l6,aj⟩:=f6 h (l3.trans l4) ap;rw[<-agH,<-T]at g6;simp only[HO,seval,ad,ld,e2,e3,Dh,Z0,Ip,EL,m0,m1,bs,e6,aaa i NH];exact lgA NH ⟨i+1,jv,rfl,a,rfl,g6,l6,aj⟩
 have C:b.length<=i:=vp hf;rw[HV C]at g;refine Uy ?_;refine kCi qS21 (VQ W0 g (by rw[adi];omega)) ?_;rintro x de w2 ⟨rfl,g2,k2⟩;have b6:=k2 h lq ap;refine Uy ?_;refine kCi func58 (VY W0 g2 (by rw[OX,adi];omega)) ?_;rintro J h3 w3 ⟨r3,b8,k3⟩;have U:=k3 h b6 ap;rw[adX hR]at r3;have av:Z2 h J:=fun c hc=>ap c (by rw[<-b8];exact hc);have lv:=fun g=>r3.Uc g;rw[y6]at lv;have dg:(aag n b).length<=200:=VU (Vn _ _) (by simp;omega);have b9:(kz (aag n b)).Pairwise (·<·):=by unfold kz;rw[DF];exact(U9.filter _).imp fun h=>by omega
 have a8:(kz (aag n b)).Nodup:=b9.imp fun h=>by omega
 obtain⟨H,e4,l4,w4,o4⟩:∃H,h3.alloc (.map [])=H/\Le h3 H/\WF H/\H.own h3.next=Z (.map []):=⟨_,rfl,(Le.refl h3).alloc w3 _,w3.alloc _,aai.zT _ _⟩
 have nM:h3.own h3.next=Y:=(Le.refl h3).next w3 (qL0 _)
 simp only[HO,seval,lv,e4,qS36]
 generalize h3.next=M at*
 refine aab.intro (fun k fr y=>∃(i:Nat)(al:List (Int×Int)),k=(aag n b).length-i/\i<=(aag n b).length/\fr=mkF [(0,Q),(1,bv),(7,J),(10,.map (Z M)),(74,J),(75,.int .i64 (aag n b).length),(76,.int .i64 i)]/\
   y.own M=Z (.map (aie al))/\(∀(j:Nat) v,j<i->(kz (aag n b))[j]?=Z v->abo al v=Z (j:Int))/\Le h3 y)
  (aag n b).length [(0,Q),(1,bv),(7,J),(10,.map (Z M)),(74,J),(75,.int .i64 (aag n b).length),(76,(0:Nat))] fD
  ⟨0,[],rfl,vZ _,rfl,o4,fun j v V=>absurd V (adQ j),l4⟩ ?_
 clear o4 l4 e4 w4;clear H;rintro k fr y W ⟨i,al,rfl,hi,rfl,oM,bb,lz⟩;refine Uy ?_;refine Kl.intro (fun t=>?_) (fun hf=>?_)
 .have a:i<(aag n b).length:=CC t;clear t;have d:i<(kz (aag n b)).length:=by rw[y6];exact a
  have ad:=r3.TA i d;have ld:=(r3.le Nn.RP lz).DH i d;have hv:=BS d;generalize (kz (aag n b))[i]=v at hv ld;have st:=mapI_set oM v (i:Int);have aw:=aaa i NH;have l5:=lz.put (.map (aie (acs al v (i:Int)))) nM;have w5:=W.put (.map (aie (acs al v (i:Int)))) (W.lt oM);simp only[HO,seval,ad,ld,st,aw];refine lgA NH ⟨i+1,acs al v (i:Int),rfl,a,rfl,aai.Y3 _ _ _,fun j v' V aa=>?_,l5⟩;rw[XR];by_cases e:j=i
  .subst e;rw[Z6 (Option.some.inj (hv.symm.trans aa))]
  .have:v≠v':=fun q=>e (by
    subst q;exact(qL149 (Ny.1 aa).1 a8).1 (aa.trans hv.symm))
   rw[abe this];exact bb j v' NH aa
 have C:(aag n b).length<=i:=vp hf;obtain rfl:i=(aag n b).length:=NH;clear C hf hi;obtain⟨h5,h6,e5,e6,l6,w6,nX,G0⟩:=GX.new W ((aag n b).length:Int);refine Sk (IX lv @ait e5 e6 ll) ?_;have aF:=U.trans lz
 have cc:y.own y.next=Y:=(Le.refl y).next W (qL0 _)
 generalize y.next=X at*
 refine lIn (fun k fr hy=>∃(i:Nat)(ev:vV),k=b.length-i/\i<=b.length/\fr=mkF [(0,Q),(7,J),(10,.map (Z M)),(13,pT (Z X)),(88,bv),(89,.int .i64 b.length),(90,.int .i64 i)]/\GX hy X (aag n b).length ev (aat n b|>.take i)/\Le y hy/\Z2 y ev) ⟨0,_,rfl,vZ _,rfl,G0,l6,fun b hb=>by simp[blk]at hb⟩ ?_;clear G0 w6 l6 e6 e5;rintro k fr hy cd ⟨i,ev,rfl,hi,rfl,G,K,az⟩;refine Uy ?_;refine Kl.intro (fun t=>?_) (fun hf=>?_)
 .have a:i<b.length:=CC t;clear t;have A:=CA a;have cf:(aat n b)[i]?=Z ((abD n b b[i].1:Int),(abD n b b[i].2:Int)):=by rw[aat,bC,A];rfl
  have T:(aat n b).take (i+1)=(aat n b).take i++[((abD n b b[i].1:Int),(abD n b b[i].2:Int))]:=by rw[Ua,cf];rfl
  have bg:((aat n b).take i).length+1<=100000:=by rw[Bn];omega
  have cg:=Gc A;have s:∀x,aO b[i] x=tT->abo al x=Z (abD n b x:Int):=fun x hx=>by
   have:x∈kz (aag n b):=by rw[<-adX hR,jn,Wv,aeS];exact⟨_,cg,hx⟩
   obtain⟨j,V⟩:=yM.1 this;have bh:=(Ny.1 V).1;rw[y6]at bh;rw[bb j x bh V,<-idx_eq V]
  have ck:=s b[i].1 (by simp[aO]);have cm:=s b[i].2 (by simp[aO]);generalize b[i]=p at*;have ad:=hp.addr (k:=.i64) i a;have ld:=(hp.le (aF.trans K)).load A;obtain⟨dj,h6,e6,s6,l6,w6,o6⟩:=Ut cd p;have m0:=lK o6;have m1:=HY o6;have aw:=aaa i NH;have bk:=(K.trans l6).own _ _ oM;have k1:=aiO bk p.1 fF;have k2:=aiO bk p.2 fF;rw[ck]at k1;rw[cm]at k2;simp only[cond_false,agR]at k1 k2;have G6:=G.le l6;obtain⟨v',g4,g5,g6,q4,q5,q6,G7,dk,l7,f7,-⟩:=G6.push' w6 ((abD n b p.1:Int),(abD n b p.2:Int)) bg;obtain⟨cp,a7⟩:=f7 y (K.trans l6) cc az;rw[<-T]at G7;have cq:=xe (abD n b p.1:Int) (abD n b p.2:Int);simp only[HO,seval,ad,ld,e6,s6,Dh,Z0,Di,Ip,EL,m0,m1,k1,k2,G6.ld.2.2,cq,q4,q5,q6,aw];exact lgA NH ⟨i+1,v',rfl,a,rfl,G7,cp,a7⟩
 have C:b.length<=i:=vp hf;have bg:(aat n b).length=b.length:=by simp[aat]
 rw[HV NH]at G;have D:=aF.trans K;have Ry:=R.up D;obtain⟨cx,bm,cz⟩:=Ry.blks;have ay:∀c∈L::us.filterMap blk,h.own c≠Y:=R.blks.2.1;have cC:∀c,blk ev=Z c->c∉L::us.filterMap blk:=fun c hc s=>by have h1:=az c hc;obtain⟨o,S⟩:=N8.1 (ay c s);rw[aF.own _ _ S]at h1;cases h1
 have cE:∀c∈L::us.filterMap blk,blk J≠Z c:=fun c s hc=>ay c s (av c hc);have bo:=GS.Fi G.gp cC;refine Sk G.ld.1 ?_;refine kCi func59 (AC.side (L::us.filterMap blk) hy _ bm cx (Im W0 _ ⟨((aag n b).length:Int),aat n b⟩ (rem (L::us.filterMap blk) hy) ⟨ev,rfl,GP.pr bo,GS.okc bo⟩)) ?_;rintro x h9 w9 ⟨g9,⟨lr,ov,e,rfl,I⟩,l9,aH⟩;have br:Le h h9:=by
  refine⟨?_,fun c o S=>?_⟩
  .have e1:=l9.ext;have e2:=lr.ext;rw[e1,e2,vL];exact D.ext
  .by_cases s:c∈L::us.filterMap blk
   .rw[(aH c s).2];exact D.own _ _ S
   .exact l9.own _ _ (lr.own _ _ (Th.2 ⟨D.own _ _ S,s⟩))
 have bx:e≠0->¬XU n (eN n b):=fun he hP=>by obtain⟨rs,-,-,-,q,-⟩:=I.XK (ad6 O.1) (O.two h2) ((afA hR).2 hP);exact he q
 by_cases he:e=0
 rotate_left
 .have d0:decide (e=0)=fF:=WA he;refine Sk (XC @bne.eq_1.{0} d0) ?_
  exact .inl ⟨trivial,bx he,br⟩
 subst he;obtain⟨rs,hX,hG,hF,aJ⟩:∃rs,ajk (aag n b).length (aat n b)=Z rs/\Av (aag n b).length (aat n b) rs/\Flat (aag n b).length (Xl rs)/\RL (RL RP) g9 ov rs:=by
  rcases I with⟨-,q,-⟩|⟨-,-,q,-⟩|⟨-,-,-,-,q,-⟩|⟨-,-,rs,q1,q2,q3,-,q4⟩
  .omega
  .omega
  .omega
  .exact⟨rs,q1,q2,q3,q4⟩
 have BR:=O.rowMany h2 hX hG hF;have R9:=Ry.over l9 aH;have ae:RL RP g9 J (kz (aag n b)):=(RL.remK (r3.le Nn.RP (lz.trans K)) cE).le Nn.RP lr;have cJ:rs.length=(aag n b).length:=hG.len;have cK:=fun g=>aJ.qP6 g;have d0:decide ((0:Int)=0)=tT:=by decide
 have cM:Le b0 g9:=by
  refine⟨?_,fun c o S=>?_⟩
  .rw[lr.ext,vL,D.ext];exact R.le.ext
  .have s:c∉L::us.filterMap blk:=fun s=>by rw[cz c s]at S;cases S
   exact lr.own _ _ (Th.2 ⟨D.own _ _ (R.le.own _ _ S),s⟩)
 have cN:∀(i:Nat) j,j∈rs.getD i []->0<=j/\j<((aag n b).length:Int):=fun i j V=>by obtain⟨-,w,rfl,hw,-⟩:=hG.nat (ad6 O.1).GD V;omega
 have N:∀i,(rs.getD i []).length<=200:=fun i=>by
  by_cases hi:i<(aag n b).length
  .have s:=hG.jD (ad6 O.1).GD (ad6 O.1).q9;have nd:=s.nd i;have:=tf nd (B:=rG (aag n b).length) fun w hw=>K4.2 (s.lt w i (s.sy i w hw));rw[iU]at this;have e2:(Xl rs i).length=(rs.getD i []).length:=by simp[Xl]
   omega
  .rw[xD,V3 NH];simp
 refine Sk (xU @bne.eq_1.{0} d0 cK cJ) ?_
 have cP:b.length≠1:=NH;have z:=ahB (b:=b) (rs:=rs) aW;have bB:Rows g9 h9 L us (stR n rows b rs 0 0):=by rw[z];exact R9
 have aK:∀i k,∀r∈stR n rows b rs i k,r.length<=1200:=fun i k r hr=>by
  obtain⟨v,hv,rfl⟩:=Gw.1 hr;rw[ZT,wI];have h1:(rows.getD v []).length<=1000:=by
   rw[xD];cases y:rows[v]? with
   |none=>simp
   |some r=>exact aX r (Gc y)
  have h2:(if v∈aag n b then(if abD n b (v:Int)<i then rs.getD (abD n b (v:Int)) []else if abD n b (v:Int)=i then(rs.getD i []).take k else[])else[]).length<=200:=by
   split
   .split
    .exact N _
    .split
     .rw[Bn];have:=N i;omega
     .simp
   .simp
  omega
 have bF:us.length=n:=by rw[R.len];exact aW
 refine aab.intro (fun k fr y=>∃(i:Nat)(us:xLV),k=(aag n b).length-i/\i<=(aag n b).length/\fr=mkF [(0,Q),(7,J),(116,ov),(117,.int .i64 (aag n b).length),(118,.int .i64 i)]/\us.length=n/\Rows g9 y L us (stR n rows b rs i 0))
  (aag n b).length [(0,Q),(7,J),(116,ov),(117,.int .i64 (aag n b).length),(118,(0:Nat))] fD ⟨0,us,rfl,vZ _,rfl,bF,bB⟩ ?_
 clear bB R9 bF z aH l9 w9 br;clear h9;rintro k fr bH bI ⟨i,m,rfl,hi,rfl,E,Rz⟩;refine Uy ?_;refine Kl.intro (fun t=>?_) (fun hf=>?_)
 rotate_left
 .have C:(aag n b).length<=i:=vp hf;obtain rfl:i=(aag n b).length:=NH;rw[stR_end cP hX]at Rz;refine Uy ?_;exact .inr ⟨trivial,BR,m,E,Rz.base cM⟩
 have a:i<(aag n b).length:=CC t;clear t;have aP:i<rs.length:=NH;have cR:=aJ.qP7 i aP;obtain⟨cv,ag,cU⟩:=aJ.loadS Mb rfl i aP;have cW:rs.getD i []=rs[i]:=by rw[xD,BS aP];rfl
 rw[<-cW]at ag;have cZ:=fun g=>ag.Uc g;have c0:=aaa i NH;have d:i<(kz (aag n b)).length:=by rw[y6];exact a
 have c3:=ae.TA i d;have ai:=fun g (l:Le g9 g)=>(ae.le Nn.RP l).DH i d;have c4:=CA a;have c5:(kz (aag n b))[i]=(((aag n b)[i]:Nat):Int):=by simp[kz]
 rw[c5]at ai;have aq:(aag n b)[i]<n:=(aeT.1 (aev a)).1;generalize (aag n b)[i]=w at*;have bN:=Rows.ix (n:=n) L .i64 w aq;rw[<-a6]at bN;refine Sk (Yb cR (cU bH Rz.le) cZ) ?_;refine aab.intro (fun k fr hy=>∃(j:Nat)(us:xLV),k=(rs.getD i []).length-j/\j<=(rs.getD i []).length/\fr=mkF [(0,Q),(7,J),(18,.int .i64 i),(116,ov),(117,.int .i64 (aag n b).length),(118,.int .i64 i),(123,cv),(124,.int .i64 (rs.getD i []).length),(125,.int .i64 j)]/\us.length=n/\Rows g9 hy L us (stR n rows b rs i j))
  (rs.getD i []).length [(0,Q),(7,J),(18,.int .i64 i),(116,ov),(117,.int .i64 (aag n b).length),(118,.int .i64 i),(123,cv),(124,.int .i64 (rs.getD i []).length),(125,(0:Nat))] fD ⟨0,m,rfl,vZ _,rfl,E,Rz⟩ ?_
 clear Rz E bI;clear m bH;rintro k fr P bQ ⟨j,m,rfl,V,rfl,E,F⟩;refine Uy ?_;refine Kl.intro (fun t=>?_) (fun hf=>?_)
 rotate_left
 .have C:(rs.getD i []).length<=j:=vp hf;obtain rfl:j=(rs.getD i []).length:=NH;rw[stR_next]at F;refine Sk c0 ?_;exact lgA (stpP a) ⟨i+1,m,rfl,a,rfl,E,F⟩
 have f:j<(rs.getD i []).length:=CC t;clear t;have adc:=ag.TA j f;have bW:=fun g (l:Le g9 g)=>(ag.le Nn.RP l).DH j f;have bY:=BS f;have aC:=cN i _ (aev f);generalize (rs.getD i [])[j]=x at bY aC bW;obtain⟨x,rfl⟩:=Sb aC.1;have bZ:x<(aag n b).length:=NH;have aD:x<(kz (aag n b)).length:=by rw[y6];exact bZ
 have c6:=ae.TA x aD;have ar:=fun g (l:Le g9 g)=>(ae.le Nn.RP l).DH x aD;have b1:(kz (aag n b))[x]=aiD n b (x:Int):=by unfold aiD;rw[IE,xD,BS bZ];simp[kz]
 rw[b1]at ar;have c9:=aaa j (by have:=N i;omega);have hlen:(stR n rows b rs i j).length=n:=ahF;have aT:=CA (show w<(stR n rows b rs i j).length by rw[hlen];exact aq);have da:(stR n rows b rs i j)[w]'(by rw[hlen];exact aq)=(stR n rows b rs i j).getD w []:=by rw[xD,BS (by rw[hlen];exact aq)];rfl
 rw[da]at aT;have b2:((stR n rows b rs i j).getD w []).length<=100000:=by have:=aK i j _ (Gc aT);omega
 obtain⟨u,u',H,h5,h6,hu,e4,e5,e6,l4,l5,db,R6,w6,-⟩:=F.push bQ aT (aiD n b (x:Int)) b2;rw[stR_step c4 bY]at R6;have bs:=DQ P (aiD n b (x:Int));rw[e4]at bs;have K:=F.le;have lu:∀g:aai,g.own L=Z (.cells m)->aaC pG g 28 ⟨L,w,Y⟩=Z u:=fun g S=>by rw[Fq Mb rfl S];exact hu
 simp only[HO,seval,adc,bW P K];refine gh (tA [0,1,2,3,4,5,6,7,8,9,10,11,12,13,14,15] (JQ 16 [15] (JQ 17 [11,16] (tA [18] (JQ 19 [0,1,2,3,4,5,6,7,8,9,10,11,12,13,14,15,16,17,18] .done))))) ?_;simp only[HO,seval,Qg,bN,c3,ai P K,ai H (K.trans l4),ai h5 l5,c6,ar P K,ar H (K.trans l4),ar h5 l5,lu P F.oL,lu H (l4.own _ _ F.oL),lu h5 db,bs,e5,e6,c9];exact lgA (stpP f) ⟨j+1,_,rfl,f,rfl,by simpa using E,R6⟩
def ajK(i:LA)(b0 h:aai)(L n:Nat)(us:xLV)(rows:AM)(R:Rows b0 h L us rows)(a:rows.length=n)(bv:vV)(b:xLP)(f:PR b0 bv b)(O:aeo n b)(s:b.length<=594)(t:n<=200)(d:∀r∈rows,r.length<=1000):
  AC pG i 35 [sL (Z L) n n,bv] h fun v h'=>(v=.bool fF/\¬XU n (eN n b)/\Le h h')\/(v=.bool tT/\ah0 n b/\∃c,c.length=n/\Rows b0 h' L c (aiC n rows b)):=by
 have hR:=O.1.GD;by_cases o:b.length=1
 rotate_left
 .have A:0<b.length:=adE.2 O.2.1;exact ajo i b0 h L n us rows R a bv b f O NH s t d
 have u:=O.rowOne o;obtain⟨p,rfl⟩:=abW.1 o;obtain⟨a1,a2,w⟩:=hR p Ma;obtain⟨B,z⟩:=p;simp only at a1 a2 w;obtain⟨x,rfl⟩:=Sb a1;obtain⟨y,rfl⟩:=Sb (show 0<=z by omega);have ne:x≠y:=NH;refine(ajI i b0 h L n us rows R a bv x y f NH NH ne d).mono ?_;rintro v h' ⟨rfl,c,j,R'⟩;refine .inr ⟨rfl,u,c,j,?_⟩;have e:(rows.set x (rows.getD x []++[(y:Int)])).set y (rows.getD y []++[(x:Int)])=aiC n rows [((x:Int),(y:Int))]:=by
  refine j3 fun v=>?_;by_cases k:v<n
  .have g:(aiC n rows [((x:Int),(y:Int))])[v]?=Z (rows.getD v []++ag2 n [((x:Int),(y:Int))] v):=by simp[aiC,k]
   rw[g,Tn,adN,Tn];unfold ag2;rw[Z6 (show[((x:Int),(y:Int))].length=1 from rfl)];simp only[ahO,Int.natCast_inj];by_cases c1:y=v
   .subst c1;have c2:¬y=x:=fun q=>ne q.symm;simp[c2,a,k]
   .by_cases c2:x=v
    .subst c2;simp[c1,a,k]
    .have l:¬v=y:=fun q=>c1 q.symm;have m:¬v=x:=fun q=>c2 q.symm;simp only[c1,c2,l,m,if_false,aik];rw[xD,BS NH];rfl
  .rw[V3 (by simp;omega),V3 (by rw[addR_len];omega)]
 rw[<-e];exact R'
end
end Go.Fw
