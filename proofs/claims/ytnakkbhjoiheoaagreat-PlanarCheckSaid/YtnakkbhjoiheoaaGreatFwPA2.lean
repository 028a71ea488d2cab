/- A text. -/
import Derived.Test.YtnakkbhjoiheoaaGreatFwKA6
set_option linter.all false
set_option maxRecDepth 99999
set_option maxHeartbeats 9999999
open Go.Proofs
open Option renaming some→Z,none→Y
open Bool renaming true→tT,false→fF
open List renaming replicate→rP,range→rG
open Go.Value renaming slice→sL,pointer→pT
open Go renaming Value→vV
open Go.Proofs.Tryz renaming prog→pG
open Go.Proofs.Tryz
namespace Go.Fw
section
attribute [local irreducible] Kp MQ lU KO1 KO KN KX KE VK Kl ZJ TC aab
attribute [local irreducible] Jz JL vq cQ
structure ag5 (b0 h:aai) (L:Nat) (us0 us:xLV) (rows:AM):Prop where
 oL:h.own L=Z (.cells us0)
 len0:us0.length=rows.length
 len:us.length=rows.length
 gs:∀(v:Nat) u r,us[v]?=Z u->rows[v]?=Z r->GS 1 h u r.length (Bp r)
 nL:∀(v:Nat) u,us[v]?=Z u->blk u≠Z L
 TE:∀(v w:Nat) u u' b,v≠w->us[v]?=Z u->us[w]?=Z u'->blk u=Z b->blk u'≠Z b
 ap:∀(v:Nat) u,us[v]?=Z u->Z2 b0 u
 le:Le b0 h
 bL:b0.own L=Y
section
variable{b0 h h':aai}{L:Nat}{us0 us:List vV}{rows:AM}
def Rows.w(R:Rows b0 h L us rows):ag5 b0 h L us us rows:=⟨R.oL,R.len,R.len,R.gs,R.nL,R.TE,R.ap,R.le,R.bL⟩
def ag5.r(R:ag5 b0 h L us us rows):Rows b0 h L us rows:=⟨R.oL,R.len,R.gs,R.nL,R.TE,R.ap,R.le,R.bL⟩
theorem ag5.up(R:ag5 b0 h L us0 us rows)(e:Le h h'):ag5 b0 h' L us0 us rows:=⟨e.own _ _ R.oL,R.len0,R.len,fun v u r a b=>(R.gs v u r a b).le e,R.nL,R.TE,R.ap,R.le.trans e,R.bL⟩
def ag5.fresh(R:ag5 b0 h L us0 us rows){id:Nat}(a:h.own id=Y):id≠L/\∀(v:Nat) u,us[v]?=Z u->blk u≠Z id:=by refine⟨(fun e=>by rw[e,R.oL]at a;cases a),fun v u b hb=>?_⟩;obtain⟨q,c⟩:∃q,rows[v]?=Z q:=⟨_,CA (by have:=R.len;have:=(Ny.1 b).1;omega)⟩;exact(R.gs v u q b c).Sy hb a
def ag5.app(R:ag5 b0 h L us0 us rows)(f:WF h){w:Nat}{r:RZ}(C:rows[w]?=Z r){id:Nat}{x:Int}(G:h.own id=Z (.cells [.int .i64 x]))(I:r.length<=100000):
  ∃u u' l,us[w]?=Z u/\aaR pG h 28 28 u (sL (Z ⟨id,0,Y⟩) 1 1)=Z (u',l)/\ag5 b0 l L us0 (us.set w u') (rows.set w (r++[x]))/\WF l/\Le b0 l/\xO u' (r.length+1)/\
   (∀b o,h.own b=Z o->(∀(v:Nat) a,us[v]?=Z a->blk a≠Z b)->l.own b=Z o/\∀(v:Nat) a,(us.set w u')[v]?=Z a->blk a≠Z b):=by
 have i:w<us.length:=by have:=R.len;have:=(Ny.1 C).1;omega
 have k:=CA i;generalize us[w]=u at k;have g:=R.gs w u r k C;obtain⟨u',l,D,E,hf⟩:=g.push (P:=pG) (t:=28) Ji G (yG _) rfl NH;have y:WF l:=xr f D;obtain⟨A,B⟩:=aG hf f R.oL (R.nL w u k);obtain⟨l5,H⟩:=hf b0 f R.le (R.ap w u k);refine⟨u,u',l,k,D,⟨A,by simpa using R.len0,by simpa using R.len,fun v a q ha d=>?_,fun v a ha=>?_,fun v v' a a' b n ha mi hb=>?_,fun v a ha=>?_,l5,R.bL⟩,y,l5,E.cs.sl,fun b o hb p=>?_⟩
 .rw[Tn]at ha d;by_cases e:w=v
  .subst e;rw[IE rfl,IE i]at ha;rw[IE rfl,IE (by have:=R.len;omega)]at d;injection ha with ha;injection d with d;subst ha;subst d;rw[aaf];have:Bp (r++[x])=Bp r++[.int .i64 x]:=by simp[Bp]
   rw[this];exact E
  .rw[yM e]at ha d;refine(R.gs v a q ha d).kept fun b o hb j=>(aG hf f j fun s=>R.TE w v u a b e k ha s hb).1
 .rw[Tn]at ha;by_cases e:w=v
  .subst e;rw[IE rfl,IE i]at ha;injection ha with ha;subst ha;exact B
  .rw[yM e]at ha;exact R.nL v a ha
 .rw[Tn]at ha mi;have m:∀(z:Nat) c,us[z]?=Z c->∀b,blk c=Z b->∃o,h.own b=Z o:=fun z c F b hb=>by
   obtain⟨q,d⟩:∃q,rows[z]?=Z q:=⟨_,CA (by have:=R.len;have:=(Ny.1 F).1;omega)⟩;exact VU.1 ((R.gs z c q F d).Sy hb)
  by_cases e:w=v
  .subst e;rw[IE rfl,IE i]at ha;injection ha with ha;subst ha;rw[yM n]at mi;intro sZ;obtain⟨o,j⟩:=m v' a' mi b sZ;exact(aG hf f j fun s=>R.TE w v' u a' b n k mi s sZ).2 hb
  .rw[yM e]at ha;by_cases e':w=v'
   .subst e';rw[IE rfl,IE i]at mi;injection mi with mi;subst mi;obtain⟨o,j⟩:=m v a ha b hb;exact(aG hf f j fun s=>R.TE w v u a b e k ha s hb).2
   .rw[yM e']at mi;exact R.TE v v' a a' b n ha mi hb
 .rw[Tn]at ha;by_cases e:w=v
  .subst e;rw[IE rfl,IE i]at ha;injection ha with ha;subst ha;exact H
  .rw[yM e]at ha;exact R.ap v a ha
 .obtain⟨k1,k2⟩:=aG hf f hb (p w u k);refine⟨k1,fun v a ha=>?_⟩;rw[Tn]at ha;by_cases e:w=v
  .subst e;rw[IE rfl,IE i]at ha;injection ha with ha;subst ha;exact k2
  .rw[yM e]at ha;exact p v a ha
def ag5.st(R:ag5 b0 h L us0 us rows)(a:WF h){w k:Nat}{u':vV}(hw:w<rows.length)(hs:xO u' k):aaK pG h 28 (pT (Z ⟨L,w,Y⟩)) u'=Z (h.put L (.cells (us0.set w u')))/\ag5 b0 (h.put L (.cells (us0.set w u'))) L (us0.set w u') us rows/\WF (h.put L (.cells (us0.set w u'))):=by have st:=QB (P:=pG) (t:=28) (x:=u') Mb Ji R.oL (off:=w) (by rw[R.len0];exact hw) (by obtain⟨_,_,rfl,_⟩:=hs;rfl) hs.one;refine⟨st,⟨aai.Y3 _ _ _,by simpa using R.len0,R.len,fun v u r b c=>GS.put (R.gs v u r b c) _ (R.nL v u b),R.nL,R.TE,R.ap,R.le.put _ R.bL,R.bL⟩,a.put _ (a.lt R.oL)⟩
end
def Rows.ix{n:Nat}(L:Nat)(k:IntKind)(j:Nat)(a:j<n):aao pG 26 (sL (Z L) n n) (.int k j)=Z (pT (Z ⟨L,j,Y⟩)):=by rw[Wc akG Mb Ji j a];simp[Ip]
def Rows.base{b0 a h:aai}{L:Nat}{us:xLV}{rows:AM}(R:Rows a h L us rows)(e:Le b0 a):Rows b0 h L us rows:=
 have key:∀b,a.own b=Y->b0.own b=Y:=fun b hb=>by
  cases c:b0.own b with
  |none=>rfl
  |some o=>rw[e.own _ _ c]at hb;cases hb
 ⟨R.oL,R.len,R.gs,R.nL,R.TE,fun v u d b hb=>key b (R.ap v u d b hb),e.trans R.le,key L R.bL⟩
noncomputable def aiC(n:Nat)(rows:AM)(b:xLP):AM:=(rG n).map fun v=>rows.getD v []++ag2 n b v
def addR_len(n:Nat)(rows:AM)(b:xLP):(aiC n rows b).length=n:=by simp[aiC]
def ag5.rest{b0 g:aai}{L x y idx:Nat}{us:xLV}{rows:AM}{rx ry:RZ}{c:vV}{a:Int}{z:Int}(p:ag5 b0 g L us (us.set x c) (rows.set x (rx++[z])))(q:WF g)(ne:x≠y)(E:x<rows.length)(l:rows[y]?=Z ry)(s:ry.length<=100000)(ox:g.own idx=Z (.cells [a]))(f:xO c (rx.length+1)):
  ∃e b d m i,us[y]?=Z e/\aaR pG g 28 28 e (sL (Z idx) 1 1)=Z (b,d)/\aaK pG d 28 (pT (Z ⟨L,x,Y⟩)) c=Z m/\aaK pG m 28 (pT (Z ⟨L,y,Y⟩)) b=Z i/\
   d.own L=Z (.cells us)/\Rows b0 i L ((us.set x c).set y b) ((rows.set x (rx++[z])).set y (ry++[a]))/\WF i:=by
 have j:(rows.set x (rx++[z]))[y]?=Z ry:=by rw[Tn,yM ne];exact l
 obtain⟨e,b,d,n,t,o,w1,-,k,-⟩:=p.app q j ox s;have u:((rows.set x (rx++[z])).set y (ry++[a])).length=rows.length:=by simp
 have v:=(Ny.1 l).1;obtain⟨s2,A,w2⟩:=o.st w1 (w:=x) NH f;obtain⟨B,C,D⟩:=A.st w2 (w:=y) NH k;rw[Tn,yM ne]at n;exact⟨e,b,d,_,_,n,t,s2,B,o.oL,C.r,D⟩
def ajI(W0:LA)(b0 h:aai)(L n:Nat)(us:xLV)(rows:AM)(R:Rows b0 h L us rows)(aq:rows.length=n)(bv:vV)(x y:Nat)(hp:PR b0 bv [((x:Int),(y:Int))])(hx:x<n)(hy:y<n)(ne:x≠y)(o:∀r∈rows,r.length<=1000):
  AC pG W0 35 [sL (Z L) n n,bv] h fun v h'=>v=.bool tT/\∃f,f.length=n/\Rows b0 h' L f ((rows.set x (rows.getD x []++[(y:Int)])).set y (rows.getD y []++[(x:Int)])):=by
 have D:=hp.le R.le;have lb:=fun g=>hp.len g;refine AC.vE ⟨func35,rfl,WY⟩ ntmps35 results35 fun q=>?_;simp only[Br,seval];have d1:decide ((([((x:Int),(y:Int))]:xLP).length:Int)=1)=tT:=rfl;have ad:=hp.addr (k:=.i64) 0 Ma;have L0:=D.l0 (i:=0) (p:=((x:Int),(y:Int))) rfl;have L1:=D.l1 (i:=0) (p:=((x:Int),(y:Int))) rfl;simp only[Int.ofNat_zero,Dl]at ad;refine sFa (XC lb d1) ?_;refine gh (tA [0,1,2,3,4,5,6,7,8,9] .done) ?_;simp only[HO,seval,Qg,ad,Dh,Z0,L0,L1];have gx:rows[x]?=Z (rows.getD x []):=by rw[j9,XJ NH];rfl
 have gy:rows[y]?=Z (rows.getD y []):=by rw[j9,XJ NH];rfl
 have qx:(rows.getD x []).length<=100000:=by have:=o _ (BS gx);omega
 have qy:(rows.getD y []).length<=100000:=by have:=o _ (BS gy);omega
 generalize rows.getD x []=rx at*;generalize rows.getD y []=ry at*;have E:=R.w;have ar:=Rows.ix (n:=n) L .i64 x hx;have av:=Rows.ix (n:=n) L .i64 y hy;have c:∀(g:aai),g.own L=Z (.cells us)->∀(v:Nat)(u:vV),us[v]?=Z u->aaC pG g 28 ⟨L,v,Y⟩=Z u:=fun g ho v u hu=>by rw[Fq Mb rfl ho];exact hu
 have ay:∃d e,us[x]?=Z d/\us[y]?=Z e:=⟨_,_,CA (by have:=R.len;omega),CA (by have:=R.len;omega)⟩;obtain⟨d,e,a,b⟩:=ay;obtain⟨a1,az,j,s,G⟩:=Tt q [.int .i64 (y:Int)];have H:=DQ h (y:Int);rw[az]at H;obtain⟨l,ua,a2,q1,aC,t,aD,-,aF,-⟩:=(E.up j).app s gx G qx;obtain rfl:d=l:=by rw[a]at q1;injection q1
 obtain⟨a3,aH,I,aJ,aK⟩:=Tt aD [.int .i64 (x:Int)];have J:=DQ a2 (x:Int);rw[aH]at J;obtain⟨m,b8,a4,a5,a6,q2,K,aL,aN,aP,RA,-⟩:=(t.up I).rest aJ ne NH gy qy aK aF;obtain rfl:e=m:=by rw[b]at q2;injection q2
 have M:=c a1 (j.own _ _ R.oL);have N:=c a2 t.oL;have O:=c a3 (I.own _ _ t.oL);have P:=c a4 aP;obtain⟨b2,aT,z,aW,aX⟩:=Tt s [.int .i64 (x:Int)];have Q:=DQ a1 (x:Int);rw[aT]at Q
 have a7:a1.own a1.next=Y:=(Le.refl a1).next s (qL0 _)
 obtain⟨l,ub,b3,q3,a8,S,bb,-,bg,kb⟩:=((E.up j).up z).app aW gx (z.own _ _ G) qx;obtain rfl:d=l:=by rw[a]at q3;injection q3
 obtain⟨bh,-⟩:=kb _ _ aX ((E.up j).fresh a7).2;obtain⟨m,b9,b4,b5,b6,q4,T,bk,bm,bo,RB,-⟩:=S.rest bb ne NH gy qy bh bg;obtain rfl:e=m:=by rw[b]at q4;injection q4
 have LB2:=c b2 (z.own _ _ (j.own _ _ R.oL));have U:=c b3 S.oL;have V:=c b4 bo;obtain⟨c1,br,A,bx,bB⟩:=Tt q [.int .i64 (x:Int)];have W:=DQ h (x:Int);rw[br]at W;obtain⟨c2,bF,B,bG,bH⟩:=Tt bx [.int .i64 (y:Int)];have X:=DQ c1 (y:Int);rw[bF]at X
 have bI:h.own h.next=Y:=(Le.refl h).next q (qL0 _)
 obtain⟨l,uc,c3,q5,ecc,aa,bN,-,bQ,kc⟩:=((E.up A).up B).app bG gx bH qx;obtain rfl:d=l:=by rw[a]at q5;injection q5
 obtain⟨bW,-⟩:=kc _ _ (B.own _ _ bB) (E.fresh bI).2;obtain⟨m,cc,c4,c5,c6,q6,ae,bY,bZ,b1,RC,-⟩:=aa.rest bN ne NH gy qy bW bQ;obtain rfl:e=m:=by rw[b]at q6;injection q6
 have ag:=c c1 (A.own _ _ R.oL);have ai:=c c2 (B.own _ _ (A.own _ _ R.oL));have aj:=c c3 aa.oL;have al:=c c4 b1;have LH:=c h R.oL;have C:us.length=n:=by rw[R.len];exact aq
 apply Ya (F:=fun(fr:aam)(h5:aai)=>∃f,f.length=n/\Rows b0 h5 L f ((rows.set x (rx++[(y:Int)])).set y (ry++[(x:Int)])))
 .intro cont;refine gh (tA [0,1,2,3,4,5,6,7,8,11,12,13,14,15] (.ch 9 [8] (.ch 10 [7,9] (JQ 16 [15] (JQ 17 [10,14,16] (tA [18] (JQ 19 [0,1,4,5,6,7,8,9,10,14,17,18] (tA [20] (JQ 21 [0,1,2,3,4,5,6,7,8,9,10,11,12,13,14,15,16,17,18,19,20] .done)))))) (JQ 16 [15] (JQ 10 [7,9] (JQ 17 [10,14,16] (tA [18] (JQ 19 [0,1,4,5,6,7,8,9,10,14,17,18] (tA [20] (JQ 21 [0,1,2,3,4,5,6,7,8,9,10,11,12,13,14,15,16,17,18,19,20] .done)))))))) (JQ 16 [15] (JQ 9 [8] (JQ 10 [7,9] (JQ 17 [10,14,16] (tA [18] (JQ 19 [0,1,4,5,6,7,8,9,10,14,17,18] (tA [20] (JQ 21 [0,1,2,3,4,5,6,7,8,9,10,11,12,13,14,15,16,17,18,19,20] .done)))))))))) ?_;simp only[kJJ,seval,Qg,ar,av,LH x d a,LH y e b,M x d a,M y e b,N x d a,N y e b,O x d a,O y e b,P x d a,P y e b,LB2 x d a,LB2 y e b,U x d a,U y e b,V x d a,V y e b,ag x d a,ag y e b,ai x d a,ai y e b,aj x d a,aj y e b,al x d a,al y e b,H,aC,J,K,aL,aN,Q,a8,T,bk,bm,W,X,ecc,ae,bY,bZ];refine⟨⟨?_,?_⟩,?_⟩
  .refine KN.UJ fun fr' h' x y=>cont fr' h' ?_;subst x y;exact⟨_,by simp[C],RA⟩
  .refine KN.UJ fun fr' h' x y=>cont fr' h' ?_;subst x y;exact⟨_,by simp[C],RB⟩
  .refine KN.UJ fun fr' h' x y=>cont fr' h' ?_;subst x y;exact⟨_,by simp[C],RC⟩
 rintro fr h5 ⟨f,hl,R'⟩;refine sSs ?_;exact⟨trivial,f,hl,R'⟩
noncomputable def aiD(n:Nat)(b:xLP)(j:Int):Int:=(((aag n b).getD j.toNat 0:Nat):Int)
noncomputable def stR(n:Nat)(rows:AM)(b:xLP)(rs:AM)(i k:Nat):AM:=(rG n).map fun v=>rows.getD v []++(if v∈aag n b then(if abD n b (v:Int)<i then rs.getD (abD n b (v:Int)) []else if abD n b (v:Int)=i then(rs.getD i []).take k else[])else[]).map (aiD n b)
section
variable{n:Nat}{rows:AM}{b:List Pr}{rs:AM}{i k:Nat}
def ahF:(stR n rows b rs i k).length=n:=by simp[stR]
def ahZ{v:Nat}(a:v<n):(stR n rows b rs i k)[v]?=Z (rows.getD v []++(if v∈aag n b then(if abD n b (v:Int)<i then rs.getD (abD n b (v:Int)) []else if abD n b (v:Int)=i then(rs.getD i []).take k else[])else[]).map (aiD n b)):=by simp[stR,a]
def stR_start(c:rows.length=n):stR n rows b rs 0 0=rows:=by
 refine wI fun v=>?_;by_cases a:v<n
 .rw[ahZ a]
  have e:(if v∈aag n b then(if abD n b (v:Int)<0 then rs.getD (abD n b (v:Int)) []else if abD n b (v:Int)=0 then(rs.getD 0 []).take 0 else[])else[])=[]:=by simp
  rw[e,akQ,ai4,j9,XJ NH];rfl
 .rw[mJ (by rw[ahF];omega),mJ NH]
def ajJ{w:Nat}(h:(aag n b)[i]?=Z w):abD n b (w:Int)=i:=by refine(idx_eq ?_).symm;show(kz (aag n b))[i]?=_;unfold kz;rw[MY,h];rfl
def stR_step{w:Nat}{j:Int}(hw:(aag n b)[i]?=Z w)(g:(rs.getD i [])[k]?=Z j):(stR n rows b rs i k).set w ((stR n rows b rs i k).getD w []++[aiD n b j])=stR n rows b rs i (k+1):=by
 have f:=BS hw;have h:=(aeT.1 f).1;have hi:=ajJ hw;refine wI fun v=>?_;by_cases d:v<n
 .rw[ahZ d,Tn];by_cases e:w=v
  .subst e;rw[IE rfl,IE (by rw[ahF];exact d),j9,ahZ d,VX,IE f,hi,yM (Nat.lt_irrefl i),IE rfl,IE f,yM (Nat.lt_irrefl i),IE rfl];rw[bC,kS,g];simp
  .rw[yM e,ahZ d];by_cases a:v∈aag n b
   .rw[IE a,IE a];have:abD n b (v:Int)≠i:=fun q=>e (by
     obtain⟨l,c⟩:=vZ.1 a;have:=ajJ c;rw[q]at this;subst this;rw[hw]at c;injection c)
    rw[yM this,yM this]
   .rw[yM a,yM a]
 .rw[mJ (by rw[Yq,ahF];omega),mJ (by rw[ahF];omega)]
def stR_next:stR n rows b rs i (rs.getD i []).length=stR n rows b rs (i+1) 0:=by
 refine wI fun v=>?_;by_cases c:v<n
 .rw[ahZ c,ahZ c];by_cases a:v∈aag n b
  .rw[IE a,IE a];by_cases d:abD n b (v:Int)<i
   .rw[IE d,IE NH]
   .rw[yM d];by_cases h2:abD n b (v:Int)=i
    .rw[IE h2,IE NH,dr,h2]
    .rw[yM h2,yM NH];split<;>rfl
  .rw[yM a,yM a]
 .rw[mJ (by rw[ahF];omega),mJ (by rw[ahF];omega)]
def stR_end(d:b.length≠1)(e:ajk (aag n b).length (aat n b)=Z rs):stR n rows b rs (aag n b).length 0=aiC n rows b:=by
 unfold stR aiC;refine EH fun v g=>?_;congr 1;unfold ag2;rw[yM d];by_cases a:v∈aag n b
 .obtain⟨h,c⟩:=vZ.1 a;have f:=ajJ c;have h2:=(Ny.1 c).1;rw[IE a,IE a,IE (by rw[f];exact h2),e];rfl
 .rw[yM a,yM a];rfl
end
def Rows.blks{b0 h:aai}{L:Nat}{us:xLV}{rows:AM}(R:Rows b0 h L us rows):(L::us.filterMap blk).Nodup/\(∀b∈L::us.filterMap blk,h.own b≠Y)/\∀b∈L::us.filterMap blk,b0.own b=Y:=by
 have mem:∀b,b∈us.filterMap blk↔∃v u,us[v]?=Z u/\blk u=Z b:=fun b=>by
  rw[List.mem_filterMap];constructor
  .rintro⟨u,c,e⟩;obtain⟨v,a⟩:=vZ.1 c;exact⟨v,u,a,e⟩
  .rintro⟨v,u,a,e⟩;exact⟨u,BS a,e⟩
 refine⟨jz.2 ⟨fun h=>?_,?_⟩,fun b hb=>?_,fun b hb=>?_⟩
 .obtain⟨v,u,a,e⟩:=(mem L).1 h;exact R.nL v u a e
 .unfold List.Nodup;rw[List.pairwise_filterMap,qH];intro i j hi d f b hb l sZ e;subst e;exact R.TE i j _ _ b NH (XJ hi) (XJ d) hb sZ
 .rcases Og.1 hb with rfl|hb
  .rw[R.oL];simp
  .obtain⟨v,u,a,e⟩:=(mem b).1 hb;obtain⟨q,g⟩:∃q,rows[v]?=Z q:=⟨_,CA (by have:=R.len;have:=(Ny.1 a).1;omega)⟩;exact(R.gs v u q a g).Sy e
 .rcases Og.1 hb with rfl|hb
  .exact R.bL
  .obtain⟨v,u,a,e⟩:=(mem b).1 hb;exact R.ap v u a b e
def Rows.over{b0 h g h':aai}{L:Nat}{us:xLV}{rows:AM}(R:Rows b0 h L us rows)(f:Le g h')(c:∀b∈L::us.filterMap blk,g.own b=Y/\h'.own b=h.own b):Rows g h' L us rows:=by have mem:∀{v:Nat}{u b},us[v]?=Z u->blk u=Z b->b∈L::us.filterMap blk:=fun{v u b} a e=>Og.2 (.inr (List.mem_filterMap.2 ⟨u,BS a,e⟩));have d:=c L Ma;exact⟨by rw[d.2];exact R.oL,R.len,fun v u r a j=>(R.gs v u r a j).kept fun b o hb l=>by rw[(c b (mem a hb)).2];exact l,R.nL,R.TE,fun v u a b hb=>(c b (mem a hb)).1,f,d.1⟩
variable {a b:Nat}
def stpP(h:a<b):b-(a+1)<b-a:=NH
def ajo(W0:LA)(b0 h:aai)(L n:Nat)(us:xLV)(rows:AM)(R:Rows b0 h L us rows)(aP:rows.length=n)(bv:vV)(b:xLP)(bZ:PR b0 bv b)(O:aeo n b)(h2:2<=b.length)(hl:b.length<=594)(hn:n<=200)(aT:∀r∈rows,r.length<=1000):
  AC pG W0 35 [sL (Z L) n n,bv] h fun v h'=>(v=.bool fF/\¬XU n (eN n b)/\Le h h')\/(v=.bool tT/\ah0 n b/\∃m,m.length=n/\Rows b0 h' L m (aiC n rows b)):=by
 have hp:=bZ.le R.le;have hR:=O.1.GD;have ll:=fun g=>hp.len g;refine AC.vE ⟨func35,rfl,WY⟩ ntmps35 results35 fun c9=>?_;simp only[Br,seval];have d1:decide ((b.length:Int)=1)=fF:=WA NH;refine sFa (XC ll d1) ?_;obtain⟨Q,aW⟩:∃Q,Q=vV.slice (Z L) n n:=⟨_,rfl⟩;rw[<-aW];refine lIn (fun k fr hq=>∃(i:Nat)(sv:vV),k=b.length-i/\i<=b.length/\fr=mkF [(0,Q),(1,bv),(7,sv),(53,bv),(54,.int .i64 b.length),(55,.int .i64 i)]/\GI hq sv (adJ (b.take i))/\Le h hq/\Z2 h sv) ⟨0,_,rfl,abe _,rfl,GI.nil h,Le.refl _,fun b hb=>by simp[blk]at hb⟩ ?_;rintro k fr hq b1 ⟨i,sv,rfl,hi,rfl,g,lq,ap⟩;refine sSs ?_;refine Kl.intro (fun t=>?_) (fun hf=>?_)
 .have a:i<b.length:=CC t;clear t;have A:=CA a;have T:b.take (i+1)=b.take i++[b[i]]:=EL a;have hle:(adJ (b.take i)).length<=2000:=by rw[agu,KG];omega
  generalize b[i]=p at A T;have ad:=hp.addr (k:=.i64) i a;have ld:=(hp.le lq).load A;obtain⟨da,h3,e2,e3,U,b2,o3⟩:=Ut b1 p;have m0:=lK o3;have m1:=HY o3;have l3:=lq.trans U;obtain⟨H,e4,l4,w4,o4⟩:=Tt b2 [p.1,p.2];have bs:=mkKI2 h3 p.1 p.2;rw[e4]at bs
  have r4:RL RP H (sL (Z h3.next) 2 2) [p.1,p.2]:=RL.Wh (RS.whole o4 rfl)
  obtain⟨jv,h6,e6,g6,w6,f6,-⟩:=GI.join ((g.le U).le l4) w4 r4 (by simp;omega);obtain⟨l6,aj⟩:=f6 h (l3.trans l4) ap;rw[<-agH,<-T]at g6;simp only[HO,seval,ad,ld,e2,e3,Dh,Z0,Ip,Gc,m0,m1,bs,e6,aaa i NH];exact lgA NH ⟨i+1,jv,rfl,a,rfl,g6,l6,aj⟩
 have C:b.length<=i:=vp hf;rw[HV C]at g;refine sSs ?_;refine kCi qS25 (VQ W0 g (by rw[agu];omega)) ?_;rintro x db w2 ⟨rfl,g2,k2⟩;have b3:=k2 h lq ap;refine sSs ?_;refine kCi func58 (VY W0 g2 (by rw[OX,agu];omega)) ?_;rintro J h3 w3 ⟨r3,b4,k3⟩;have U:=k3 h b3 ap;rw[adX hR]at r3;have av:Z2 h J:=fun c hc=>ap c (by rw[<-b4];exact hc);have lv:=fun g=>r3.DH g;rw[y6]at lv;have dc:(aag n b).length<=200:=EP (im _ _) (by simp;omega);have b5:(kz (aag n b)).Pairwise (·<·):=by unfold kz;rw[vY];exact(U9.filter _).imp fun h=>by omega
 have aX:(kz (aag n b)).Nodup:=b5.imp fun h=>by omega
 obtain⟨H,e4,l4,w4,o4⟩:∃H,h3.alloc (.map [])=H/\Le h3 H/\WF H/\H.own h3.next=Z (.map []):=⟨_,rfl,(Le.refl h3).alloc w3 _,w3.alloc _,aai.zT _ _⟩
 have nM:h3.own h3.next=Y:=(Le.refl h3).next w3 (qL0 _)
 simp only[HO,seval,lv,e4,qS42]
 generalize h3.next=M at*
 refine aab.intro (fun k fr y=>∃(i:Nat)(al:List (Int×Int)),k=(aag n b).length-i/\i<=(aag n b).length/\fr=mkF [(0,Q),(1,bv),(7,J),(10,.map (Z M)),(74,J),(75,.int .i64 (aag n b).length),(76,.int .i64 i)]/\
   y.own M=Z (.map (aie al))/\(∀(j:Nat) v,j<i->(kz (aag n b))[j]?=Z v->abo al v=Z (j:Int))/\Le h3 y)
  (aag n b).length [(0,Q),(1,bv),(7,J),(10,.map (Z M)),(74,J),(75,.int .i64 (aag n b).length),(76,(0:Nat))] fD
  ⟨0,[],rfl,abe _,rfl,o4,fun j v V=>absurd V (aeA j),l4⟩ ?_
 clear o4 l4 e4 w4;clear H;rintro k fr y W ⟨i,al,rfl,hi,rfl,oM,a6,lz⟩;refine sSs ?_;refine Kl.intro (fun t=>?_) (fun hf=>?_)
 .have a:i<(aag n b).length:=CC t;clear t;have d:i<(kz (aag n b)).length:=by rw[y6];exact a
  have ad:=r3.TA i d;have ld:=(r3.le Nn.RP lz).Uc i d;have hv:=XJ d;generalize (kz (aag n b))[i]=v at hv ld;have st:=mapI_set oM v (i:Int);have aw:=aaa i NH;have l5:=lz.put (.map (aie (acs al v (i:Int)))) nM;have w5:=W.put (.map (aie (acs al v (i:Int)))) (W.lt oM);simp only[HO,seval,ad,ld,st,aw];refine lgA NH ⟨i+1,acs al v (i:Int),rfl,a,rfl,aai.Y3 _ _ _,fun j v' V aa=>?_,l5⟩;rw[XR];by_cases e:j=i
  .subst e;rw[IE (Option.some.inj (hv.symm.trans aa))]
  .have:v≠v':=fun q=>e (by
    subst q;exact(qL153 (Ny.1 aa).1 aX).1 (aa.trans hv.symm))
   rw[yM this];exact a6 j v' NH aa
 have C:(aag n b).length<=i:=vp hf;obtain rfl:i=(aag n b).length:=NH;clear C hf hi;obtain⟨h5,h6,e5,e6,l6,w6,nX,G0⟩:=GX.new W ((aag n b).length:Int);refine sFa (afK lv @ait e5 e6 ll) ?_;have aF:=U.trans lz
 have b6:y.own y.next=Y:=(Le.refl y).next W (qL0 _)
 generalize y.next=X at*
 refine lIn (fun k fr hy=>∃(i:Nat)(ev:vV),k=b.length-i/\i<=b.length/\fr=mkF [(0,Q),(7,J),(10,.map (Z M)),(13,pT (Z X)),(88,bv),(89,.int .i64 b.length),(90,.int .i64 i)]/\GX hy X (aag n b).length ev (aat n b|>.take i)/\Le y hy/\Z2 y ev) ⟨0,_,rfl,abe _,rfl,G0,l6,fun b hb=>by simp[blk]at hb⟩ ?_;clear G0 w6 l6 e6 e5;rintro k fr hy b8 ⟨i,ev,rfl,hi,rfl,G,K,az⟩;refine sSs ?_;refine Kl.intro (fun t=>?_) (fun hf=>?_)
 .have a:i<b.length:=CC t;clear t;have A:=CA a;have b9:(aat n b)[i]?=Z ((abD n b b[i].1:Int),(abD n b b[i].2:Int)):=by rw[aat,MY,A];rfl
  have T:(aat n b).take (i+1)=(aat n b).take i++[((abD n b b[i].1:Int),(abD n b b[i].2:Int))]:=by rw[kS,b9];rfl
  have a8:((aat n b).take i).length+1<=100000:=by rw[KG];omega
  have cc:=BS A;have s:∀x,aO b[i] x=tT->abo al x=Z (abD n b x:Int):=fun x hx=>by
   have:x∈kz (aag n b):=by rw[<-adX hR,jn,Wv,aeS];exact⟨_,cc,hx⟩
   obtain⟨j,V⟩:=vZ.1 this;have bb:=(Ny.1 V).1;rw[y6]at bb;rw[a6 j x bb V,<-idx_eq V]
  have cd:=s b[i].1 (by simp[aO]);have cf:=s b[i].2 (by simp[aO]);generalize b[i]=p at*;have ad:=hp.addr (k:=.i64) i a;have ld:=(hp.le (aF.trans K)).load A;obtain⟨dd,h6,e6,s6,l6,w6,o6⟩:=Ut b8 p;have m0:=lK o6;have m1:=HY o6;have aw:=aaa i NH;have bg:=(K.trans l6).own _ _ oM;have k1:=aiO bg p.1 fF;have k2:=aiO bg p.2 fF;rw[cd]at k1;rw[cf]at k2;simp only[cond_false,VX]at k1 k2;have G6:=G.le l6;obtain⟨v',g4,g5,g6,q4,q5,q6,G7,de,l7,f7,-⟩:=G6.push' w6 ((abD n b p.1:Int),(abD n b p.2:Int)) a8;obtain⟨cg,a7⟩:=f7 y (K.trans l6) b6 az;rw[<-T]at G7;have ck:=xe (abD n b p.1:Int) (abD n b p.2:Int);simp only[HO,seval,ad,ld,e6,s6,Dh,Z0,Di,Ip,Gc,m0,m1,k1,k2,G6.ld.2.2,ck,q4,q5,q6,aw];exact lgA NH ⟨i+1,v',rfl,a,rfl,G7,cg,a7⟩
 have C:b.length<=i:=vp hf;have a8:(aat n b).length=b.length:=by simp[aat]
 rw[HV NH]at G;have D:=aF.trans K;have Ry:=R.up D;obtain⟨cm,bh,cp⟩:=Ry.blks;have ay:∀c∈L::us.filterMap blk,h.own c≠Y:=R.blks.2.1;have cq:∀c,blk ev=Z c->c∉L::us.filterMap blk:=fun c hc s=>by have h1:=az c hc;obtain⟨o,S⟩:=VU.1 (ay c s);rw[aF.own _ _ S]at h1;cases h1
 have cx:∀c∈L::us.filterMap blk,blk J≠Z c:=fun c s hc=>ay c s (av c hc);have bk:=GS.Fi G.gp cq;refine sFa G.ld.1 ?_;refine kCi func59 (AC.side (L::us.filterMap blk) hy _ bh cm (Im W0 _ ⟨((aag n b).length:Int),aat n b⟩ (rem (L::us.filterMap blk) hy) ⟨ev,rfl,GP.pr bk,GS.okc bk⟩)) ?_;rintro x h9 w9 ⟨g9,⟨lr,ov,e,rfl,I⟩,l9,aH⟩;have bm:Le h h9:=by
  refine⟨?_,fun c o S=>?_⟩
  .have e1:=l9.ext;have e2:=lr.ext;rw[e1,e2,vL];exact D.ext
  .by_cases s:c∈L::us.filterMap blk
   .rw[(aH c s).2];exact D.own _ _ S
   .exact l9.own _ _ (lr.own _ _ (Th.2 ⟨D.own _ _ S,s⟩))
 have bo:e≠0->¬XU n (eN n b):=fun he hP=>by obtain⟨rs,-,-,-,q,-⟩:=I.XK (ad6 O.1) (O.two h2) ((afA hR).2 hP);exact he q
 by_cases he:e=0
 rotate_left
 .have d0:decide (e=0)=fF:=WA he;refine sFa (XC @bne.eq_1.{0} d0) ?_
  exact .inl ⟨trivial,bo he,bm⟩
 subst he;obtain⟨rs,hX,hG,hF,aJ⟩:∃rs,ajk (aag n b).length (aat n b)=Z rs/\Av (aag n b).length (aat n b) rs/\Flat (aag n b).length (Xl rs)/\RL (RL RP) g9 ov rs:=by
  rcases I with⟨-,q,-⟩|⟨-,-,q,-⟩|⟨-,-,-,-,q,-⟩|⟨-,-,rs,q1,q2,q3,-,q4⟩
  .omega
  .omega
  .omega
  .exact⟨rs,q1,q2,q3,q4⟩
 have BR:=O.rowMany h2 hX hG hF;have R9:=Ry.over l9 aH;have ae:RL RP g9 J (kz (aag n b)):=(RL.remK (r3.le Nn.RP (lz.trans K)) cx).le Nn.RP lr;have cz:rs.length=(aag n b).length:=hG.len;have cC:=fun g=>aJ.qP6 g;have d0:decide ((0:Int)=0)=tT:=by decide
 have cE:Le b0 g9:=by
  refine⟨?_,fun c o S=>?_⟩
  .rw[lr.ext,vL,D.ext];exact R.le.ext
  .have s:c∉L::us.filterMap blk:=fun s=>by rw[cp c s]at S;cases S
   exact lr.own _ _ (Th.2 ⟨D.own _ _ (R.le.own _ _ S),s⟩)
 have cJ:∀(i:Nat) j,j∈rs.getD i []->0<=j/\j<((aag n b).length:Int):=fun i j V=>by obtain⟨-,w,rfl,hw,-⟩:=hG.nat (ad6 O.1).GD V;omega
 have N:∀i,(rs.getD i []).length<=200:=fun i=>by
  by_cases hi:i<(aag n b).length
  .have s:=hG.jD (ad6 O.1).GD (ad6 O.1).q9;have nd:=s.nd i;have:=tf nd (B:=rG (aag n b).length) fun w hw=>K4.2 (s.lt w i (s.sy i w hw));rw[WZ]at this;have e2:(Xl rs i).length=(rs.getD i []).length:=by simp[Xl]
   omega
  .rw[j9,mJ NH];simp
 refine sFa (ae7 @bne.eq_1.{0} d0 cC cz) ?_
 have cK:b.length≠1:=NH;have z:=stR_start (b:=b) (rs:=rs) aP;have br:Rows g9 h9 L us (stR n rows b rs 0 0):=by rw[z];exact R9
 have aK:∀i k,∀r∈stR n rows b rs i k,r.length<=1200:=fun i k r hr=>by
  obtain⟨v,hv,rfl⟩:=Eh.1 hr;rw[aaf,fj];have h1:(rows.getD v []).length<=1000:=by
   rw[j9];cases y:rows[v]? with
   |none=>simp
   |some r=>exact aT r (BS y)
  have h2:(if v∈aag n b then(if abD n b (v:Int)<i then rs.getD (abD n b (v:Int)) []else if abD n b (v:Int)=i then(rs.getD i []).take k else[])else[]).length<=200:=by
   split
   .split
    .exact N _
    .split
     .rw[KG];have:=N i;omega
     .simp
   .simp
  omega
 have bx:us.length=n:=by rw[R.len];exact aP
 refine aab.intro (fun k fr y=>∃(i:Nat)(us:xLV),k=(aag n b).length-i/\i<=(aag n b).length/\fr=mkF [(0,Q),(7,J),(116,ov),(117,.int .i64 (aag n b).length),(118,.int .i64 i)]/\us.length=n/\Rows g9 y L us (stR n rows b rs i 0))
  (aag n b).length [(0,Q),(7,J),(116,ov),(117,.int .i64 (aag n b).length),(118,(0:Nat))] fD ⟨0,us,rfl,abe _,rfl,bx,br⟩ ?_
 clear br R9 bx z aH l9 w9 bm;clear h9;rintro k fr bB bF ⟨i,m,rfl,hi,rfl,E,Rz⟩;refine sSs ?_;refine Kl.intro (fun t=>?_) (fun hf=>?_)
 rotate_left
 .have C:(aag n b).length<=i:=vp hf;obtain rfl:i=(aag n b).length:=NH;rw[stR_end cK hX]at Rz;refine sSs ?_;exact .inr ⟨trivial,BR,m,E,Rz.base cE⟩
 have a:i<(aag n b).length:=CC t;clear t;have aL:i<rs.length:=NH;have cM:=aJ.qP7 i aL;obtain⟨cv,ag,cN⟩:=aJ.loadS Mb rfl i aL;have cP:rs.getD i []=rs[i]:=by rw[j9,XJ aL];rfl
 rw[<-cP]at ag;have cR:=fun g=>ag.DH g;have cU:=aaa i NH;have d:i<(kz (aag n b)).length:=by rw[y6];exact a
 have cW:=ae.TA i d;have ai:=fun g (l:Le g9 g)=>(ae.le Nn.RP l).Uc i d;have cZ:=CA a;have c0:(kz (aag n b))[i]=(((aag n b)[i]:Nat):Int):=by simp[kz]
 rw[c0]at ai;have aq:(aag n b)[i]<n:=(aeT.1 (aev a)).1;generalize (aag n b)[i]=w at*;have bG:=Rows.ix (n:=n) L .i64 w aq;rw[<-aW]at bG;refine sFa (adG cM (cN bB Rz.le) cR) ?_;refine aab.intro (fun k fr hy=>∃(j:Nat)(us:xLV),k=(rs.getD i []).length-j/\j<=(rs.getD i []).length/\fr=mkF [(0,Q),(7,J),(18,.int .i64 i),(116,ov),(117,.int .i64 (aag n b).length),(118,.int .i64 i),(123,cv),(124,.int .i64 (rs.getD i []).length),(125,.int .i64 j)]/\us.length=n/\Rows g9 hy L us (stR n rows b rs i j))
  (rs.getD i []).length [(0,Q),(7,J),(18,.int .i64 i),(116,ov),(117,.int .i64 (aag n b).length),(118,.int .i64 i),(123,cv),(124,.int .i64 (rs.getD i []).length),(125,(0:Nat))] fD ⟨0,m,rfl,abe _,rfl,E,Rz⟩ ?_
 clear Rz E bF;clear m bB;rintro k fr P bH ⟨j,m,rfl,V,rfl,E,F⟩;refine sSs ?_;refine Kl.intro (fun t=>?_) (fun hf=>?_)
 rotate_left
 .have C:(rs.getD i []).length<=j:=vp hf;obtain rfl:j=(rs.getD i []).length:=NH;rw[stR_next]at F;refine sFa cU ?_;exact lgA (stpP a) ⟨i+1,m,rfl,a,rfl,E,F⟩
 have f:j<(rs.getD i []).length:=CC t;clear t;have adc:=ag.TA j f;have bI:=fun g (l:Le g9 g)=>(ag.le Nn.RP l).Uc j f;have bN:=XJ f;have aC:=cJ i _ (aev f);generalize (rs.getD i [])[j]=x at bN aC bI;obtain⟨x,rfl⟩:=Sb aC.1;have bQ:x<(aag n b).length:=NH;have aD:x<(kz (aag n b)).length:=by rw[y6];exact bQ
 have c3:=ae.TA x aD;have ar:=fun g (l:Le g9 g)=>(ae.le Nn.RP l).Uc x aD;have bW:(kz (aag n b))[x]=aiD n b (x:Int):=by unfold aiD;rw[Z6,j9,XJ bQ];simp[kz]
 rw[bW]at ar;have c4:=aaa j (by have:=N i;omega);have hlen:(stR n rows b rs i j).length=n:=ahF;have aN:=CA (show w<(stR n rows b rs i j).length by rw[hlen];exact aq);have c5:(stR n rows b rs i j)[w]'(by rw[hlen];exact aq)=(stR n rows b rs i j).getD w []:=by rw[j9,XJ (by rw[hlen];exact aq)];rfl
 rw[c5]at aN;have bY:((stR n rows b rs i j).getD w []).length<=100000:=by have:=aK i j _ (BS aN);omega
 obtain⟨u,u',H,h5,h6,hu,e4,e5,e6,l4,l5,c6,R6,w6,-⟩:=F.push bH aN (aiD n b (x:Int)) bY;rw[stR_step cZ bN]at R6;have bs:=DQ P (aiD n b (x:Int));rw[e4]at bs;have K:=F.le;have lu:∀g:aai,g.own L=Z (.cells m)->aaC pG g 28 ⟨L,w,Y⟩=Z u:=fun g S=>by rw[Fq Mb rfl S];exact hu
 simp only[HO,seval,adc,bI P K];refine gh (tA [0,1,2,3,4,5,6,7,8,9,10,11,12,13,14,15] (JQ 16 [15] (JQ 17 [11,16] (tA [18] (JQ 19 [0,1,2,3,4,5,6,7,8,9,10,11,12,13,14,15,16,17,18] .done))))) ?_;simp only[HO,seval,Qg,bG,cW,ai P K,ai H (K.trans l4),ai h5 l5,c3,ar P K,ar H (K.trans l4),ar h5 l5,lu P F.oL,lu H (l4.own _ _ F.oL),lu h5 c6,bs,e5,e6,c4];exact lgA (stpP f) ⟨j+1,_,rfl,f,rfl,by simpa using E,R6⟩
def ajK(i:LA)(b0 h:aai)(L n:Nat)(us:xLV)(rows:AM)(R:Rows b0 h L us rows)(a:rows.length=n)(bv:vV)(b:xLP)(f:PR b0 bv b)(O:aeo n b)(s:b.length<=594)(t:n<=200)(d:∀r∈rows,r.length<=1000):
  AC pG i 35 [sL (Z L) n n,bv] h fun v h'=>(v=.bool fF/\¬XU n (eN n b)/\Le h h')\/(v=.bool tT/\ah0 n b/\∃c,c.length=n/\Rows b0 h' L c (aiC n rows b)):=by
 have hR:=O.1.GD;by_cases o:b.length=1
 rotate_left
 .have A:0<b.length:=dU.2 O.2.1;exact ajo i b0 h L n us rows R a bv b f O NH s t d
 have u:=O.rowOne o;obtain⟨p,rfl⟩:=abW.1 o;obtain⟨a1,a2,w⟩:=hR p Ma;obtain⟨B,z⟩:=p;simp only at a1 a2 w;obtain⟨x,rfl⟩:=Sb a1;obtain⟨y,rfl⟩:=Sb (show 0<=z by omega);have ne:x≠y:=NH;refine(ajI i b0 h L n us rows R a bv x y f NH NH ne d).mono ?_;rintro v h' ⟨rfl,c,j,R'⟩;refine .inr ⟨rfl,u,c,j,?_⟩;have e:(rows.set x (rows.getD x []++[(y:Int)])).set y (rows.getD y []++[(x:Int)])=aiC n rows [((x:Int),(y:Int))]:=by
  refine wI fun v=>?_;by_cases k:v<n
  .have g:(aiC n rows [((x:Int),(y:Int))])[v]?=Z (rows.getD v []++ag2 n [((x:Int),(y:Int))] v):=by simp[aiC,k]
   rw[g,Tn,Yq,Tn];unfold ag2;rw[IE (show[((x:Int),(y:Int))].length=1 from rfl)];simp only[qL189,Int.natCast_inj];by_cases c1:y=v
   .subst c1;have c2:¬y=x:=fun q=>ne q.symm;simp[c2,a,k]
   .by_cases c2:x=v
    .subst c2;simp[c1,a,k]
    .have l:¬v=y:=fun q=>c1 q.symm;have m:¬v=x:=fun q=>c2 q.symm;simp only[c1,c2,l,m,if_false,ai4];rw[j9,XJ NH];rfl
  .rw[mJ (by simp;omega),mJ (by rw[addR_len];omega)]
 rw[<-e];exact R'
variable {es:List Pr} {i n:Nat}
def certM_nil(n:Nat):ag3 n []=rP n []:=by
 refine wI fun v=>?_;by_cases a:v<n
 .simp[ag3,a]
 .rw[mJ (by rw[aic];omega),mJ (by simp;omega)]
def ajL(n:Nat)(pre:List xLP)(b:xLP):ag3 n (pre++[b])=aiC n (ag3 n pre) b:=by unfold aiC;refine EH fun v a=>?_;rw[aiB (K4.1 a)];simp
def ajM(m:bX ⟨(n:Int),es⟩)(h:∀(j:Nat) b,j<i->(vq n es)[j]?=Z b->ah0 n b):∀r∈ag3 n ((vq n es).take i),r.length<=n:=by
 have hR:=m.GD;obtain⟨c,o⟩:=ahE (cQ n es) _ es rfl;have eb:vq n es=(CY (cQ n es) es).map fun k=>abb n es k:=aaB n es;have e:∀k∈(CY (cQ n es) es).take i,abb n es k∈vq n es/\ah0 n (abb n es k):=fun k e=>by
  obtain⟨j,d⟩:=vZ.1 e;rw[wV]at d;split at d
  .rename_i f;have hb:(vq n es)[j]?=Z (abb n es k):=by rw[eb,MY,d];rfl
   exact⟨BS hb,h j _ f hb⟩
  .cases d
 obtain⟨g,-,-⟩:=aj0 m _ (c.sublist (List.take_sublist i _)) e;intro r l;obtain⟨v,q,rfl⟩:=Eh.1 l;have nd:=g.nd v;have:=tf nd (B:=rG n) fun w hw=>K4.2 (g.lt w v (g.sy v w hw));rw[WZ]at this;refine EP (Nat.le_of_eq ?_) this;rw[eb,<-qL237,List.flatMap_map];generalize (CY (cQ n es) es).take i=L
 induction L with
 |nil=>rfl
 |cons a L p=>rw[Ug,Ug,aaf,aaf,p];simp[acr]
def ah0.planar{b:xLP}(B:ah0 n b)(hR:aV n b):XU n (eN n b):=⟨acr n b,B.Rl,B.flat,fun v w=>by rw[B.mem,vD hR]⟩
def aiE(G:GM)(h':aai)(x:vV):Prop:=
 (¬bX G/\x=.tuple #[.slice Y 0 0,.slice Y 0 0,.int .i64 20])\/
 (bX G/\aak G.n.toNat G.es/\∃b,x=.tuple #[b,.slice Y 0 0,.int .i64 0]/\RL (RL RP) h' b (ag3 G.n.toNat (vq G.n.toNat G.es))/\Av G.n.toNat G.es (ag3 G.n.toNat (vq G.n.toNat G.es))/\Flat G.n.toNat (Xl (ag3 G.n.toNat (vq G.n.toNat G.es))))\/
 (bX G/\¬aak G.n.toNat G.es/\∃a,x=.tuple #[.slice Y 0 0,a,.int .i64 0]/\PR h' a (abv G)/\Ct a (abv G).length)
def ahd(A:LA)(v:vV)(G:GM)(h:aai)(hg:GR h v G):
  AC pG A 14 [v] h fun x h'=>Le h h'/\aiE G h' x:=by
 have o:=hg;obtain⟨K,es⟩:=G
 obtain⟨ev,rfl,hp⟩:=hg.open
 refine AC.vE ⟨func14,rfl,WY⟩ ntmps14 results14 fun M=>?_;simp only[Br,seval];obtain⟨h1,b1,f,ar,-,I⟩:=r8 (n:=K) M hp
 generalize h.next=B at*
 have N:=I h1 (Le.refl _);refine sFa (XC b1 N.1) ?_;refine kCi qS7 (ak A _ ⟨K,es⟩ h1 (o.le f)) ?_;rintro x h2 w2 ⟨⟨bb,rfl,s⟩,l2⟩;cases bb with
 |false=>refine sSs ?_;exact⟨f.trans l2,.inl ⟨(fun q=>by cases s.2 q),rfl⟩⟩
 |true=>
 have d:=s.1 rfl;clear s;have h0:0<=K:=d.n0;obtain⟨n,rfl⟩:=Sb h0;have Q:(n:Int)<=200:=d.n1;refine sFa ((I h2 l2).1) ?_;refine kCi func34 (Cw A _ ⟨(n:Int),es⟩ h2 (o.le (f.trans l2))) ?_;rintro x h3 w3 ⟨l3,⟨u,-⟩|⟨-,bv,rfl,hB⟩⟩
 .exact absurd d u
 have l:=l2.trans l3;simp only[Z6]at hB;have d0:decide ((0:Int)=0)=tT:=by decide
 have mk:abl pG h3 26 (.int .i64 (n:Int)) (.int .i64 (n:Int))=Z (sL (Z h3.next) n n,h3.alloc (.cells (rP n (.slice Y 0 0)))):=Ye (P:=pG) (t:=26) (z:=.slice Y 0 0) h3 akG Ji rfl rfl rfl Ji Mb Ji n NH
 obtain⟨h4,e4,l4,w4,o4⟩:=Tt w3 (rP n (.slice Y 0 0));rw[e4]at mk
 have nL:h3.own h3.next=Y:=(Le.refl h3).next w3 (qL0 _)
 have A3:=I h3 l;have lB:=fun g=>hB.len (P:=pG) zj g;have R0:=Rows.start (b0:=h3) o4 l4 nL
 generalize h3.next=L at*
 have av:=afx n es;have C:=d.len;simp only at C;simp only[HO,seval,bne,d0,Ii,Ip,Gc,A3.2.1,mk,lB];clear e4 mk o4;refine aab.intro (fun k fr J=>∃(i:Nat)(us:xLV),k=(vq n es).length-i/\i<=(vq n es).length/\fr=mkF [(1,pT (Z B)),(7,sL (Z L) n n),(26,bv),(27,.int .i64 (vq n es).length),(28,i)]/\
   us.length=n/\Rows h3 J L us (ag3 n ((vq n es).take i))/\∀(j:Nat) b,j<i->(vq n es)[j]?=Z b->ah0 n b)
  (vq n es).length [(1,pT (Z B)),(7,sL (Z L) n n),(26,bv),(27,.int .i64 (vq n es).length),(28,(0:Nat))] fD
  ⟨0,rP n (.slice Y 0 0),rfl,abe _,rfl,qL232,by rw[agT,certM_nil];exact R0,fun j b D=>absurd D (aeA j)⟩ ?_
 clear R0 l4 w4;clear h4;rintro k fr J ay ⟨i,us,rfl,hi,rfl,S,R,m⟩;refine sSs ?_;refine Kl.intro (fun ht=>?_) (fun hf=>?_)
 rotate_left
 .have T:(vq n es).length<=i:=vp hf;rw[HV T]at R;have E:∀b∈vq n es,ah0 n b:=fun b hb=>by
   obtain⟨j,D⟩:=vZ.1 hb;exact m j b (by have:=(Ny.1 D).1;omega) D
  obtain⟨c1,c2⟩:=cert_ok d E;have w:aak n es:=(acp d).2 fun b hb=>(aem (aaQ d hb)).2 ((E b hb).planar (aaQ d hb).1.GD);refine sSs ?_;exact⟨(f.trans l).trans R.le,.inr (.inl ⟨d,w,_,rfl,R.rl S,c1,c2⟩)⟩
 have a:i<(vq n es).length:=CC ht;clear ht;have U:=CA a;have O:=aaQ d (aev a);have V:(vq n es)[i].Sublist es:=by obtain⟨p,-,e⟩:=aaP.1 (aev a);rw[e];exact ajm _
 have W:=hB.addr (P:=pG) zj eY Ji (k:=.i64) i a;obtain⟨xb,pb,X⟩:=hB.loadS eY rfl i a;have aa:(vq n es).take (i+1)=(vq n es).take i++[(vq n es)[i]]:=EL a;have ae:(vq n es)[i].length<=594:=EP V.length_le C;have ag:=ajM d m;have ai:(vq n es)[i]∈vq n es:=aev a;generalize (vq n es)[i]=b at*;have aw:=aaa i NH;refine sFa (XC W (X J R.le)) ?_;refine kCi func35 (ajK A h3 J L n us _ R (aic _ _) xb b pb O ae NH (fun r aj=>by have:=ag r aj;omega)) ?_;rintro x h5 w5 (⟨rfl,al,l5⟩|⟨rfl,BR,aq,F,R'⟩)
 .have w:¬aak n es:=fun q=>al ((aem O).1 ((acp d).1 q b ai));have y:=R.le.trans l5;refine sFa ((I h5 (l.trans y)).1) ?_;refine kCi func36 (KFind_any A _ ⟨(n:Int),es⟩ h5 (o.le (f.trans (l.trans y)))) ?_;rintro x h6 w6 ⟨l6,⟨u,-⟩|⟨-,lv,rfl,pl,ct⟩⟩
  .exact absurd d u
  refine sSs ?_;exact⟨(f.trans (l.trans y)).trans l6,.inr (.inr ⟨d,w,lv,rfl,pl,ct⟩)⟩
 .rw[<-ajL,<-aa]at R';simp only[HO,seval,aw];exact lgA (stpP a) ⟨i+1,aq,rfl,a,rfl,F,R',fun j c D H=>by
    by_cases e:j=i
    .subst e;rw[U]at H;injection H with H;rw[<-H];exact BR
    .exact m j c NH H⟩
end
section
attribute [local instance] Classical.propDecidable
attribute [local irreducible] Kp MQ lU KO1 KO KN KX KE VK Kl ZJ TC aab
variable {es:List Pr}
def ajH(h:aaz es≠0):bX ⟨200,es⟩:=Hs fun q=>h (yM q)
def akC(G:GM)(rs:AM)(ps:xLP):Prop:=bX G/\((ps=[]/\Av G.n.toNat G.es rs/\z8 G.n.toNat G.es rs)\/(ps≠[]/\rs=[]/\aaz ps≠0/\∀p∈ps,p∈G.es))
def ahY(s:LA)(v z y:vV)(G:GM)(rs:AM)(ps:xLP)(h:aai)(hg:GR h v G)(R:RL (RL RP) h z rs)(hw:PR h y ps):
  AC pG s 19 [v,z,y] h fun x h'=>RR (akC G rs ps) x/\Le h h':=by
 have u:=hg;obtain⟨A,es⟩:=G
 obtain⟨ev,rfl,S⟩:=hg.open
 refine AC.vE ⟨UP,rfl,WY⟩ ntmps19 results19 fun C=>?_;simp only[Br,seval];obtain⟨D,b1,a,aa,-,F⟩:=r8 (n:=A) C S
 generalize h.next=B at*
 have lR:=fun g=>R.qP6 g;have T:=fun g=>hw.len g;refine sFa (XC b1 ((F D (Le.refl _)).1)) ?_;refine kCi qS7 (ak s _ ⟨A,es⟩ D (u.le a)) ?_;rintro x h2 w2 ⟨⟨H,rfl,j⟩,l2⟩;cases H with
 |false=>refine sSs ?_;exact⟨.f (fun q=>by cases j.2 q.1),a.trans l2⟩
 |true=>
 have U:=j.1 rfl;clear j;have b:=a.trans l2;refine sFa T ?_;by_cases r:ps=[]
 .subst r;have d:decide (((([]:xLP).length:Nat):Int)=0)=tT:=by decide
  refine sFa (XC d ((F h2 l2).1)) ?_;refine kCi func24 (akf s _ z ⟨A,es⟩ rs h2 (u.le b) (R.le (Nn.RL Nn.RP) b)) ?_;rintro x h3 w3 ⟨⟨H,rfl,j⟩,l3⟩;refine sSs ?_;refine⟨⟨H,rfl,j.trans ⟨fun q=>⟨q.1,.inl ⟨rfl,q.2⟩⟩,fun q=>⟨q.1,?_⟩⟩⟩,b.trans l3⟩;rcases q.2 with q|q
  .exact q.2
  .exact absurd rfl q.1
 have ae:0<ps.length:=dU.2 r;have d:decide ((ps.length:Int)=0)=fF:=WA NH;refine sFa (XC d lR) ?_;by_cases c1:rs=[]
 rotate_left
 .have:0<rs.length:=dU.2 c1;have d1:decide ((rs.length:Int)>0)=tT:=qL7 NH;refine sFa d1 ?_;refine⟨.f fun q=>?_,b⟩;rcases q.2 with q|q
  .exact r q.1
  .exact c1 q.2.1
 subst c1;have d1:decide (((([]:AM).length:Nat):Int)>0)=fF:=by decide
 refine sFa d1 ?_;refine kCi func25 (akB s y ps h2 (hw.le b)) ?_;rintro x h3 w3 ⟨rfl,l3⟩;by_cases c2:aaz ps=0
 .have d2:decide (aaz ps=0)=tT:=qL7 c2;refine sFa @d2 ?_;refine⟨.f fun q=>?_,b.trans l3⟩;rcases q.2 with q|q
  .exact r q.1
  .exact q.2.2.1 c2
 have d2:decide (aaz ps=0)=fF:=WA c2;have I:=l2.trans l3;have J:=U.len;have K:=(ajH c2).len;simp only at J K;refine sFa (XC @d2 T) ?_;refine lIn (fun k fr o=>∃(i:Nat),k=ps.length-i/\i<=ps.length/\fr=mkF [(3,pT (Z B)),(26,y),(27,.int .i64 ps.length),(28,.int .i64 i)]/\Le D o/\∀p∈ps.take i,p∈es) ⟨0,rfl,abe _,rfl,I,Ma⟩ ?_;rintro k fr o L ⟨i,rfl,hi,rfl,M,l⟩;refine sSs ?_;refine Kl.intro (fun V=>?_) (fun hf=>?_)
 rotate_left
 .have N:ps.length<=i:=vp hf;rw[HV N]at l;refine sSs ?_;exact⟨.t ⟨U,.inr ⟨r,rfl,c2,l⟩⟩,a.trans M⟩
 have e:i<ps.length:=CC V;clear V;have O:=CA e;have w:=aev e;have P:ps.take (i+1)=ps.take i++[ps[i]]:=EL e;generalize ps[i]=p at*;have ad:=hw.addr (k:=.i64) i e;have ld:=(hw.le (a.trans M)).load O;obtain⟨ag,W,e6,s6,l6,w6,o6⟩:=Ut L p;have Q:=uM o6;have aw:=aaa i NH;have m:=M.trans l6
 generalize o.next=E at*
 simp only[HO,seval,ad,ld,e6,s6,Q,Di,Ip,Gc,(F W m).2.2];refine kCi func43 (aiZ s ev es p W (S.le (a.trans m)) NH) ?_;rintro x h7 w7 ⟨rfl,X⟩;by_cases c:p∈es
 .have dc:decide (p∈es)=tT:=qL7 c;simp only[HO,seval,dc,aw];exact lgA (JS e) ⟨i+1,rfl,e,rfl,m.trans X,fun q o=>by
    rw[P,aax,xD]at o;rcases o with o|rfl
    .exact l q o
    .exact c⟩
 .have dc:decide (p∈es)=fF:=WA c;refine sFa dc ?_;refine⟨.f fun q=>?_,a.trans (m.trans X)⟩;rcases q.2 with q|q
  .exact r q.1
  .exact c (q.2.2.2 p w)
end
section
attribute [local irreducible] Kp MQ lU KO1 KO KN KX KE VK Kl ZJ TC aab
attribute [local irreducible] Jz JL vq cQ
variable {es:List Pr} {h':aai} {n:Nat} {rs:AM} {x:Value}
def noR:bX ⟨((0:Nat):Int),[]⟩:=V5 WY WY WY WY
def RN(h:aai):RL (RL RP) h (.slice Y 0 0) []:=(Lj.nil (RL RP) h).rl (Nn.RL Nn.RP)
def aiE.plan(c:aiE ⟨(n:Int),es⟩ h' x)(b:bX ⟨(n:Int),es⟩)(d:aak n es):
  ∃a rs,x=.tuple #[a,.slice Y 0 0,.int .i64 0]/\RL (RL RP) h' a rs/\Av n es rs/\Flat n (Xl rs):=by
 rcases c with⟨q,-⟩|⟨-,-,a,e,h2,h3,f⟩|⟨-,q,-⟩
 .exact absurd b q
 .exact⟨a,_,e,h2,h3,f⟩
 .exact absurd d q
def aiE.twist(c:aiE ⟨(n:Int),es⟩ h' x)(b:bX ⟨(n:Int),es⟩)(d:¬aak n es):
  ∃a,x=.tuple #[.slice Y 0 0,a,.int .i64 0]/\PR h' a (abv ⟨(n:Int),es⟩)/\Ct a (abv ⟨(n:Int),es⟩).length:=by
 rcases c with⟨q,-⟩|⟨-,q,-⟩|⟨-,-,q⟩
 .exact absurd b q
 .exact absurd q d
 .exact q
def aiF(a:bX ⟨(n:Int),es⟩)(G:Av n es rs)(F:Flat n (Xl rs)):akC ⟨(n:Int),es⟩ rs []:=⟨a,.inl ⟨rfl,G,(En a.GD a.q9 G).2 F⟩⟩
def ahU (W0:LA) (h:aai):AC Tryz.prog W0 11 [] h fun x h'=>x=.bool true/\Le h h':=by
 refine AC.vE ⟨qS26,rfl,WY⟩ Tryz.ntmps11 Tryz.results11 fun hwf=>?_;simp only[Br,Nat.reduceAdd];have d0:decide ((0:Int)=0)=true:=by decide
 have d5:decide ((5:Int)=5)=true:=by decide
 have d4:decide ((4:Int)=4)=true:=by decide
 have aw0:aaY .i64 (0+0)=0:=by decide
 have E5:afP 0 5 5=k5L:=by decide
 obtain⟨h1,e1,l1,w1,o1⟩:=Tt hwf (Iu ajl);have m1:=mkP6 h (0,1) (0,2) (1,2) (2,3) (2,4) (3,4);have hk:Iu [(0,1),(0,2),(1,2),(2,3),(2,4),(3,4)]=Iu ajl:=rfl;rw[hk,e1]at m1
 have p1:PR h1 (.slice (some ⟨h.next,0,none⟩) 6 6) ajl:=PR.made o1 rfl
 obtain⟨h2,h3,a2,s2,l3,w3,lG⟩:=newG (n:=5) w1 p1;have bg:=Wj (n:=5) p1.sl;obtain⟨h4,h5,a4,s4,l5,w5,nX,G0⟩:=GX.new w3 5;simp only[HO,Nat.reduceLT,↓reduceIte,Nat.reduceEqDiff,reduceCtorEq,xe,m1,bg,a2,s2,ait,a4,s4]
 generalize h.next=R1 at*
 generalize h1.next=T at*
 generalize h3.next=X at*
 have p3:=p1.le l3;have l03:=l1.trans l3;clear p1 m1 e1 o1 a2 s2 a4 s4 bg hk w1;refine aab.intro (fun k fr hq=>∃(i:Nat) (v:Value),k=5-i/\i<=5/\fr=mkF [(1,.pointer (some ⟨T,0,none⟩)),(2,.pointer (some ⟨X,0,none⟩)),(23,.int .i64 (i:Nat))]/\GX hq X 5 v (afP 0 5 i)/\Le h3 hq/\Z2 h3 v)
  5 [(1,.pointer (some ⟨T,0,none⟩)),(2,.pointer (some ⟨X,0,none⟩)),(23,.int .i64 (0:Nat))] fD ⟨0,_,rfl,abe _,rfl,G0,l5,fun b hb=>by simp[blk]at hb⟩ ?_
 clear G0 l5 w5;rintro k fr hq hwq ⟨i,v,rfl,hi,rfl,G,lq,ap⟩;have hb1:=ad5 0 5 i;by_cases c:i<5
 .have dc:decide ((i:Int)<5)=true:=qL7 NH;have tc:((i:Int)<5)=True:=eq_true NH;have aw:=aaa i NH;simp only[HO,Nat.reduceLT,↓reduceIte,Nat.reduceEqDiff,reduceCtorEq,dc,tc,aw];refine aab.intro (fun k fr hz=>∃(j:Nat) (v:Value),k=5-j/\i+1<=j/\j<=5/\fr=mkF [(1,.pointer (some ⟨T,0,none⟩)),(2,.pointer (some ⟨X,0,none⟩)),(3,.int .i64 (i:Nat)),(4,.int .i64 (j:Nat)),(23,.int .i64 (i:Nat))]/\GX hz X 5 v (afP 0 5 i++acJ i j)/\Le h3 hz/\Z2 h3 v)
   (5-(i+1)) [(1,.pointer (some ⟨T,0,none⟩)),(2,.pointer (some ⟨X,0,none⟩)),(3,.int .i64 (i:Nat)),(4,.int .i64 (i+1:Nat)),(23,.int .i64 (i:Nat))] fD ⟨i+1,v,rfl,qL0 _,NH,rfl,by simpa[acJ]using G,lq,ap⟩ ?_
  clear G lq ap hwq;clear hq v;rintro k fr hz hwz ⟨j,v,rfl,hj,hj5,rfl,G,lq,ap⟩;by_cases c2:j<5
  rotate_left
  .have dc:decide (((j:Nat):Int)<5)=false:=WA NH;have tc:(((j:Nat):Int)<5)=False:=eq_false NH;obtain rfl:j=5:=NH;simp only[HO,Nat.reduceLT,↓reduceIte,Nat.reduceEqDiff,reduceCtorEq,dc,tc,aw];exact tn (5-(i+1)) [(1,.pointer (some ⟨T,0,none⟩)),(2,.pointer (some ⟨X,0,none⟩)),(23,.int .i64 (i+1:Nat))] NH fD ⟨i+1,v,rfl,NH,rfl,by rw[afP,Gc];exact G,lq,ap⟩
  have dc:decide (((j:Nat):Int)<5)=true:=qL7 NH;have tc:(((j:Nat):Int)<5)=True:=eq_true NH;have awj:=aaa j NH;have hb2:=ad4 i j;obtain⟨v',g4,g5,g6,q4,q5,q6,G7,w7,l7,f7,-⟩:=G.push' hwz ((i:Int),(j:Int)) (by rw[aaf];omega);obtain⟨l7',a7⟩:=f7 h3 lq nX ap;rw[bC,<-afy hj]at G7;have bld:=xe (i:Int) (j:Int);simp only[HO,Nat.reduceLT,↓reduceIte,Nat.reduceEqDiff,reduceCtorEq,dc,tc,Di,Ip,Gc,G.ld.2.2,bld,q4,q5,q6,awj];exact tn (5-(j+1)) [(1,.pointer (some ⟨T,0,none⟩)),(2,.pointer (some ⟨X,0,none⟩)),(3,.int .i64 (i:Nat)),(4,.int .i64 (j+1:Nat)),(23,.int .i64 (i:Nat))] NH fD ⟨j+1,v',rfl,NH,NH,rfl,G7,l7',a7⟩
 obtain rfl:i=5:=NH;have dc:decide (((5:Nat):Int)<5)=false:=by decide
 have tc:(((5:Nat):Int)<5)=False:=eq_false NH;rw[E5]at G;clear hb1 c hi ap nX;simp only[HO,Nat.reduceLT,↓reduceIte,Nat.reduceEqDiff,reduceCtorEq,dc,tc,(lG hq lq).1];refine TC.intro PJ ⟨Tryz.func14,rfl,WY⟩ (ahd W0 _ ⟨((5:Nat):Int),ajl⟩ hq ⟨_,rfl,p3.le lq⟩) ?_;rintro x h7 w7 ⟨l7,C⟩;obtain⟨rv,rs,rfl,hrv,RG,FL⟩:=C.plan bowR (acG bowR WY);clear C;simp only[HO,Nat.reduceLT,↓reduceIte,Nat.reduceEqDiff,reduceCtorEq,(G.le l7).ld.1];refine TC.intro PJ ⟨Tryz.func14,rfl,WY⟩ (ahd W0 _ ⟨((5:Nat):Int),k5L⟩ h7 ⟨v,rfl,(G.le l7).gp.pr⟩) ?_;rintro x h8 w8 ⟨l8,C⟩;obtain⟨wv,rfl,hw,-⟩:=C.twist k5R k5_np;clear C;rw[fnd_k5]at hw;simp only[HO,Nat.reduceLT,↓reduceIte,Nat.reduceEqDiff,reduceCtorEq,aew,agO];refine TC.intro PJ ⟨Tryz.func14,rfl,WY⟩ (ahd W0 _ ⟨((0:Nat):Int),[]⟩ h8 ⟨_,rfl,PR.nil _⟩) ?_;rintro x h9 w9 ⟨l9,C⟩;obtain⟨tv,ts,rfl,htv,TG,TF⟩:=C.plan noR (acG noR WY);clear C;have l79:=l8.trans l9;have hrv9:=hrv.le (Nn.RL Nn.RP) l79;have lr:=fun g=>hrv.qP6 g;have lt:=fun g=>htv.qP6 g;have lnR:=fun g=>(RN g).qP6 g;have lnP:=fun g=>(PR.nil g).len g;rw[RG.len]at lr;rw[TG.len]at lt;have h2l:2<rs.length:=by rw[RG.len];decide
 have ad:=hrv.qP7 2 h2l;obtain⟨u,lu',hu⟩:=hrv.NS 2 h2l;have lu:=fun g l=>lu' g l;have hul:(rs[2]'h2l).length=4:=by
  have:=(RG.perm 2 WY).length_eq;rw[j9,XJ h2l]at this;exact this.trans WY
 have llu:=fun g=>hu.DH g;rw[hul]at llu;have d55:decide (((5:Nat):Int)=5)=true:=by decide
 have d44:decide (((4:Nat):Int)=4)=true:=by decide
 have dn0:decide (((([]:List Pr).length:Nat):Int)=0)=true:=by decide
 have dn1:decide (((([]:AM).length:Nat):Int)=0)=true:=by decide
 simp only[Dl]at ad;have l39:=lq.trans (l7.trans l79);have G9:=G.le (l7.trans l79);simp only[HO,Nat.reduceLT,↓reduceIte,Nat.reduceEqDiff,reduceCtorEq,aw0,d0,lr,d55,ad,lu h9 l79,llu,d44,lnP,dn0,(lG h9 l39).1];refine TC.intro PJ ⟨UP,rfl,WY⟩ (ahY W0 _ rv (.slice none 0 0) ⟨((5:Nat):Int),ajl⟩ rs [] h9 ⟨_,rfl,p3.le l39⟩ hrv9 (PR.nil _)) ?_;rintro x h10 w10 ⟨⟨bb,rfl,hbb⟩,l10⟩;obtain rfl:bb=true:=hbb.2 (aiF bowR RG FL);clear hbb;have G10:=G9.le l10;have hw10:=hw.le (l9.trans l10);simp only[HO,Nat.reduceLT,↓reduceIte,Nat.reduceEqDiff,reduceCtorEq,lnR,dn1,Di,Ip,Gc,G10.ld.2.2];refine TC.intro PJ ⟨Tryz.func17,rfl,WY⟩ (abn W0 wv v k5L k5L h10 hw10 G10.gp.pr WY) ?_;rintro x h11 w11 ⟨rfl,rfl⟩;have sp:decide (k5L=k5L)=true:=qL7 rfl;simp only[HO,Nat.reduceLT,↓reduceIte,Nat.reduceEqDiff,reduceCtorEq,sp,G10.ld.1];refine TC.intro PJ ⟨UP,rfl,WY⟩ (ahY W0 _ (.slice none 0 0) wv ⟨((5:Nat):Int),k5L⟩ [] k5L h11 ⟨v,rfl,G10.gp.pr⟩ (RN _) hw10) ?_;rintro x h12 w12 ⟨⟨bb,rfl,hbb⟩,l12⟩;obtain rfl:bb=true:=hbb.2 ⟨k5R,.inr ⟨WY,rfl,by rw[kind_k5];decide,fun p hp=>hp⟩⟩;clear hbb;have aw00:aaY .i64 (((0:Nat):Int)+((([]:List Pr).length:Nat):Int))=0:=by decide
 simp only[HO,Nat.reduceLT,↓reduceIte,Nat.reduceEqDiff,reduceCtorEq,lt,lnP,aw00,d0,aew,agO];refine TC.intro PJ ⟨UP,rfl,WY⟩ (ahY W0 _ tv (.slice none 0 0) ⟨((0:Nat):Int),[]⟩ ts [] h12 ⟨_,rfl,PR.nil _⟩ (htv.le (Nn.RL Nn.RP) (l10.trans l12)) (PR.nil _)) ?_;rintro x h13 w13 ⟨⟨bb,rfl,hbb⟩,l13⟩;obtain rfl:bb=true:=hbb.2 (aiF noR TG TF);clear hbb;have l913:=l10.trans (l12.trans l13);have l313:=l39.trans l913;simp only[HO,Nat.reduceLT,↓reduceIte,Nat.reduceEqDiff,reduceCtorEq,Di,Ip,Gc,(lG h13 l313).1,(lG h13 l313).2.2];refine TC.intro PJ ⟨UP,rfl,WY⟩ (ahY W0 _ rv _ ⟨((5:Nat):Int),ajl⟩ rs ajl h13 ⟨_,rfl,p3.le l313⟩ (hrv9.le (Nn.RL Nn.RP) l913) (p3.le l313)) ?_;rintro x h14 w14 ⟨⟨bb,rfl,hbb⟩,l14⟩;obtain rfl:bb=false:=by
  cases bb with
  |false=>rfl
  |true=>
   rcases(hbb.1 rfl).2 with q|q
   .exact absurd q.1 WY
   .have:=RG.len;rw[q.2.1]at this;cases this
 refine sSs ?_;exact⟨trivial,(l03.trans l313).trans l14⟩
end
section
attribute [local instance] Classical.propDecidable
attribute [local irreducible] Kp MQ lU KO1 KO KN KX KE VK Kl ZJ TC aab
def ajp(l:LA)(v:vV)(G:GM)(h:aai)(hg:GR h v G):AC pG l 21 [v] h fun x h'=>RR (bX G/\G.n<=20/\G.es.length<=50) x/\Le h h':=by
 have i:=hg;obtain⟨e,es⟩:=G
 obtain⟨ev,rfl,m⟩:=hg.open
 refine AC.vE ⟨func21,rfl,WY⟩ ntmps21 results21 fun j=>?_;simp only[Br,seval];obtain⟨o,r,a,s,-,p⟩:=r8 (n:=e) j m
 generalize h.next=B at*
 have k:=p o (Le.refl _);have t:=fun g=>m.len g;refine sFa (XC r k.1) ?_;refine kCi qS7 (ak l _ _ o (i.le a)) ?_;rintro x h2 w2 ⟨⟨u,rfl,d⟩,l2⟩;have b:=p h2 l2;cases u with
 |false=>refine sSs ?_;exact⟨RR.f (fun q=>by cases d.2 q.1),a.trans l2⟩
 |true=>
 have w:=d.1 rfl;by_cases c:e<=20
 rotate_left
 .have dc:decide (e<=20)=fF:=WA c;refine sFa (afK @Ii @Ip.eq_1 @Gc b.2.1 dc) ?_;exact⟨RR.f (fun q=>c q.2.1),a.trans l2⟩
 have dc:decide (e<=20)=tT:=qL7 c;refine sFa (ahg @Ii @Di @Ip.eq_1 @Gc b.2.1 b.2.2 t dc) ?_;refine⟨⟨_,rfl,?_⟩,a.trans l2⟩;rw[uV];exact⟨fun q=>⟨w,c,NH⟩,fun q=>by have:=q.2.2;omega⟩
section
variable{n:Nat}{es:List Pr}{rs:AM}
end
end
section
attribute [local irreducible] Kp MQ lU KO1 KO KN KX KE VK Kl ZJ TC aab
attribute [local irreducible] Jz JL vq cQ aaN
def akL(L:LA)(v bv:vV)(G:GM)(bs:List Bool)(h:aai)(hg:GR h v G)(hb:RL sJ h bv bs)(M:G.es.length<=1000):
  AC pG L 23 [v,bv] h fun x h'=>GP h' x (afD G.es bs)/\Le h h'/\Z2 h x:=by
 have N:=hg;obtain⟨O,es⟩:=G
 obtain⟨ev,rfl,m⟩:=hg.open
 simp only at M;refine AC.vE ⟨func23,rfl,WY⟩ ntmps23 results23 fun q=>?_;simp only[Br,seval];obtain⟨H,Q,r,R,-,S⟩:=r8 (n:=O) q m
 generalize h.next=B at*
 have s:=S H (Le.refl _);have T:=fun g=>m.len g;have lB:=fun g=>hb.len (P:=pG) Uh g;refine sFa (afN Q @Di @Ip.eq_1 @Gc s.2.2 T) ?_;refine lIn (fun k fr t=>∃(i:Nat)(j:vV),k=es.length-i/\i<=es.length/\fr=mkF [(1,bv),(5,j),(9,ev),(10,es.length),(11,i)]/\GP t j (afD (es.take i) bs)/\Le h t/\Z2 h j) ⟨0,_,rfl,abe _,rfl,by simpa[afD]using GP.nil H,r,fun b hb=>by simp[blk]at hb⟩ ?_;rintro k fr t u ⟨i,j,rfl,hi,rfl,g,w,ap⟩;refine sSs ?_;refine Kl.intro (fun I=>?_) (fun hf=>?_)
 rotate_left
 .have y:es.length<=i:=vp hf;rw[HV y]at g;refine sSs ?_;exact⟨g,w,ap⟩
 have a:i<es.length:=CC I;clear I;have z:=CA a;have d:=akm es bs i a;have A:(afD (es.take i) bs).length+1<=100000:=by have:=(aj2 (es.take i) bs).length_le;rw[KG]at this;omega
 generalize es[i]=p at*;have ad:=m.addr (k:=.i64) i a;have ld:=(m.le w).load z;obtain⟨U,V,C,D,l6,W,o6⟩:=Ut u p;have aw:=aaa i NH;have f:=w.trans l6;have l:=g.le l6;have E:=uM o6;by_cases c:i<bs.length
 rotate_left
 .have o:((i:Int)<(bs.length:Int))=False:=eq_false NH;have dc:decide ((i:Int)<(bs.length:Int))=fF:=WA NH;have e:bs.getD i fF=fF:=by rw[j9,mJ NH];rfl
  rw[e,yM Ma,ai4]at d;rw[<-d]at l;simp only[HO,seval,ad,ld,C,D,lB,o,dc,aw];exact lgA (JS a) ⟨i+1,j,rfl,a,rfl,l,f,ap⟩
 have o:((i:Int)<(bs.length:Int))=True:=eq_true NH;have dc:decide ((i:Int)<(bs.length:Int))=tT:=qL7 NH;have J:aao pG 41 bv i=Z (pT (Z (aaq bv i))):=hb.LB i c;have ol:aaC pG V 4 (aaq bv i)=Z (.bool (bs.getD i fF)):=by rw[(hb.le Nn.sJ f).W7 i c,D4 c]
 cases e:bs.getD i fF with
 |false=>rw[e]at ol;rw[e,yM Ma,ai4]at d;rw[<-d]at l;simp only[HO,seval,ad,ld,C,D,lB,o,dc,J,ol,aw];exact lgA (JS a) ⟨i+1,j,rfl,a,rfl,l,f,ap⟩
 |true=>rw[e]at ol;rw[e,IE rfl]at d;obtain⟨v',h7,h8,X,e8,K,w8,l7,F,-⟩:=l.push W p A;obtain⟨l8,a8⟩:=F h f ap;rw[<-d]at K;simp only[HO,seval,ad,ld,C,D,lB,o,dc,J,ol,E,X,e8,aw];exact lgA (JS a) ⟨i+1,v',rfl,a,rfl,K,l8,a8⟩
end
end Go.Fw
