/- A text. -/
import Derived.Test.YtnakkbhjoiheoaaGreatFwLU1
set_option linter.all false
set_option maxRecDepth 99999
set_option maxHeartbeats 9999999
open Go.Proofs
open Option renaming some→Z,none→Y
open Bool renaming true→tT,false→fF
open List renaming replicate→rP,range→rG
open Go.Value renaming slice→sL,pointer→pT
open Go renaming Value→vV
open Go.Proofs.Tryz renaming prog→pG
open Go.Proofs.Tryz
open List
namespace Go.Fw
section
attribute [local irreducible] Kp MQ lU KO1 KO KN KX KE VK Kl ZJ TC aab
attribute [local irreducible] Jz JL vq cQ
structure ag5 (b0 h:aai) (L:Nat) (us0 us:xLV) (rows:AM):Prop where
 oL:h.own L=Z (.cells us0)
 len0:us0.length=rows.length
 len:us.length=rows.length
 gs:∀(v:Nat) u r,us[v]?=Z u->rows[v]?=Z r->GS 1 h u r.length (Bp r)
 nL:∀(v:Nat) u,us[v]?=Z u->blk u≠Z L
 TE:∀(v w:Nat) u u' b,v≠w->us[v]?=Z u->us[w]?=Z u'->blk u=Z b->blk u'≠Z b
 ap:∀(v:Nat) u,us[v]?=Z u->Z2 b0 u
 le:Le b0 h
 bL:b0.own L=Y
section
variable{b0 h h':aai}{L:Nat}{us0 us:List vV}{rows:AM}
def Rows.w(R:Rows b0 h L us rows):ag5 b0 h L us us rows:=⟨R.oL,R.len,R.len,R.gs,R.nL,R.TE,R.ap,R.le,R.bL⟩
def ag5.r(R:ag5 b0 h L us us rows):Rows b0 h L us rows:=⟨R.oL,R.len,R.gs,R.nL,R.TE,R.ap,R.le,R.bL⟩
theorem ag5.up(R:ag5 b0 h L us0 us rows)(e:Le h h'):ag5 b0 h' L us0 us rows:=⟨e.own _ _ R.oL,R.len0,R.len,fun v u r a b=>(R.gs v u r a b).le e,R.nL,R.TE,R.ap,R.le.trans e,R.bL⟩
def ag5.fresh(R:ag5 b0 h L us0 us rows){id:Nat}(a:h.own id=Y):id≠L/\∀(v:Nat) u,us[v]?=Z u->blk u≠Z id:=by refine⟨(fun e=>by rw[e,R.oL]at a;cases a),fun v u b hb=>?_⟩;obtain⟨q,c⟩:∃q,rows[v]?=Z q:=⟨_,CA (by have:=R.len;have:=(Ny.1 b).1;omega)⟩;exact(R.gs v u q b c).Sy hb a
def ag5.app(R:ag5 b0 h L us0 us rows)(f:WF h){w:Nat}{r:RZ}(C:rows[w]?=Z r){id:Nat}{x:Int}(G:h.own id=Z (.cells [x]))(I:r.length<=100000):
  ∃u u' l,us[w]?=Z u/\aaR pG h 28 28 u (sL (Z id) 1 1)=Z (u',l)/\ag5 b0 l L us0 (us.set w u') (rows.set w (r++[x]))/\WF l/\Le b0 l/\xO u' (r.length+1)/\
   (∀b o,h.own b=Z o->(∀(v:Nat) a,us[v]?=Z a->blk a≠Z b)->l.own b=Z o/\∀(v:Nat) a,(us.set w u')[v]?=Z a->blk a≠Z b):=by
 have i:w<us.length:=by have:=R.len;have:=(Ny.1 C).1;omega
 have k:=CA i;generalize us[w]=u at k;have g:=R.gs w u r k C;have⟨u',l,D,E,hf⟩:=g.push (P:=pG) (t:=28) Ji G (yG _) rfl NH;have y:WF l:=xr f D;have⟨A,B⟩:=aG hf f R.oL (R.nL w u k);have⟨l5,H⟩:=hf b0 f R.le (R.ap w u k);refine⟨u,u',l,k,D,⟨A,by simpa using R.len0,by simpa using R.len,fun v a q ha d=>?_,fun v a ha=>?_,fun v v' a a' b n ha mi hb=>?_,fun v a ha=>?_,l5,R.bL⟩,y,l5,E.cs.sl,fun b o hb p=>?_⟩
 .rw[j3]at ha d;by_cases e:w=v
  .subst e;rw[WA rfl,WA i]at ha;rw[WA rfl,WA (by have:=R.len;omega)]at d;injection ha with ha;injection d with d;subst ha;subst d;rw[ZT];have:Bp (r++[x])=Bp r++[.int .i64 x]:=by simp[Bp]
   rw[this];exact E
  .rw[Z6 e]at ha d;refine(R.gs v a q ha d).kept fun b o hb j=>(aG hf f j fun s=>R.TE w v u a b e k ha s hb).1
 .rw[j3]at ha;by_cases e:w=v
  .subst e;rw[WA rfl,WA i]at ha;injection ha with ha;subst ha;exact B
  .rw[Z6 e]at ha;exact R.nL v a ha
 .rw[j3]at ha mi;have m:∀(z:Nat) c,us[z]?=Z c->∀b,blk c=Z b->∃o,h.own b=Z o:=fun z c F b hb=>by
   obtain⟨q,d⟩:∃q,rows[z]?=Z q:=⟨_,CA (by have:=R.len;have:=(Ny.1 F).1;omega)⟩;exact VU.1 ((R.gs z c q F d).Sy hb)
  by_cases e:w=v
  .subst e;rw[WA rfl,WA i]at ha;injection ha with ha;subst ha;rw[Z6 n]at mi;intro sZ;have⟨o,j⟩:=m v' a' mi b sZ;exact(aG hf f j fun s=>R.TE w v' u a' b n k mi s sZ).2 hb
  .rw[Z6 e]at ha;by_cases e':w=v'
   .subst e';rw[WA rfl,WA i]at mi;injection mi with mi;subst mi;have⟨o,j⟩:=m v a ha b hb;exact(aG hf f j fun s=>R.TE w v u a b e k ha s hb).2
   .rw[Z6 e']at mi;exact R.TE v v' a a' b n ha mi hb
 .rw[j3]at ha;by_cases e:w=v
  .subst e;rw[WA rfl,WA i]at ha;injection ha with ha;subst ha;exact H
  .rw[Z6 e]at ha;exact R.ap v a ha
 .obtain⟨k1,k2⟩:=aG hf f hb (p w u k);refine⟨k1,fun v a ha=>?_⟩;rw[j3]at ha;by_cases e:w=v
  .subst e;rw[WA rfl,WA i]at ha;injection ha with ha;subst ha;exact k2
  .rw[Z6 e]at ha;exact p v a ha
def ag5.st(R:ag5 b0 h L us0 us rows)(a:WF h){w k:Nat}{u':vV}(hw:w<rows.length)(hs:xO u' k):aaK pG h 28 (pT (Z ⟨L,w,Y⟩)) u'=Z (h.put L (.cells (us0.set w u')))/\ag5 b0 (h.put L (.cells (us0.set w u'))) L (us0.set w u') us rows/\WF (h.put L (.cells (us0.set w u'))):=by have st:=QB (P:=pG) (t:=28) (x:=u') Mb Ji R.oL (off:=w) (by rw[R.len0];exact hw) (by obtain⟨_,_,rfl,_⟩:=hs;rfl) hs.one;refine⟨st,⟨aai.aaF _ _ _,by simpa using R.len0,R.len,fun v u r b c=>GS.put (R.gs v u r b c) _ (R.nL v u b),R.nL,R.TE,R.ap,R.le.put _ R.bL,R.bL⟩,a.put _ (a.lt R.oL)⟩
end
def Rows.ix{n:Nat}(L:Nat)(k:IntKind)(j:Nat)(a:j<n):aao pG 26 (sL (Z L) n n) (.int k j)=Z (pT (Z ⟨L,j,Y⟩)):=by rw[Wc qS24 Mb Ji j a];simp[Ip]
theorem Rows.base{b0 a h:aai}{L:Nat}{us:xLV}{rows:AM}(R:Rows a h L us rows)(e:Le b0 a):Rows b0 h L us rows:=
 have key:∀b,a.own b=Y->b0.own b=Y:=fun b hb=>by
  cases c:b0.own b with
  |none=>rfl
  |some o=>rw[e.own _ _ c]at hb;cases hb
 ⟨R.oL,R.len,R.gs,R.nL,R.TE,fun v u d b hb=>key b (R.ap v u d b hb),e.trans R.le,key L R.bL⟩
noncomputable def aiC(n:Nat)(rows:AM)(b:xLP):AM:=(rG n).map fun v=>rows.getD v []++ag2 n b v
def addR_len(n:Nat)(rows:AM)(b:xLP):(aiC n rows b).length=n:=by simp[aiC]
def ag5.rest{b0 g:aai}{L x y idx:Nat}{us:xLV}{rows:AM}{rx ry:RZ}{c:vV}{a:Int}{z:Int}(p:ag5 b0 g L us (us.set x c) (rows.set x (rx++[z])))(q:WF g)(ne:x≠y)(E:x<rows.length)(l:rows[y]?=Z ry)(s:ry.length<=100000)(ox:g.own idx=Z (.cells [a]))(f:xO c (rx.length+1)):
  ∃e b d m i,us[y]?=Z e/\aaR pG g 28 28 e (sL (Z idx) 1 1)=Z (b,d)/\aaK pG d 28 (pT (Z ⟨L,x,Y⟩)) c=Z m/\aaK pG m 28 (pT (Z ⟨L,y,Y⟩)) b=Z i/\
   d.own L=Z (.cells us)/\Rows b0 i L ((us.set x c).set y b) ((rows.set x (rx++[z])).set y (ry++[a]))/\WF i:=by
 have j:(rows.set x (rx++[z]))[y]?=Z ry:=by rw[j3,Z6 ne];exact l
 obtain⟨e,b,d,n,t,o,w1,-,k,-⟩:=p.app q j ox s;have u:((rows.set x (rx++[z])).set y (ry++[a])).length=rows.length:=by simp
 have v:=(Ny.1 l).1;have⟨s2,A,w2⟩:=o.st w1 (w:=x) NH f;have⟨B,C,D⟩:=A.st w2 (w:=y) NH k;rw[j3,Z6 ne]at n;exact⟨e,b,d,_,_,n,t,s2,B,o.oL,C.r,D⟩
def ajI(W0:LA)(b0 h:aai)(L n:Nat)(us:xLV)(rows:AM)(R:Rows b0 h L us rows)(av:rows.length=n)(bv:vV)(x y:Nat)(hp:PR b0 bv [((x:Int),(y:Int))])(hx:x<n)(hy:y<n)(ne:x≠y)(o:∀r∈rows,r.length<=1000):
  AC pG W0 35 [sL (Z L) n n,bv] h fun v h'=>v=.bool tT/\∃f,f.length=n/\Rows b0 h' L f ((rows.set x (rows.getD x []++[(y:Int)])).set y (rows.getD y []++[(x:Int)])):=by
 have D:=hp.le R.le;have lb:=fun g=>hp.len g;refine AC.vF func35 ntmps35 results35 fun q=>?_;have d1:decide ((([((x:Int),(y:Int))]:xLP).length:Int)=1)=tT:=rfl;have ad:=hp.addr (k:=.i64) 0 Ma;have L0:=D.l0 (i:=0) (p:=((x:Int),(y:Int))) rfl;have L1:=D.l1 (i:=0) (p:=((x:Int),(y:Int))) rfl;simp only[Int.ofNat_zero,akN]at ad;refine Sk (XC lb d1) ?_;refine gh (fRn 0 10 .done) ?_;simp only[HO,seval,Qg,ad,Dh,Z0,L0,L1];have gx:rows[x]?=Z (rows.getD x []):=by rw[N8,Gc NH];rfl
 have gy:rows[y]?=Z (rows.getD y []):=by rw[N8,Gc NH];rfl
 have qx:(rows.getD x []).length<=100000:=by have:=o _ (XJ gx);omega
 have qy:(rows.getD y []).length<=100000:=by have:=o _ (XJ gy);omega
 generalize rows.getD x []=rx at*;generalize rows.getD y []=ry at*;have E:=R.w;have ay:=Rows.ix (n:=n) L .i64 x hx;have az:=Rows.ix (n:=n) L .i64 y hy;have c:∀(g:aai),g.own L=Z (.cells us)->∀(v:Nat)(u:vV),us[v]?=Z u->aaC pG g 28 ⟨L,v,Y⟩=Z u:=fun g ho v u hu=>by rw[Fq Mb rfl ho];exact hu
 have aC:∃d e,us[x]?=Z d/\us[y]?=Z e:=⟨_,_,CA (by have:=R.len;omega),CA (by have:=R.len;omega)⟩;have⟨d,e,a,b⟩:=aC;have⟨a1,aD,j,s,G⟩:=Tt q [.int .i64 (y:Int)];have H:=DQ h (y:Int);rw[aD]at H;obtain⟨l,ua,a2,q1,aF,t,aH,-,aJ,-⟩:=(E.up j).app s gx G qx;obtain rfl:d=l:=by rw[a]at q1;injection q1
 have⟨a3,aK,I,aL,aN⟩:=Tt aH [.int .i64 (x:Int)];have J:=DQ a2 (x:Int);rw[aK]at J;obtain⟨m,cd,a4,a5,a6,q2,K,aP,aT,aW,RA,-⟩:=(t.up I).rest aL ne NH gy qy aN aJ;obtain rfl:e=m:=by rw[b]at q2;injection q2
 have M:=c a1 (j.own _ _ R.oL);have N:=c a2 t.oL;have O:=c a3 (I.own _ _ t.oL);have P:=c a4 aW;have⟨b2,aX,z,a7,a8⟩:=Tt s [.int .i64 (x:Int)];have Q:=DQ a1 (x:Int);rw[aX]at Q
 have bb:a1.own a1.next=Y:=(Le.refl a1).next s (qL0 _)
 obtain⟨l,ub,b3,q3,bg,S,bh,-,bk,kb⟩:=((E.up j).up z).app a7 gx (z.own _ _ G) qx;obtain rfl:d=l:=by rw[a]at q3;injection q3
 obtain⟨bm,-⟩:=kb _ _ a8 ((E.up j).fresh bb).2;obtain⟨m,cf,b4,b5,b6,q4,T,bo,br,bx,RB,-⟩:=S.rest bh ne NH gy qy bm bk;obtain rfl:e=m:=by rw[b]at q4;injection q4
 have LB2:=c b2 (z.own _ _ (j.own _ _ R.oL));have U:=c b3 S.oL;have V:=c b4 bx;have⟨c1,bB,A,bF,bH⟩:=Tt q [.int .i64 (x:Int)];have W:=DQ h (x:Int);rw[bB]at W;have⟨c2,bI,B,bN,bQ⟩:=Tt bF [.int .i64 (y:Int)];have X:=DQ c1 (y:Int);rw[bI]at X
 have bW:h.own h.next=Y:=(Le.refl h).next q (qL0 _)
 obtain⟨l,uc,c3,q5,ecc,aa,bY,-,bZ,kc⟩:=((E.up A).up B).app bN gx bQ qx;obtain rfl:d=l:=by rw[a]at q5;injection q5
 obtain⟨b1,-⟩:=kc _ _ (B.own _ _ bH) (E.fresh bW).2;obtain⟨m,cg,c4,c5,c6,q6,ae,b8,b9,cc,RC,-⟩:=aa.rest bY ne NH gy qy b1 bZ;obtain rfl:e=m:=by rw[b]at q6;injection q6
 have ai:=c c1 (A.own _ _ R.oL);have aj:=c c2 (B.own _ _ (A.own _ _ R.oL));have aq:=c c3 aa.oL;have ar:=c c4 cc;have LH:=c h R.oL;have C:us.length=n:=by rw[R.len];exact av
 apply Ya (F:=fun(fr:aam)(h5:aai)=>∃f,f.length=n/\Rows b0 h5 L f ((rows.set x (rx++[(y:Int)])).set y (ry++[(x:Int)])))
 .intro cont;refine gh (fRn 0 9 (tA [11,12,13,14,15] (.ch 9 [8] (.ch 10 [7,9] (JQ 16 [15] (JQ 17 [10,14,16] (tA [18] (JQ 19 [0,1,4,5,6,7,8,9,10,14,17,18] (tA [20] (JQ 21 [0,1,2,3,4,5,6,7,8,9,10,11,12,13,14,15,16,17,18,19,20] .done)))))) (JQ 16 [15] (JQ 10 [7,9] (JQ 17 [10,14,16] (tA [18] (JQ 19 [0,1,4,5,6,7,8,9,10,14,17,18] (tA [20] (JQ 21 [0,1,2,3,4,5,6,7,8,9,10,11,12,13,14,15,16,17,18,19,20] .done)))))))) (JQ 16 [15] (JQ 9 [8] (JQ 10 [7,9] (JQ 17 [10,14,16] (tA [18] (JQ 19 [0,1,4,5,6,7,8,9,10,14,17,18] (tA [20] (JQ 21 [0,1,2,3,4,5,6,7,8,9,10,11,12,13,14,15,16,17,18,19,20] .done))))))))))) ?_;simp only[kJJ,seval,Qg,ay,az,LH x d a,LH y e b,M x d a,M y e b,N x d a,N y e b,O x d a,O y e b,P x d a,P y e b,LB2 x d a,LB2 y e b,U x d a,U y e b,V x d a,V y e b,ai x d a,ai y e b,aj x d a,aj y e b,aq x d a,aq y e b,ar x d a,ar y e b,H,aF,J,K,aP,aT,Q,bg,T,bo,br,W,X,ecc,ae,b8,b9];refine⟨⟨?_,?_⟩,?_⟩
  .refine KN.UJ fun fr' h' x y=>cont fr' h' ?_;subst x y;exact⟨_,by simp[C],RA⟩
  .refine KN.UJ fun fr' h' x y=>cont fr' h' ?_;subst x y;exact⟨_,by simp[C],RB⟩
  .refine KN.UJ fun fr' h' x y=>cont fr' h' ?_;subst x y;exact⟨_,by simp[C],RC⟩
 rintro fr h5 ⟨f,hl,R'⟩;refine Uy ?_;exact⟨trivial,f,hl,R'⟩
noncomputable def aiD(n:Nat)(b:xLP)(j:Int):Int:=(((aag n b).getD j.toNat 0:Nat):Int)
noncomputable def stR(n:Nat)(rows:AM)(b:xLP)(rs:AM)(i k:Nat):AM:=(rG n).map fun v=>rows.getD v []++(if v∈aag n b then(if abD n b (v:Int)<i then rs.getD (abD n b (v:Int)) []else if abD n b (v:Int)=i then(rs.getD i []).take k else[])else[]).map (aiD n b)
section
variable{n:Nat}{rows:AM}{b:List Pr}{rs:AM}{i k:Nat}
def ahF:(stR n rows b rs i k).length=n:=by simp[stR]
def ahZ{v:Nat}(a:v<n):(stR n rows b rs i k)[v]?=Z (rows.getD v []++(if v∈aag n b then(if abD n b (v:Int)<i then rs.getD (abD n b (v:Int)) []else if abD n b (v:Int)=i then(rs.getD i []).take k else[])else[]).map (aiD n b)):=by simp[stR,a]
def stR_start(c:rows.length=n):stR n rows b rs 0 0=rows:=by
 refine V3 fun v=>?_;by_cases a:v<n
 .rw[ahZ a]
  have e:(if v∈aag n b then(if abD n b (v:Int)<0 then rs.getD (abD n b (v:Int)) []else if abD n b (v:Int)=0 then(rs.getD 0 []).take 0 else[])else[])=[]:=by simp
  rw[e,map_nil,agq,N8,Gc NH];rfl
 .rw[AQ (by rw[ahF];omega),AQ NH]
def ajJ{w:Nat}(h:(aag n b)[i]?=Z w):abD n b (w:Int)=i:=by refine(idx_eq ?_).symm;show(kz (aag n b))[i]?=_;unfold kz;rw[Q4,h];rfl
def stR_step{w:Nat}{j:Int}(hw:(aag n b)[i]?=Z w)(g:(rs.getD i [])[k]?=Z j):(stR n rows b rs i k).set w ((stR n rows b rs i k).getD w []++[aiD n b j])=stR n rows b rs i (k+1):=by
 have f:=XJ hw;have h:=(aeT.1 f).1;have hi:=ajJ hw;refine V3 fun v=>?_;by_cases d:v<n
 .rw[ahZ d,j3];by_cases e:w=v
  .subst e;rw[WA rfl,WA (by rw[ahF];exact d),N8,ahZ d,alS,WA f,hi,Z6 (Nat.lt_irrefl i),WA rfl,WA f,Z6 (Nat.lt_irrefl i),WA rfl];rw[ah6,dU,g];simp
  .rw[Z6 e,ahZ d];by_cases a:v∈aag n b
   .rw[WA a,WA a];have:abD n b (v:Int)≠i:=fun q=>e (by
     have⟨l,c⟩:=yM.1 a;have:=ajJ c;rw[q]at this;subst this;rw[hw]at c;injection c)
    rw[Z6 this,Z6 this]
   .rw[Z6 a,Z6 a]
 .rw[AQ (by rw[afS,ahF];omega),AQ (by rw[ahF];omega)]
def stR_next:stR n rows b rs i (rs.getD i []).length=stR n rows b rs (i+1) 0:=by
 refine V3 fun v=>?_;by_cases c:v<n
 .rw[ahZ c,ahZ c];by_cases a:v∈aag n b
  .rw[WA a,WA a];by_cases d:abD n b (v:Int)<i
   .rw[WA d,WA NH]
   .rw[Z6 d];by_cases h2:abD n b (v:Int)=i
    .rw[WA h2,WA NH,TV,h2]
    .rw[Z6 h2,Z6 NH];split<;>rfl
  .rw[Z6 a,Z6 a]
 .rw[AQ (by rw[ahF];omega),AQ (by rw[ahF];omega)]
def stR_end(d:b.length≠1)(e:ajk (aag n b).length (aat n b)=Z rs):stR n rows b rs (aag n b).length 0=aiC n rows b:=by
 unfold stR aiC;refine EH fun v g=>?_;congr 1;unfold ag2;rw[Z6 d];by_cases a:v∈aag n b
 .obtain⟨h,c⟩:=yM.1 a;have f:=ajJ c;have h2:=(Ny.1 c).1;rw[WA a,WA a,WA (by rw[f];exact h2),e];rfl
 .rw[Z6 a,Z6 a];rfl
end
def Rows.blks{b0 h:aai}{L:Nat}{us:xLV}{rows:AM}(R:Rows b0 h L us rows):(L::us.filterMap blk).Nodup/\(∀b∈L::us.filterMap blk,h.own b≠Y)/\∀b∈L::us.filterMap blk,b0.own b=Y:=by
 have mem:∀b,b∈us.filterMap blk↔∃v u,us[v]?=Z u/\blk u=Z b:=fun b=>by
  rw[mem_filterMap];constructor
  .rintro⟨u,c,e⟩;have⟨v,a⟩:=yM.1 c;exact⟨v,u,a,e⟩
  .rintro⟨v,u,a,e⟩;exact⟨u,XJ a,e⟩
 refine⟨xD.2 ⟨fun h=>?_,?_⟩,fun b hb=>?_,fun b hb=>?_⟩
 .obtain⟨v,u,a,e⟩:=(mem L).1 h;exact R.nL v u a e
 .unfold List.Nodup;rw[pairwise_filterMap,QD];intro i j hi d f b hb l sZ e;subst e;exact R.TE i j _ _ b NH (Gc hi) (Gc d) hb sZ
 .rcases HV.1 hb with rfl|hb
  .rw[R.oL];simp
  .obtain⟨v,u,a,e⟩:=(mem b).1 hb;obtain⟨q,g⟩:∃q,rows[v]?=Z q:=⟨_,CA (by have:=R.len;have:=(Ny.1 a).1;omega)⟩;exact(R.gs v u q a g).Sy e
 .rcases HV.1 hb with rfl|hb
  .exact R.bL
  .obtain⟨v,u,a,e⟩:=(mem b).1 hb;exact R.ap v u a b e
def Rows.over{b0 h g h':aai}{L:Nat}{us:xLV}{rows:AM}(R:Rows b0 h L us rows)(f:Le g h')(c:∀b∈L::us.filterMap blk,g.own b=Y/\h'.own b=h.own b):Rows g h' L us rows:=by have mem:∀{v:Nat}{u b},us[v]?=Z u->blk u=Z b->b∈L::us.filterMap blk:=fun{v u b} a e=>HV.2 (.inr (mem_filterMap.2 ⟨u,XJ a,e⟩));have d:=c L Ma;exact⟨by rw[d.2];exact R.oL,R.len,fun v u r a j=>(R.gs v u r a j).kept fun b o hb l=>by rw[(c b (mem a hb)).2];exact l,R.nL,R.TE,fun v u a b hb=>(c b (mem a hb)).1,f,d.1⟩
variable {a b:Nat}
def stpP(h:a<b):b-(a+1)<b-a:=NH
def ajo(W0:LA)(b0 h:aai)(L n:Nat)(us:xLV)(rows:AM)(R:Rows b0 h L us rows)(aP:rows.length=n)(bv:vV)(b:xLP)(b1:PR b0 bv b)(O:aeo n b)(h2:2<=b.length)(hl:b.length<=594)(hn:n<=200)(aT:∀r∈rows,r.length<=1000):
  AC pG W0 35 [sL (Z L) n n,bv] h fun v h'=>(v=.bool fF/\¬XU n (eN n b)/\Le h h')\/(v=.bool tT/\ah0 n b/\∃m,m.length=n/\Rows b0 h' L m (aiC n rows b)):=by
 have hp:=b1.le R.le;have hR:=O.1.GD;have ll:=fun g=>hp.len g;refine AC.vF func35 ntmps35 results35 fun da=>?_;have d1:decide ((b.length:Int)=1)=fF:=Sb NH;refine Sk (XC ll d1) ?_;obtain⟨rv,aW⟩:∃rv,rv=vV.slice (Z L) n n:=⟨_,rfl⟩;rw[<-aW];refine lIn (fun k fr hq=>∃(i:Nat)(sv:vV),k=b.length-i/\i<=b.length/\fr=mkF [(0,rv),(1,bv),(7,sv),(53,bv),(54,.int .i64 b.length),(55,.int .i64 i)]/\GI hq sv (adJ (b.take i))/\Le h hq/\Z2 h sv) ⟨0,_,rfl,Og _,rfl,GI.nil h,Le.refl _,fun b hb=>by simp[blk]at hb⟩ ?_;rintro k fr hq b2 ⟨i,sv,rfl,hi,rfl,g,lq,ap⟩;refine Uy ?_;refine Kl.intro (fun t=>?_) (fun hf=>?_)
 .have a:i<b.length:=acb t;clear t;have A:=CA a;have Q:b.take (i+1)=b.take i++[b[i]]:=EL a;have hle:(adJ (b.take i)).length<=2000:=by rw[agu,Vn];omega
  generalize b[i]=p at A Q;have ad:=hp.addr (k:=.i64) i a;have ld:=(hp.le lq).load A;have⟨db,h3,e2,e3,S,b3,o3⟩:=Ut b2 p;have m0:=lK o3;have m1:=HY o3;have l3:=lq.trans S;have⟨H,e4,l4,w4,o4⟩:=Tt b3 [p.1,p.2];have bs:=mkKI2 h3 p.1 p.2;rw[e4]at bs
  have r4:RL RP H (sL (Z h3.next) 2 2) [p.1,p.2]:=RL.Wh (RS.whole o4 rfl)
  obtain⟨jv,h6,e6,g6,w6,f6,-⟩:=GI.join ((g.le S).le l4) w4 r4 (by simp;omega);have⟨l6,aj⟩:=f6 h (l3.trans l4) ap;rw[<-agH,<-Q]at g6;simp only[HO,seval,ad,ld,e2,e3,Dh,Z0,Ip,BS,m0,m1,bs,e6,aaa i NH];exact lgA NH ⟨i+1,jv,rfl,a,rfl,g6,l6,aj⟩
 have C:b.length<=i:=vp hf;rw[abe C]at g;refine Uy ?_;refine kCi qS26 (VQ W0 g (by rw[agu];omega)) ?_;rintro x dc w2 ⟨rfl,g2,k2⟩;have b4:=k2 h lq ap;refine Uy ?_;refine kCi func58 (VY W0 g2 (by rw[OX,agu];omega)) ?_;rintro vv h3 w3 ⟨r3,b5,k3⟩;have S:=k3 h b4 ap;rw[adX hR]at r3;have av:Z2 h vv:=fun c hc=>ap c (by rw[<-b5];exact hc);have lv:=fun g=>r3.DH g;rw[y6]at lv;have dd:(aag n b).length<=200:=Hs (im _ _) (by simp;omega);have b6:(kz (aag n b)).Pairwise (·<·):=by unfold kz;rw[Uz];exact(Bx.filter _).imp fun h=>by omega
 have aX:(kz (aag n b)).Nodup:=b6.imp fun h=>by omega
 obtain⟨H,e4,l4,w4,o4⟩:∃H,h3.alloc (.map [])=H/\Le h3 H/\WF H/\H.own h3.next=Z (.map []):=⟨_,rfl,(Le.refl h3).alloc w3 _,w3.alloc _,aai.zT _ _⟩
 have nM:h3.own h3.next=Y:=(Le.refl h3).next w3 (qL0 _)
 simp only[HO,seval,lv,e4,qS41]
 generalize h3.next=M at*
 refine lIn (fun k fr y=>∃(i:Nat)(al:List (Int×Int)),k=(aag n b).length-i/\i<=(aag n b).length/\fr=mkF [(0,rv),(1,bv),(7,vv),(10,.map (Z M)),(74,vv),(75,.int .i64 (aag n b).length),(76,.int .i64 i)]/\
   y.own M=Z (.map (aie al))/\(∀(j:Nat) v,j<i->(kz (aag n b))[j]?=Z v->abo al v=Z (j:Int))/\Le h3 y) ⟨0,[],rfl,Og _,rfl,o4,fun j v T=>absurd T (NC j),l4⟩ ?_
 clear o4 l4 e4 w4;clear H;rintro k fr y U ⟨i,al,rfl,hi,rfl,oM,a6,lz⟩;refine Uy ?_;refine Kl.intro (fun t=>?_) (fun hf=>?_)
 .have a:i<(aag n b).length:=acb t;clear t;have d:i<(kz (aag n b)).length:=by rw[y6];exact a
  have ad:=r3.TA i d;have ld:=(r3.le Nn.RP lz).Uc i d;have hv:=Gc d;generalize (kz (aag n b))[i]=v at hv ld;have st:=mapI_set oM v (i:Int);have aw:=aaa i NH;have l5:=lz.put (.map (aie (acs al v (i:Int)))) nM;have w5:=U.put (.map (aie (acs al v (i:Int)))) (U.lt oM);simp only[HO,seval,ad,ld,st,aw];refine lgA NH ⟨i+1,acs al v (i:Int),rfl,a,rfl,aai.aaF _ _ _,fun j v' T V=>?_,l5⟩;rw[XR];by_cases e:j=i
  .subst e;rw[WA (Option.some.inj (hv.symm.trans V))]
  .have:v≠v':=fun q=>e (by
    subst q;exact(qL166 (Ny.1 V).1 aX).1 (V.trans hv.symm))
   rw[Z6 this];exact a6 j v' NH V
 have C:(aag n b).length<=i:=vp hf;obtain rfl:i=(aag n b).length:=NH;clear C hf hi;have⟨h5,h6,e5,e6,l6,w6,nX,G0⟩:=GX.new U ((aag n b).length:Int);refine Sk (IX lv @ait e5 e6 ll) ?_;have aF:=S.trans lz
 have b8:y.own y.next=Y:=(Le.refl y).next U (qL0 _)
 generalize y.next=X at*
 refine lIn (fun k fr hy=>∃(i:Nat)(ev:vV),k=b.length-i/\i<=b.length/\fr=mkF [(0,rv),(7,vv),(10,.map (Z M)),(13,pT (Z X)),(88,bv),(89,.int .i64 b.length),(90,.int .i64 i)]/\GX hy X (aag n b).length ev (aat n b|>.take i)/\Le y hy/\Z2 y ev) ⟨0,_,rfl,Og _,rfl,G0,l6,fun b hb=>by simp[blk]at hb⟩ ?_;clear G0 w6 l6 e6 e5;rintro k fr hy b9 ⟨i,ev,rfl,hi,rfl,G,J,az⟩;refine Uy ?_;refine Kl.intro (fun t=>?_) (fun hf=>?_)
 .have a:i<b.length:=acb t;clear t;have A:=CA a;have cc:(aat n b)[i]?=Z ((abD n b b[i].1:Int),(abD n b b[i].2:Int)):=by rw[aat,Q4,A];rfl
  have Q:(aat n b).take (i+1)=(aat n b).take i++[((abD n b b[i].1:Int),(abD n b b[i].2:Int))]:=by rw[dU,cc];rfl
  have a8:((aat n b).take i).length+1<=100000:=by rw[Vn];omega
  have cd:=XJ A;have s:∀x,aO b[i] x=tT->abo al x=Z (abD n b x:Int):=fun x hx=>by
   have:x∈kz (aag n b):=by rw[<-adX hR,jn,Wv,aeS];exact⟨_,cd,hx⟩
   have⟨j,T⟩:=yM.1 this;have bb:=(Ny.1 T).1;rw[y6]at bb;rw[a6 j x bb T,<-idx_eq T]
  have cf:=s b[i].1 (by simp[aO]);have cg:=s b[i].2 (by simp[aO]);generalize b[i]=p at*;have ad:=hp.addr (k:=.i64) i a;have ld:=(hp.le (aF.trans J)).load A;have⟨de,h6,e6,s6,l6,w6,o6⟩:=Ut b9 p;have m0:=lK o6;have m1:=HY o6;have aw:=aaa i NH;have bg:=(J.trans l6).own _ _ oM;have k1:=aiO bg p.1 fF;have k2:=aiO bg p.2 fF;rw[cf]at k1;rw[cg]at k2;simp only[cond_false,alS]at k1 k2;have G6:=G.le l6;obtain⟨v',g4,g5,g6,q4,q5,q6,G7,dg,l7,f7,-⟩:=G6.push' w6 ((abD n b p.1:Int),(abD n b p.2:Int)) a8;have⟨ck,a7⟩:=f7 y (J.trans l6) b8 az;rw[<-Q]at G7;have cm:=xe (abD n b p.1:Int) (abD n b p.2:Int);simp only[HO,seval,ad,ld,e6,s6,Dh,Z0,Di,Ip,BS,m0,m1,k1,k2,G6.ld.2.2,cm,q4,q5,q6,aw];exact lgA NH ⟨i+1,v',rfl,a,rfl,G7,ck,a7⟩
 have C:b.length<=i:=vp hf;have a8:(aat n b).length=b.length:=by simp[aat]
 rw[abe NH]at G;have D:=aF.trans J;have Ry:=R.up D;have⟨cp,bh,cq⟩:=Ry.blks;have ay:∀c∈L::us.filterMap blk,h.own c≠Y:=R.blks.2.1;have cx:∀c,blk ev=Z c->c∉L::us.filterMap blk:=fun c hc s=>by have h1:=az c hc;have⟨o,P⟩:=VU.1 (ay c s);rw[aF.own _ _ P]at h1;cases h1
 have cz:∀c∈L::us.filterMap blk,blk vv≠Z c:=fun c s hc=>ay c s (av c hc);have bk:=GS.Fi G.gp cx;refine Sk G.ld.1 ?_;refine kCi func59 (AC.side (L::us.filterMap blk) hy _ bh cp (Im W0 _ ⟨((aag n b).length:Int),aat n b⟩ (rem (L::us.filterMap blk) hy) ⟨ev,rfl,GP.pr bk,GS.okc bk⟩)) ?_;rintro x h9 w9 ⟨W,⟨lr,ov,e,rfl,I⟩,l9,aH⟩;have bm:Le h h9:=by
  refine⟨?_,fun c o P=>?_⟩
  .have e1:=l9.ext;have e2:=lr.ext;rw[e1,e2,vL];exact D.ext
  .by_cases s:c∈L::us.filterMap blk
   .rw[(aH c s).2];exact D.own _ _ P
   .exact l9.own _ _ (lr.own _ _ (Th.2 ⟨D.own _ _ P,s⟩))
 have bo:e≠0->¬XU n (eN n b):=fun he hP=>by obtain⟨rs,-,-,-,q,-⟩:=I.XK (ad6 O.1) (O.two h2) ((afA hR).2 hP);exact he q
 by_cases he:e=0
 rotate_left
 .have d0:decide (e=0)=fF:=Sb he;refine Sk (XC @bne.eq_1.{0} d0) ?_
  exact .inl ⟨trivial,bo he,bm⟩
 subst he;obtain⟨rs,hX,hG,hF,aJ⟩:∃rs,ajk (aag n b).length (aat n b)=Z rs/\Av (aag n b).length (aat n b) rs/\Flat (aag n b).length (Xl rs)/\RL (RL RP) W ov rs:=by
  rcases I with⟨-,q,-⟩|⟨-,-,q,-⟩|⟨-,-,-,-,q,-⟩|⟨-,-,rs,q1,q2,q3,-,q4⟩
  .omega
  .omega
  .omega
  .exact⟨rs,q1,q2,q3,q4⟩
 have BR:=O.rowMany h2 hX hG hF;have R9:=Ry.over l9 aH;have aa:RL RP W vv (kz (aag n b)):=(RL.remK (r3.le Nn.RP (lz.trans J)) cz).le Nn.RP lr;have cC:rs.length=(aag n b).length:=hG.len;have cE:=fun g=>aJ.qP6 g;have d0:decide ((0:Int)=0)=tT:=by decide
 have cJ:Le b0 W:=by
  refine⟨?_,fun c o P=>?_⟩
  .rw[lr.ext,vL,D.ext];exact R.le.ext
  .have s:c∉L::us.filterMap blk:=fun s=>by rw[cq c s]at P;cases P
   exact lr.own _ _ (Th.2 ⟨D.own _ _ (R.le.own _ _ P),s⟩)
 have cK:∀(i:Nat) j,j∈rs.getD i []->0<=j/\j<((aag n b).length:Int):=fun i j T=>by obtain⟨-,w,rfl,hw,-⟩:=hG.nat (ad6 O.1).GD T;omega
 have K:∀i,(rs.getD i []).length<=200:=fun i=>by
  by_cases hi:i<(aag n b).length
  .have s:=hG.jD (ad6 O.1).GD (ad6 O.1).q9;have nd:=s.nd i;have:=tf nd (B:=rG (aag n b).length) fun w hw=>abV.2 (s.lt w i (s.sy i w hw));rw[agm]at this;have e2:(Xl rs i).length=(rs.getD i []).length:=by simp[Xl]
   omega
  .rw[N8,AQ NH];simp
 refine Sk (xU @bne.eq_1.{0} d0 cE cC) ?_
 have cM:b.length≠1:=NH;have z:=stR_start (b:=b) (rs:=rs) aP;have br:Rows W h9 L us (stR n rows b rs 0 0):=by rw[z];exact R9
 have aK:∀i k,∀r∈stR n rows b rs i k,r.length<=1200:=fun i k r hr=>by
  obtain⟨v,hv,rfl⟩:=j9.1 hr;rw[ZT,wI];have h1:(rows.getD v []).length<=1000:=by
   rw[N8];cases y:rows[v]? with
   |none=>simp
   |some r=>exact aT r (XJ y)
  have h2:(if v∈aag n b then(if abD n b (v:Int)<i then rs.getD (abD n b (v:Int)) []else if abD n b (v:Int)=i then(rs.getD i []).take k else[])else[]).length<=200:=by
   split
   .split
    .exact K _
    .split
     .rw[Vn];have:=K i;omega
     .simp
   .simp
  omega
 have bx:us.length=n:=by rw[R.len];exact aP
 refine lIn (fun k fr y=>∃(i:Nat)(us:xLV),k=(aag n b).length-i/\i<=(aag n b).length/\fr=mkF [(0,rv),(7,vv),(116,ov),(117,.int .i64 (aag n b).length),(118,.int .i64 i)]/\us.length=n/\Rows W y L us (stR n rows b rs i 0)) ⟨0,us,rfl,Og _,rfl,bx,br⟩ ?_;clear br R9 bx z aH l9 w9 bm;clear h9;rintro k fr bB bF ⟨i,m,rfl,hi,rfl,E,Rz⟩;refine Uy ?_;refine Kl.intro (fun t=>?_) (fun hf=>?_)
 rotate_left
 .have C:(aag n b).length<=i:=vp hf;obtain rfl:i=(aag n b).length:=NH;rw[stR_end cM hX]at Rz;refine Uy ?_;exact .inr ⟨trivial,BR,m,E,Rz.base cJ⟩
 have a:i<(aag n b).length:=acb t;clear t;have aL:i<rs.length:=NH;have cN:=aJ.qP7 i aL;have⟨cv,ae,cP⟩:=aJ.loadS Mb rfl i aL;have cR:rs.getD i []=rs[i]:=by rw[N8,Gc aL];rfl
 rw[<-cR]at ae;have cU:=fun g=>ae.DH g;have cW:=aaa i NH;have d:i<(kz (aag n b)).length:=by rw[y6];exact a
 have cZ:=aa.TA i d;have ai:=fun g (l:Le W g)=>(aa.le Nn.RP l).Uc i d;have c0:=CA a;have c3:(kz (aag n b))[i]=(((aag n b)[i]:Nat):Int):=by simp[kz]
 rw[c3]at ai;have aq:(aag n b)[i]<n:=(aeT.1 (AE a)).1;generalize (aag n b)[i]=w at*;have bH:=Rows.ix (n:=n) L .i64 w aq;rw[<-aW]at bH;refine Sk (Yb cN (cP bB Rz.le) cU) ?_;refine lIn (fun k fr hy=>∃(j:Nat)(us:xLV),k=(rs.getD i []).length-j/\j<=(rs.getD i []).length/\fr=mkF [(0,rv),(7,vv),(18,.int .i64 i),(116,ov),(117,.int .i64 (aag n b).length),(118,.int .i64 i),(123,cv),(124,.int .i64 (rs.getD i []).length),(125,.int .i64 j)]/\us.length=n/\Rows W hy L us (stR n rows b rs i j)) ⟨0,m,rfl,Og _,rfl,E,Rz⟩ ?_;clear Rz E bF;clear m bB;rintro k fr N bI ⟨j,m,rfl,T,rfl,E,F⟩;refine Uy ?_;refine Kl.intro (fun t=>?_) (fun hf=>?_)
 rotate_left
 .have C:(rs.getD i []).length<=j:=vp hf;obtain rfl:j=(rs.getD i []).length:=NH;rw[stR_next]at F;refine Sk cW ?_;exact lgA (stpP a) ⟨i+1,m,rfl,a,rfl,E,F⟩
 have f:j<(rs.getD i []).length:=acb t;clear t;have adc:=ae.TA j f;have bN:=fun g (l:Le W g)=>(ae.le Nn.RP l).Uc j f;have bQ:=Gc f;have aC:=cK i _ (AE f);generalize (rs.getD i [])[j]=x at bQ aC bN;obtain⟨x,rfl⟩:=IE aC.1;have bW:x<(aag n b).length:=NH;have aD:x<(kz (aag n b)).length:=by rw[y6];exact bW
 have c4:=aa.TA x aD;have ar:=fun g (l:Le W g)=>(aa.le Nn.RP l).Uc x aD;have bY:(kz (aag n b))[x]=aiD n b (x:Int):=by unfold aiD;rw[aax,N8,Gc bW];simp[kz]
 rw[bY]at ar;have c5:=aaa j (by have:=K i;omega);have hlen:(stR n rows b rs i j).length=n:=ahF;have aN:=CA (show w<(stR n rows b rs i j).length by rw[hlen];exact aq);have c6:(stR n rows b rs i j)[w]'(by rw[hlen];exact aq)=(stR n rows b rs i j).getD w []:=by rw[N8,Gc (by rw[hlen];exact aq)];rfl
 rw[c6]at aN;have bZ:((stR n rows b rs i j).getD w []).length<=100000:=by have:=aK i j _ (XJ aN);omega
 obtain⟨u,u',H,h5,h6,hu,e4,e5,e6,l4,l5,c9,R6,w6,-⟩:=F.push bI aN (aiD n b (x:Int)) bZ;rw[stR_step c0 bQ]at R6;have bs:=DQ N (aiD n b (x:Int));rw[e4]at bs;have J:=F.le;have lu:∀g:aai,g.own L=Z (.cells m)->aaC pG g 28 ⟨L,w,Y⟩=Z u:=fun g P=>by rw[Fq Mb rfl P];exact hu
 simp only[HO,seval,adc,bN N J];refine gh (fRn 0 16 (JQ 16 [15] (JQ 17 [11,16] (tA [18] (JQ 19 [0,1,2,3,4,5,6,7,8,9,10,11,12,13,14,15,16,17,18] .done))))) ?_;simp only[HO,seval,Qg,bH,cZ,ai N J,ai H (J.trans l4),ai h5 l5,c4,ar N J,ar H (J.trans l4),ar h5 l5,lu N F.oL,lu H (l4.own _ _ F.oL),lu h5 c9,bs,e5,e6,c5];exact lgA (stpP f) ⟨j+1,_,rfl,f,rfl,by simpa using E,R6⟩
def ajK(i:LA)(b0 h:aai)(L n:Nat)(us:xLV)(rows:AM)(R:Rows b0 h L us rows)(a:rows.length=n)(bv:vV)(b:xLP)(f:PR b0 bv b)(O:aeo n b)(s:b.length<=594)(t:n<=200)(d:∀r∈rows,r.length<=1000):
  AC pG i 35 [sL (Z L) n n,bv] h fun v h'=>(v=.bool fF/\¬XU n (eN n b)/\Le h h')\/(v=.bool tT/\ah0 n b/\∃c,c.length=n/\Rows b0 h' L c (aiC n rows b)):=by
 have hR:=O.1.GD;by_cases o:b.length=1
 rotate_left
 .have A:0<b.length:=fE.2 O.2.1;exact ajo i b0 h L n us rows R a bv b f O NH s t d
 have u:=O.rowOne o;obtain⟨p,rfl⟩:=ahI.1 o;have⟨a1,a2,w⟩:=hR p Ma;have⟨B,z⟩:=p;simp only at a1 a2 w;obtain⟨x,rfl⟩:=IE a1;obtain⟨y,rfl⟩:=IE (show 0<=z by omega);have ne:x≠y:=NH;refine(ajI i b0 h L n us rows R a bv x y f NH NH ne d).mono ?_;rintro v h' ⟨rfl,c,j,R'⟩;refine .inr ⟨rfl,u,c,j,?_⟩;have e:(rows.set x (rows.getD x []++[(y:Int)])).set y (rows.getD y []++[(x:Int)])=aiC n rows [((x:Int),(y:Int))]:=by
  refine V3 fun v=>?_;by_cases k:v<n
  .have g:(aiC n rows [((x:Int),(y:Int))])[v]?=Z (rows.getD v []++ag2 n [((x:Int),(y:Int))] v):=by simp[aiC,k]
   rw[g,j3,afS,j3];unfold ag2;rw[WA (show[((x:Int),(y:Int))].length=1 from rfl)];simp only[qL206,Int.natCast_inj];by_cases c1:y=v
   .subst c1;have c2:¬y=x:=fun q=>ne q.symm;simp[c2,a,k]
   .by_cases c2:x=v
    .subst c2;simp[c1,a,k]
    .have l:¬v=y:=fun q=>c1 q.symm;have m:¬v=x:=fun q=>c2 q.symm;simp only[c1,c2,l,m,if_false,agq];rw[N8,Gc NH];rfl
  .rw[AQ (by simp;omega),AQ (by rw[addR_len];omega)]
 rw[<-e];exact R'
variable {es:List Pr} {i n:Nat}
def certM_nil(n:Nat):ag3 n []=rP n []:=by
 refine V3 fun v=>?_;by_cases a:v<n
 .simp[ag3,a]
 .rw[AQ (by rw[aic];omega),AQ (by simp;omega)]
def ajL(n:Nat)(pre:List xLP)(b:xLP):ag3 n (pre++[b])=aiC n (ag3 n pre) b:=by unfold aiC;refine EH fun v a=>?_;rw[aiB (abV.1 a)];simp
def ajM(m:bX ⟨(n:Int),es⟩)(h:∀(j:Nat) b,j<i->(vq n es)[j]?=Z b->ah0 n b):∀r∈ag3 n ((vq n es).take i),r.length<=n:=by
 have hR:=m.GD;have⟨c,o⟩:=ahE (cQ n es) _ es rfl;have eb:vq n es=(CY (cQ n es) es).map fun k=>abb n es k:=aaB n es;have e:∀k∈(CY (cQ n es) es).take i,abb n es k∈vq n es/\ah0 n (abb n es k):=fun k e=>by
  have⟨j,d⟩:=yM.1 e;rw[afC]at d;split at d
  .rename_i f;have hb:(vq n es)[j]?=Z (abb n es k):=by rw[eb,Q4,d];rfl
   exact⟨XJ hb,h j _ f hb⟩
  .cases d
 obtain⟨g,-,-⟩:=catN_ok m _ (c.sublist (List.take_sublist i _)) e;intro r l;obtain⟨v,q,rfl⟩:=j9.1 l;have nd:=g.nd v;have:=tf nd (B:=rG n) fun w hw=>abV.2 (g.lt w v (g.sy v w hw));rw[agm]at this;refine Hs (Nat.le_of_eq ?_) this;rw[eb,<-qL258,qL232];generalize (CY (cQ n es) es).take i=L
 induction L with
 |nil=>rfl
 |cons a L p=>rw[aj3,aj3,ZT,ZT,p];simp[acr]
def ah0.alx{b:xLP}(B:ah0 n b)(hR:aV n b):XU n (eN n b):=⟨acr n b,B.Rl,B.flat,fun v w=>by rw[B.mem,vD hR]⟩
def aiE(G:GM)(h':aai)(x:vV):Prop:=
 (¬bX G/\x=.tuple #[.slice Y 0 0,.slice Y 0 0,.int .i64 20])\/
 (bX G/\aak G.n.toNat G.es/\∃b,x=.tuple #[b,.slice Y 0 0,.int .i64 0]/\RL (RL RP) h' b (ag3 G.n.toNat (vq G.n.toNat G.es))/\Av G.n.toNat G.es (ag3 G.n.toNat (vq G.n.toNat G.es))/\Flat G.n.toNat (Xl (ag3 G.n.toNat (vq G.n.toNat G.es))))\/
 (bX G/\¬aak G.n.toNat G.es/\∃a,x=.tuple #[.slice Y 0 0,a,.int .i64 0]/\PR h' a (abv G)/\Ct a (abv G).length)
def ahd(A:LA)(v:vV)(G:GM)(h:aai)(hg:GR h v G):
  AC pG A 14 [v] h fun x h'=>Le h h'/\aiE G h' x:=by
 have o:=hg;have⟨K,es⟩:=G
 obtain⟨ev,rfl,hp⟩:=hg.open
 refine AC.vF ak1 ntmps14 results14 fun M=>?_;obtain⟨h1,b1,f,ay,-,I⟩:=r8 (n:=K) M hp
 generalize h.next=B at*
 have N:=I h1 (Le.refl _);refine Sk (XC b1 N.1) ?_;refine kCi qS5 (ak A _ ⟨K,es⟩ h1 (o.le f)) ?_;rintro x h2 w2 ⟨⟨bb,rfl,s⟩,l2⟩;cases bb with
 |false=>refine Uy ?_;exact⟨f.trans l2,.inl ⟨(fun q=>by cases s.2 q),rfl⟩⟩
 |true=>
 have d:=s.1 rfl;clear s;have h0:0<=K:=d.n0;obtain⟨n,rfl⟩:=IE h0;have Q:(n:Int)<=200:=d.n1;refine Sk ((I h2 l2).1) ?_;refine kCi func34 (Cw A _ ⟨(n:Int),es⟩ h2 (o.le (f.trans l2))) ?_;rintro x h3 w3 ⟨l3,⟨u,-⟩|⟨-,bv,rfl,hB⟩⟩
 .exact absurd d u
 have l:=l2.trans l3;simp only[aax]at hB;have d0:decide ((0:Int)=0)=tT:=by decide
 have mk:abl pG h3 26 (.int .i64 (n:Int)) (.int .i64 (n:Int))=Z (sL (Z h3.next) n n,h3.alloc (.cells (rP n (.slice Y 0 0)))):=Ye (P:=pG) (t:=26) (z:=.slice Y 0 0) h3 qS24 Ji rfl rfl rfl Ji Mb Ji n NH
 have⟨h4,e4,l4,w4,o4⟩:=Tt w3 (rP n (.slice Y 0 0));rw[e4]at mk
 have nL:h3.own h3.next=Y:=(Le.refl h3).next w3 (qL0 _)
 have A3:=I h3 l;have lB:=fun g=>hB.len (P:=pG) YW g;have R0:=Rows.start (b0:=h3) o4 l4 nL
 generalize h3.next=L at*
 have az:=afx n es;have C:=d.len;simp only at C;simp only[HO,seval,bne,d0,Ii,Ip,BS,A3.2.1,mk,lB];clear e4 mk o4;refine lIn (fun k fr J=>∃(i:Nat)(us:xLV),k=(vq n es).length-i/\i<=(vq n es).length/\fr=mkF [(1,pT (Z B)),(7,sL (Z L) n n),(26,bv),(27,.int .i64 (vq n es).length),(28,i)]/\
   us.length=n/\Rows h3 J L us (ag3 n ((vq n es).take i))/\∀(j:Nat) b,j<i->(vq n es)[j]?=Z b->ah0 n b) ⟨0,rP n (.slice Y 0 0),rfl,Og _,rfl,qL254,by rw[alW,certM_nil];exact R0,fun j b D=>absurd D (NC j)⟩ ?_
 clear R0 l4 w4;clear h4;rintro k fr J aC ⟨i,us,rfl,hi,rfl,S,R,m⟩;refine Uy ?_;refine Kl.intro (fun ht=>?_) (fun hf=>?_)
 rotate_left
 .have T:(vq n es).length<=i:=vp hf;rw[abe T]at R;have E:∀b∈vq n es,ah0 n b:=fun b hb=>by
   have⟨j,D⟩:=yM.1 hb;exact m j b (by have:=(Ny.1 D).1;omega) D
  have⟨c1,c2⟩:=cert_ok d E;have w:aak n es:=(acp d).2 fun b hb=>(aem (aaQ d hb)).2 ((E b hb).alx (aaQ d hb).1.GD);refine Uy ?_;exact⟨(f.trans l).trans R.le,.inr (.inl ⟨d,w,_,rfl,R.rl S,c1,c2⟩)⟩
 have a:i<(vq n es).length:=acb ht;clear ht;have U:=CA a;have O:=aaQ d (AE a);have V:(vq n es)[i].Sublist es:=by obtain⟨p,-,e⟩:=aaP.1 (AE a);rw[e];exact ajm _
 have W:=hB.addr (P:=pG) YW eY Ji (k:=.i64) i a;have⟨xb,pb,X⟩:=hB.loadS eY rfl i a;have aa:(vq n es).take (i+1)=(vq n es).take i++[(vq n es)[i]]:=EL a;have ae:(vq n es)[i].length<=594:=Hs V.length_le C;have ai:=ajM d m;have aj:(vq n es)[i]∈vq n es:=AE a;generalize (vq n es)[i]=b at*;have aw:=aaa i NH;refine Sk (XC W (X J R.le)) ?_;refine kCi func35 (ajK A h3 J L n us _ R (aic _ _) xb b pb O ae NH (fun r aq=>by have:=ai r aq;omega)) ?_;rintro x h5 w5 (⟨rfl,ar,l5⟩|⟨rfl,BR,av,F,R'⟩)
 .have w:¬aak n es:=fun q=>ar ((aem O).1 ((acp d).1 q b aj));have y:=R.le.trans l5;refine Sk ((I h5 (l.trans y)).1) ?_;refine kCi func36 (KFind_any A _ ⟨(n:Int),es⟩ h5 (o.le (f.trans (l.trans y)))) ?_;rintro x h6 w6 ⟨l6,⟨u,-⟩|⟨-,lv,rfl,pl,ct⟩⟩
  .exact absurd d u
  refine Uy ?_;exact⟨(f.trans (l.trans y)).trans l6,.inr (.inr ⟨d,w,lv,rfl,pl,ct⟩)⟩
 .rw[<-ajL,<-aa]at R';simp only[HO,seval,aw];exact lgA (stpP a) ⟨i+1,av,rfl,a,rfl,F,R',fun j c D H=>by
    by_cases e:j=i
    .subst e;rw[U]at H;injection H with H;rw[<-H];exact BR
    .exact m j c NH H⟩
end
section
attribute [local instance] Classical.propDecidable
attribute [local irreducible] Kp MQ lU KO1 KO KN KX KE VK Kl ZJ TC aab
variable {es:List Pr}
def ajH(h:aaz es≠0):bX ⟨200,es⟩:=aev fun q=>h (Z6 q)
def CertG(G:GM)(rs:AM)(ps:xLP):Prop:=bX G/\((ps=[]/\Av G.n.toNat G.es rs/\z8 G.n.toNat G.es rs)\/(ps≠[]/\rs=[]/\aaz ps≠0/\∀p∈ps,p∈G.es))
def ahY(s:LA)(v z y:vV)(G:GM)(rs:AM)(ps:xLP)(h:aai)(hg:GR h v G)(R:RL (RL RP) h z rs)(hw:PR h y ps):
  AC pG s 19 [v,z,y] h fun x h'=>RR (CertG G rs ps) x/\Le h h':=by
 have u:=hg;have⟨A,es⟩:=G
 obtain⟨ev,rfl,S⟩:=hg.open
 refine AC.vF akb ntmps19 results19 fun C=>?_;obtain⟨D,b1,a,aa,-,F⟩:=r8 (n:=A) C S
 generalize h.next=B at*
 have lR:=fun g=>R.qP6 g;have T:=fun g=>hw.len g;refine Sk (XC b1 ((F D (Le.refl _)).1)) ?_;refine kCi qS5 (ak s _ ⟨A,es⟩ D (u.le a)) ?_;rintro x h2 w2 ⟨⟨H,rfl,j⟩,l2⟩;cases H with
 |false=>refine Uy ?_;exact⟨.f (fun q=>by cases j.2 q.1),a.trans l2⟩
 |true=>
 have U:=j.1 rfl;clear j;have b:=a.trans l2;refine Sk T ?_;by_cases r:ps=[]
 .subst r;have d:decide (((([]:xLP).length:Nat):Int)=0)=tT:=by decide
  refine Sk (XC d ((F h2 l2).1)) ?_;refine kCi func24 (Plane_any s _ z ⟨A,es⟩ rs h2 (u.le b) (R.le (Nn.RL Nn.RP) b)) ?_;rintro x h3 w3 ⟨⟨H,rfl,j⟩,l3⟩;refine Uy ?_;refine⟨⟨H,rfl,j.trans ⟨fun q=>⟨q.1,.inl ⟨rfl,q.2⟩⟩,fun q=>⟨q.1,?_⟩⟩⟩,b.trans l3⟩;rcases q.2 with q|q
  .exact q.2
  .exact absurd rfl q.1
 have ae:0<ps.length:=fE.2 r;have d:decide ((ps.length:Int)=0)=fF:=Sb NH;refine Sk (XC d lR) ?_;by_cases c1:rs=[]
 rotate_left
 .have:0<rs.length:=fE.2 c1;have d1:decide ((rs.length:Int)>0)=tT:=qL7 NH;refine Sk d1 ?_;refine⟨.f fun q=>?_,b⟩;rcases q.2 with q|q
  .exact r q.1
  .exact c1 q.2.1
 subst c1;have d1:decide (((([]:AM).length:Nat):Int)>0)=fF:=by decide
 refine Sk d1 ?_;refine kCi func25 (Kind_any s y ps h2 (hw.le b)) ?_;rintro x h3 w3 ⟨rfl,l3⟩;by_cases c2:aaz ps=0
 .have d2:decide (aaz ps=0)=tT:=qL7 c2;refine Sk @d2 ?_;refine⟨.f fun q=>?_,b.trans l3⟩;rcases q.2 with q|q
  .exact r q.1
  .exact q.2.2.1 c2
 have d2:decide (aaz ps=0)=fF:=Sb c2;have I:=l2.trans l3;have J:=U.len;have K:=(ajH c2).len;simp only at J K;refine Sk (XC @d2 T) ?_;refine lIn (fun k fr o=>∃(i:Nat),k=ps.length-i/\i<=ps.length/\fr=mkF [(3,pT (Z B)),(26,y),(27,.int .i64 ps.length),(28,.int .i64 i)]/\Le D o/\∀p∈ps.take i,p∈es) ⟨0,rfl,Og _,rfl,I,Ma⟩ ?_;rintro k fr o L ⟨i,rfl,hi,rfl,M,l⟩;refine Uy ?_;refine Kl.intro (fun V=>?_) (fun hf=>?_)
 rotate_left
 .have N:ps.length<=i:=vp hf;rw[abe N]at l;refine Uy ?_;exact⟨.t ⟨U,.inr ⟨r,rfl,c2,l⟩⟩,a.trans M⟩
 have e:i<ps.length:=acb V;clear V;have O:=CA e;have w:=AE e;have P:ps.take (i+1)=ps.take i++[ps[i]]:=EL e;generalize ps[i]=p at*;have ad:=hw.addr (k:=.i64) i e;have ld:=(hw.le (a.trans M)).load O;have⟨ai,W,e6,s6,l6,w6,o6⟩:=Ut L p;have Q:=uM o6;have aw:=aaa i NH;have m:=M.trans l6
 generalize o.next=E at*
 simp only[HO,seval,ad,ld,e6,s6,Q,Di,Ip,BS,(F W m).2.2];refine kCi func43 (aiZ s ev es p W (S.le (a.trans m)) NH) ?_;rintro x h7 w7 ⟨rfl,X⟩;by_cases c:p∈es
 .have dc:decide (p∈es)=tT:=qL7 c;simp only[HO,seval,dc,aw];exact lgA (JS e) ⟨i+1,rfl,e,rfl,m.trans X,fun q o=>by
    rw[P,vZ,Gw]at o;rcases o with o|rfl
    .exact l q o
    .exact c⟩
 .have dc:decide (p∈es)=fF:=Sb c;refine Sk dc ?_;refine⟨.f fun q=>?_,a.trans (m.trans X)⟩;rcases q.2 with q|q
  .exact r q.1
  .exact c (q.2.2.2 p w)
end
section
attribute [local irreducible] Kp MQ lU KO1 KO KN KX KE VK Kl ZJ TC aab
attribute [local irreducible] Jz JL vq cQ
variable {es:List Pr} {h':aai} {n:Nat} {rs:AM} {x:Value}
def noR:bX ⟨((0:Nat):Int),[]⟩:=V5 WY WY WY WY
def RN(h:aai):RL (RL RP) h (.slice Y 0 0) []:=(Lj.nil (RL RP) h).rl (Nn.RL Nn.RP)
def aiE.plan(c:aiE ⟨(n:Int),es⟩ h' x)(b:bX ⟨(n:Int),es⟩)(d:aak n es):
  ∃a rs,x=.tuple #[a,.slice Y 0 0,.int .i64 0]/\RL (RL RP) h' a rs/\Av n es rs/\Flat n (Xl rs):=by
 rcases c with⟨q,-⟩|⟨-,-,a,e,h2,h3,f⟩|⟨-,q,-⟩
 .exact absurd b q
 .exact⟨a,_,e,h2,h3,f⟩
 .exact absurd d q
def aiE.twist(c:aiE ⟨(n:Int),es⟩ h' x)(b:bX ⟨(n:Int),es⟩)(d:¬aak n es):
  ∃a,x=.tuple #[.slice Y 0 0,a,.int .i64 0]/\PR h' a (abv ⟨(n:Int),es⟩)/\Ct a (abv ⟨(n:Int),es⟩).length:=by
 rcases c with⟨q,-⟩|⟨-,q,-⟩|⟨-,-,q⟩
 .exact absurd b q
 .exact absurd q d
 .exact q
def aiF(a:bX ⟨(n:Int),es⟩)(G:Av n es rs)(F:Flat n (Xl rs)):CertG ⟨(n:Int),es⟩ rs []:=⟨a,.inl ⟨rfl,G,(En a.GD a.q9 G).2 F⟩⟩
def ahU (W0:LA) (h:aai):AC Tryz.prog W0 11 [] h fun x h'=>x=.bool true/\Le h h':=by
 refine AC.vF qS27 Tryz.ntmps11 Tryz.results11 fun hwf=>?_;have d0:decide ((0:Int)=0)=true:=by decide
 have d5:decide ((5:Int)=5)=true:=by decide
 have d4:decide ((4:Int)=4)=true:=by decide
 have aw0:aaY .i64 (0+0)=0:=by decide
 have E5:afP 0 5 5=k5L:=by decide
 obtain⟨h1,e1,l1,w1,o1⟩:=Tt hwf (Iu ajl);have m1:=mkP6 h (0,1) (0,2) (1,2) (2,3) (2,4) (3,4);have hk:Iu [(0,1),(0,2),(1,2),(2,3),(2,4),(3,4)]=Iu ajl:=rfl;rw[hk,e1]at m1
 have p1:PR h1 (.slice (some ⟨h.next,0,none⟩) 6 6) ajl:=PR.made o1 rfl
 obtain⟨h2,h3,a2,s2,l3,w3,lG⟩:=newG (n:=5) w1 p1;have bg:=Wj (n:=5) p1.sl;obtain⟨h4,h5,a4,s4,l5,w5,nX,G0⟩:=GX.new w3 5;simp only[HO,Nat.reduceLT,↓reduceIte,Nat.reduceEqDiff,reduceCtorEq,xe,m1,bg,a2,s2,ait,a4,s4]
 generalize h.next=R1 at*
 generalize h1.next=T at*
 generalize h3.next=X at*
 have p3:=p1.le l3;have l03:=l1.trans l3;clear p1 m1 e1 o1 a2 s2 a4 s4 bg hk w1;refine aab.intro (fun k fr hq=>∃(i:Nat) (v:Value),k=5-i/\i<=5/\fr=mkF [(1,.pointer (some ⟨T,0,none⟩)),(2,.pointer (some ⟨X,0,none⟩)),(23,.int .i64 (i:Nat))]/\GX hq X 5 v (afP 0 5 i)/\Le h3 hq/\Z2 h3 v)
  5 [(1,.pointer (some ⟨T,0,none⟩)),(2,.pointer (some ⟨X,0,none⟩)),(23,.int .i64 (0:Nat))] fD ⟨0,_,rfl,Og _,rfl,G0,l5,fun b hb=>by simp[blk]at hb⟩ ?_
 clear G0 l5 w5;rintro k fr hq hwq ⟨i,v,rfl,hi,rfl,G,lq,ap⟩;have hb1:=ad5 0 5 i;by_cases c:i<5
 .have dc:decide ((i:Int)<5)=true:=qL7 NH;have tc:((i:Int)<5)=True:=eq_true NH;have aw:=aaa i NH;simp only[HO,Nat.reduceLT,↓reduceIte,Nat.reduceEqDiff,reduceCtorEq,dc,tc,aw];refine aab.intro (fun k fr hz=>∃(j:Nat) (v:Value),k=5-j/\i+1<=j/\j<=5/\fr=mkF [(1,.pointer (some ⟨T,0,none⟩)),(2,.pointer (some ⟨X,0,none⟩)),(3,.int .i64 (i:Nat)),(4,.int .i64 (j:Nat)),(23,.int .i64 (i:Nat))]/\GX hz X 5 v (afP 0 5 i++acJ i j)/\Le h3 hz/\Z2 h3 v)
   (5-(i+1)) [(1,.pointer (some ⟨T,0,none⟩)),(2,.pointer (some ⟨X,0,none⟩)),(3,.int .i64 (i:Nat)),(4,.int .i64 (i+1:Nat)),(23,.int .i64 (i:Nat))] fD ⟨i+1,v,rfl,qL0 _,NH,rfl,by simpa[acJ]using G,lq,ap⟩ ?_
  clear G lq ap hwq;clear hq v;rintro k fr hz hwz ⟨j,v,rfl,hj,hj5,rfl,G,lq,ap⟩;by_cases c2:j<5
  rotate_left
  .have dc:decide (((j:Nat):Int)<5)=false:=Sb NH;have tc:(((j:Nat):Int)<5)=False:=eq_false NH;obtain rfl:j=5:=NH;simp only[HO,Nat.reduceLT,↓reduceIte,Nat.reduceEqDiff,reduceCtorEq,dc,tc,aw];exact tn (5-(i+1)) [(1,.pointer (some ⟨T,0,none⟩)),(2,.pointer (some ⟨X,0,none⟩)),(23,.int .i64 (i+1:Nat))] NH fD ⟨i+1,v,rfl,NH,rfl,by rw[afP,BS];exact G,lq,ap⟩
  have dc:decide (((j:Nat):Int)<5)=true:=qL7 NH;have tc:(((j:Nat):Int)<5)=True:=eq_true NH;have awj:=aaa j NH;have hb2:=ad4 i j;obtain⟨v',g4,g5,g6,q4,q5,q6,G7,w7,l7,f7,-⟩:=G.push' hwz ((i:Int),(j:Int)) (by rw[ZT];omega);obtain⟨l7',a7⟩:=f7 h3 lq nX ap;rw[ah6,<-afy hj]at G7;have bld:=xe (i:Int) (j:Int);simp only[HO,Nat.reduceLT,↓reduceIte,Nat.reduceEqDiff,reduceCtorEq,dc,tc,Di,Ip,BS,G.ld.2.2,bld,q4,q5,q6,awj];exact tn (5-(j+1)) [(1,.pointer (some ⟨T,0,none⟩)),(2,.pointer (some ⟨X,0,none⟩)),(3,.int .i64 (i:Nat)),(4,.int .i64 (j+1:Nat)),(23,.int .i64 (i:Nat))] NH fD ⟨j+1,v',rfl,NH,NH,rfl,G7,l7',a7⟩
 obtain rfl:i=5:=NH;have dc:decide (((5:Nat):Int)<5)=false:=by decide
 have tc:(((5:Nat):Int)<5)=False:=eq_false NH;rw[E5]at G;clear hb1 c hi ap nX;simp only[HO,Nat.reduceLT,↓reduceIte,Nat.reduceEqDiff,reduceCtorEq,dc,tc,(lG hq lq).1];refine TC.intro PJ ⟨ak1,rfl,WY⟩ (ahd W0 _ ⟨((5:Nat):Int),ajl⟩ hq ⟨_,rfl,p3.le lq⟩) ?_;rintro x h7 w7 ⟨l7,C⟩;obtain⟨rv,rs,rfl,hrv,RG,FL⟩:=C.plan bowR (acG bowR WY);clear C;simp only[HO,Nat.reduceLT,↓reduceIte,Nat.reduceEqDiff,reduceCtorEq,(G.le l7).ld.1];refine TC.intro PJ ⟨ak1,rfl,WY⟩ (ahd W0 _ ⟨((5:Nat):Int),k5L⟩ h7 ⟨v,rfl,(G.le l7).gp.pr⟩) ?_;rintro x h8 w8 ⟨l8,C⟩;obtain⟨wv,rfl,hw,-⟩:=C.twist k5R k5_np;clear C;rw[fnd_k5]at hw;simp only[HO,Nat.reduceLT,↓reduceIte,Nat.reduceEqDiff,reduceCtorEq,aew,agO];refine TC.intro PJ ⟨ak1,rfl,WY⟩ (ahd W0 _ ⟨((0:Nat):Int),[]⟩ h8 ⟨_,rfl,PR.nil _⟩) ?_;rintro x h9 w9 ⟨l9,C⟩;obtain⟨tv,ts,rfl,htv,TG,TF⟩:=C.plan noR (acG noR WY);clear C;have l79:=l8.trans l9;have hrv9:=hrv.le (Nn.RL Nn.RP) l79;have lr:=fun g=>hrv.qP6 g;have lt:=fun g=>htv.qP6 g;have lnR:=fun g=>(RN g).qP6 g;have lnP:=fun g=>(PR.nil g).len g;rw[RG.len]at lr;rw[TG.len]at lt;have h2l:2<rs.length:=by rw[RG.len];decide
 have ad:=hrv.qP7 2 h2l;obtain⟨u,lu',hu⟩:=hrv.NS 2 h2l;have lu:=fun g l=>lu' g l;have hul:(rs[2]'h2l).length=4:=by
  have:=(RG.perm 2 WY).length_eq;rw[N8,Gc h2l]at this;exact this.trans WY
 have llu:=fun g=>hu.DH g;rw[hul]at llu;have d55:decide (((5:Nat):Int)=5)=true:=by decide
 have d44:decide (((4:Nat):Int)=4)=true:=by decide
 have dn0:decide (((([]:List Pr).length:Nat):Int)=0)=true:=by decide
 have dn1:decide (((([]:AM).length:Nat):Int)=0)=true:=by decide
 simp only[akN]at ad;have l39:=lq.trans (l7.trans l79);have G9:=G.le (l7.trans l79);simp only[HO,Nat.reduceLT,↓reduceIte,Nat.reduceEqDiff,reduceCtorEq,aw0,d0,lr,d55,ad,lu h9 l79,llu,d44,lnP,dn0,(lG h9 l39).1];refine TC.intro PJ ⟨akb,rfl,WY⟩ (ahY W0 _ rv (.slice none 0 0) ⟨((5:Nat):Int),ajl⟩ rs [] h9 ⟨_,rfl,p3.le l39⟩ hrv9 (PR.nil _)) ?_;rintro x h10 w10 ⟨⟨bb,rfl,hbb⟩,l10⟩;obtain rfl:bb=true:=hbb.2 (aiF bowR RG FL);clear hbb;have G10:=G9.le l10;have hw10:=hw.le (l9.trans l10);simp only[HO,Nat.reduceLT,↓reduceIte,Nat.reduceEqDiff,reduceCtorEq,lnR,dn1,Di,Ip,BS,G10.ld.2.2];refine TC.intro PJ ⟨Tryz.func17,rfl,WY⟩ (abn W0 wv v k5L k5L h10 hw10 G10.gp.pr WY) ?_;rintro x h11 w11 ⟨rfl,rfl⟩;have sp:decide (k5L=k5L)=true:=qL7 rfl;simp only[HO,Nat.reduceLT,↓reduceIte,Nat.reduceEqDiff,reduceCtorEq,sp,G10.ld.1];refine TC.intro PJ ⟨akb,rfl,WY⟩ (ahY W0 _ (.slice none 0 0) wv ⟨((5:Nat):Int),k5L⟩ [] k5L h11 ⟨v,rfl,G10.gp.pr⟩ (RN _) hw10) ?_;rintro x h12 w12 ⟨⟨bb,rfl,hbb⟩,l12⟩;obtain rfl:bb=true:=hbb.2 ⟨k5R,.inr ⟨WY,rfl,by rw[kind_k5];decide,fun p hp=>hp⟩⟩;clear hbb;have aw00:aaY .i64 (((0:Nat):Int)+((([]:List Pr).length:Nat):Int))=0:=by decide
 simp only[HO,Nat.reduceLT,↓reduceIte,Nat.reduceEqDiff,reduceCtorEq,lt,lnP,aw00,d0,aew,agO];refine TC.intro PJ ⟨akb,rfl,WY⟩ (ahY W0 _ tv (.slice none 0 0) ⟨((0:Nat):Int),[]⟩ ts [] h12 ⟨_,rfl,PR.nil _⟩ (htv.le (Nn.RL Nn.RP) (l10.trans l12)) (PR.nil _)) ?_;rintro x h13 w13 ⟨⟨bb,rfl,hbb⟩,l13⟩;obtain rfl:bb=true:=hbb.2 (aiF noR TG TF);clear hbb;have l913:=l10.trans (l12.trans l13);have l313:=l39.trans l913;simp only[HO,Nat.reduceLT,↓reduceIte,Nat.reduceEqDiff,reduceCtorEq,Di,Ip,BS,(lG h13 l313).1,(lG h13 l313).2.2];refine TC.intro PJ ⟨akb,rfl,WY⟩ (ahY W0 _ rv _ ⟨((5:Nat):Int),ajl⟩ rs ajl h13 ⟨_,rfl,p3.le l313⟩ (hrv9.le (Nn.RL Nn.RP) l913) (p3.le l313)) ?_;rintro x h14 w14 ⟨⟨bb,rfl,hbb⟩,l14⟩;obtain rfl:bb=false:=by
  cases bb with
  |false=>rfl
  |true=>
   rcases(hbb.1 rfl).2 with q|q
   .exact absurd q.1 WY
   .have:=RG.len;rw[q.2.1]at this;cases this
 refine Uy ?_;exact⟨trivial,(l03.trans l313).trans l14⟩
end
section
attribute [local instance] Classical.propDecidable
attribute [local irreducible] Kp MQ lU KO1 KO KN KX KE VK Kl ZJ TC aab
def ajp(l:LA)(v:vV)(G:GM)(h:aai)(hg:GR h v G):AC pG l 21 [v] h fun x h'=>RR (bX G/\G.n<=20/\G.es.length<=50) x/\Le h h':=by
 have i:=hg;have⟨e,es⟩:=G
 obtain⟨ev,rfl,m⟩:=hg.open
 refine AC.vF func21 ntmps21 results21 fun j=>?_;obtain⟨o,r,a,s,-,p⟩:=r8 (n:=e) j m
 generalize h.next=B at*
 have k:=p o (Le.refl _);have t:=fun g=>m.len g;refine Sk (XC r k.1) ?_;refine kCi qS5 (ak l _ _ o (i.le a)) ?_;rintro x h2 w2 ⟨⟨u,rfl,d⟩,l2⟩;have b:=p h2 l2;cases u with
 |false=>refine Uy ?_;exact⟨RR.f (fun q=>by cases d.2 q.1),a.trans l2⟩
 |true=>
 have w:=d.1 rfl;by_cases c:e<=20
 rotate_left
 .have dc:decide (e<=20)=fF:=Sb c;refine Sk (IX @Ii @Ip.eq_1 @BS b.2.1 dc) ?_;exact⟨RR.f (fun q=>c q.2.1),a.trans l2⟩
 have dc:decide (e<=20)=tT:=qL7 c;refine Sk (adG @Ii @Di @Ip.eq_1 @BS b.2.1 b.2.2 t dc) ?_;refine⟨⟨_,rfl,?_⟩,a.trans l2⟩;rw[uV];exact⟨fun q=>⟨w,c,NH⟩,fun q=>by have:=q.2.2;omega⟩
section
variable{n:Nat}{es:List Pr}{rs:AM}
end
end
section
attribute [local irreducible] Kp MQ lU KO1 KO KN KX KE VK Kl ZJ TC aab
attribute [local irreducible] Jz JL vq cQ aaN
variable {es:List Pr} {h':aai} {n:Nat} {x:Value}
def CertAll(n:Nat)(es:xLP)(rs:AM)(ws:xLP):Prop:=CertG ⟨(n:Int),es⟩ rs ws/\((aak n es/\ws=[]/\Av n es rs/\z8 n es rs)\/(¬aak n es/\rs=[]/\ws≠[]/\ws.Sublist es/\aaz ws≠0))
theorem aiE.all(c:aiE ⟨(n:Int),es⟩ h' x)(b:bX ⟨(n:Int),es⟩):
  ∃f d rs ws,x=.tuple #[f,d,.int .i64 0]/\RL (RL RP) h' f rs/\PR h' d ws/\Ct d ws.length/\CertAll n es rs ws:=by
 by_cases a:aak n es
 .obtain⟨f,rs,g,h2,h3,i⟩:=c.plan b a;have hP:=(En b.GD b.q9 h3).2 i;exact⟨f,_,rs,[],g,h2,PR.nil _,⟨Y,0,rfl,.inl ⟨WY,qL0 _⟩⟩,⟨b,.inl ⟨rfl,h3,hP⟩⟩,.inl ⟨a,rfl,h3,hP⟩⟩
 .obtain⟨d,g,h2,h3⟩:=c.twist b a;have h:=fnd_kind b a;have hs:=(ajQ (G:=⟨(n:Int),es⟩) a).1;have e:abv ⟨(n:Int),es⟩≠[]:=fun q=>a ((fnd_nil b).1 q);exact⟨_,d,[],_,g,RN _,h2,h3,⟨b,.inr ⟨e,rfl,h,fun p j=>hs.subset j⟩⟩,.inr ⟨a,rfl,e,hs,h⟩⟩
variable {i k u:Nat} {rs:AM}
def akS{es L:xLP}(a:bX ⟨(n:Int),es⟩)(s:L.Sublist es)(p:aak n es){ws:xLP}(c:CertAll n L rs ws):ws=[]/\CertG ⟨(n:Int),L⟩ rs []:=by
 obtain⟨c,⟨-,rfl,-⟩|⟨q,-⟩⟩:=c
 .exact⟨rfl,c⟩
 .exact absurd (ahs s p) q
def less_mem{x p:Pr}(a:bX ⟨(n:Int),es⟩)(h:p∈es):p∈sg (es++[x]):=by unfold sg;rw[Wb];exact j9.2 ⟨p,Bn _ h,norm_id (a.GD p h).2.1⟩
def less_step(hi:i<es.length):(es.take (i+1)).eraseIdx k=if i=k then(es.take i).eraseIdx k else(es.take i).eraseIdx k++[es[i]]:=by
 rw[EL hi];have a:(es.take i).length=i:=by rw[Vn];omega
 by_cases c:i=k
 .rw[WA c,qL196 NH,a,show k-i=0 by omega,qL173 (l:=es.take i) NH];simp
 .rw[Z6 c];by_cases d:k<i
  .rw[eraseIdx_append_of_lt_length (by rw[Vn];omega)]
  .rw[qL196 (by rw[Vn];omega),Vn,qL173 (l:=[es[i]]) (by simp;omega),qL173 (by rw[Vn];omega)]
def afb(u:Nat)(L:xLP):xLP:=L.filter fun p=>p.1 !=(u:Int)&&p.2 !=(u:Int)
def gone_step(hi:i<es.length):afb u (es.take (i+1))=if es[i].1=(u:Int)\/es[i].2=(u:Int)then afb u (es.take i)else afb u (es.take i)++[es[i]]:=by
 rw[EL hi];unfold afb;rw[ff];by_cases c:es[i].1=(u:Int)
 .simp[c]
 .by_cases d:es[i].2=(u:Int)
  .simp[d]
  .simp[c,d]
def less_len:((es.take i).eraseIdx k).length<=es.length:=Hs (length_eraseIdx_le _ _) (by rw[Vn];omega)
def gone_len:(afb u (es.take i)).length<=es.length:=Hs (im _ _) (by rw[Vn];omega)
def ahr(s:LA)(v mv:vV)(G:GM)(at_ vx:Int)(mp:Pr)(h:aai)(hg:GR h v G)(hm:U2 mv mp):
  AC pG s 6 [v,at_,vx,mv] h fun x h'=>x=.bool tT/\Le h h':=by
 have ji:=hg;obtain⟨gn,es⟩:=G
 obtain⟨ev,rfl,hp⟩:=hg.open
 obtain⟨rfl,m1,m2,m3,m4⟩:=hm;refine AC.vF func6 ntmps6 results6 fun kt=>?_;obtain⟨h1,b1,ku,kv,-,J⟩:=r8 (n:=gn) kt hp;obtain⟨h2,b2,hI,lX,o2⟩:=box48 kv mp
 generalize h.next=B at*
 generalize h1.next=M at*
 have jj:=ku.trans hI;refine Sk (Yb b1 b2 ((J h2 hI).1)) ?_;refine kCi func21 (ajp s _ ⟨gn,es⟩ h2 (ji.le jj)) ?_;rintro x h3 w3 ⟨⟨bb,rfl,cJ⟩,l3⟩;have fe:=jj.trans l3;have fg:=hI.trans l3;cases bb with
 |false=>refine Uy ?_;refine kCi qS27 (ahU s h3) ?_;rintro x h4 w4 ⟨rfl,l4⟩;refine Uy ?_;exact⟨trivial,fe.trans l4⟩
 |true=>
 obtain⟨f,hn,he⟩:=cJ.1 rfl;clear cJ;obtain⟨n,rfl⟩:=IE f.n0;simp only at hn he;have lP:=fun g=>hp.len g;by_cases c0:es.length=0
 .have d0:decide ((es.length:Int)=0)=tT:=qL7 NH;refine Sk (bG @Di @Ip.eq_1 @BS ((J h3 fg).2.2) lP d0) ?_;refine kCi qS27 (ahU s h3) ?_;rintro x h4 w4 ⟨rfl,l4⟩;refine Uy ?_;exact⟨trivial,fe.trans l4⟩
 have d0:decide ((es.length:Int)=0)=fF:=Sb NH;have e0:0<es.length:=NH;have n0:0<n:=by have:=f.GD es[0] (AE e0);omega
 refine Sk (rE @Di @Ip.eq_1 @BS ((J h3 fg).2.2) lP d0 ((J h3 fg).1)) ?_;refine kCi ak1 (ahd s _ ⟨(n:Int),es⟩ h3 (ji.le fe)) ?_;rintro x h4 w4 ⟨l4,C⟩;have fh:=fe.trans l4;have d:=fg.trans l4;obtain⟨rv,wv,rs,ws,rfl,lY,jk,-,CG,CC⟩:=C.all f;clear C;have hJ:decide ((0:Int)=0)=tT:=by decide
 have lw:=fun g=>jk.len g;rcases CC with⟨hK,rfl,RG,hP⟩|⟨hK,rfl,jq,kx,ky⟩
 rotate_left
 .have:0<ws.length:=fE.2 jq;have dw:decide ((ws.length:Int)>0)=tT:=qL7 NH;have cv:∀(x:Int)(g:aai),0<=x->x<256->acX pG g 5 3 (.int .u8 x)=some (.int .i64 x,g):=fun x g h1 h2=>by simp only[acX,qS12,Ac,ie x NH NH]
  have kQ:=fun g=>cv mp.1 g m1 m2;have kR:=fun g=>cv mp.2 g m3 m4;have nz:¬((n:Int)=0):=NH;obtain⟨x,hx⟩:∃x:Pr,x=(mp.1.tmod (n:Int),mp.2.tmod (n:Int)):=⟨_,rfl⟩;have kT:acB pG 49 [(0,.int .i64 (mp.1.tmod (n:Int))),(1,.int .i64 (mp.2.tmod (n:Int)))]=some (UI x):=by rw[hx];exact xe _ _
  obtain⟨h5,h6,q5,q6,l6,w6,o6,l5⟩:=new42b w4 x;have k4:=ld48 ((l3.trans l4).own _ _ o2);have k5:=ld48 (((l3.trans l4).trans l5).own _ _ o2);have k6:=ld48 (((l3.trans l4).trans l6).own _ _ o2);have j4:=(J h4 d).2.1;have j5:=(J h5 (d.trans l5)).2.1;have j6:=(J h6 (d.trans l6)).2.1
  have lE:∀g,Le h6 g->aaC pG g 49 ⟨h4.next,0,none⟩=some (UI x):=fun g l=>uM (l.own _ _ o6)
  generalize h4.next=E at*
  simp only[HO,seval,lw,dw];refine gh (fRn 0 13 (JQ 13 [] (JQ 14 [0,1,2,3,4,5,6,7,8,9,10,11,12,13] .done))) ?_;simp only[HO,seval,Qg,ua0,ua1,Ii,Ip,BS,k4.1,k4.2,k5.1,k5.2,k6.1,k6.2,j4,j5,j6,kQ,kR,nz,kT,q5,q6];have jr:=d.trans l6;have pe:∀g,Le h6 g->PR g ev es:=fun g l=>hp.le ((fh.trans l6).trans l);have L1:∀g,Le h6 g->aaC pG g 3 ⟨B,0,none⟩=some (.int .i64 (n:Int))/\aaC pG g 22 ⟨B,1,none⟩=some ev/\aaC pG g 49 ⟨E,0,none⟩=some (UI x):=fun g l=>⟨(J g (jr.trans l)).2.1,(J g (jr.trans l)).2.2,lE g l⟩;obtain⟨t,hL⟩:∃t,t=h6:=⟨_,rfl⟩;obtain⟨gz,hM⟩:∃gz,gz=h6:=⟨_,rfl⟩;have wz:WF gz:=hM▸w6;apply Ya (F:=fun(fr:aam)(h':aai)=>∃(Y:Nat)(m k:Int)(a:vV)(L:xLP),Fj fr [(10,wv),(11,(0:Int)),(13,pT (some Y)),(14,k)]/\
   Le t h'/\WF h'/\GP h' a L/\Z2 t a/\(∀g,Le h' g->aaC pG g 24 ⟨Y,0,none⟩=some (.agg #[m,a]))/\(k=0->m=(n:Int)/\YG (n:Int) (es++[x])/\L=sg (es++[x])))
  .intro cont;rw[<-hL]at pe L1;have lz:Le t gz:=by rw[hL,hM];exact Le.refl _
   rw[<-hM];refine gh (tA [0,1,2,3,5] (.ch 4 [3] (.ch 6 [5] (.ch 7 [4,6] (.ch 8 [1,7] (tA [9,10,11] (JQ 12 [] (JQ 13 [0,1,2,3,4,5,6,7,8,9,10,12] (tA [14] .done)))) (JQ 12 [] (JQ 8 [1,7] (tA [9,10,11] (JQ 13 [0,1,2,3,4,5,6,7,8,9,10,12] (tA [14] .done)))))) (JQ 12 [] (JQ 7 [4,6] (JQ 8 [1,7] (tA [9,10,11] (JQ 13 [0,1,2,3,4,5,6,7,8,9,10,12] (tA [14] .done))))))) (JQ 12 [] (JQ 6 [5] (JQ 7 [4,6] (JQ 8 [1,7] (tA [9,10,11] (JQ 13 [0,1,2,3,4,5,6,7,8,9,10,12] (tA [14] .done)))))))) (.ch 6 [5] (.ch 4 [3] (.ch 7 [4,6] (.ch 8 [1,7] (tA [9,10,11] (JQ 12 [] (JQ 13 [0,1,2,3,4,5,6,7,8,9,10,12] (tA [14] .done)))) (JQ 12 [] (JQ 8 [1,7] (tA [9,10,11] (JQ 13 [0,1,2,3,4,5,6,7,8,9,10,12] (tA [14] .done)))))) (JQ 12 [] (JQ 7 [4,6] (JQ 8 [1,7] (tA [9,10,11] (JQ 13 [0,1,2,3,4,5,6,7,8,9,10,12] (tA [14] .done))))))) (JQ 12 [] (JQ 4 [3] (JQ 7 [4,6] (JQ 8 [1,7] (tA [9,10,11] (JQ 13 [0,1,2,3,4,5,6,7,8,9,10,12] (tA [14] .done)))))))) (JQ 12 [] (.ch 4 [3] (JQ 6 [5] (JQ 7 [4,6] (JQ 8 [1,7] (tA [9,10,11] (JQ 13 [0,1,2,3,4,5,6,7,8,9,10,12] (tA [14] .done)))))) (JQ 6 [5] (JQ 4 [3] (JQ 7 [4,6] (JQ 8 [1,7] (tA [9,10,11] (JQ 13 [0,1,2,3,4,5,6,7,8,9,10,12] (tA [14] .done)))))))))))) ?_;have Sz:=L1 gz lz;obtain⟨cK,js,jt,jv,hD⟩:=afV wz x;have cM:=lz.trans jt;have kU:=L1 cK cM;obtain⟨cP,hN,cR,lT,cU⟩:=aeU jv;have b3:=cM.trans cR
   have hS:t.own cK.next=none:=cM.next jv (qL0 _)
   have hT:=hD.le cR;have jx:=L1 cP b3;obtain⟨hU,jA,jC,kW,cW⟩:=aeU wz;have cZ:=lz.trans jC
   have hE:t.own gz.next=none:=lz.next wz (qL0 _)
   have kX:=L1 hU cZ;obtain⟨c3,hV,c4,lW,hW⟩:=afV kW x;have b4:=cZ.trans c4;have c5:=c4.own _ _ cW;have jE:=L1 c3 b4;simp only[kJJ,seval,Qg,Ii,Di,Ip,BS,Sz,js,kU,hN,jx,jA,kX,hV,jE];refine⟨?_,⟨⟨?_,?_⟩,⟨?_,?_⟩⟩⟩
   .refine kGi qS25 (aes s ev es gz (pe gz lz) (tw_m f.len)) ?_;rintro cv c6 fi ⟨c9,lC,aC⟩;have fk:=lz.trans lC;have A:Z2 t cv:=fun b hb=>lz.none (aC b hb);have k3:=L1 c6 fk;obtain⟨aK,hX,da,b5,db⟩:=afV fi x;have b6:=fk.trans da;have bY:=c9.le da;have jG:=L1 aK b6;obtain⟨dd,S,fm,b8,de,fp,kf⟩:=bY.join b5 db (akR f.len);obtain⟨K,-⟩:=fp t b6 A;have hY:=L1 S K;obtain⟨b9,dg,aP,kh,aT⟩:=aeU de;have T:=K.trans aP
    have dj:t.own S.next=none:=K.next de (qL0 _)
    have dm:=b8.le aP;have fq:=L1 b9 T;obtain⟨hZ,fs,U,h0,ft⟩:=aeU b5;have dp:=b6.trans U
    have fv:t.own aK.next=none:=b6.next b5 (qL0 _)
    have fw:=bY.le U
    have fx:blk cv≠some aK.next:=fun e=>GS.Sy bY e ((Le.refl aK).next b5 (qL0 _))
    have fy:=db.le U;have ic:=L1 hZ dp;obtain⟨fC,cc,dq,dr,kj,dv,dy⟩:=fw.join h0 fy (akR f.len);obtain⟨V,-⟩:=dv t dp A;have aW:=(dy _ _ ft fx).1;have fJ:=L1 cc V;obtain⟨jH,ih,dz,jK,ij⟩:=aeU fi;have hF:=fk.trans dz
    have il:t.own c6.next=none:=fk.next fi (qL0 _)
    have iu:=c9.le dz
    have iv:blk cv≠some c6.next:=fun e=>GS.Sy c9 e ((Le.refl c6).next fi (qL0 _))
    have jO:=L1 jH hF;obtain⟨iz,fL,W,iA,fM⟩:=afV jK x;have dA:=hF.trans W;have fN:=iu.le W;have fP:=W.own _ _ ij;have iB:=L1 iz dA;obtain⟨fQ,cd,dB,dE,kk,dF,dH⟩:=fN.join iA fM (akR f.len);obtain⟨aa,-⟩:=dF t dA A;have aX:=(dH _ _ fP iv).1;have fR:=L1 cd aa;simp only[kJJ,seval,Qg,Ii,Di,Ip,BS,k3,hX,jG,fm,hY,dg,fq,fs,ic,dq,fJ,ih,jO,fL,iB,dB,fR];refine⟨⟨⟨?_,?_⟩,?_⟩,?_⟩
    .refine kGi qS9 (afI s (n:Int) dd _ S b8.pr (ahH f.len)) ?_;rintro y cf fS ⟨w,m,k,a,L,rfl,N,z,cN⟩;have H:=K.trans w;have fU:=L1 cf H;obtain⟨gE,gF,eE,eF,r,wF,oF,lE⟩:=newGo fS (n:=m) N.pr;have SE:=L1 gE (H.trans lE);have SF:=L1 gF (H.trans r);simp only[kJJ,seval,Qg,Ii,Di,Ip,BS,fU,SE,SF,eE,eF];refine KN.UJ fun fr' h' x y=>cont fr' h' ?_;rw[x,y]
     exact⟨cf.next,m,k,a,L,fD,H.trans r,wF,N.le r,fun b hb=>K.none (z b hb),fun q lq=>ldGo N.pr (lq.own _ _ oF),cN⟩
    .refine kGi qS9 (afI s (n:Int) dd _ b9 dm.pr (ahH f.len)) ?_;rintro y dI dJ ⟨w,m,k,a,L,rfl,N,z,cN⟩;have a6:=T.trans w;have dL:=L1 dI a6;obtain⟨gF,eF,r,wF,gL,ldF⟩:=akQ (n:=m) dJ (w.own _ _ aT) N (fun e=>by have:=z _ e;rw[aT]at this;cases this) a6 dj;have SF:=L1 gF r;simp only[kJJ,seval,Qg,Ii,Di,Ip,BS,dL,SF,eF];refine KN.UJ fun fr' h' x y=>cont fr' h' ?_;rw[x,y]
     exact⟨S.next,m,k,a,L,fD,r,wF,gL,fun b hb=>T.none (z b hb),ldF,cN⟩
    .refine kGi qS9 (afI s (n:Int) fC _ cc dr.pr (ahH f.len)) ?_;rintro y dM dO ⟨w,m,k,a,L,rfl,N,z,cN⟩;have a7:=V.trans w;have dQ:=L1 dM a7;obtain⟨gF,eF,r,wF,gL,ldF⟩:=akQ (n:=m) dO (w.own _ _ aW) N (fun e=>by have:=z _ e;rw[aW]at this;cases this) a7 fv;have SF:=L1 gF r;simp only[kJJ,seval,Qg,Ii,Di,Ip,BS,dQ,SF,eF];refine KN.UJ fun fr' h' x y=>cont fr' h' ?_;rw[x,y]
     exact⟨aK.next,m,k,a,L,fD,r,wF,gL,fun b hb=>V.none (z b hb),ldF,cN⟩
    .refine kGi qS9 (afI s (n:Int) fQ _ cd dE.pr (ahH f.len)) ?_;rintro y dS dT ⟨w,m,k,a,L,rfl,N,z,cN⟩;have a8:=aa.trans w;have dV:=L1 dS a8;obtain⟨gF,eF,r,wF,gL,ldF⟩:=akQ (n:=m) dT (w.own _ _ aX) N (fun e=>by have:=z _ e;rw[aX]at this;cases this) a8 il;have SF:=L1 gF r;simp only[kJJ,seval,Qg,Ii,Di,Ip,BS,dV,SF,eF];refine KN.UJ fun fr' h' x y=>cont fr' h' ?_;rw[x,y]
     exact⟨c6.next,m,k,a,L,fD,r,wF,gL,fun b hb=>aa.none (z b hb),ldF,cN⟩
   .refine kGi qS25 (aes s ev es cK (pe cK cM) (tw_m f.len)) ?_;rintro cv bh cg ⟨bZ,lC,aC⟩;have ck:=cM.trans lC;have A:Z2 t cv:=fun b hb=>cM.none (aC b hb);have dW:=hD.le lC;have jP:=L1 bh ck;obtain⟨ec,ae,fV,cm,ed,fW,kl⟩:=bZ.join cg dW (akR f.len);obtain⟨O,-⟩:=fW t ck A;have iD:=L1 ae O;obtain⟨cp,ee,bk,km,bm⟩:=aeU ed;have ai:=O.trans bk
    have ef:t.own ae.next=none:=O.next ed (qL0 _)
    have eg:=cm.le bk;have fY:=L1 cp ai;obtain⟨iE,fZ,aj,iF,ga⟩:=aeU cg;have eh:=ck.trans aj
    have gf:t.own bh.next=none:=ck.next cg (qL0 _)
    have gi:=bZ.le aj
    have gj:blk cv≠some bh.next:=fun e=>GS.Sy bZ e ((Le.refl bh).next cg (qL0 _))
    have gk:=dW.le aj;have iG:=L1 iE eh;obtain⟨gl,cq,ei,ej,kn,ek,en⟩:=gi.join iF gk (akR f.len);obtain⟨aq,-⟩:=ek t eh A;have bo:=(en _ _ ga gj).1;have gq:=L1 cq aq;simp only[kJJ,seval,Qg,Ii,Di,Ip,BS,jP,fV,iD,ee,fY,fZ,iG,ei,gq];refine⟨⟨?_,?_⟩,?_⟩
    .refine kGi qS9 (afI s (n:Int) ec _ ae cm.pr (ahH f.len)) ?_;rintro y cx gu ⟨w,m,k,a,L,rfl,N,z,cN⟩;have I:=O.trans w;have gy:=L1 cx I;obtain⟨gE,gF,eE,eF,r,wF,oF,lE⟩:=newGo gu (n:=m) N.pr;have SE:=L1 gE (I.trans lE);have SF:=L1 gF (I.trans r);simp only[kJJ,seval,Qg,Ii,Di,Ip,BS,gy,SE,SF,eE,eF];refine KN.UJ fun fr' h' x y=>cont fr' h' ?_;rw[x,y]
     exact⟨cx.next,m,k,a,L,fD,I.trans r,wF,N.le r,fun b hb=>O.none (z b hb),fun q lq=>ldGo N.pr (lq.own _ _ oF),cN⟩
    .refine kGi qS9 (afI s (n:Int) ec _ cp eg.pr (ahH f.len)) ?_;rintro y eo ep ⟨w,m,k,a,L,rfl,N,z,cN⟩;have br:=ai.trans w;have er:=L1 eo br;obtain⟨gF,eF,r,wF,gL,ldF⟩:=akQ (n:=m) ep (w.own _ _ bm) N (fun e=>by have:=z _ e;rw[bm]at this;cases this) br ef;have SF:=L1 gF r;simp only[kJJ,seval,Qg,Ii,Di,Ip,BS,er,SF,eF];refine KN.UJ fun fr' h' x y=>cont fr' h' ?_;rw[x,y]
     exact⟨ae.next,m,k,a,L,fD,r,wF,gL,fun b hb=>ai.none (z b hb),ldF,cN⟩
    .refine kGi qS9 (afI s (n:Int) gl _ cq ej.pr (ahH f.len)) ?_;rintro y et eu ⟨w,m,k,a,L,rfl,N,z,cN⟩;have bx:=aq.trans w;have ew:=L1 et bx;obtain⟨gF,eF,r,wF,gL,ldF⟩:=akQ (n:=m) eu (w.own _ _ bo) N (fun e=>by have:=z _ e;rw[bo]at this;cases this) bx gf;have SF:=L1 gF r;simp only[kJJ,seval,Qg,Ii,Di,Ip,BS,ew,SF,eF];refine KN.UJ fun fr' h' x y=>cont fr' h' ?_;rw[x,y]
     exact⟨bh.next,m,k,a,L,fD,r,wF,gL,fun b hb=>aq.none (z b hb),ldF,cN⟩
   .refine kGi qS25 (aes s ev es cP (pe cP b3) (tw_m f.len)) ?_;rintro cv iH iI ⟨gC,lC,aC⟩;have ey:=b3.trans lC;have A:Z2 t cv:=fun b hb=>b3.none (aC b hb);have gG:=hT.le lC;have gJ:=lC.own _ _ cU
    have gM:blk cv≠some cK.next:=fun e=>by have:=aC _ e;rw[cU]at this;cases this
    have iK:=L1 iH ey;obtain⟨gP,cz,eA,eB,kp,eC,eD⟩:=gC.join iI gG (akR f.len);obtain⟨ar,-⟩:=eC t ey A;have bB:=(eD _ _ gJ gM).1;have gR:=L1 cz ar;simp only[kJJ,seval,Qg,Ii,Di,Ip,BS,iK,eA,gR];refine kGi qS9 (afI s (n:Int) gP _ cz eB.pr (ahH f.len)) ?_;rintro y eG eH ⟨w,m,k,a,L,rfl,N,z,cN⟩;have bF:=ar.trans w;have eI:=L1 eG bF;obtain⟨gF,eF,r,wF,gL,ldF⟩:=akQ (n:=m) eH (w.own _ _ bB) N (fun e=>by have:=z _ e;rw[bB]at this;cases this) bF hS;have SF:=L1 gF r;simp only[kJJ,seval,Qg,Ii,Di,Ip,BS,eI,SF,eF];refine KN.UJ fun fr' h' x y=>cont fr' h' ?_;rw[x,y]
    exact⟨cK.next,m,k,a,L,fD,r,wF,gL,fun b hb=>ar.none (z b hb),ldF,cN⟩
   .refine kGi qS25 (aes s ev es hU (pe hU cZ) (tw_m f.len)) ?_;rintro cv jQ jR ⟨iL,lC,aC⟩;have hG:=cZ.trans lC;have A:Z2 t cv:=fun b hb=>cZ.none (aC b hb);have iM:=lC.own _ _ cW
    have iR:blk cv≠some gz.next:=fun e=>by have:=aC _ e;rw[cW]at this;cases this
    have jS:=L1 jQ hG;obtain⟨iS,gS,av,iT,gT⟩:=afV jR x;have eL:=hG.trans av;have gU:=iL.le av;have gV:=av.own _ _ iM;have iW:=L1 iS eL;obtain⟨gW,cC,eM,eO,kq,eP,eQ⟩:=gU.join iT gT (akR f.len);obtain⟨ay,-⟩:=eP t eL A;have bH:=(eQ _ _ gV iR).1;have gX:=L1 cC ay;simp only[kJJ,seval,Qg,Ii,Di,Ip,BS,jS,gS,iW,eM,gX];refine kGi qS9 (afI s (n:Int) gW _ cC eO.pr (ahH f.len)) ?_;rintro y eS eT ⟨w,m,k,a,L,rfl,N,z,cN⟩;have bI:=ay.trans w;have eU:=L1 eS bI;obtain⟨gF,eF,r,wF,gL,ldF⟩:=akQ (n:=m) eT (w.own _ _ bH) N (fun e=>by have:=z _ e;rw[bH]at this;cases this) bI hE;have SF:=L1 gF r;simp only[kJJ,seval,Qg,Ii,Di,Ip,BS,eU,SF,eF];refine KN.UJ fun fr' h' x y=>cont fr' h' ?_;rw[x,y]
    exact⟨gz.next,m,k,a,L,fD,r,wF,gL,fun b hb=>ay.none (z b hb),ldF,cN⟩
   .refine kGi qS25 (aes s ev es c3 (pe c3 b4) (tw_m f.len)) ?_;rintro cv iX iY ⟨gZ,lC,aC⟩;have eV:=b4.trans lC;have A:Z2 t cv:=fun b hb=>b4.none (aC b hb);have hc:=hW.le lC;have hj:=lC.own _ _ c5
    have hl:blk cv≠some gz.next:=fun e=>by have:=aC _ e;rw[c5]at this;cases this
    have iZ:=L1 iX eV;obtain⟨hv,cE,eW,e1,kr,e2,e7⟩:=gZ.join iY hc (akR f.len);obtain⟨az,-⟩:=e2 t eV A;have bN:=(e7 _ _ hj hl).1;have hC:=L1 cE az;simp only[kJJ,seval,Qg,Ii,Di,Ip,BS,iZ,eW,hC];refine kGi qS9 (afI s (n:Int) hv _ cE e1.pr (ahH f.len)) ?_;rintro y e8 e9 ⟨w,m,k,a,L,rfl,N,z,cN⟩;have bQ:=az.trans w;have fb:=L1 e8 bQ;obtain⟨gF,eF,r,wF,gL,ldF⟩:=akQ (n:=m) e9 (w.own _ _ bN) N (fun e=>by have:=z _ e;rw[bN]at this;cases this) bQ hE;have SF:=L1 gF r;simp only[kJJ,seval,Qg,Ii,Di,Ip,BS,fb,SF,eF];refine KN.UJ fun fr' h' x y=>cont fr' h' ?_;rw[x,y]
    exact⟨gz.next,m,k,a,L,fD,r,wF,gL,fun b hb=>az.none (z b hb),ldF,cN⟩
  rintro fr hw ⟨Y,m,k,a,L,bW,lw,w7,gL,aL,k7,hk⟩;simp only[Fj]at bW;obtain⟨k8,D,k9,jT,-⟩:=bW;rw[hL]at lw aL;have jU:=(fh.trans l6).trans lw;by_cases k0:k=0
  rotate_left
  .have dk:decide (k=0)=fF:=Sb k0;refine Sk (IX D jT @bne.eq_1.{0} hJ dk) ?_
   refine kCi qS27 (ahU s hw) ?_;rintro y h8 w8 ⟨rfl,l8⟩;refine Uy ?_;exact⟨trivial,jU.trans l8⟩
  subst k0;obtain⟨rfl,la,rfl⟩:=hk rfl;refine Sk (rE k8 D k9 jT @bne.eq_1.{0} hJ (k7 hw (Le.refl _))) ?_
  refine kCi akb (ahY s _ (.slice none 0 0) wv ⟨(n:Int),sg (es++[x])⟩ [] ws hw ⟨a,rfl,gL.pr⟩ (RN _) (jk.le (l6.trans lw))) ?_;rintro y h8 w8 ⟨⟨bb,rfl,cJ⟩,l8⟩;obtain rfl:bb=tT:=cJ.2 ⟨la.right,.inr ⟨jq,rfl,ky,fun p q=>less_mem f (kx.subset q)⟩⟩;refine Uy ?_;refine kCi qS27 (ahU s h8) ?_;rintro y h9 w9 ⟨rfl,l9⟩;refine Uy ?_;exact⟨trivial,(jU.trans l8).trans l9⟩
 have lb:decide (((([]:xLP).length:Nat):Int)>0)=fF:=by decide
 simp only[HO,seval,lw,lb];refine gh (tA [0,1,2,3,5,6,7] (JQ 4 [0,3] (JQ 8 [4,5,7] (tA [9,10] .done)))) ?_;refine CO (rE @Ii @Di @Ip.eq_1 @BS ((J h4 d).2.1) ((J h4 d).2.2) lP) ?_;refine kGi func27 (akP s at_ es.length e0 NH h4) ?_;rintro y h5 w5 ⟨⟨k,hk,rfl⟩,rfl⟩;refine CO (rE @Ii @Di @Ip.eq_1 @BS ((J h5 d).2.1) ((J h5 d).2.2) lP) ?_;refine kGi func27 (akP s vx n n0 NH h5) ?_;rintro y h6 w6 ⟨⟨u,hu,rfl⟩,rfl⟩;refine CO (rE @Ii @Di @Ip.eq_1 @BS ((J h6 d).2.1) ((J h6 d).2.2) lP) ?_;obtain⟨z1,z2,z3,z4,z5,z6,X,Z,ex,ez,e3,e4,e5,e6,gA,wA,gB,wB,y1,y2,y3,y5⟩:=GG.new w6 (n:Int);have Y1:=J z1 (d.trans y1);have Y2:=J z2 (d.trans y2);have Y3:=J z3 (d.trans y3);have Y5:=J z5 (d.trans y5);have Y4:=J z4 (d.trans gA.le);have Y6:=J z6 (d.trans gB.le);apply Ya (F:=fun(fr:aam)(hq:aai)=>∃X Z:Nat,Fj fr [(4,pT (some B)),(11,(0:Int)),(15,(k:Nat)),(16,(u:Nat)),(17,pT (some X)),(18,pT (some Z))]/\WF hq/\GG h6 hq X Z (n:Int) (.slice none 0 0) (.slice none 0 0) [] [])
 .intro cont;refine gh (fRn 0 6 (.ch 6 [] (JQ 7 [] (JQ 8 [0,1,2,6,7] (JQ 9 [0,1,2,3,4,5,6,7,8] .done))) (JQ 7 [] (JQ 6 [] (JQ 8 [0,1,2,6,7] (JQ 9 [0,1,2,3,4,5,6,7,8] .done)))))) ?_;simp only[kJJ,seval,Qg,Ii,Ip,BS,(J h6 d).2.1,Y1.2.1,Y2.2.1,Y3.2.1,Y4.2.1,Y5.2.1,Y6.2.1,ait,ex,ez,e3,e4,e5,e6];refine⟨?_,?_⟩
  .refine KN.UJ fun fr' h' x y=>cont fr' h' ?_;rw[x,y];exact⟨X,Z,fD,wA,gA⟩
  .refine KN.UJ fun fr' h' x y=>cont fr' h' ?_;rw[x,y];exact⟨Z,X,fD,wB,gB⟩
 clear Y1 Y2 Y3 Y4 Y5 Y6 y1 y2 y3 y5;clear gA gB wA wB ex ez e3 e4 e5 e6 X Z;clear z1 z2 z3 z4 z5 z6;rintro fr hq ⟨X,Z,bW,wq,gg⟩;simp only[Fj]at bW;obtain⟨f4,D,aD,aF,aH,aJ,-⟩:=bW;refine Sk (bG f4 @Di @Ip.eq_1 @BS ((J hq (d.trans gg.le)).2.2) lP) ?_;refine aab.intro (fun j fr hy=>∃(i:Nat)(lv gv:vV),j=es.length-i/\i<=es.length/\fr=mkF [(11,(0:Int)),(15,(k:Nat)),(16,(u:Nat)),(17,pT (some X)),(18,pT (some Z)),(101,ev),(102,(es.length:Nat)),(103,(i:Nat))]/\GG h6 hy X Z (n:Int) lv gv ((es.take i).eraseIdx k) (afb u (es.take i)))
  es.length [(11,(0:Int)),(15,(k:Nat)),(16,(u:Nat)),(17,pT (some X)),(18,pT (some Z)),(101,ev),(102,(es.length:Nat)),(103,(0:Nat))] (by simp only[Fj,HO,seval,D,aD,aF,aH,aJ];simp)
  ⟨0,_,_,rfl,Og _,rfl,by simpa[afb]using gg⟩ ?_
 clear f4 D aD aF aH aJ wq gg;clear fr hq;rintro j fr hy wy ⟨i,lv,gv,rfl,hi,rfl,gg⟩;have jV:=gg.le;refine Uy ?_;refine Kl.intro (fun ht=>?_) (fun hf=>?_)
 .have P:i<es.length:=acb ht;clear ht;have lf:=CA P;have s1:=less_step (k:=k) P;have s2:=gone_step (u:=u) P;have m1:=less_len (es:=es) (k:=k) (i:=i);have m2:=gone_len (es:=es) (u:=u) (i:=i);have ad:=hp.addr (k:=.i64) i P;have ld:=(hp.le (fh.trans jV)).load lf;generalize es[i]=p at*;obtain⟨h7,h8,q7,q8,l8,w8,oE⟩:=Ut wy p
  have nE:∀{b o},hy.own b=some o->hy.next≠b:=fun ho e=>by have:=wy.lt ho;omega
  have eX:=nE gg.gx.ox;have eZ:=nE gg.gz.ox
  have bl:blk lv≠some hy.next:=fun e=>by obtain⟨o,ho⟩:=VU.1 (GS.Sy gg.gx.gp e);exact nE ho rfl
  have bg:blk gv≠some hy.next:=fun e=>by obtain⟨o,ho⟩:=VU.1 (GS.Sy gg.gz.gp e);exact nE ho rfl
  have g8:=gg.up l8;clear nE
  generalize hy.next=E at*
  have ja:=aaa i NH;simp only[HO,seval,ad,ld,q7,q8];apply Ya (F:=fun(fr:aam)(t:aai)=>∃(b0:vV),Fj fr [(11,(0:Int)),(15,(k:Nat)),(16,(u:Nat)),(17,pT (some X)),(18,pT (some Z)),(20,pT (some E)),(101,ev),(102,(es.length:Nat)),(103,(i:Nat))]/\WF t/\GG h6 t X Z (n:Int) b0 gv ((es.take (i+1)).eraseIdx k) (afb u (es.take i))/\t.own E=some (.cells (xM p)))
  .intro cont;by_cases c:i=k
   .have dc:decide ((i:Int)=(k:Int))=tT:=qL7 NH;rw[WA c]at s1;rw[<-s1]at g8;simp only[kJJ,seval,Qg,bne,dc];refine KN.UJ fun fr' h' x y=>cont fr' h' ?_;rw[x,y];exact⟨lv,fD,w8,g8,oE⟩
   .have dc:decide ((i:Int)=(k:Int))=fF:=Sb NH;rw[Z6 c]at s1;obtain⟨b0,z4,z5,z6,e4,e5,e6,g9,w9,lg,-⟩:=g8.push w8 p NH oE eX bl;rw[<-s1]at g9;simp only[kJJ,seval,Qg,bne,dc,Di,Ip,BS,g8.gx.ld.2.2,uM oE,e4,e5,e6];refine KN.UJ fun fr' h' x y=>cont fr' h' ?_;rw[x,y];exact⟨b0,fD,w9,g9,lg⟩
  clear g8 w8 oE bl q7 q8 l8;rintro fr t ⟨b0,bW,wz,gz,oE⟩;simp only[Fj]at bW;obtain⟨D,aD,aF,aH,aJ,jb,Q,R,fc,-⟩:=bW;have L0:=lK oE;have L1:=HY oE;by_cases c:p.1=(u:Int)\/p.2=(u:Int)
  .rw[WA c]at s2;rw[<-s2]at gz;by_cases c1:p.1=(u:Int)
   .have d1:decide (p.1=(u:Int))=tT:=qL7 c1;simp only[HO,seval,D,aD,aF,aH,aJ,jb,Q,R,fc,Dh,Z0,Ip,BS,L0,L1,bne,d1,ja];exact tn (es.length-(i+1)) [(11,(0:Int)),(15,(k:Nat)),(16,(u:Nat)),(17,pT (some X)),(18,pT (some Z)),(101,ev),(102,(es.length:Nat)),(103,(i+1:Nat))] (JS P) (by simp only[Fj,HO,seval,D,aD,aF,aH,aJ,Q,R];simp)
     ⟨i+1,b0,gv,rfl,P,rfl,gz⟩
   .have d1:decide (p.1=(u:Int))=fF:=Sb c1;have d2:decide (p.2=(u:Int))=tT:=qL7 (c.resolve_left c1);simp only[HO,seval,D,aD,aF,aH,aJ,jb,Q,R,fc,Dh,Z0,Ip,BS,L0,L1,bne,d1,d2,ja];exact tn (es.length-(i+1)) [(11,(0:Int)),(15,(k:Nat)),(16,(u:Nat)),(17,pT (some X)),(18,pT (some Z)),(101,ev),(102,(es.length:Nat)),(103,(i+1:Nat))] (JS P) (by simp only[Fj,HO,seval,D,aD,aF,aH,aJ,Q,R];simp)
     ⟨i+1,b0,gv,rfl,P,rfl,gz⟩
  .rw[Z6 c]at s2;have d1:decide (p.1=(u:Int))=fF:=Sb fun e=>c (.inl e);have d2:decide (p.2=(u:Int))=fF:=Sb fun e=>c (.inr e);obtain⟨lh,z4,z5,z6,e4,e5,e6,g9,w9,-,-⟩:=gz.swap.push wz p NH oE eZ bg;rw[<-s2]at g9;simp only[HO,seval,D,aD,aF,aH,aJ,jb,Q,R,fc,Dh,Z0,Ip,BS,L0,L1,bne,d1,d2,Di,gz.gz.ld.2.2,uM oE,e4,e5,e6,ja];exact tn (es.length-(i+1)) [(11,(0:Int)),(15,(k:Nat)),(16,(u:Nat)),(17,pT (some X)),(18,pT (some Z)),(101,ev),(102,(es.length:Nat)),(103,(i+1:Nat))] (JS P) (by simp only[Fj,HO,seval,D,aD,aF,aH,aJ,Q,R];simp)
    ⟨i+1,b0,lh,rfl,P,rfl,g9.swap⟩
 have lj:es.length<=i:=vp hf;clear hf hi;rw[abe lj]at gg;have sL:(es.eraseIdx k).Sublist es:=aeA _ _;have sG:(afb u es).Sublist es:=Tn;have lk:=fh.trans jV;refine Sk gg.gx.ld.1 ?_;refine kCi ak1 (ahd s _ ⟨(n:Int),es.eraseIdx k⟩ hy gg.gx.gr) ?_;rintro x h7 w7 ⟨l7,C⟩;obtain⟨ll,ma,lp,mf,rfl,jZ,j0,-,j1⟩:=C.all (f.sub sL);obtain⟨rfl,lx⟩:=akS f sL hK j1;clear C j1;have je:=gg.up l7;refine Sk je.gz.ld.1 ?_;refine kCi ak1 (ahd s _ ⟨(n:Int),afb u es⟩ h7 je.gz.gr) ?_;rintro x h8 w8 ⟨l8,C⟩;obtain⟨ly,mg,lD,ml,rfl,j2,j7,-,ka⟩:=C.all (f.sub sG);obtain⟨rfl,lG⟩:=akS f sG hK ka;clear C ka;have jg:=je.up l8;have lI:=fun g=>j0.len g;have lJ:=fun g=>j7.len g;have lL:aaY .i64 (0+0)=0:=by decide
 have kb:aaY .i64 (((([]:xLP).length:Nat):Int)+((([]:xLP).length:Nat):Int))=0:=by decide
 refine Sk (bG lL hJ lI lJ kb jg.gx.ld.1) ?_;refine kCi akb (ahY s _ ll (.slice none 0 0) ⟨(n:Int),es.eraseIdx k⟩ lp [] h8 jg.gx.gr (jZ.le (Nn.RL Nn.RP) l8) (PR.nil _)) ?_;rintro x h9 w9 ⟨⟨bb,rfl,cJ⟩,l9⟩;obtain rfl:bb=tT:=cJ.2 lx;have kc:=jg.up l9;refine Sk kc.gz.ld.1 ?_;refine kCi akb (ahY s _ ly (.slice none 0 0) ⟨(n:Int),afb u es⟩ lD [] h9 kc.gz.gr (j2.le (Nn.RL Nn.RP) l9) (PR.nil _)) ?_;rintro x lO mq ⟨⟨bb,rfl,kd⟩,lQ⟩;obtain rfl:bb=tT:=kd.2 lG;refine Uy ?_;refine kCi qS27 (ahU s lO) ?_;rintro x mr mu ⟨rfl,lR⟩;refine Uy ?_;exact⟨trivial,((((lk.trans l7).trans l8).trans l9).trans lQ).trans lR⟩
end
section
open Go.Proofs Go.ChangeShapes Go.WideShapes Go.RowKit Go.ChangeAt
open Go.Proofs.YtnakkbhjoiheoaaGreat
def agL(b:LA)(v a:vV)(G:GM)(a1 a2:Int)(mp:Pr)(h:aai)(hg:GR h v G)(_:(Lit.int .i64 a1).wf=tT)(_:(Lit.int .i64 a2).wf=tT)(c:U2 a mp):
  AC pG b 6 [v,a1,a2,a] h fun x h'=>x=.bool tT/\Le h h':=ahr b v a G a1 a2 mp h hg c
def afX(os:Os)(started:os.Started)(H:Type)(enc:TypeId×vV->H):
  ReturnsInHanded {} Tryz.checked os 6 .any (Rows.planarLessSpec.pre6 enc pG Tryz.f6 Rows.planarLessRow.domain fF) (Rows.planarLessSpec.post enc pG Tryz.f6 fF tT fF fF):=by
 have own:ownKnob pG.godebug=Option.none:=Ji;have laidOut:laidOutB pG=tT:=Ji;refine returnsInHanded_of_change (C:=Tryz.checked) own started Ji func6
  (ChangeSpec.witness6 (enc:=enc) (C:=Tryz.checked) fF ⟨#[],#[.agg #[.int .i64 0,.slice Option.none 0 0],.int .i64 0,.int .i64 0,.agg #[.int .u8 0,.int .u8 0]],[]⟩ 8 Ji Ji Ji Ji) ?_
 intro W base args ds gs before c z A _;have a:∀(j:Nat) t v,Tryz.f6.params[j]?=Z t->args[j]?=Z v->vV.okWide pG W .any base t v:=c;have d:=z;obtain⟨p,q,i,I,rfl,J,K⟩:=z;have hA:DataW.TrodAll enc pG W 0 (fun _=>tT) tT Tryz.f6.params.toList args.toList ds p:=i;rw[Tryz.params6]at hA a;obtain⟨k,T,U,V,L,X,b,rfl,rfl,B,hA⟩:=trodAll_cons hA;obtain⟨D,w1,d1,e1,p1,q1,rfl,rfl,rfl,E,hA⟩:=trodAll_cons hA;obtain⟨F,w2,d2,e2,p2,q2,rfl,rfl,rfl,h2,hA⟩:=trodAll_cons hA;obtain⟨l,w3,d3,e3,M,q3,rfl,rfl,rfl,h3,hA⟩:=trodAll_cons hA;obtain⟨rfl,rfl,rfl⟩:=trodAll_nil hA;obtain rfl:args=#[k,D,F,l]:=by cases args;simp_all
 obtain⟨rfl,rfl⟩:=trodVars_none I;have⟨N,x0,m,n⟩:=afp (a 0 24 k rfl rfl) B (fun _=>⟨0,0,0⟩);obtain⟨x1,rfl,rfl,rfl,o⟩:=open_int Ac (a 1 3 D rfl rfl) E;obtain⟨G,rfl,rfl,rfl,r⟩:=open_int Ac (a 2 3 F rfl rfl) h2;have⟨O,P,s,u⟩:=open_u82 (a 3 48 l rfl rfl) h3 (fun _=>⟨0,0,0⟩);refine(agL (LA.of W) N O x0 x1 G P (MR W) n o r u [] (fun _=>⟨0,0,0⟩) W [k,x1,G,l] (Rel.start W _) ?_).mono ?_
 .exact .cons m (.cons (.flat rfl) (.cons (.flat rfl) (.cons s ((.nil _ _)))))
 .rintro e Q ⟨x,x',m',h',rfl,R,-,-,S,rfl,-⟩;obtain rfl:=S.YE;have hb:=R.below;have g:∀y∈L,y.block<W.heap.size:=fun y w=>d.lt y (by simp[w]);have h:∀y∈M,y.block<W.heap.size:=fun y w=>d.lt y (by simp[w]);have f:DataW.Trod enc pG Q W.heap.size (fun _=>fF) fF 4 (.bool tT) (.lit (.bool tT)) []:=⟨1,by simp[DataW.trod,vV.cells,AV]⟩;have b:=
   tcons (Below.trod laidOut Ji (agh Ji) B hb g) (tcons (Below.trod laidOut Ji (agh Ji) E hb Ma) (tcons (Below.trod laidOut Ji (agh Ji) h2 hb Ma) (tcons (Below.trod laidOut Ji (agh Ji) h3 hb h) (trodAll_mk0))))
  try simp only[agq,aiM]at b
  exact⟨_,rfl,_,_,_,[],_,[],d,trodAll_mk1 f,b,rfl,hb.frame _,fun e=>by cases e⟩
def planarLess_said:Rows.PlanarLessSaid:=
 OpenClaim.holds_of_wide 6 Tryz.f6 rfl rfl rfl rfl rfl rfl rfl ⟨rfl,rfl,rfl,rfl,rfl⟩ rfl rfl rfl rfl rfl Ji func6 Ji
  (agh Ji) (by unfold Func.isWrapper;first|(rw[WA iw];kernel_rfl)|(rw[Z6 iw];exact⟨rfl,rfl⟩))
  (fun os started H enc _=>afX os started H enc)
end
end Go.Fw
