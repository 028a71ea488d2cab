/- A text. -/
import Derived.Test.YtnakkbhjoiheoaaGreatFwLU1
set_option linter.all false
set_option maxRecDepth 99999
set_option maxHeartbeats 9999999
open Go.Proofs
open Option renaming some→Z,none→Y
open Bool renaming true→tT,false→fF
open List renaming replicate→rP,range→rG
open Go.Value renaming slice→sL,pointer→pT
open Go renaming Value→vV
open Go.Proofs.Tryz renaming prog→pG
open Go.Proofs.Tryz
open List
namespace Go.Fw
section
attribute [local irreducible] Kp MQ lU KO1 KO KN KX KE VK Kl ZJ TC aab
attribute [local irreducible] Jz JL vq cQ
variable {a b:Nat}
def stpP(h:a<b):b-(a+1)<b-a:=NH
def ajo(W0:LA)(b0 h:aai)(L n:Nat)(us:xLV)(rows:AM)(R:Rows b0 h L us rows)(aP:rows.length=n)(bv:vV)(b:xLP)(b1:PR b0 bv b)(O:aeo n b)(h2:2<=b.length)(hl:b.length<=594)(hn:n<=200)(aT:∀r∈rows,r.length<=1000):
  AC pG W0 35 [sL (Z L) n n,bv] h fun v h'=>(v=.bool fF/\¬XU n (eN n b)/\Le h h')\/(v=.bool tT/\ah0 n b/\∃m,m.length=n/\Rows b0 h' L m (aiC n rows b)):=by
 have hp:=b1.le R.le;have hR:=O.1.GD;have ll:=fun g=>hp.len g;refine AC.vF func35 ntmps35 results35 fun da=>?_;have d1:decide ((b.length:Int)=1)=fF:=IE NH;refine Sk (XC ll d1) ?_;obtain⟨rv,aW⟩:∃rv,rv=vV.slice (Z L) n n:=⟨_,rfl⟩;rw[<-aW];refine lIn (fun k fr hq=>∃(i:Nat)(sv:vV),k=b.length-i/\i<=b.length/\fr=mkF [(0,rv),(1,bv),(7,sv),(53,bv),(54,.int .i64 b.length),(55,.int .i64 i)]/\GI hq sv (adJ (b.take i))/\Le h hq/\Z2 h sv) ⟨0,_,rfl,aax _,rfl,GI.nil h,Le.refl _,fun b hb=>by simp[blk]at hb⟩ ?_;rintro k fr hq b2 ⟨i,sv,rfl,hi,rfl,g,lq,ap⟩;refine Uy ?_;refine Kl.intro (fun t=>?_) (fun hf=>?_)
 .have a:i<b.length:=acb t;clear t;have A:=CA a;have Q:b.take (i+1)=b.take i++[b[i]]:=XJ a;have hle:(adJ (b.take i)).length<=2000:=by rw[agu,zx];omega
  generalize b[i]=p at A Q;have ad:=hp.addr (k:=.i64) i a;have ld:=(hp.le lq).load A;have⟨db,h3,e2,e3,S,b3,o3⟩:=Ut b2 p;have m0:=lK o3;have m1:=HY o3;have l3:=lq.trans S;have⟨H,e4,l4,w4,o4⟩:=Tt b3 [p.1,p.2];have bs:=mkKI2 h3 p.1 p.2;rw[e4]at bs
  have r4:RL RP H (sL (Z h3.next) 2 2) [p.1,p.2]:=RL.Wh (RS.whole o4 rfl)
  obtain⟨jv,h6,e6,g6,w6,f6,-⟩:=GI.join ((g.le S).le l4) w4 r4 (by simp;omega);have⟨l6,aj⟩:=f6 h (l3.trans l4) ap;rw[<-agH,<-Q]at g6;simp only[HO,seval,ad,ld,e2,e3,Dh,Z0,Ip,EL,m0,m1,bs,e6,aaa i NH];exact lgA NH ⟨i+1,jv,rfl,a,rfl,g6,l6,aj⟩
 have C:b.length<=i:=vp hf;rw[abe C]at g;refine Uy ?_;refine kCi qS22 (VQ W0 g (by rw[agu];omega)) ?_;rintro x dc w2 ⟨rfl,g2,k2⟩;have b4:=k2 h lq ap;refine Uy ?_;refine kCi func58 (VY W0 g2 (by rw[OX,agu];omega)) ?_;rintro vv h3 w3 ⟨r3,b5,k3⟩;have S:=k3 h b4 ap;rw[adX hR]at r3;have av:Z2 h vv:=fun c hc=>ap c (by rw[<-b5];exact hc);have lv:=fun g=>r3.TA g;rw[y6]at lv;have dd:(aag n b).length<=200:=ff (OM _ _) (by simp;omega);have b6:(kz (aag n b)).Pairwise (·<·):=by unfold kz;rw[V3];exact(b7.filter _).imp fun h=>by omega
 have aX:(kz (aag n b)).Nodup:=b6.imp fun h=>by omega
 obtain⟨H,e4,l4,w4,o4⟩:∃H,h3.alloc (.map [])=H/\Le h3 H/\WF H/\H.own h3.next=Z (.map []):=⟨_,rfl,(Le.refl h3).alloc w3 _,w3.alloc _,aai.zT _ _⟩
 have nM:h3.own h3.next=Y:=(Le.refl h3).next w3 (qL0 _)
 simp only[HO,seval,lv,e4,qS37]
 generalize h3.next=M at*
 refine lIn (fun k fr y=>∃(i:Nat)(al:List (Int×Int)),k=(aag n b).length-i/\i<=(aag n b).length/\fr=mkF [(0,rv),(1,bv),(7,vv),(10,.map (Z M)),(74,vv),(75,.int .i64 (aag n b).length),(76,.int .i64 i)]/\
   y.own M=Z (.map (aie al))/\(∀(j:Nat) v,j<i->(kz (aag n b))[j]?=Z v->abo al v=Z (j:Int))/\Le h3 y) ⟨0,[],rfl,aax _,rfl,o4,fun j v T=>absurd T (aeA j),l4⟩ ?_
 clear o4 l4 e4 w4;clear H;rintro k fr y U ⟨i,al,rfl,hi,rfl,oM,a6,lz⟩;refine Uy ?_;refine Kl.intro (fun t=>?_) (fun hf=>?_)
 .have a:i<(aag n b).length:=acb t;clear t;have d:i<(kz (aag n b)).length:=by rw[y6];exact a
  have ad:=r3.DH i d;have ld:=(r3.le Nn.RP lz).Uc i d;have hv:=Gc d;generalize (kz (aag n b))[i]=v at hv ld;have st:=mapI_set oM v (i:Int);have aw:=aaa i NH;have l5:=lz.put (.map (aie (acs al v (i:Int)))) nM;have w5:=U.put (.map (aie (acs al v (i:Int)))) (U.lt oM);simp only[HO,seval,ad,ld,st,aw];refine lgA NH ⟨i+1,acs al v (i:Int),rfl,a,rfl,aai.Y3 _ _ _,fun j v' T V=>?_,l5⟩;rw[XR];by_cases e:j=i
  .subst e;rw[Sb (Option.some.inj (hv.symm.trans V))]
  .have:v≠v':=fun q=>e (by
    subst q;exact(qL169 (Ny.1 V).1 aX).1 (V.trans hv.symm))
   rw[WA this];exact a6 j v' NH V
 have C:(aag n b).length<=i:=vp hf;obtain rfl:i=(aag n b).length:=NH;clear C hf hi;have⟨h5,h6,e5,e6,l6,w6,nX,G0⟩:=GX.new U ((aag n b).length:Int);refine Sk (IX lv @ait e5 e6 ll) ?_;have aF:=S.trans lz
 have b8:y.own y.next=Y:=(Le.refl y).next U (qL0 _)
 generalize y.next=X at*
 refine lIn (fun k fr hy=>∃(i:Nat)(ev:vV),k=b.length-i/\i<=b.length/\fr=mkF [(0,rv),(7,vv),(10,.map (Z M)),(13,pT (Z X)),(88,bv),(89,.int .i64 b.length),(90,.int .i64 i)]/\GX hy X (aag n b).length ev (aat n b|>.take i)/\Le y hy/\Z2 y ev) ⟨0,_,rfl,aax _,rfl,G0,l6,fun b hb=>by simp[blk]at hb⟩ ?_;clear G0 w6 l6 e6 e5;rintro k fr hy b9 ⟨i,ev,rfl,hi,rfl,G,J,az⟩;refine Uy ?_;refine Kl.intro (fun t=>?_) (fun hf=>?_)
 .have a:i<b.length:=acb t;clear t;have A:=CA a;have cc:(aat n b)[i]?=Z ((abD n b b[i].1:Int),(abD n b b[i].2:Int)):=by rw[aat,Q4,A];rfl
  have Q:(aat n b).take (i+1)=(aat n b).take i++[((abD n b b[i].1:Int),(abD n b b[i].2:Int))]:=by rw[To,cc];rfl
  have a8:((aat n b).take i).length+1<=100000:=by rw[zx];omega
  have cd:=BS A;have s:∀x,aO b[i] x=tT->abo al x=Z (abD n b x:Int):=fun x hx=>by
   have:x∈kz (aag n b):=by rw[<-adX hR,jn,Wv,aeS];exact⟨_,cd,hx⟩
   have⟨j,T⟩:=Og.1 this;have bb:=(Ny.1 T).1;rw[y6]at bb;rw[a6 j x bb T,<-idx_eq T]
  have cf:=s b[i].1 (by simp[aO]);have cg:=s b[i].2 (by simp[aO]);generalize b[i]=p at*;have ad:=hp.addr (k:=.i64) i a;have ld:=(hp.le (aF.trans J)).load A;have⟨de,h6,e6,s6,l6,w6,o6⟩:=Ut b9 p;have m0:=lK o6;have m1:=HY o6;have aw:=aaa i NH;have bg:=(J.trans l6).own _ _ oM;have k1:=aiO bg p.1 fF;have k2:=aiO bg p.2 fF;rw[cf]at k1;rw[cg]at k2;simp only[cond_false,aj9]at k1 k2;have G6:=G.le l6;obtain⟨v',g4,g5,g6,q4,q5,q6,G7,dg,l7,f7,-⟩:=G6.push' w6 ((abD n b p.1:Int),(abD n b p.2:Int)) a8;have⟨ck,a7⟩:=f7 y (J.trans l6) b8 az;rw[<-Q]at G7;have cm:=xe (abD n b p.1:Int) (abD n b p.2:Int);simp only[HO,seval,ad,ld,e6,s6,Dh,Z0,Di,Ip,EL,m0,m1,k1,k2,G6.ld.2.2,cm,q4,q5,q6,aw];exact lgA NH ⟨i+1,v',rfl,a,rfl,G7,ck,a7⟩
 have C:b.length<=i:=vp hf;have a8:(aat n b).length=b.length:=by simp[aat]
 rw[abe NH]at G;have D:=aF.trans J;have Ry:=R.up D;have⟨cp,bh,cq⟩:=Ry.blks;have ay:∀c∈L::us.filterMap blk,h.own c≠Y:=R.blks.2.1;have cx:∀c,blk ev=Z c->c∉L::us.filterMap blk:=fun c hc s=>by have h1:=az c hc;have⟨o,P⟩:=uV.1 (ay c s);rw[aF.own _ _ P]at h1;cases h1
 have cz:∀c∈L::us.filterMap blk,blk vv≠Z c:=fun c s hc=>ay c s (av c hc);have bk:=GS.Fi G.gp cx;refine Sk G.ld.1 ?_;refine kCi func59 (AC.side (L::us.filterMap blk) hy _ bh cp (Im W0 _ ⟨((aag n b).length:Int),aat n b⟩ (rem (L::us.filterMap blk) hy) ⟨ev,rfl,GP.pr bk,GS.okc bk⟩)) ?_;rintro x h9 w9 ⟨W,⟨lr,ov,e,rfl,I⟩,l9,aH⟩;have bm:Le h h9:=by
  refine⟨?_,fun c o P=>?_⟩
  .have e1:=l9.ext;have e2:=lr.ext;rw[e1,e2,vL];exact D.ext
  .by_cases s:c∈L::us.filterMap blk
   .rw[(aH c s).2];exact D.own _ _ P
   .exact l9.own _ _ (lr.own _ _ (Th.2 ⟨D.own _ _ P,s⟩))
 have bo:e≠0->¬XU n (eN n b):=fun he hP=>by obtain⟨rs,-,-,-,q,-⟩:=I.XK (ad6 O.1) (O.two h2) ((afA hR).2 hP);exact he q
 by_cases he:e=0
 rotate_left
 .have d0:decide (e=0)=fF:=IE he;refine Sk (XC @bne.eq_1.{0} d0) ?_
  exact .inl ⟨trivial,bo he,bm⟩
 subst he;obtain⟨rs,hX,hG,hF,aJ⟩:∃rs,ajk (aag n b).length (aat n b)=Z rs/\Av (aag n b).length (aat n b) rs/\Flat (aag n b).length (Xl rs)/\RL (RL RP) W ov rs:=by
  rcases I with⟨-,q,-⟩|⟨-,-,q,-⟩|⟨-,-,-,-,q,-⟩|⟨-,-,rs,q1,q2,q3,-,q4⟩
  .omega
  .omega
  .omega
  .exact⟨rs,q1,q2,q3,q4⟩
 have BR:=O.rowMany h2 hX hG hF;have R9:=Ry.over l9 aH;have aa:RL RP W vv (kz (aag n b)):=(RL.remK (r3.le Nn.RP (lz.trans J)) cz).le Nn.RP lr;have cC:rs.length=(aag n b).length:=hG.len;have cE:=fun g=>aJ.qP6 g;have d0:decide ((0:Int)=0)=tT:=by decide
 have cJ:Le b0 W:=by
  refine⟨?_,fun c o P=>?_⟩
  .rw[lr.ext,vL,D.ext];exact R.le.ext
  .have s:c∉L::us.filterMap blk:=fun s=>by rw[cq c s]at P;cases P
   exact lr.own _ _ (Th.2 ⟨D.own _ _ (R.le.own _ _ P),s⟩)
 have cK:∀(i:Nat) j,j∈rs.getD i []->0<=j/\j<((aag n b).length:Int):=fun i j T=>by obtain⟨-,w,rfl,hw,-⟩:=hG.nat (ad6 O.1).GD T;omega
 have K:∀i,(rs.getD i []).length<=200:=fun i=>by
  by_cases hi:i<(aag n b).length
  .have s:=hG.jD (ad6 O.1).GD (ad6 O.1).q9;have nd:=s.nd i;have:=tf nd (B:=rG (aag n b).length) fun w hw=>Db.2 (s.lt w i (s.sy i w hw));rw[ag4]at this;have e2:(Xl rs i).length=(rs.getD i []).length:=by simp[Xl]
   omega
  .rw[Eh,Qn NH];simp
 refine Sk (xU @bne.eq_1.{0} d0 cE cC) ?_
 have cM:b.length≠1:=NH;have z:=stR_start (b:=b) (rs:=rs) aP;have br:Rows W h9 L us (stR n rows b rs 0 0):=by rw[z];exact R9
 have aK:∀i k,∀r∈stR n rows b rs i k,r.length<=1200:=fun i k r hr=>by
  obtain⟨v,hv,rfl⟩:=si.1 hr;rw[aaf,vg];have h1:(rows.getD v []).length<=1000:=by
   rw[Eh];cases y:rows[v]? with
   |none=>simp
   |some r=>exact aT r (BS y)
  have h2:(if v∈aag n b then(if abD n b (v:Int)<i then rs.getD (abD n b (v:Int)) []else if abD n b (v:Int)=i then(rs.getD i []).take k else[])else[]).length<=200:=by
   split
   .split
    .exact K _
    .split
     .rw[zx];have:=K i;omega
     .simp
   .simp
  omega
 have bx:us.length=n:=by rw[R.len];exact aP
 refine lIn (fun k fr y=>∃(i:Nat)(us:xLV),k=(aag n b).length-i/\i<=(aag n b).length/\fr=mkF [(0,rv),(7,vv),(116,ov),(117,.int .i64 (aag n b).length),(118,.int .i64 i)]/\us.length=n/\Rows W y L us (stR n rows b rs i 0)) ⟨0,us,rfl,aax _,rfl,bx,br⟩ ?_;clear br R9 bx z aH l9 w9 bm;clear h9;rintro k fr bB bF ⟨i,m,rfl,hi,rfl,E,Rz⟩;refine Uy ?_;refine Kl.intro (fun t=>?_) (fun hf=>?_)
 rotate_left
 .have C:(aag n b).length<=i:=vp hf;obtain rfl:i=(aag n b).length:=NH;rw[stR_end cM hX]at Rz;refine Uy ?_;exact .inr ⟨trivial,BR,m,E,Rz.base cJ⟩
 have a:i<(aag n b).length:=acb t;clear t;have aL:i<rs.length:=NH;have cN:=aJ.qP7 i aL;have⟨cv,ae,cP⟩:=aJ.loadS Mb rfl i aL;have cR:rs.getD i []=rs[i]:=by rw[Eh,Gc aL];rfl
 rw[<-cR]at ae;have cU:=fun g=>ae.TA g;have cW:=aaa i NH;have d:i<(kz (aag n b)).length:=by rw[y6];exact a
 have cZ:=aa.DH i d;have ai:=fun g (l:Le W g)=>(aa.le Nn.RP l).Uc i d;have c0:=CA a;have c3:(kz (aag n b))[i]=(((aag n b)[i]:Nat):Int):=by simp[kz]
 rw[c3]at ai;have aq:(aag n b)[i]<n:=(aeT.1 (aev a)).1;generalize (aag n b)[i]=w at*;have bH:=Rows.ix (n:=n) L .i64 w aq;rw[<-aW]at bH;refine Sk (Yb cN (cP bB Rz.le) cU) ?_;refine lIn (fun k fr hy=>∃(j:Nat)(us:xLV),k=(rs.getD i []).length-j/\j<=(rs.getD i []).length/\fr=mkF [(0,rv),(7,vv),(18,.int .i64 i),(116,ov),(117,.int .i64 (aag n b).length),(118,.int .i64 i),(123,cv),(124,.int .i64 (rs.getD i []).length),(125,.int .i64 j)]/\us.length=n/\Rows W hy L us (stR n rows b rs i j)) ⟨0,m,rfl,aax _,rfl,E,Rz⟩ ?_;clear Rz E bF;clear m bB;rintro k fr N bI ⟨j,m,rfl,T,rfl,E,F⟩;refine Uy ?_;refine Kl.intro (fun t=>?_) (fun hf=>?_)
 rotate_left
 .have C:(rs.getD i []).length<=j:=vp hf;obtain rfl:j=(rs.getD i []).length:=NH;rw[stR_next]at F;refine Sk cW ?_;exact lgA (stpP a) ⟨i+1,m,rfl,a,rfl,E,F⟩
 have f:j<(rs.getD i []).length:=acb t;clear t;have adc:=ae.DH j f;have bN:=fun g (l:Le W g)=>(ae.le Nn.RP l).Uc j f;have bQ:=Gc f;have aC:=cK i _ (aev f);generalize (rs.getD i [])[j]=x at bQ aC bN;obtain⟨x,rfl⟩:=qL7 aC.1;have bW:x<(aag n b).length:=NH;have aD:x<(kz (aag n b)).length:=by rw[y6];exact bW
 have c4:=aa.DH x aD;have ar:=fun g (l:Le W g)=>(aa.le Nn.RP l).Uc x aD;have bY:(kz (aag n b))[x]=aiD n b (x:Int):=by unfold aiD;rw[yM,Eh,Gc bW];simp[kz]
 rw[bY]at ar;have c5:=aaa j (by have:=K i;omega);have hlen:(stR n rows b rs i j).length=n:=ahF;have aN:=CA (show w<(stR n rows b rs i j).length by rw[hlen];exact aq);have c6:(stR n rows b rs i j)[w]'(by rw[hlen];exact aq)=(stR n rows b rs i j).getD w []:=by rw[Eh,Gc (by rw[hlen];exact aq)];rfl
 rw[c6]at aN;have bZ:((stR n rows b rs i j).getD w []).length<=100000:=by have:=aK i j _ (BS aN);omega
 obtain⟨u,u',H,h5,h6,hu,e4,e5,e6,l4,l5,c9,R6,w6,-⟩:=F.push bI aN (aiD n b (x:Int)) bZ;rw[stR_step c0 bQ]at R6;have bs:=DQ N (aiD n b (x:Int));rw[e4]at bs;have J:=F.le;have lu:∀g:aai,g.own L=Z (.cells m)->aaC pG g 28 ⟨L,w,Y⟩=Z u:=fun g P=>by rw[Fq Mb rfl P];exact hu
 simp only[HO,seval,adc,bN N J];refine gh (fRn 0 16 (JQ 16 [15] (JQ 17 [11,16] (tA [18] (JQ 19 [0,1,2,3,4,5,6,7,8,9,10,11,12,13,14,15,16,17,18] .done))))) ?_;simp only[HO,seval,Qg,bH,cZ,ai N J,ai H (J.trans l4),ai h5 l5,c4,ar N J,ar H (J.trans l4),ar h5 l5,lu N F.oL,lu H (l4.own _ _ F.oL),lu h5 c9,bs,e5,e6,c5];exact lgA (stpP f) ⟨j+1,_,rfl,f,rfl,by simpa using E,R6⟩
def ajK(i:LA)(b0 h:aai)(L n:Nat)(us:xLV)(rows:AM)(R:Rows b0 h L us rows)(a:rows.length=n)(bv:vV)(b:xLP)(f:PR b0 bv b)(O:aeo n b)(s:b.length<=594)(t:n<=200)(d:∀r∈rows,r.length<=1000):
  AC pG i 35 [sL (Z L) n n,bv] h fun v h'=>(v=.bool fF/\¬XU n (eN n b)/\Le h h')\/(v=.bool tT/\ah0 n b/\∃c,c.length=n/\Rows b0 h' L c (aiC n rows b)):=by
 have hR:=O.1.GD;by_cases o:b.length=1
 rotate_left
 .have A:0<b.length:=kS.2 O.2.1;exact ajo i b0 h L n us rows R a bv b f O NH s t d
 have u:=O.rowOne o;obtain⟨p,rfl⟩:=ahI.1 o;have⟨a1,a2,w⟩:=hR p Ma;have⟨B,z⟩:=p;simp only at a1 a2 w;obtain⟨x,rfl⟩:=qL7 a1;obtain⟨y,rfl⟩:=qL7 (show 0<=z by omega);have ne:x≠y:=NH;refine(ajI i b0 h L n us rows R a bv x y f NH NH ne d).mono ?_;rintro v h' ⟨rfl,c,j,R'⟩;refine .inr ⟨rfl,u,c,j,?_⟩;have e:(rows.set x (rows.getD x []++[(y:Int)])).set y (rows.getD y []++[(x:Int)])=aiC n rows [((x:Int),(y:Int))]:=by
  refine EH fun v=>?_;by_cases k:v<n
  .have g:(aiC n rows [((x:Int),(y:Int))])[v]?=Z (rows.getD v []++ag2 n [((x:Int),(y:Int))] v):=by simp[aiC,k]
   rw[g,K4,WZ,K4];unfold ag2;rw[Sb (show[((x:Int),(y:Int))].length=1 from rfl)];simp only[qL209,Int.natCast_inj];by_cases c1:y=v
   .subst c1;have c2:¬y=x:=fun q=>ne q.symm;simp[c2,a,k]
   .by_cases c2:x=v
    .subst c2;simp[c1,a,k]
    .have l:¬v=y:=fun q=>c1 q.symm;have m:¬v=x:=fun q=>c2 q.symm;simp only[c1,c2,l,m,if_false,ag1];rw[Eh,Gc NH];rfl
  .rw[Qn (by simp;omega),Qn (by rw[addR_len];omega)]
 rw[<-e];exact R'
variable {es:List Pr} {i n:Nat}
def certM_nil(n:Nat):ag3 n []=rP n []:=by
 refine EH fun v=>?_;by_cases a:v<n
 .simp[ag3,a]
 .rw[Qn (by rw[aic];omega),Qn (by simp;omega)]
def ajL(n:Nat)(pre:List xLP)(b:xLP):ag3 n (pre++[b])=aiC n (ag3 n pre) b:=by unfold aiC;refine Uz fun v a=>?_;rw[aiB (Db.1 a)];simp
def ajM(m:bX ⟨(n:Int),es⟩)(h:∀(j:Nat) b,j<i->(vq n es)[j]?=Z b->ah0 n b):∀r∈ag3 n ((vq n es).take i),r.length<=n:=by
 have hR:=m.GD;have⟨c,o⟩:=ahE (cQ n es) _ es rfl;have eb:vq n es=(CY (cQ n es) es).map fun k=>abb n es k:=aaB n es;have e:∀k∈(CY (cQ n es) es).take i,abb n es k∈vq n es/\ah0 n (abb n es k):=fun k e=>by
  have⟨j,d⟩:=Og.1 e;rw[Dj]at d;split at d
  .rename_i f;have hb:(vq n es)[j]?=Z (abb n es k):=by rw[eb,Q4,d];rfl
   exact⟨BS hb,h j _ f hb⟩
  .cases d
 obtain⟨g,-,-⟩:=catN_ok m _ (c.sublist (List.take_sublist i _)) e;intro r l;obtain⟨v,q,rfl⟩:=si.1 l;have nd:=g.nd v;have:=tf nd (B:=rG n) fun w hw=>Db.2 (g.lt w v (g.sy v w hw));rw[ag4]at this;refine ff (Nat.le_of_eq ?_) this;rw[eb,<-qL260,qL235];generalize (CY (cQ n es) es).take i=L
 induction L with
 |nil=>rfl
 |cons a L p=>rw[y5,y5,aaf,aaf,p];simp[acr]
def ah0.alx{b:xLP}(B:ah0 n b)(hR:aV n b):XU n (eN n b):=⟨acr n b,B.Rl,B.flat,fun v w=>by rw[B.mem,vD hR]⟩
def aiE(G:GM)(h':aai)(x:vV):Prop:=
 (¬bX G/\x=.tuple #[.slice Y 0 0,.slice Y 0 0,.int .i64 20])\/
 (bX G/\aak G.n.toNat G.es/\∃b,x=.tuple #[b,.slice Y 0 0,.int .i64 0]/\RL (RL RP) h' b (ag3 G.n.toNat (vq G.n.toNat G.es))/\Av G.n.toNat G.es (ag3 G.n.toNat (vq G.n.toNat G.es))/\Flat G.n.toNat (Xl (ag3 G.n.toNat (vq G.n.toNat G.es))))\/
 (bX G/\¬aak G.n.toNat G.es/\∃a,x=.tuple #[.slice Y 0 0,a,.int .i64 0]/\PR h' a (abv G)/\Ct a (abv G).length)
def ahd(A:LA)(v:vV)(G:GM)(h:aai)(hg:GR h v G):
  AC pG A 14 [v] h fun x h'=>Le h h'/\aiE G h' x:=by
 have o:=hg;have⟨K,es⟩:=G
 obtain⟨ev,rfl,hp⟩:=hg.open
 refine AC.vF qS23 ntmps14 results14 fun M=>?_;obtain⟨h1,b1,f,ay,-,I⟩:=r8 (n:=K) M hp
 generalize h.next=B at*
 have N:=I h1 (Le.refl _);refine Sk (XC b1 N.1) ?_;refine kCi qS6 (ak A _ ⟨K,es⟩ h1 (o.le f)) ?_;rintro x h2 w2 ⟨⟨bb,rfl,s⟩,l2⟩;cases bb with
 |false=>refine Uy ?_;exact⟨f.trans l2,.inl ⟨(fun q=>by cases s.2 q),rfl⟩⟩
 |true=>
 have d:=s.1 rfl;clear s;have h0:0<=K:=d.n0;obtain⟨n,rfl⟩:=qL7 h0;have Q:(n:Int)<=200:=d.n1;refine Sk ((I h2 l2).1) ?_;refine kCi func34 (Cw A _ ⟨(n:Int),es⟩ h2 (o.le (f.trans l2))) ?_;rintro x h3 w3 ⟨l3,⟨u,-⟩|⟨-,bv,rfl,hB⟩⟩
 .exact absurd d u
 have l:=l2.trans l3;simp only[yM]at hB;have d0:decide ((0:Int)=0)=tT:=by decide
 have mk:abl pG h3 26 (.int .i64 (n:Int)) (.int .i64 (n:Int))=Z (sL (Z h3.next) n n,h3.alloc (.cells (rP n (.slice Y 0 0)))):=Ye (P:=pG) (t:=26) (z:=.slice Y 0 0) h3 qS19 Ji rfl rfl rfl Ji Mb Ji n NH
 have⟨h4,e4,l4,w4,o4⟩:=Tt w3 (rP n (.slice Y 0 0));rw[e4]at mk
 have nL:h3.own h3.next=Y:=(Le.refl h3).next w3 (qL0 _)
 have A3:=I h3 l;have lB:=fun g=>hB.len (P:=pG) alD g;have R0:=Rows.start (b0:=h3) o4 l4 nL
 generalize h3.next=L at*
 have az:=afx n es;have C:=d.len;simp only at C;simp only[HO,seval,bne,d0,Ii,Ip,EL,A3.2.1,mk,lB];clear e4 mk o4;refine lIn (fun k fr J=>∃(i:Nat)(us:xLV),k=(vq n es).length-i/\i<=(vq n es).length/\fr=mkF [(1,pT (Z B)),(7,sL (Z L) n n),(26,bv),(27,.int .i64 (vq n es).length),(28,i)]/\
   us.length=n/\Rows h3 J L us (ag3 n ((vq n es).take i))/\∀(j:Nat) b,j<i->(vq n es)[j]?=Z b->ah0 n b) ⟨0,rP n (.slice Y 0 0),rfl,aax _,rfl,qL206,by rw[ame,certM_nil];exact R0,fun j b D=>absurd D (aeA j)⟩ ?_
 clear R0 l4 w4;clear h4;rintro k fr J aC ⟨i,us,rfl,hi,rfl,S,R,m⟩;refine Uy ?_;refine Kl.intro (fun ht=>?_) (fun hf=>?_)
 rotate_left
 .have T:(vq n es).length<=i:=vp hf;rw[abe T]at R;have E:∀b∈vq n es,ah0 n b:=fun b hb=>by
   have⟨j,D⟩:=Og.1 hb;exact m j b (by have:=(Ny.1 D).1;omega) D
  have⟨c1,c2⟩:=cert_ok d E;have w:aak n es:=(acp d).2 fun b hb=>(aem (aaQ d hb)).2 ((E b hb).alx (aaQ d hb).1.GD);refine Uy ?_;exact⟨(f.trans l).trans R.le,.inr (.inl ⟨d,w,_,rfl,R.rl S,c1,c2⟩)⟩
 have a:i<(vq n es).length:=acb ht;clear ht;have U:=CA a;have O:=aaQ d (aev a);have V:(vq n es)[i].Sublist es:=by obtain⟨p,-,e⟩:=aaP.1 (aev a);rw[e];exact ajm _
 have W:=hB.addr (P:=pG) alD eY Ji (k:=.i64) i a;have⟨xb,pb,X⟩:=hB.loadS eY rfl i a;have aa:(vq n es).take (i+1)=(vq n es).take i++[(vq n es)[i]]:=XJ a;have ae:(vq n es)[i].length<=594:=ff V.length_le C;have ai:=ajM d m;have aj:(vq n es)[i]∈vq n es:=aev a;generalize (vq n es)[i]=b at*;have aw:=aaa i NH;refine Sk (XC W (X J R.le)) ?_;refine kCi func35 (ajK A h3 J L n us _ R (aic _ _) xb b pb O ae NH (fun r aq=>by have:=ai r aq;omega)) ?_;rintro x h5 w5 (⟨rfl,ar,l5⟩|⟨rfl,BR,av,F,R'⟩)
 .have w:¬aak n es:=fun q=>ar ((aem O).1 ((acp d).1 q b aj));have y:=R.le.trans l5;refine Sk ((I h5 (l.trans y)).1) ?_;refine kCi func36 (KFind_any A _ ⟨(n:Int),es⟩ h5 (o.le (f.trans (l.trans y)))) ?_;rintro x h6 w6 ⟨l6,⟨u,-⟩|⟨-,lv,rfl,pl,ct⟩⟩
  .exact absurd d u
  refine Uy ?_;exact⟨(f.trans (l.trans y)).trans l6,.inr (.inr ⟨d,w,lv,rfl,pl,ct⟩)⟩
 .rw[<-ajL,<-aa]at R';simp only[HO,seval,aw];exact lgA (stpP a) ⟨i+1,av,rfl,a,rfl,F,R',fun j c D H=>by
    by_cases e:j=i
    .subst e;rw[U]at H;injection H with H;rw[<-H];exact BR
    .exact m j c NH H⟩
end
section
attribute [local instance] Classical.propDecidable
attribute [local irreducible] Kp MQ lU KO1 KO KN KX KE VK Kl ZJ TC aab
variable {es:List Pr}
def ajH(h:aaz es≠0):bX ⟨200,es⟩:=j9 fun q=>h (WA q)
def CertG(G:GM)(rs:AM)(ps:xLP):Prop:=bX G/\((ps=[]/\Av G.n.toNat G.es rs/\z8 G.n.toNat G.es rs)\/(ps≠[]/\rs=[]/\aaz ps≠0/\∀p∈ps,p∈G.es))
def ahY(s:LA)(v z y:vV)(G:GM)(rs:AM)(ps:xLP)(h:aai)(hg:GR h v G)(R:RL (RL RP) h z rs)(hw:PR h y ps):
  AC pG s 19 [v,z,y] h fun x h'=>RR (CertG G rs ps) x/\Le h h':=by
 have u:=hg;have⟨A,es⟩:=G
 obtain⟨ev,rfl,S⟩:=hg.open
 refine AC.vF akW ntmps19 results19 fun C=>?_;obtain⟨D,b1,a,aa,-,F⟩:=r8 (n:=A) C S
 generalize h.next=B at*
 have lR:=fun g=>R.qP6 g;have T:=fun g=>hw.len g;refine Sk (XC b1 ((F D (Le.refl _)).1)) ?_;refine kCi qS6 (ak s _ ⟨A,es⟩ D (u.le a)) ?_;rintro x h2 w2 ⟨⟨H,rfl,j⟩,l2⟩;cases H with
 |false=>refine Uy ?_;exact⟨.f (fun q=>by cases j.2 q.1),a.trans l2⟩
 |true=>
 have U:=j.1 rfl;clear j;have b:=a.trans l2;refine Sk T ?_;by_cases r:ps=[]
 .subst r;have d:decide (((([]:xLP).length:Nat):Int)=0)=tT:=by decide
  refine Sk (XC d ((F h2 l2).1)) ?_;refine kCi func24 (Plane_any s _ z ⟨A,es⟩ rs h2 (u.le b) (R.le (Nn.RL Nn.RP) b)) ?_;rintro x h3 w3 ⟨⟨H,rfl,j⟩,l3⟩;refine Uy ?_;refine⟨⟨H,rfl,j.trans ⟨fun q=>⟨q.1,.inl ⟨rfl,q.2⟩⟩,fun q=>⟨q.1,?_⟩⟩⟩,b.trans l3⟩;rcases q.2 with q|q
  .exact q.2
  .exact absurd rfl q.1
 have ae:0<ps.length:=kS.2 r;have d:decide ((ps.length:Int)=0)=fF:=IE NH;refine Sk (XC d lR) ?_;by_cases c1:rs=[]
 rotate_left
 .have:0<rs.length:=kS.2 c1;have d1:decide ((rs.length:Int)>0)=tT:=Z6 NH;refine Sk d1 ?_;refine⟨.f fun q=>?_,b⟩;rcases q.2 with q|q
  .exact r q.1
  .exact c1 q.2.1
 subst c1;have d1:decide (((([]:AM).length:Nat):Int)>0)=fF:=by decide
 refine Sk d1 ?_;refine kCi func25 (Kind_any s y ps h2 (hw.le b)) ?_;rintro x h3 w3 ⟨rfl,l3⟩;by_cases c2:aaz ps=0
 .have d2:decide (aaz ps=0)=tT:=Z6 c2;refine Sk @d2 ?_;refine⟨.f fun q=>?_,b.trans l3⟩;rcases q.2 with q|q
  .exact r q.1
  .exact q.2.2.1 c2
 have d2:decide (aaz ps=0)=fF:=IE c2;have I:=l2.trans l3;have J:=U.len;have K:=(ajH c2).len;simp only at J K;refine Sk (XC @d2 T) ?_;refine lIn (fun k fr o=>∃(i:Nat),k=ps.length-i/\i<=ps.length/\fr=mkF [(3,pT (Z B)),(26,y),(27,.int .i64 ps.length),(28,.int .i64 i)]/\Le D o/\∀p∈ps.take i,p∈es) ⟨0,rfl,aax _,rfl,I,Ma⟩ ?_;rintro k fr o L ⟨i,rfl,hi,rfl,M,l⟩;refine Uy ?_;refine Kl.intro (fun V=>?_) (fun hf=>?_)
 rotate_left
 .have N:ps.length<=i:=vp hf;rw[abe N]at l;refine Uy ?_;exact⟨.t ⟨U,.inr ⟨r,rfl,c2,l⟩⟩,a.trans M⟩
 have e:i<ps.length:=acb V;clear V;have O:=CA e;have w:=aev e;have P:ps.take (i+1)=ps.take i++[ps[i]]:=XJ e;generalize ps[i]=p at*;have ad:=hw.addr (k:=.i64) i e;have ld:=(hw.le (a.trans M)).load O;have⟨ai,W,e6,s6,l6,w6,o6⟩:=Ut L p;have Q:=uM o6;have aw:=aaa i NH;have m:=M.trans l6
 generalize o.next=E at*
 simp only[HO,seval,ad,ld,e6,s6,Q,Di,Ip,EL,(F W m).2.2];refine kCi func43 (aiZ s ev es p W (S.le (a.trans m)) NH) ?_;rintro x h7 w7 ⟨rfl,X⟩;by_cases c:p∈es
 .have dc:decide (p∈es)=tT:=Z6 c;simp only[HO,seval,dc,aw];exact lgA (JS e) ⟨i+1,rfl,e,rfl,m.trans X,fun q o=>by
    rw[P,vZ,iy]at o;rcases o with o|rfl
    .exact l q o
    .exact c⟩
 .have dc:decide (p∈es)=fF:=IE c;refine Sk dc ?_;refine⟨.f fun q=>?_,a.trans (m.trans X)⟩;rcases q.2 with q|q
  .exact r q.1
  .exact c (q.2.2.2 p w)
def rnR(n:Nat)(π σ:Nat->Nat)(rs:AM)(i j:Nat):AM:=(rG n).map fun w=>(if σ w<i then rs.getD (σ w) []else if σ w=i then(rs.getD i []).take j else[]).map fun x=>((π x.toNat:Nat):Int)
section
variable{n:Nat}{π σ:Nat->Nat}{rs:AM}{i j:Nat}
def afa:(rnR n π σ rs i j).length=n:=by simp[rnR]
def afK{w:Nat}(hw:w<n):(rnR n π σ rs i j)[w]?=Z ((if σ w<i then rs.getD (σ w) []else if σ w=i then(rs.getD i []).take j else[]).map fun x=>((π x.toNat:Nat):Int)):=by simp[rnR,hw]
def rnR_start:rnR n π σ rs 0 0=rP n []:=by
 refine EH fun w=>?_;by_cases hw:w<n
 .rw[afK hw];simp[hw]
 .rw[Qn (by rw[afa];omega),Qn (by simp;omega)]
def rnR_next(h:i<n->True):rnR n π σ rs i (rs.getD i []).length=rnR n π σ rs (i+1) 0:=by
 unfold rnR;refine Uz fun w _=>congrArg _ ?_;by_cases c:σ w=i
 .rw[c,WA (ail i),Sb rfl,Sb (agh i),ags]
 .by_cases d:σ w<i
  .rw[Sb d,Sb NH]
  .rw[WA d,WA c,WA NH];split<;>simp
def rnR_step(N:Ren n π σ)(hi:i<n){x:Int}(a:(rs.getD i [])[j]?=Z x):
  (rnR n π σ rs i j).set (π i) ((rnR n π σ rs i j).getD (π i) []++[((π x.toNat:Nat):Int)])=rnR n π σ rs i (j+1):=by
 have b:=N.pl i hi;have f:=(Ny.1 a).1;have d:(rnR n π σ rs i j).getD (π i) []=((rs.getD i []).take j).map fun x=>((π x.toNat:Nat):Int):=by rw[Eh,afK b,N.qp i hi,WA (ail i),Sb rfl];rfl
 rw[d];refine EH fun w=>?_;by_cases hw:w<n
 .rw[K4,afK hw,afK hw];by_cases c:π i=w
  .subst c;rw[Sb rfl,Sb (by rw[afa];exact hw),N.qp i hi,WA (ail i),Sb rfl,To,a];simp
  .have:σ w≠i:=fun e=>c (by rw[<-e];exact N.pq w hw);rw[WA c,WA this,WA this]
 .rw[Qn (by rw[WZ,afa];omega),Qn (by rw[afa];omega)]
def rnR_end{es b:xLP}(I:H9 n es b π)(N:Ren n π σ)(c:bX ⟨(n:Int),es⟩)(hf:bX ⟨(n:Int),b⟩)(G:Av n es rs)(F:Flat n (Xl rs)):
  Av n b (rnR n π σ rs n 0)/\Flat n (Xl (rnR n π σ rs n 0)):=by
 have Rl:=G.jD c.GD c.q9;have row:∀w,w<n->(rnR n π σ rs n 0).getD w []=(uH n π σ (Xl rs) w).map fun(x:Nat)=>(x:Int):=fun w hw=>by rw[Eh,afK hw,Sb (N.ql w hw),uH,Sb hw,Xl,Lm,Lm];rfl
 have e:Xl (rnR n π σ rs n 0)=uH n π σ (Xl rs):=by
  funext w;by_cases hw:w<n
  .rw[Xl,row w hw,Lm];exact(Uz fun x _=>by simp).trans (alJ _)
  .rw[Xl,Eh,Qn (by rw[afa];omega),uH,WA hw];rfl
 have aff:=aef N Rl;refine⟨⟨afa,fun v d=>?_⟩,by rw[e];exact(pd N Rl).2 F⟩;rw[row v d];have f:(uH n π σ (Xl rs) v).Perm (agX (Zh n b) v):=agD (aff.nd v) (agE hf.GD hf.q9 v) fun w=>by
  rw[uX N Rl,G.mem c.GD,acu hf.GD];constructor
  .rintro⟨a,h2,h3⟩;rw[<-I.Jp _ _ (N.ql v a) (N.ql w h2),N.pq v a,N.pq w h2]at h3;exact h3
  .intro h;have⟨a,h2⟩:=h.lt hf.GD;refine⟨a,h2,?_⟩;rw[<-I.Jp _ _ (N.ql v a) (N.ql w h2),N.pq v a,N.pq w h2];exact h
 refine(f.map fun(w:Nat)=>(w:Int)).trans (qL246 ?_);unfold agX;rw[Lm];refine(Uz fun x g=>?_).trans (alJ _);obtain⟨w,rfl,-⟩:=Ru hf.GD g;simp
end
def H9.ren{n:Nat}{es a:xLP}{π:Nat->Nat}(I:H9 n es a π):∃σ,Ren n π σ:=by have⟨σ,J,b,h2⟩:=I.inv;exact⟨σ,I.lt,J.lt,h2,b⟩
def permE_ok{n:Nat}{es ls:xLP}{ps:RZ}(A:afb ⟨(n:Int),es⟩ ps)(hs:ls.Sublist es)(c:ls≠[])(d:aaz ls≠0):
  afb ⟨(n:Int),ls⟩ ps/\ae1 ps ls≠[]/\aaz (ae1 ps ls)≠0/\∀p∈ae1 ps ls,p∈ae1 ps es:=by
 have a:afb ⟨(n:Int),ls⟩ ps:=⟨A.1.sub hs,A.2⟩;have e:(ae1 ps ls).length=ls.length:=by unfold ae1;simp[aa5]
 refine⟨a,fun q=>c (fE.1 (by rw[<-e,q];rfl)),?_,fun p b=>?_⟩
 .rw[kindM_iso a.iso a.1 a.right e];exact d
 .unfold ae1 at b ⊢;rw[Wb,si]at b ⊢;obtain⟨q,f,rfl⟩:=b;obtain⟨z,g,rfl⟩:=si.1 f;exact⟨_,mem_map_of_mem (hs.subset g),rfl⟩
end
section
attribute [local irreducible] Kp MQ lU KO1 KO KN KX KE VK Kl ZJ TC aab
attribute [local irreducible] Jz JL vq cQ
variable {es:List Pr} {h':aai} {n:Nat} {rs:AM} {x:Value}
def noR:bX ⟨((0:Nat):Int),[]⟩:=V5 WY WY WY WY
def RN(h:aai):RL (RL RP) h (.slice Y 0 0) []:=(Lj.nil (RL RP) h).rl (Nn.RL Nn.RP)
theorem aiE.plan(c:aiE ⟨(n:Int),es⟩ h' x)(b:bX ⟨(n:Int),es⟩)(d:aak n es):
  ∃a rs,x=.tuple #[a,.slice Y 0 0,.int .i64 0]/\RL (RL RP) h' a rs/\Av n es rs/\Flat n (Xl rs):=by
 rcases c with⟨q,-⟩|⟨-,-,a,e,h2,h3,f⟩|⟨-,q,-⟩
 .exact absurd b q
 .exact⟨a,_,e,h2,h3,f⟩
 .exact absurd d q
def aiE.twist(c:aiE ⟨(n:Int),es⟩ h' x)(b:bX ⟨(n:Int),es⟩)(d:¬aak n es):
  ∃a,x=.tuple #[.slice Y 0 0,a,.int .i64 0]/\PR h' a (abv ⟨(n:Int),es⟩)/\Ct a (abv ⟨(n:Int),es⟩).length:=by
 rcases c with⟨q,-⟩|⟨-,q,-⟩|⟨-,-,q⟩
 .exact absurd b q
 .exact absurd q d
 .exact q
def aiF(a:bX ⟨(n:Int),es⟩)(G:Av n es rs)(F:Flat n (Xl rs)):CertG ⟨(n:Int),es⟩ rs []:=⟨a,.inl ⟨rfl,G,(En a.GD a.q9 G).2 F⟩⟩
def ahU (W0:LA) (h:aai):AC Tryz.prog W0 11 [] h fun x h'=>x=.bool true/\Le h h':=by
 refine AC.vF qS33 Tryz.ntmps11 Tryz.results11 fun hwf=>?_;have d0:decide ((0:Int)=0)=true:=by decide
 have d5:decide ((5:Int)=5)=true:=by decide
 have d4:decide ((4:Int)=4)=true:=by decide
 have aw0:aaY .i64 (0+0)=0:=by decide
 have E5:afP 0 5 5=k5L:=by decide
 obtain⟨h1,e1,l1,w1,o1⟩:=Tt hwf (Iu ajl);have m1:=mkP6 h (0,1) (0,2) (1,2) (2,3) (2,4) (3,4);have hk:Iu [(0,1),(0,2),(1,2),(2,3),(2,4),(3,4)]=Iu ajl:=rfl;rw[hk,e1]at m1
 have p1:PR h1 (.slice (some ⟨h.next,0,none⟩) 6 6) ajl:=PR.made o1 rfl
 obtain⟨h2,h3,a2,s2,l3,w3,lG⟩:=akX (n:=5) w1 p1;have bg:=Wj (n:=5) p1.sl;obtain⟨h4,h5,a4,s4,l5,w5,nX,G0⟩:=GX.new w3 5;simp only[HO,Nat.reduceLT,↓reduceIte,Nat.reduceEqDiff,reduceCtorEq,xe,m1,bg,a2,s2,ait,a4,s4]
 generalize h.next=R1 at*
 generalize h1.next=T at*
 generalize h3.next=X at*
 have p3:=p1.le l3;have l03:=l1.trans l3;clear p1 m1 e1 o1 a2 s2 a4 s4 bg hk w1;refine aab.intro (fun k fr hq=>∃(i:Nat) (v:Value),k=5-i/\i<=5/\fr=mkF [(1,.pointer (some ⟨T,0,none⟩)),(2,.pointer (some ⟨X,0,none⟩)),(23,.int .i64 (i:Nat))]/\GX hq X 5 v (afP 0 5 i)/\Le h3 hq/\Z2 h3 v)
  5 [(1,.pointer (some ⟨T,0,none⟩)),(2,.pointer (some ⟨X,0,none⟩)),(23,.int .i64 (0:Nat))] fD ⟨0,_,rfl,aax _,rfl,G0,l5,fun b hb=>by simp[blk]at hb⟩ ?_
 clear G0 l5 w5;rintro k fr hq hwq ⟨i,v,rfl,hi,rfl,G,lq,ap⟩;have hb1:=ad5 0 5 i;by_cases c:i<5
 .have dc:decide ((i:Int)<5)=true:=Z6 NH;have tc:((i:Int)<5)=True:=eq_true NH;have aw:=aaa i NH;simp only[HO,Nat.reduceLT,↓reduceIte,Nat.reduceEqDiff,reduceCtorEq,dc,tc,aw];refine aab.intro (fun k fr hz=>∃(j:Nat) (v:Value),k=5-j/\i+1<=j/\j<=5/\fr=mkF [(1,.pointer (some ⟨T,0,none⟩)),(2,.pointer (some ⟨X,0,none⟩)),(3,.int .i64 (i:Nat)),(4,.int .i64 (j:Nat)),(23,.int .i64 (i:Nat))]/\GX hz X 5 v (afP 0 5 i++acJ i j)/\Le h3 hz/\Z2 h3 v)
   (5-(i+1)) [(1,.pointer (some ⟨T,0,none⟩)),(2,.pointer (some ⟨X,0,none⟩)),(3,.int .i64 (i:Nat)),(4,.int .i64 (i+1:Nat)),(23,.int .i64 (i:Nat))] fD ⟨i+1,v,rfl,qL0 _,NH,rfl,by simpa[acJ]using G,lq,ap⟩ ?_
  clear G lq ap hwq;clear hq v;rintro k fr hz hwz ⟨j,v,rfl,hj,hj5,rfl,G,lq,ap⟩;by_cases c2:j<5
  rotate_left
  .have dc:decide (((j:Nat):Int)<5)=false:=IE NH;have tc:(((j:Nat):Int)<5)=False:=eq_false NH;obtain rfl:j=5:=NH;simp only[HO,Nat.reduceLT,↓reduceIte,Nat.reduceEqDiff,reduceCtorEq,dc,tc,aw];exact tn (5-(i+1)) [(1,.pointer (some ⟨T,0,none⟩)),(2,.pointer (some ⟨X,0,none⟩)),(23,.int .i64 (i+1:Nat))] NH fD ⟨i+1,v,rfl,NH,rfl,by rw[afP,EL];exact G,lq,ap⟩
  have dc:decide (((j:Nat):Int)<5)=true:=Z6 NH;have tc:(((j:Nat):Int)<5)=True:=eq_true NH;have awj:=aaa j NH;have hb2:=ad4 i j;obtain⟨v',g4,g5,g6,q4,q5,q6,G7,w7,l7,f7,-⟩:=G.push' hwz ((i:Int),(j:Int)) (by rw[aaf];omega);obtain⟨l7',a7⟩:=f7 h3 lq nX ap;rw[ah6,<-afy hj]at G7;have bld:=xe (i:Int) (j:Int);simp only[HO,Nat.reduceLT,↓reduceIte,Nat.reduceEqDiff,reduceCtorEq,dc,tc,Di,Ip,EL,G.ld.2.2,bld,q4,q5,q6,awj];exact tn (5-(j+1)) [(1,.pointer (some ⟨T,0,none⟩)),(2,.pointer (some ⟨X,0,none⟩)),(3,.int .i64 (i:Nat)),(4,.int .i64 (j+1:Nat)),(23,.int .i64 (i:Nat))] NH fD ⟨j+1,v',rfl,NH,NH,rfl,G7,l7',a7⟩
 obtain rfl:i=5:=NH;have dc:decide (((5:Nat):Int)<5)=false:=by decide
 have tc:(((5:Nat):Int)<5)=False:=eq_false NH;rw[E5]at G;clear hb1 c hi ap nX;simp only[HO,Nat.reduceLT,↓reduceIte,Nat.reduceEqDiff,reduceCtorEq,dc,tc,(lG hq lq).1];refine TC.intro PJ ⟨qS23,rfl,WY⟩ (ahd W0 _ ⟨((5:Nat):Int),ajl⟩ hq ⟨_,rfl,p3.le lq⟩) ?_;rintro x h7 w7 ⟨l7,C⟩;obtain⟨rv,rs,rfl,hrv,RG,FL⟩:=C.plan bowR (acG bowR WY);clear C;simp only[HO,Nat.reduceLT,↓reduceIte,Nat.reduceEqDiff,reduceCtorEq,(G.le l7).ld.1];refine TC.intro PJ ⟨qS23,rfl,WY⟩ (ahd W0 _ ⟨((5:Nat):Int),k5L⟩ h7 ⟨v,rfl,(G.le l7).gp.pr⟩) ?_;rintro x h8 w8 ⟨l8,C⟩;obtain⟨wv,rfl,hw,-⟩:=C.twist k5R k5_np;clear C;rw[fnd_k5]at hw;simp only[HO,Nat.reduceLT,↓reduceIte,Nat.reduceEqDiff,reduceCtorEq,aew,agO];refine TC.intro PJ ⟨qS23,rfl,WY⟩ (ahd W0 _ ⟨((0:Nat):Int),[]⟩ h8 ⟨_,rfl,PR.nil _⟩) ?_;rintro x h9 w9 ⟨l9,C⟩;obtain⟨tv,ts,rfl,htv,TG,TF⟩:=C.plan noR (acG noR WY);clear C;have l79:=l8.trans l9;have hrv9:=hrv.le (Nn.RL Nn.RP) l79;have lr:=fun g=>hrv.qP6 g;have lt:=fun g=>htv.qP6 g;have lnR:=fun g=>(RN g).qP6 g;have lnP:=fun g=>(PR.nil g).len g;rw[RG.len]at lr;rw[TG.len]at lt;have h2l:2<rs.length:=by rw[RG.len];decide
 have ad:=hrv.qP7 2 h2l;obtain⟨u,lu',hu⟩:=hrv.NS 2 h2l;have lu:=fun g l=>lu' g l;have hul:(rs[2]'h2l).length=4:=by
  have:=(RG.perm 2 WY).length_eq;rw[Eh,Gc h2l]at this;exact this.trans WY
 have llu:=fun g=>hu.TA g;rw[hul]at llu;have d55:decide (((5:Nat):Int)=5)=true:=by decide
 have d44:decide (((4:Nat):Int)=4)=true:=by decide
 have dn0:decide (((([]:List Pr).length:Nat):Int)=0)=true:=by decide
 have dn1:decide (((([]:AM).length:Nat):Int)=0)=true:=by decide
 simp only[ak6]at ad;have l39:=lq.trans (l7.trans l79);have G9:=G.le (l7.trans l79);simp only[HO,Nat.reduceLT,↓reduceIte,Nat.reduceEqDiff,reduceCtorEq,aw0,d0,lr,d55,ad,lu h9 l79,llu,d44,lnP,dn0,(lG h9 l39).1];refine TC.intro PJ ⟨akW,rfl,WY⟩ (ahY W0 _ rv (.slice none 0 0) ⟨((5:Nat):Int),ajl⟩ rs [] h9 ⟨_,rfl,p3.le l39⟩ hrv9 (PR.nil _)) ?_;rintro x h10 w10 ⟨⟨bb,rfl,hbb⟩,l10⟩;obtain rfl:bb=true:=hbb.2 (aiF bowR RG FL);clear hbb;have G10:=G9.le l10;have hw10:=hw.le (l9.trans l10);simp only[HO,Nat.reduceLT,↓reduceIte,Nat.reduceEqDiff,reduceCtorEq,lnR,dn1,Di,Ip,EL,G10.ld.2.2];refine TC.intro PJ ⟨Tryz.func17,rfl,WY⟩ (abn W0 wv v k5L k5L h10 hw10 G10.gp.pr WY) ?_;rintro x h11 w11 ⟨rfl,rfl⟩;have sp:decide (k5L=k5L)=true:=Z6 rfl;simp only[HO,Nat.reduceLT,↓reduceIte,Nat.reduceEqDiff,reduceCtorEq,sp,G10.ld.1];refine TC.intro PJ ⟨akW,rfl,WY⟩ (ahY W0 _ (.slice none 0 0) wv ⟨((5:Nat):Int),k5L⟩ [] k5L h11 ⟨v,rfl,G10.gp.pr⟩ (RN _) hw10) ?_;rintro x h12 w12 ⟨⟨bb,rfl,hbb⟩,l12⟩;obtain rfl:bb=true:=hbb.2 ⟨k5R,.inr ⟨WY,rfl,by rw[kind_k5];decide,fun p hp=>hp⟩⟩;clear hbb;have aw00:aaY .i64 (((0:Nat):Int)+((([]:List Pr).length:Nat):Int))=0:=by decide
 simp only[HO,Nat.reduceLT,↓reduceIte,Nat.reduceEqDiff,reduceCtorEq,lt,lnP,aw00,d0,aew,agO];refine TC.intro PJ ⟨akW,rfl,WY⟩ (ahY W0 _ tv (.slice none 0 0) ⟨((0:Nat):Int),[]⟩ ts [] h12 ⟨_,rfl,PR.nil _⟩ (htv.le (Nn.RL Nn.RP) (l10.trans l12)) (PR.nil _)) ?_;rintro x h13 w13 ⟨⟨bb,rfl,hbb⟩,l13⟩;obtain rfl:bb=true:=hbb.2 (aiF noR TG TF);clear hbb;have l913:=l10.trans (l12.trans l13);have l313:=l39.trans l913;simp only[HO,Nat.reduceLT,↓reduceIte,Nat.reduceEqDiff,reduceCtorEq,Di,Ip,EL,(lG h13 l313).1,(lG h13 l313).2.2];refine TC.intro PJ ⟨akW,rfl,WY⟩ (ahY W0 _ rv _ ⟨((5:Nat):Int),ajl⟩ rs ajl h13 ⟨_,rfl,p3.le l313⟩ (hrv9.le (Nn.RL Nn.RP) l913) (p3.le l313)) ?_;rintro x h14 w14 ⟨⟨bb,rfl,hbb⟩,l14⟩;obtain rfl:bb=false:=by
  cases bb with
  |false=>rfl
  |true=>
   rcases(hbb.1 rfl).2 with q|q
   .exact absurd q.1 WY
   .have:=RG.len;rw[q.2.1]at this;cases this
 refine Uy ?_;exact⟨trivial,(l03.trans l313).trans l14⟩
end
section
attribute [local instance] Classical.propDecidable
attribute [local irreducible] Kp MQ lU KO1 KO KN KX KE VK Kl ZJ TC aab
def ajp(l:LA)(v:vV)(G:GM)(h:aai)(hg:GR h v G):AC pG l 21 [v] h fun x h'=>RR (bX G/\G.n<=20/\G.es.length<=50) x/\Le h h':=by
 have i:=hg;have⟨e,es⟩:=G
 obtain⟨ev,rfl,m⟩:=hg.open
 refine AC.vF func21 ntmps21 results21 fun j=>?_;obtain⟨o,r,a,s,-,p⟩:=r8 (n:=e) j m
 generalize h.next=B at*
 have k:=p o (Le.refl _);have t:=fun g=>m.len g;refine Sk (XC r k.1) ?_;refine kCi qS6 (ak l _ _ o (i.le a)) ?_;rintro x h2 w2 ⟨⟨u,rfl,d⟩,l2⟩;have b:=p h2 l2;cases u with
 |false=>refine Uy ?_;exact⟨RR.f (fun q=>by cases d.2 q.1),a.trans l2⟩
 |true=>
 have w:=d.1 rfl;by_cases c:e<=20
 rotate_left
 .have dc:decide (e<=20)=fF:=IE c;refine Sk (IX @Ii @Ip.eq_1 @EL b.2.1 dc) ?_;exact⟨RR.f (fun q=>c q.2.1),a.trans l2⟩
 have dc:decide (e<=20)=tT:=Z6 c;refine Sk (adG @Ii @Di @Ip.eq_1 @EL b.2.1 b.2.2 t dc) ?_;refine⟨⟨_,rfl,?_⟩,a.trans l2⟩;rw[abV];exact⟨fun q=>⟨w,c,NH⟩,fun q=>by have:=q.2.2;omega⟩
section
variable{n:Nat}{es:List Pr}{rs:AM}
end
end
section
attribute [local irreducible] Kp MQ lU KO1 KO KN KX KE VK Kl ZJ TC aab
attribute [local irreducible] Jz JL vq cQ ae1 abW aaN
variable {es:List Pr} {h':aai} {n:Nat}
def CertAll(n:Nat)(es:xLP)(rs:AM)(ws:xLP):Prop:=CertG ⟨(n:Int),es⟩ rs ws/\((aak n es/\ws=[]/\Av n es rs/\z8 n es rs)\/(¬aak n es/\rs=[]/\ws≠[]/\ws.Sublist es/\aaz ws≠0))
theorem aiE.all{x:vV}(c:aiE ⟨(n:Int),es⟩ h' x)(b:bX ⟨(n:Int),es⟩):
  ∃f d rs ws,x=.tuple #[f,d,.int .i64 0]/\RL (RL RP) h' f rs/\PR h' d ws/\Ct d ws.length/\CertAll n es rs ws:=by
 by_cases a:aak n es
 .obtain⟨f,rs,g,h2,h3,i⟩:=c.plan b a;have hP:=(En b.GD b.q9 h3).2 i;exact⟨f,_,rs,[],g,h2,PR.nil _,⟨Y,0,rfl,.inl ⟨WY,qL0 _⟩⟩,⟨b,.inl ⟨rfl,h3,hP⟩⟩,.inl ⟨a,rfl,h3,hP⟩⟩
 .obtain⟨d,g,h2,h3⟩:=c.twist b a;have h:=fnd_kind b a;have hs:=(ajQ (G:=⟨(n:Int),es⟩) a).1;have e:abv ⟨(n:Int),es⟩≠[]:=fun q=>a ((fnd_nil b).1 q);exact⟨_,d,[],_,g,RN _,h2,h3,⟨b,.inr ⟨e,rfl,h,fun p j=>hs.subset j⟩⟩,.inr ⟨a,rfl,e,hs,h⟩⟩
theorem agc (W0:LA) (v pv:Value) (G:GM) (ps:List Int) (h:aai) (hg:GR h v G) (hp:RL RP h pv ps):
  AC Tryz.prog W0 10 [v,pv] h fun x h'=>x=.bool true:=by
 have hg0:=hg;obtain⟨gn,es⟩:=G
 obtain⟨ev,rfl,hpe⟩:=hg.open
 refine AC.vF Tryz.func10 Tryz.ntmps10 Tryz.results10 fun hwf=>?_;obtain⟨h1,b1,le1,wf1,-,lA⟩:=r8 (n:=gn) hwf hpe
 generalize h.next=B at*
 have lA1:=lA h1 (Le.refl _);simp only[HO,Nat.reduceLT,↓reduceIte,Nat.reduceEqDiff,reduceCtorEq,b1,lA1.1];refine TC.intro PJ ⟨Tryz.func31,rfl,WY⟩ (aia W0 _ pv _ ps h1 (hg0.le le1) (hp.le Nn.RP le1)) ?_;rintro x h2 w2 ⟨l2,⟨hno,k,hk0,rfl⟩|⟨A,fv,rfl,gf,af⟩⟩
 ·obtain⟨h3',h3,e3,e3s,l3,w3⟩:=newE w2;have d:decide (k=0)=false:=IE hk0;simp only[HO,Nat.reduceLT,↓reduceIte,Nat.reduceEqDiff,reduceCtorEq,e3,e3s,bne,d];refine TC.intro PJ ⟨qS33,rfl,WY⟩ (ahU W0 h3) ?_;rintro x h4 w4 ⟨rfl,l4⟩;simp only[HO,Nat.reduceLT,↓reduceIte,Nat.reduceEqDiff,reduceCtorEq]
 obtain⟨h3',h3,e3,e3s,l3,w3,lG⟩:=akX w2 (n:=gn) gf.pr;have le3:=l2.trans l3;have fT:=lA h3 le3
 generalize h2.next=Y at*
 have d00:decide ((0:Int)=0)=true:=by decide
 have hr:=A.1;have h0:0≤gn:=hr.n0;obtain⟨n,rfl⟩:=qL7 h0;simp only at gf;have hr2:=A.right;have I:=A.iso;have l03:=le1.trans le3;simp only[HO,Nat.reduceLT,↓reduceIte,Nat.reduceEqDiff,reduceCtorEq,e3,e3s,bne,d00,fT.1];refine TC.intro PJ ⟨Tryz.func21,rfl,WY⟩ (ajp W0 _ ⟨(n:Int),es⟩ h3 (hg0.le l03)) ?_;rintro x h4 w4 ⟨⟨bb,rfl,hbb⟩,l4⟩;have l04:=l03.trans l4;cases bb with
 |false=>
  simp only[HO,Nat.reduceLT,↓reduceIte,Nat.reduceEqDiff,reduceCtorEq];refine TC.intro PJ ⟨qS33,rfl,WY⟩ (ahU W0 h4) ?_;rintro x h5 w5 ⟨rfl,l5⟩;simp only[HO,Nat.reduceLT,↓reduceIte,Nat.reduceEqDiff,reduceCtorEq]
 |true=>
 obtain⟨-,hn20,he50⟩:=hbb.1 rfl;clear hbb;simp only at hn20 he50;have la4:=le3.trans l4;have lA4:=lA h4 la4;simp only[HO,Nat.reduceLT,↓reduceIte,Nat.reduceEqDiff,reduceCtorEq,lA4.1];refine TC.intro PJ ⟨qS23,rfl,WY⟩ (ahd W0 _ ⟨(n:Int),es⟩ h4 (hg0.le l04)) ?_;rintro x h5 w5 ⟨l5,C⟩;obtain⟨rv,wv,rs,ws,rfl,hrv,hwv,-,CG,CC⟩:=C.all hr;clear C;have l35:=l4.trans l5;have gf5:=(gf.le l3).le l35;simp only[HO,Nat.reduceLT,↓reduceIte,Nat.reduceEqDiff,reduceCtorEq,(lG h5 l35).1];refine TC.intro PJ ⟨qS23,rfl,WY⟩ (ahd W0 _ ⟨(n:Int),ae1 ps es⟩ h5 ⟨fv,rfl,gf5.pr⟩) ?_;rintro x h6 w6 ⟨l6,C⟩;obtain⟨rv2,wv2,rs2,ws2,rfl,-,hwv2,-,CG2,CC2⟩:=C.all hr2;clear C;have hPi:=I.ako hr hr2;have aw0:aaY .i64 ((0:Int)+0)=0:=ie _ NH NH;have lw:=fun g=>hwv.len g;have lw2:=fun g=>hwv2.len g;have l46:=l5.trans l6;have l36:=l4.trans l46;have la6:=la4.trans l46;have l06:=le1.trans la6;have gf6:=gf5.le l6;rcases CC with⟨hpk,rfl,RG,hP⟩|⟨hpk,rfl,hwn,hws,hwk⟩
 rotate_left
 ·have hq:ws2≠[]:=by
   rcases CC2 with⟨q,-⟩|⟨-,-,q,-⟩
   ·exact absurd (hPi.1 q) hpk
   ·exact q
  have:0<ws.length:=kS.2 hwn;have:0<ws2.length:=kS.2 hq;have dw:decide ((ws.length:Int)>0)=true:=Z6 NH;have dw2:decide ((ws2.length:Int)>0)=true:=Z6 NH;have bld:=Wj (n:=(n:Int)) (hwv.le l6).sl;obtain⟨Al,k1,k2,k3⟩:=permE_ok A hws hwn hwk;simp only[HO,Nat.reduceLT,↓reduceIte,Nat.reduceEqDiff,reduceCtorEq,bne,aw0,d00,lw,lw2,dw,dw2,eqBo,beq_self_eq_true,Ii,Ip,EL,(lA h6 la6).2.1,bld];refine TC.intro PJ ⟨Tryz.func31,rfl,WY⟩ (aia W0 _ pv ⟨(n:Int),ws⟩ ps h6 ⟨wv,rfl,hwv.le l6⟩ (hp.le Nn.RP l06)) ?_;rintro x h7 w7 ⟨l7,⟨hno,-⟩|⟨-,mv,rfl,gm,-⟩⟩
  ·exact absurd Al hno
  simp only at gm;obtain⟨h8',h8,e8,e8s,l8,w8,lM⟩:=akX w7 (n:=(n:Int)) gm.pr;have l38:=(l36.trans l7).trans l8;simp only[HO,Nat.reduceLT,↓reduceIte,Nat.reduceEqDiff,reduceCtorEq,e8,e8s,d00,(lG h8 l38).1,Di,Ip,EL,(lM h8 (Le.refl _)).2.2];refine TC.intro PJ ⟨akW,rfl,WY⟩ (ahY W0 _ (.slice none 0 0) mv ⟨(n:Int),ae1 ps es⟩ [] (ae1 ps ws) h8 ⟨fv,rfl,((gf6.le l7).le l8).pr⟩ (RN _) (gm.le l8).pr) ?_;rintro x h9 w9 ⟨⟨bb,rfl,hbb⟩,l9⟩;obtain rfl:bb=true:=hbb.2 ⟨hr2,.inr ⟨k1,rfl,k2,k3⟩⟩;simp only[HO,Nat.reduceLT,↓reduceIte,Nat.reduceEqDiff,reduceCtorEq];refine TC.intro PJ ⟨qS33,rfl,WY⟩ (ahU W0 h9) ?_;rintro x h10 w10 ⟨rfl,l10⟩;simp only[HO,Nat.reduceLT,↓reduceIte,Nat.reduceEqDiff,reduceCtorEq]
 obtain rfl:ws2=[]:=by
  rcases CC2 with⟨-,q,-⟩|⟨q,-⟩
  ·exact q
  ·exact absurd (hPi.2 hpk) q
 have dn0:decide (((([]:List Pr).length:Nat):Int)>0)=false:=by decide
 obtain⟨σ,N⟩:=I.ren;have FL:=(En hr.GD hr.q9 RG).1 hP;obtain⟨E1,E2⟩:=rnR_end I N hr hr2 RG FL;have hR:=hr.GD;have pk:=A.2.1;have pln:ps.length=n:=by have:=A.2.2;simp only at this;omega
 have hrn:rs.length=n:=RG.len;have lr:=fun g=>hrv.qP6 g
 have mk:abl Tryz.prog h6 26 (.int .i64 (n:Int)) (.int .i64 (n:Int))=some (.slice (some ⟨h6.next,0,none⟩) n n,h6.alloc (.cells (List.replicate n (.slice none 0 0)))):=
  Ye (P:=Tryz.prog) (t:=26) (z:=.slice none 0 0) h6 qS19 Ji rfl rfl rfl Ji Mb Ji n NH
 obtain⟨h7,e7,l7,w7,o7⟩:=Tt w6 (List.replicate n (.slice none 0 0));rw[e7]at mk
 have nL:h6.own h6.next=none:=(Le.refl h6).next w6 (qL0 _)
 have R0:=Rows.start (b0:=h6) o7 l7 nL
 generalize h6.next=L at*
 rw[←rnR_start (π:=abW ps) (σ:=σ) (rs:=rs)]at R0;obtain⟨sv,hsv⟩:∃sv,sv=Value.slice (some ⟨L,0,none⟩) n n:=⟨_,rfl⟩;rw[←hsv]at mk;have hrv6:=hrv.le (Nn.RL Nn.RP) l6;have hp6:=hp.le Nn.RP l06;simp only[HO,Nat.reduceLT,↓reduceIte,Nat.reduceEqDiff,reduceCtorEq,bne,aw0,d00,lw,lw2,dn0,eqBo,beq_self_eq_true,Ii,Ip,EL,(lA h6 la6).2.1,mk,lr,hrn];clear e7 mk o7 l7 w7;refine aab.intro (fun k fr hz=>∃(i:Nat) (us:List Value),k=n-i∧i≤n∧fr=mkF [(1,pv),(5,.pointer (some ⟨Y,0,none⟩)),(14,sv),(84,rv),(85,.int .i64 (n:Nat)),(86,.int .i64 (i:Nat))]∧us.length=n∧Rows h6 hz L us (rnR n (abW ps) σ rs i 0))
  n [(1,pv),(5,.pointer (some ⟨Y,0,none⟩)),(14,sv),(84,rv),(85,.int .i64 (n:Nat)),(86,.int .i64 (0:Nat))] fD ⟨0,_,rfl,aax _,rfl,qL206,R0⟩ ?_
 clear R0;clear h7;rintro k fr hz hwz ⟨i,us,rfl,hi,rfl,hus,Rz⟩;simp only[HO,Nat.reduceLT,↓reduceIte,Nat.reduceEqDiff,reduceCtorEq];refine Kl.intro (fun ht=>?_) (fun hf=>?_)
 rotate_left
 ·obtain rfl:i=n:=by have:=vp hf;omega
  have l3z:=l36.trans Rz.le;simp only[HO,Nat.reduceLT,↓reduceIte,Nat.reduceEqDiff,reduceCtorEq,(lG hz l3z).1];rw[hsv];refine TC.intro PJ ⟨akW,rfl,WY⟩ (ahY W0 _ (.slice (some ⟨L,0,none⟩) i i) (.slice none 0 0) ⟨(i:Int),ae1 ps es⟩ _ [] hz ⟨fv,rfl,(gf6.le Rz.le).pr⟩ (Rz.rl hus) (PR.nil _)) ?_;rintro x h9 w9 ⟨⟨bb,rfl,hbb⟩,l9⟩;obtain rfl:bb=true:=hbb.2 ⟨hr2,.inl ⟨rfl,E1,(En hr2.GD hr2.q9 E1).2 E2⟩⟩;simp only[HO,Nat.reduceLT,↓reduceIte,Nat.reduceEqDiff,reduceCtorEq];refine TC.intro PJ ⟨qS33,rfl,WY⟩ (ahU W0 h9) ?_;rintro x h10 w10 ⟨rfl,l10⟩;simp only[HO,Nat.reduceLT,↓reduceIte,Nat.reduceEqDiff,reduceCtorEq]
 have hlt:i<n:=acb ht;clear ht;have hlr:i<rs.length:=NH;have adr:=hrv.qP7 i hlr;obtain⟨cv,rcv,ldc⟩:=hrv6.loadS Mb rfl i hlr;have hgd:rs.getD i []=rs[i]:=by rw[Eh,Gc hlr];rfl
 rw[←hgd]at rcv;have lcv:=fun g=>rcv.TA g;have awi:=aaa i NH;have pget:∀a,a<n→∃hl:a<ps.length,ps[a]=((abW ps a:Nat):Int)∧abW ps a<n:=fun a ha=>by
  have hl:a<ps.length:=NH;obtain⟨q1,q2⟩:=pk.get hl;rw[D4 hl]at q1;exact⟨hl,q1,NH⟩
 obtain⟨hli,epi,hpi⟩:=pget i hlt;have adp:=hp.DH i hli;have ldp:=fun g (l:Le h6 g)=>(hp6.le Nn.RP l).Uc i hli;rw[epi]at ldp;have ixw:=Rows.ix (n:=n) L .i64 (abW ps i) hpi;rw[←hsv]at ixw;have hrsl:(rs.getD i []).length≤200:=by
  have hm:=RG.jD hR hr.q9;have:=tf (hm.nd i) (B:=List.range n) fun w hw=>Db.2 (hm.lt w i (hm.sy i w hw));rw[ag4]at this;have e2:(Xl rs i).length=(rs.getD i []).length:=by simp[Xl]
  have:(n:Int)≤200:=hr.n1;omega
 simp only[HO,Nat.reduceLT,↓reduceIte,Nat.reduceEqDiff,reduceCtorEq,adr,ldc hz Rz.le,lcv];refine aab.intro (fun k fr hy=>∃(j:Nat) (us:List Value),k=(rs.getD i []).length-j∧j≤(rs.getD i []).length∧fr=mkF [(1,pv),(5,.pointer (some ⟨Y,0,none⟩)),(14,sv),(15,.int .i64 (i:Nat)),(84,rv),(85,.int .i64 (n:Nat)),(86,.int .i64 (i:Nat)),(91,cv),(92,.int .i64 (rs.getD i []).length),(93,.int .i64 j)]∧us.length=n∧Rows h6 hy L us (rnR n (abW ps) σ rs i j))
  (rs.getD i []).length [(1,pv),(5,.pointer (some ⟨Y,0,none⟩)),(14,sv),(15,.int .i64 (i:Nat)),(84,rv),(85,.int .i64 (n:Nat)),(86,.int .i64 (i:Nat)),(91,cv),(92,.int .i64 (rs.getD i []).length),(93,.int .i64 (0:Nat))] fD ⟨0,us,rfl,aax _,rfl,hus,Rz⟩ ?_
 clear Rz hus hwz;clear us hz;rintro k fr hy hwy ⟨j,us,rfl,hj,rfl,hus,Ry⟩;simp only[HO,Nat.reduceLT,↓reduceIte,Nat.reduceEqDiff,reduceCtorEq];refine Kl.intro (fun ht=>?_) (fun hf=>?_)
 rotate_left
 ·obtain rfl:j=(rs.getD i []).length:=by have:=vp hf;omega
  rw[rnR_next fun _=>trivial]at Ry;simp only[HO,Nat.reduceLT,↓reduceIte,Nat.reduceEqDiff,reduceCtorEq,awi];exact tn (n-(i+1)) [(1,pv),(5,.pointer (some ⟨Y,0,none⟩)),(14,sv),(84,rv),(85,.int .i64 (n:Nat)),(86,.int .i64 (i+1:Nat))] (stpP hlt) fD ⟨i+1,us,rfl,hlt,rfl,hus,Ry⟩
 have hltj:j<(rs.getD i []).length:=acb ht;clear ht;have adc:=rcv.DH j hltj;have ldj:=fun g (l:Le h6 g)=>(rcv.le Nn.RP l).Uc j hltj;have hxj:=Gc hltj;obtain⟨-,x,hx,hxn,-⟩:=RG.nat hR (aev hltj);rw[hx]at hxj ldj;obtain⟨hlx,epx,-⟩:=pget x hxn;have adx:=hp.DH x hlx;have ldx:=fun g (l:Le h6 g)=>(hp6.le Nn.RP l).Uc x hlx;rw[epx]at ldx;have awj:=aaa j NH;have hlen:(rnR n (abW ps) σ rs i j).length=n:=afa;have hrw:=CA (show abW ps i<(rnR n (abW ps) σ rs i j).length by rw[hlen];exact hpi);have hgw:(rnR n (abW ps) σ rs i j)[abW ps i]'(by rw[hlen];exact hpi)=(rnR n (abW ps) σ rs i j).getD (abW ps i) []:=by rw[Eh,Gc (by rw[hlen];exact hpi)];rfl
 rw[hgw]at hrw;have hrl':((rnR n (abW ps) σ rs i j).getD (abW ps i) []).length≤100000:=by rw[Eh,afK hpi,N.qp i hlt,WA (ail i),Sb rfl,aj9,vg,zx];exact ff (qL229 _ _) (ff hrsl WY)
 obtain⟨u,u',h4',h5',h6',hu,e4,e5,e6,l4',l5',oL5,R6,w6',-⟩:=Ry.push hwy hrw ((abW ps x:Nat):Int) hrl';have stp':=rnR_step N hlt hxj;rw[yM]at stp';rw[stp']at R6;have bs:=DQ hy ((abW ps x:Nat):Int);rw[e4]at bs;have ly:=Ry.le;have lu:∀g:aai,g.own L=some (.cells us)→aaC Tryz.prog g 28 ⟨L,abW ps i,none⟩=some u:=fun g ho=>by rw[Fq Mb rfl ho];exact hu
 simp only[HO,Nat.reduceLT,↓reduceIte,Nat.reduceEqDiff,reduceCtorEq,adc,ldj hy ly];refine gh (tA [0,1,2,3,4,5,6,7,8,9,10,11,12,13,14,15] (JQ 16 [15] (JQ 17 [11,16] (tA [18] (JQ 19 [0,1,2,3,4,5,6,7,8,9,10,11,12,13,14,15,16,17,18] .done))))) ?_;simp only[HO,Nat.reduceLT,↓reduceIte,Nat.reduceEqDiff,reduceCtorEq,Nat.reduceBEq,Qg,ixw,adp,ldp hy ly,ldp h4' (ly.trans l4'),ldp h5' l5',adx,ldx hy ly,ldx h4' (ly.trans l4'),ldx h5' l5',lu hy Ry.oL,lu h4' (l4'.own _ _ Ry.oL),lu h5' oL5,bs,e5,e6,awj];exact tn ((rs.getD i []).length-(j+1)) [(1,pv),(5,.pointer (some ⟨Y,0,none⟩)),(14,sv),(15,.int .i64 (i:Nat)),(84,rv),(85,.int .i64 (n:Nat)),(86,.int .i64 (i:Nat)),(91,cv),(92,.int .i64 (rs.getD i []).length),(93,.int .i64 (j+1:Nat))] (stpP hltj) fD ⟨j+1,_,rfl,hltj,rfl,by simpa using hus,R6⟩
end
section
open Go.Proofs Go.ChangeShapes Go.WideShapes Go.RowKit Go.ChangeAt
open Go.Proofs.YtnakkbhjoiheoaaGreat
def afV(os:Os)(started:os.Started)(H:Type)(enc:TypeId×vV->H):
  ReturnsInHanded {} Tryz.checked os 10 .any (Rows.planarNamesSpec.pre6 enc pG Tryz.f10 Rows.planarNamesRow.domain fF) (Rows.planarNamesSpec.post enc pG Tryz.f10 fF tT fF fF):=by
 have own:ownKnob pG.godebug=Option.none:=Ji;have laidOut:laidOutB pG=tT:=Ji;refine returnsInHanded_of_change (C:=Tryz.checked) own started Ji func10
  (ChangeSpec.witness6 (enc:=enc) (C:=Tryz.checked) fF ⟨#[],#[.agg #[.int .i64 0,.slice Option.none 0 0],.slice Option.none 0 0],[]⟩ 8 Ji Ji Ji Ji) ?_
 intro W base args ds gs before c u w _;have b:∀(j:Nat) t v,Tryz.f10.params[j]?=Z t->args[j]?=Z v->vV.okWide pG W .any base t v:=c;have d:=u;obtain⟨p,q,i,B,rfl,D,E⟩:=u;have hA:DataW.TrodAll enc pG W 0 (fun _=>tT) tT Tryz.f10.params.toList args.toList ds p:=i;rw[Tryz.params10]at hA b;obtain⟨k,L,M,N,F,O,a,rfl,rfl,z,hA⟩:=trodAll_cons hA;obtain⟨l,w1,d1,P,G,Q,rfl,rfl,rfl,A,hA⟩:=trodAll_cons hA;obtain⟨rfl,rfl,rfl⟩:=trodAll_nil hA;obtain rfl:args=#[k,l]:=by cases args;simp_all
 obtain⟨rfl,rfl⟩:=trodVars_none B;have⟨I,x0,m,n⟩:=afp (b 0 24 k rfl rfl) z (fun _=>⟨0,0,0⟩);have⟨u1,x1,o,r⟩:=ak1 (b 1 28 l rfl rfl) A (fun _=>⟨0,0,0⟩);refine(agc (LA.of W) I u1 x0 x1 (MR W) n r [] (fun _=>⟨0,0,0⟩) W [k,l] (Rel.start W _) ?_).mono ?_
 .exact .cons m (.cons o ((.nil _ _)))
 .rintro e J ⟨x,x',S,h',rfl,R,-,-,K,rfl,-⟩;obtain rfl:=K.YE;have hb:=R.below;have g:∀y∈F,y.block<W.heap.size:=fun y s=>d.lt y (by simp[s]);have h:∀y∈G,y.block<W.heap.size:=fun y s=>d.lt y (by simp[s]);have f:DataW.Trod enc pG J W.heap.size (fun _=>fF) fF 4 (.bool tT) (.lit (.bool tT)) []:=⟨1,by simp[DataW.trod,vV.cells,AV]⟩;have a:=
   tcons (Below.trod laidOut Ji (acg Ji) z hb g) (tcons (Below.trod laidOut Ji (acg Ji) A hb h) (trodAll_mk0))
  try simp only[ag1,aiM]at a
  exact⟨_,rfl,_,_,_,[],_,[],d,trodAll_mk1 f,a,rfl,hb.frame _,fun e=>by cases e⟩
def planarNames_said:Rows.PlanarNamesSaid:=
 OpenClaim.holds_of_wide 10 Tryz.f10 rfl rfl rfl rfl rfl rfl rfl ⟨rfl,rfl,rfl,rfl,rfl⟩ rfl rfl rfl rfl rfl Ji func10 Ji
  (acg Ji) (by unfold Func.isWrapper;first|(rw[Sb iw];kernel_rfl)|(rw[WA iw];exact⟨rfl,rfl⟩))
  (fun os started H enc _=>afV os started H enc)
end
end Go.Fw
