/- A text. -/
import Derived.Test.YtnakkbhjoiheoaaGreatFwLF6
set_option linter.all false
set_option maxRecDepth 99999
set_option maxHeartbeats 9999999
open Go.Proofs
open Option renaming some→Z,none→Y
open Bool renaming true→tT,false→fF
open List renaming range→rG
open Go.Value renaming slice→sL,pointer→pT
open Go renaming Value→vV
open Go.Proofs.Tryz renaming prog→pG
open Go.Proofs.Tryz
namespace Go.Fw
section
attribute [local instance] Classical.propDecidable
attribute [local irreducible] Kp MQ lU KO1 KO KN KX KE VK Kl ZJ TC aab
variable {b0 h:aai} {c i k m n w:Nat} {r xs:RZ} {rows:AM} {us:List Value} {v:Value} {x:Int}
def RowsV(b0 h:aai)(x:vV)(rows:AM):Prop:=∃L us,x=sL (Z ⟨L,0,Y⟩) rows.length rows.length/\Rows b0 h L us rows
theorem Rows.put{L:Nat}(R:Rows b0 h L us rows)(k:WF h){u:vV}(j:us[w]?=Z u)(l:rows[w]?=Z r)(hi:i<r.length)(x:Int):
  ∃h',aaK pG h 3 (pT (Z (aaq u i))) x=Z h'/\Rows b0 h' L us (rows.set w (r.set i x))/\WF h'/\(∀f,Le f h->Z2 f u->Le f h')/\(∀b o,h.own b=Z o->blk u≠Z b->h'.own b=Z o):=by
 obtain⟨h',e,g,wf,m,keep⟩:=GI.store (show GI h u r from R.gs w u r j l) k hi x;refine⟨h',e,⟨keep _ _ R.oL (R.nL w u j),by grind[Rows.len],fun v a q ha d=>?_,R.nL,R.TE,R.ap,m _ R.le (R.ap w u j),R.bL⟩,wf,m,keep⟩;rw[Tn]at d;by_cases c:w=v
 .subst c;rw[IE rfl,IE (Ny.1 l).1]at d;injection d with d;subst d;rw[j]at ha;injection ha with ha;subst ha;exact g
 .rw[yM c]at d;refine(R.gs v a q ha d).kept fun b o hb n=>keep b o n fun sZ=>R.TE w v u a b c j ha sZ hb
def akA (W0:LA) (v:Value) (n:Nat) (es:List Pr) (h:aai) (hg:GR h v ⟨(n:Int),es⟩) (hr:bX ⟨(n:Int),es⟩):AC Tryz.prog W0 44 [v] h fun x h'=>∃b0,RowsV b0 h' x (Zh n es)/\Le h b0:=by
 have aH:=hg
 obtain⟨ev,rfl,hp⟩:=hg.open
 have bF:(n:Int)<=200:=hr.n1;have bG:es.length<=594:=hr.len;have F:∀p∈es,0<=p.1/\p.1<p.2/\p.2<(n:Int):=fun p aJ=>by
  obtain⟨i,hi⟩:=vZ.1 aJ;exact(hr.ok i (Ny.1 hi).1 p hi).1
 refine AC.vE ⟨afm,rfl,WY⟩ Tryz.ntmps44 Tryz.results44 fun aK=>?_;simp only[Br,Nat.reduceAdd];obtain⟨h1,b1,r,bI,-,lA⟩:=r8 (n:=(n:Int)) aK hp
 generalize h.next=B at*
 have aL:=lA h1 (Le.refl _);have ll:=fun g=>hp.len g;simp only[HO,Nat.reduceLT,↓reduceIte,Nat.reduceEqDiff,reduceCtorEq,b1,aL.1];refine TC.intro PJ ⟨qS7,rfl,WY⟩ (ak W0 _ _ h1 (aH.le r)) ?_;rintro x h2 G ⟨⟨bb,rfl,aN⟩,m⟩;obtain rfl:bb=true:=aN.2 hr;have aP:=lA h2 m;have mk:=Ye (P:=Tryz.prog) (t:=25) (z:=.slice none 0 0) h2 qS6 rfl rfl rfl rfl Ji Mb Ji n NH;obtain⟨h3,e3,H,bN,o3⟩:=Tt G (List.replicate n (.slice none 0 0));rw[e3]at mk
 have nL:h2.own h2.next=none:=(Le.refl h2).next G (qL0 _)
 generalize h2.next=L at*
 have fT:=lA h3 (m.trans H);simp only[HO,Nat.reduceLT,↓reduceIte,Nat.reduceEqDiff,reduceCtorEq,Ii,Di,Ip,Gc,aP.2.1,mk,fT.2.2,ll];have R0:Rows h2 h3 L (List.replicate n (.slice none 0 0)) (Zh n (es.take 0)):=by
  have:Zh n (es.take 0)=List.replicate n []:=by simp[Zh]
  rw[this];exact Rows.start o3 H nL
 refine aab.intro (fun k fr hh=>∃(i:Nat) (us:List Value),k=es.length-i/\i<=es.length/\fr=mkF [(3,.slice (some ⟨L,0,none⟩) n n),(13,ev),(14,.int .i64 es.length),(15,.int .i64 i)]/\Rows h2 hh L us (Zh n (es.take i)))
  es.length [(3,.slice (some ⟨L,0,none⟩) n n),(13,ev),(14,.int .i64 es.length),(15,.int .i64 (0:Nat))] fD ⟨0,_,rfl,abe _,rfl,R0⟩ ?_
 rintro k fr hh I ⟨i,us,rfl,hi,rfl,R⟩;refine sSs ?_;refine Kl.intro (fun ht=>?_) (fun hf=>?_)
 rotate_left
 .have aT:es.length<=i:=vp hf;rw[HV aT]at R;refine sSs ?_;exact⟨h2,⟨L,us,by rw[Xq],R⟩,r.trans m⟩
 have o:i<es.length:=CC ht;clear ht;have s:=CA o;have J:es.take (i+1)=es.take i++[es[i]]:=EL o;generalize es[i]=p at s J;obtain⟨p1,p2,p3⟩:=F p (BS s);have aW:=hp.le ((r.trans m).trans R.le);have ad:=hp.addr (k:=.i64) i o;have ld:=aW.load s;obtain⟨bQ,h4,e4,aX,a6,a7,K⟩:=Ut I p
 have M:hh.own hh.next=none:=(Le.refl hh).next I (qL0 _)
 obtain⟨a,c⟩:=p;simp only at p1 p2 p3;obtain⟨a,rfl⟩:=Sb p1;obtain⟨c,rfl⟩:=Sb (show 0<=c by omega);have R4:=R.up a6
 have a8:∀(v:Nat) u,us[v]?=some u->blk u≠some hh.next:=fun v u N hb=>by
  have bg:∃q,(Zh n (es.take i))[v]?=some q:=⟨_,CA (by rw[<-R.len];exact(Ny.1 N).1)⟩;obtain⟨q,hq⟩:=bg;exact(R.gs v u q N hq).Sy hb M
 have O:hh.next≠L:=fun e=>by have:=R.oL;rw[<-e,M]at this;cases this
 generalize hh.next=E at*
 simp only[HO,Nat.reduceLT,↓reduceIte,Nat.reduceEqDiff,reduceCtorEq,ad,ld,e4,aX];have d:=bV n (es.take i);have bW:(es.take i).length<=594:=by rw[KG];omega
 have Q:∀(k:IntKind) (j:Nat),j<n->aao Tryz.prog 25 (.slice (some ⟨L,0,none⟩) n n) (.int k j)=some (.pointer (some ⟨L,j,none⟩)):=fun k j hj=>by rw[Wc qS6 Mb Ji j hj];simp[Ip]
 have y:a<(Zh n (es.take i)).length:=by rw[Xq];omega
 have A:=CA y;have S:(Zh n (es.take i)).getD a []=(Zh n (es.take i))[a]:=D4 y;have T:((Zh n (es.take i))[a]).length<=100000:=by have:=d _ (aev y);omega
 generalize (Zh n (es.take i))[a]=ra at A S T;obtain⟨u,u',h5,h6,h7,N,e5,e6,e7,l5,l6,bY,R7,bh,keep⟩:=R4.push a7 A (c:Int) T;obtain⟨f,b,U⟩:=keep _ _ K O a8;have V:=lK K;have W:=HY K;have X:=lK (l5.own _ _ K);have aa:=HY (l5.own _ _ K);have ae:=lK f;have ag:=HY f;have ai:=lK b;have aj:=HY b;simp only at V W X aa ae ag ai aj;have bk:aaC Tryz.prog h4 28 ⟨L,a,none⟩=some u:=by rw[Fq Mb rfl R4.oL];exact N
 have bm:aaC Tryz.prog h5 28 ⟨L,a,none⟩=some u:=by rw[Fq Mb rfl (l5.own _ _ R4.oL)];exact N
 have bs:aas Tryz.prog h4 28 1 [(0,.int .i64 (c:Int))]=some (.slice (some ⟨h4.next,0,none⟩) 1 1,h5):=by rw[DQ,e5]
 refine gh (tA [0,1,2,3,4,5,6,7,8,9] (JQ 10 [9] (JQ 11 [7,10] (tA [12] (JQ 13 [0,1,2,3,4,5,6,7,8,9,10,11,12] .done))))) ?_;simp only[HO,Nat.reduceLT,↓reduceIte,Nat.reduceEqDiff,reduceCtorEq,Nat.reduceBEq,Qg,Dh,Z0,Ip,Gc,V,W,X,aa,ae,ag,Q _ a NH,bk,bm,bs,e6,e7];have bZ:((Zh n (es.take i)).set a (ra++[(c:Int)])).length=n:=by simp[Xq]
 have C:c<((Zh n (es.take i)).set a (ra++[(c:Int)])).length:=NH;have al:=CA C;have aq:((Zh n (es.take i)).set a (ra++[(c:Int)])).getD c []=((Zh n (es.take i)).set a (ra++[(c:Int)]))[c]:=D4 C;have ar:(((Zh n (es.take i)).set a (ra++[(c:Int)]))[c]).length<=100000:=by
  rcases aiq (aev C)with e|e
  .have:=d _ e;omega
  .rw[e];simp;have:=d ra (BS A);omega
 generalize ((Zh n (es.take i)).set a (ra++[(c:Int)]))[c]=rc at al aq ar;obtain⟨w,w',h8,h9,b2,hw,e8,e9,bo,l8,l9,b3,av,bH,D⟩:=R7.push bh al (a:Int) ar;obtain⟨l,ay,-⟩:=D _ _ b O U;have az:=lK (l8.own _ _ b);have aC:=HY (l8.own _ _ b);have aD:=lK l;have aF:=HY l;simp only at az aC aD aF;have br:aaC Tryz.prog h7 28 ⟨L,c,none⟩=some w:=by rw[Fq Mb rfl R7.oL];exact hw
 have bx:aaC Tryz.prog h8 28 ⟨L,c,none⟩=some w:=by rw[Fq Mb rfl (l8.own _ _ R7.oL)];exact hw
 have bB:aas Tryz.prog h7 28 1 [(0,.int .i64 (a:Int))]=some (.slice (some ⟨h7.next,0,none⟩) 1 1,h8):=by rw[DQ,e8]
 refine gh (tA [0,1,2,3,4,5,6,7,8,9] (JQ 10 [9] (JQ 11 [7,10] (tA [12] (JQ 13 [0,1,2,3,4,5,6,7,8,9,10,11,12] .done))))) ?_;simp only[HO,Nat.reduceLT,↓reduceIte,Nat.reduceEqDiff,reduceCtorEq,Nat.reduceBEq,Qg,Dh,Z0,Ip,Gc,ai,aj,az,aC,aD,aF,Q _ c NH,br,bx,bB,e9,bo,aaa i NH];have:Xs (Zh n (es.take i)) ((a:Int),(c:Int))=((Zh n (es.take i)).set a (ra++[(c:Int)])).set c (rc++[(a:Int)]):=by simp only[Xs,Z6,S,aq]
 rw[<-this,<-NJ,<-J]at av;exact tn (es.length-(i+1)) [(3,.slice (some ⟨L,0,none⟩) n n),(13,ev),(14,.int .i64 es.length),(15,.int .i64 (i+1:Nat))] NH fD ⟨i+1,_,rfl,o,rfl,av⟩
def isH(_:aai)(v:vV)(n:Int):Prop:=v=.int .u16 n/\0<=n/\n<65536
def Nn.isH:Nn Fw.isH:=fun _ _ _ _ r _=>r
def RL.loadH(a:RL isH h v xs){e:TypeId}{d:TypeDesc}(b:pG.underlying e=Z d)(hd:ab8 d=fF)(i:Nat)(hi:i<xs.length):
  aaC pG h e (aaq v i)=Z (.int .u16 xs[i])/\0<=xs[i]/\xs[i]<65536:=by obtain⟨u,c,h2⟩:=a.load b hd i hi;exact⟨by rw[c,h2.1],h2.2⟩
def around_k{i len:Nat}(hi:i<len)(a:0<=x):∃k:Nat,i<=k/\k<len/\(i:Int)+x.tmod ((len:Int)-(i:Int))=(k:Int):=by obtain⟨m,rfl⟩:=Sb a;have e:((len:Int)-(i:Int))=((len-i:Nat):Int):=NH;have:=dZ m (show len-i>0 by omega);refine⟨i+m%(len-i),NH,NH,?_⟩;rw[e,tm_nat];omega
theorem Av.swap{n:Nat}{es:xLP}{rs:AM}(G:Av n es rs){w:Nat}{r q:RZ}(a:rs[w]?=Z r)(d:q.Perm r):Av n es (rs.set w q):=by
 refine⟨by rw[Yq];exact G.len,fun v b=>?_⟩;by_cases c:w=v
 .subst c;have hw:=(Ny.1 a).1;have e:(rs.set w q).getD w []=q:=by rw[j9,akM hw];rfl
  have f:rs.getD w []=r:=by rw[j9,a];rfl
  rw[e];exact d.trans (by rw[<-f];exact G.perm w b)
 .have e:(rs.set w q).getD v []=rs.getD v []:=by rw[j9,QU c,<-j9]
  rw[e];exact G.perm v b
def wrap_x(a:0<=x)(b:x<65536):aaY .i64 x=x:=ie _ NH NH
def wrap_d(h:i<m)(a:m<=1188):aaY .i64 ((m:Int)-(i:Int))=(m:Int)-(i:Int):=ie _ NH NH
def wrap_k(h:(i:Int)+x.tmod ((m:Int)-(i:Int))=(k:Int))(a:k<m)(hi:i<m)(b:m<=1188):aaY .i64 (x.tmod ((m:Int)-(i:Int)))=x.tmod ((m:Int)-(i:Int)):=ie _ NH NH
def wrap_n(h:k<m)(a:m<=1188):aaY .i64 (k:Int)=(k:Int):=ie _ NH NH
def cnt_b(h:c<=w*2000+i)(hw:w<n)(hi:i<=1188)(a:n<=200):c<4611686018427387904:=NH
def cnt_n(h:c<=w*2000+i)(hi:i<=1188):c<=(w+1)*2000:=NH
def cnt_s(h:c<=w*2000+i):c+1<=w*2000+(i+1):=NH
def akJ(W0:LA)(v O:vV)(n:Nat)(es:xLP)(os:RZ)(h:aai)(hg:GR h v ⟨(n:Int),es⟩)(S:RL isH h O os)(T:bX ⟨(n:Int),es⟩):
  AC pG W0 22 [v,O] h fun x h'=>∃rs,Av n es rs/\RL isG h' x rs/\Le h h':=by
 have U:=hg
 obtain⟨ev,rfl,hp⟩:=hg.open
 have aD:(n:Int)<=200:=T.n1;have aF:es.length<=594:=T.len;refine AC.vE ⟨func22,rfl,WY⟩ ntmps22 results22 fun V=>?_;simp only[Br,seval];obtain⟨h1,b1,D,aH,-,lA⟩:=r8 (n:=(n:Int)) V hp
 generalize h.next=B at*
 have W:=lA h1 (Le.refl _);refine sFa (XC b1 W.1) ?_;refine kCi afm (akA W0 _ n es h1 (U.le D) T) ?_;rintro rv h2 w2 ⟨b0,⟨L,us,rfl,R⟩,l0⟩;have lr:∀g m,aeh pG g 26 (sL (Z L) m m)=Z (.int .i64 m):=fun g m=>Jg akG g;have E:=D.trans l0;have s:=Xq n es;have lo:=fun g=>S.len (P:=pG) qS34 g;have F:∀r∈Zh n es,r.length<=1188:=fun r b=>by have:=bV n es r b;omega
 rw[s];simp only[HO,seval,lr];refine lIn (fun k fr H=>∃(w c:Nat)(rs:AM),k=n-w/\w<=n/\fr=mkF [(1,O),(5,sL (Z L) n n),(6,c),(13,sL (Z L) n n),(14,.int .i64 n),(15,w)]/\
   c<=w*2000/\Av n es rs/\Rows b0 H L us rs/\Le h H) ⟨0,0,_,rfl,abe _,rfl,abe _,⟨s,fun v _=>List.Perm.refl _⟩,R,E.trans R.le⟩ ?_
 clear R w2;clear h2;rintro k fr H X ⟨w,c,rs,rfl,hw,rfl,q,G,R,lq⟩;refine sSs ?_;refine Kl.intro (fun I=>?_) (fun hf=>?_)
 .have e:w<n:=CC I;clear I;have j:w<rs.length:=by rw[G.len];exact e
  have aa:w<us.length:=by rw[R.len];exact j
  have C:=CA aa;generalize us[w]=u at C;have ad:=Wc (P:=pG) (a:=⟨L,0,Y⟩) (n:=n) (cap:=n) (k:=.i64) akG Mb Ji w e;simp only[Ip,Gc,zd]at ad;have ld:aaC pG H 28 ⟨L,w,Y⟩=Z u:=by rw[Fq Mb rfl R.oL];exact C
  have J:=(G.perm w e).length_eq;have t:=CA j;have K:rs.getD w []=rs[w]:=D4 j;have hlen:(rs[w]).length<=1188:=by
   rw[<-K,J];have hb:w<(Zh n es).length:=by rw[s];exact e
   rw[D4 hb];exact F _ (aev hb)
  have lu:=fun g=>(RL.Wh (R.gs w u rs[w] C t).cs.rs).DH g;generalize hm:(rs[w]).length=m at*;have M:∃r,rs[w]?=Z r/\r.length=m:=⟨_,t,hm⟩;clear t K J hm;simp only[HO,seval,ad,ld,lu];refine lIn (fun k fr hz=>∃(i c:Nat)(rs:AM),k=m-i/\i<=m/\fr=mkF [(1,O),(5,sL (Z L) n n),(6,c),(8,u),(13,sL (Z L) n n),(14,.int .i64 n),(15,w),(20,.int .i64 m),(21,i)]/\
    c<=w*2000+i/\Av n es rs/\Rows b0 hz L us rs/\Le h hz/\∃r,rs[w]?=Z r/\r.length=m) ⟨0,c,rs,rfl,abe _,rfl,q,G,R,lq,M⟩ ?_
  clear M lq R G X q j ld;clear H rs c;rintro k fr hz ae ⟨i,c,rs,rfl,hi,rfl,q,G,R,lz,r,b,l⟩;refine sSs ?_;refine Kl.intro (fun I=>?_) (fun hf=>?_)
  .have f:i<m:=CC I;clear I;simp only[HO,seval,lo];by_cases c1:(c:Int)<(os.length:Int)
   .have N:c<os.length:=NH;have ag:=S.addr (P:=pG) qS34 qS35 Ji (k:=.i64) c N;obtain⟨ai,o0,o1⟩:=(S.le Nn.isH lz).loadH qS35 rfl c N;generalize os[c]=x at*;obtain⟨k,aJ,y,hk⟩:=around_k f o0;have d:decide ((c:Int)<(os.length:Int))=tT:=qL7 c1;have w1:=wrap_x o0 o1;have w2:=wrap_d f hlen;have w3:=wrap_k hk y f hlen;have w4:=wrap_n y hlen;have nz:¬((m:Int)-(i:Int)=0):=NH;have Q:=RL.Wh (R.gs w u r C b).cs.rs;have o:i<r.length:=by rw[l];exact f
    have p:k<r.length:=by rw[l];exact y
    have aj:=Q.TA i o;have al:=Q.TA k p;have aq:=Q.Uc i o;have ar:=Q.Uc k p;obtain⟨h5,e5,R5,w5,aK,-⟩:=R.put ae C b o r[k];have av:(rs.set w (r.set i r[k]))[w]?=Z (r.set i r[k]):=akM (Ny.1 b).1;obtain⟨h6,e6,R6,w6,aL,-⟩:=R5.put w5 C av (i:=k) (by rw[Yq];exact p) r[i];rw[List.set_set]at R6;have G6:=G.swap b (List.set_set_perm o p);have ay:(rs.set w ((r.set i r[k]).set k r[i]))[w]?=Z ((r.set i r[k]).set k r[i]):=akM (Ny.1 b).1;have az:((r.set i r[k]).set k r[i]).length=m:=by rw[Yq,Yq];exact l
    have l6:Le h h6:=E.trans R6.le;have z:=aaa c (cnt_b q e (EP hi hlen) NH);have A:=aaa i NH;simp only[HO,seval,d,ag,ai,lu,acX,qS35,Ac,w1,w2,nz,w3,hk,w4];refine gh (tA [0,1,2,3,4,5,6,7,8,9,10,11,12] (JQ 13 [0,1,4,5,6,7,11,12] (tA [14] (JQ 15 [0,1,2,3,4,5,6,7,8,9,10,11,12,13,14] .done)))) ?_;refine sFd (ahg aj al aq ar e5 e6 z A) ?_;exact lgA (JS f) ⟨i+1,c+1,_,rfl,f,rfl,cnt_s q,G6,R6,l6,_,ay,az⟩
   .have d:decide ((c:Int)<(os.length:Int))=fF:=WA c1;have z:=aaa c (cnt_b q e (EP hi hlen) NH);have A:=aaa i NH;refine sFa (adG d z A) ?_;exact lgA (JS f) ⟨i+1,c+1,_,rfl,f,rfl,cnt_s q,G,R,lz,_,b,l⟩
  .have aC:=aaa w NH;refine sFa aC ?_;exact lgA (JS e) ⟨w+1,c,_,rfl,e,rfl,cnt_n q (EP hi hlen),G,R,lz⟩
 have aN:n<=w:=vp hf;refine sSs ?_;have rl:=R.rlG (n:=n) (c:=n) (by rw[R.len,G.len]);exact⟨rs,G,rl,lq⟩
theorem OS(l:LA)(v:vV)(xs:RZ)(y:Int)(h:aai)(d:RL RP h v xs)(s:xs.length<=100000):AC pG l 101 [v,.int .i64 y] h fun x h'=>((x=.int .i64 (-1)/\y∉xs)\/∃i,∃hi:i<xs.length,x=.int .i64 (i:Nat)/\xs[i]=y/\∀j (b:j<i),xs[j]≠y)/\h'=h:=by
 refine AC.vE ⟨qS39,rfl,WY⟩ ntmps101 results101 fun m=>?_;simp only[Br,seval];have n:=fun g=>d.DH g;refine sFa n ?_;refine lIn (fun k fr e=>∃i,k=xs.length-i/\i<=xs.length/\fr=mkF [(0,v),(1,.int .i64 y),(7,.int .i64 xs.length),(8,.int .i64 i)]/\e=h/\∀j (b:j<xs.length),j<i->xs[j]≠y) ⟨0,rfl,abe _,rfl,rfl,fun j _ b=>absurd b (aeA _)⟩ ?_;rintro k fr e o ⟨i,rfl,hi,rfl,rfl,p⟩;refine sSs ?_;refine Kl.intro (fun f=>?_) (fun hf=>?_)
 .have a:i<xs.length:=CC f;clear f;have ad:=d.TA i a;have ld:=d.Uc i a;have hw:=aaa i NH;by_cases c:y=xs[i]
  .simp only[HO,seval,ad,ld,qL7 c];grind
  .simp only[HO,seval,ad,ld,WA c,hw];refine lgA (JS a) ⟨i+1,rfl,a,rfl,rfl,fun j b q=>?_⟩;grind
 .have r:xs.length<=i:=vp hf;refine sSs ?_;grind[List.mem_iff_getElem]
theorem W3(b:LA)(v:vV)(xs:RZ)(y:Int)(h:aai)(c:RL RP h v xs)(e:xs.length<=100000):AC pG b 77 [v,y] h fun x h'=>x=.bool (decide (y∈xs))/\h'=h:=by
 refine AC.vE ⟨func77,rfl,WY⟩ ntmps77 results77 fun f=>?_;simp only[Br,seval];refine sSs ?_;refine kCi qS39 (OS b v xs y h c e) ?_;rintro x h2 w2 ⟨⟨rfl,a⟩|⟨i,hi,rfl,a,-⟩,rfl⟩
 .have d:decide ((-1:Int)>=0)=fF:=by decide
  simp only[HO,seval,d,WA a];grind
 .have d:decide ((i:Int)>=0)=tT:=by simp
  have g:y∈xs:=a▸aev hi;simp only[HO,seval,d,qL7 g];grind
end
variable {es:List Pr} {n:Nat} {rs:AM}
attribute [local instance] Classical.propDecidable in
theorem vS{n:Nat}{es:xLP}{rs:AM}(c:aV n es)(ha:D3 es)(G:Av n es rs)(d:0<n)(k:∀v,v<n->Pu es 0 v):
  z8 n es rs↔(0<es.length->n+(IN n rs).length=es.length+2):=by
 have all:∀a,a<n->Gn es es a=es.length/\(Ic n es a).length=n/\sA es (IN n rs) a=(IN n rs).length:=fun a g=>by
  have i:∀v,v<n->Pu es a v:=by grind[Cn.symm,Cn.trans]
  refine⟨?_,?_,?_⟩
  .unfold Gn VF;rw[pz.2];intro e j;have h:=c e j;grind
  .grind[Ic,List.filter_eq_self]
  .unfold sA VF;rw[pz.2];intro f hf;obtain⟨_,v,l,e⟩:=Uj c ha G hf;grind
 constructor
 .intro H m;obtain⟨a,b,_⟩:=B6 c 0 d;obtain⟨o,p,e3⟩:=all a (QO.1 b).1;have:=H a b hGr;grind
 .intro H a b;grind[QO]
theorem rotG_of(h:rs.length=n)(d:(rG n).all (fun v=>(rs.getD v []).isPerm ((Zh n es).getD v []))=tT):Av n es rs:=⟨h,(by grind[List.isPerm_iff])⟩
theorem X9(a:bX ⟨(n:Int),es⟩)(G:Av n es rs){hs:List (H8×Nat)}(C:Cert n (Xl rs) hs):IN n rs=hs.map fun p=>(rG p.2).map fun j=>(((it (Nv (Xl rs)) j p.1).1:Nat):Int):=by rw[IN,Fs (G.jD a.GD a.q9) C,FD];grind[List.map_congr_left,kz]
instance (n:Nat) (r:Nat->II) (hs:List (H8×Nat)):Decidable (Cert n r hs):=by unfold Cert;infer_instance
section
attribute [local irreducible] Kp MQ lU KO1 KO KN KX KE VK Kl ZJ TC aab
variable {B M T i:Nat} {h:aai} {rows:AM} {x:Int}
def afu{l:List (Pr×Int)}(i:h.own M=Z (.map (wy l)))(k:Pr):∃(j:Nat)(l1:List (Pr×Int)),
  ad9 pG h 74 (.map (Z M)) (UI k)=Z (.tuple #[.int .i64 ((abo l k).getD 0),.int .i64 (j:Int)],h.put M (.map (wy l1)))/\(abo l1 k).getD 0=(abo l k).getD 0/\
  ∀v:Int,acT (h.put M (.map (wy l1))) (.map (Z M)) (.int .i64 (j:Int)) (.int .i64 v)=Z ((h.put M (.map (wy l1))).put M (.map (wy (acs l k v)))):=by
 have m:acd pG 3=Z (.int .i64 0):=Ji;have hf:=ady k l 0;have hd:∀v:Int,_:=fun v=>Ek l k v;rcases Ek l k 0 with⟨a,n⟩|⟨j,b,a,h2,h3,n⟩
 .have d:=hf.1 a;refine⟨l.length,l++[(k,0)],?_,?_,fun v=>?_⟩
  .simp only[ad9,qS23,keyP,i,m,if_true,d,show flat (.int .i64 0)=tT from rfl,a];simp[wy]
  .rw[<-n,XR,IE rfl,a];rfl
  .have hs:acs l k v=l++[(k,v)]:=by
    rcases hd v with⟨_,e⟩|⟨j,b,e,_⟩
    .exact e
    .rw[a]at e;cases e
   have f:(0:Int)<=(l.length:Int):=NH;simp only[acT,aai.Y3,f,if_true,Z6];rw[hs];simp[wy]
 .have c:=hf.2 j b h2 h3;rw[Gc]at c;refine⟨j,l,?_,rfl,fun v=>?_⟩
  .simp only[ad9,qS23,keyP,i,m,if_true,c,a,VX]
  .have hs:acs l k v=l.set j (k,v):=by
    rcases hd v with⟨e,_⟩|⟨g,s,e,o,p,r⟩
    .rw[a]at e;cases e
    .have:g=j:=by
      rcases IK g j with q|q|q
      .exact absurd rfl (h3 g q _ o)
      .exact q
      .exact absurd rfl (p j q _ h2)
     rw[r,this]
   have f:(0:Int)<=(j:Int):=NH;have hg:(wy l)[j]?=Z (UI k,.int .i64 b):=by simp[wy,h2]
   simp only[acT,aai.Y3,f,if_true,Z6,hg];rw[hs];simp[wy,C4]
def bX.n200(a:bX ⟨(n:Int),es⟩):n<=200:=by have:(n:Int)<=200:=a.n1;omega
def stKI{x:vV}(o:h.own T=Z (.cells [x]))(y:Int):aaK pG h 3 (pT (Z T)) y=Z (h.put T (.cells [y])):=QB Ac Ji o Nat.zero_lt_one rfl rfl
def ldKI(o:h.own T=Z (.cells [x])):aaC pG h 3 ⟨T,0,Y⟩=Z (.int .i64 x):=by rw[Fq Ac rfl o];rfl
def ldKR{a:vV}(o:h.own B=Z (.cells [a])):aaC pG h 25 ⟨B,0,Y⟩=Z a:=by rw[Fq qS6 rfl o];rfl
def other_any(V:LA)(T B:Nat)(Q:vV)(s c v:Nat)(t h:aai)(oT:h.own T=Z (.cells [(s:Nat)]))(oB:h.own B=Z (.cells [Q]))(F:B≠T)(hb:RL (RL RP) t Q (Zh n es))(l0:Le t h)(nT:t.own T=Y)(G:bX ⟨(n:Int),es⟩)(R:Jp es c v)(W:((Zh n es).getD c []).length≠2)(hs:s<=100000000):
  AC pG V 76 [(c:Nat),(v:Nat),pT (Z T),pT (Z B)] h fun x h'=>x=.int .i64 ((aal (Zh n es) (c,v)).1:Nat)/\h'.own T=Z (.cells [.int .i64 ((s+((aal (Zh n es) (c,v)).2+1):Nat):Int)])/\Le t h'/\∀b o,b≠T->h.own b=Z o->h'.own b=Z o:=by
 have hR:=G.GD;have hA:D3 es:=G.q9;obtain⟨K,hK,h2,h3,X⟩:=oth_go hR hA G.n200 R W;rw[X];have H:=aa7 hR hA (d:=(c,v)) R;have rt:=fun v=>abg hR hA (v:=v);have bl:=Xq n es;have bn:∀{x y},Jp es x y->y<n:=fun a=>(a.lt hR).2;generalize Zh n es=rows at*;refine AC.vE ⟨func76,rfl,WY⟩ ntmps76 results76 fun w=>?_;simp only[Br,seval];have z:=ldKI oT;have A:=stKI oT ((s+1:Nat):Int);have C:=aaa s NH;refine sFa (adG z C A) ?_;have w1:WF (h.put T (.cells [((s+1:Nat):Int)])):=w.put _ (w.lt oT);refine aab.intro (fun k fr j=>∃i:Nat,k=K-i/\i<=K/\fr=mkF [(1,.int .i64 ((it (goS rows) i (c,v)).2:Nat)),(2,pT (Z T)),(3,pT (Z B)),(7,.int .i64 ((it (goS rows) i (c,v)).1:Nat))]/\
   j.own T=Z (.cells [((s+1+i:Nat):Int)])/\Le t j/\∀b o,b≠T->h.own b=Z o->j.own b=Z o)
  K [(1,(v:Nat)),(2,pT (Z T)),(3,pT (Z B)),(7,(c:Nat))] fD
  ⟨0,rfl,abe _,rfl,aai.Y3 _ _ _,l0.put _ nT,fun b o hb I=>by rw[aai.By _ _ _ _ hb];exact I⟩ ?_
 clear w1 A z C oT;rintro k fr j aa ⟨i,rfl,hi,rfl,oT,p,J⟩;have lB:=ldKR (J B _ F oB);have ha:=H i fun q j=>h2 q NH;generalize e:it (goS rows) i (c,v)=d at*;have l:d.2<rows.length:=by rw[bl];exact bn ha
 have L:=hb.Wm d.2 l;obtain⟨u,M,r⟩:=hb.NS d.2 l;have lu:=M j p;have gd:rows.getD d.2 []=rows[d.2]:=D4 l;have ln:=fun g=>r.DH g;have S:=ldKI oT;have st:=stKI oT ((s+1+(i+1):Nat):Int);have aw:=aaa (s+1+i) NH;rw[qL235 (s+1) i 1]at aw;by_cases c2:(rows.getD d.2 []).length=2
 rotate_left
 .have f:i=K:=by
   rcases abz i K with q|q
   .have:=h2 i q;rw[e]at this;exact absurd this c2
   .omega
  subst f;have d2:decide ((rows[d.2].length:Int)=2)=fF:=WA (by rw[gd]at c2;omega);rw[e];simp only[HO,seval,lB,L,lu,ln,d2];have e1:s+1+i=s+(i+1):=NH;rw[e1]at oT;exact⟨trivial,oT,p,J⟩
 have f:i<K:=by
  rcases abz i K with q|q
  .exact q
  .obtain rfl:i=K:=NH;rw[e]at h3;exact absurd c2 h3
 obtain⟨a,b,N,ne,h4,h5,h6⟩:=rt d.2 c2;have D:it (goS rows) (i+1) (c,v)=goS rows d:=by rw[<-e];rfl
 have gs:goS rows d=(d.2,if(a:Int)=(d.1:Int)then b else a):=by unfold goS;rw[N];simp only[List.getD_cons_zero,qL195];split<;>simp
 rw[gd]at N;rw[N]at r ln;have d2:decide ((([(a:Int),(b:Int)]:RZ).length:Int)=2)=tT:=by simp
 have O:=r.TA 0 Ma;have a1:=r.TA 1 Ma;have m:=(r.le Nn.RP p).Uc 0 Ma;have E:=(r.le Nn.RP p).Uc 1 Ma;simp only[qL221,qL225]at m E;simp only[Dl]at O a1;have U:∀b o,b≠T->h.own b=Z o->(j.put T (.cells [.int .i64 ((s+1+(i+1):Nat):Int)])).own b=Z o:=fun b o hb I=>by rw[aai.By _ _ _ _ hb];exact J b o hb I
 by_cases ca:(a:Int)=(d.1:Int)
 .have P:decide ((a:Int)=(d.1:Int))=tT:=qL7 ca;rw[IE ca]at gs;simp only[HO,seval,lB,L,lu,ln,d2,O,m,P,a1,E,S,aw,st];exact tn (K-(i+1)) [(1,(b:Nat)),(2,pT (Z T)),(3,pT (Z B)),(7,(d.2:Nat))] NH fD
   ⟨i+1,rfl,f,by rw[D,gs];rfl,aai.Y3 _ _ _,p.put _ nT,U⟩
 .have P:decide ((a:Int)=(d.1:Int))=fF:=WA ca;rw[yM ca]at gs;simp only[HO,seval,lB,L,lu,ln,d2,O,m,P,S,aw,st];exact tn (K-(i+1)) [(1,(a:Nat)),(2,pT (Z T)),(3,pT (Z B)),(7,(d.2:Nat))] NH fD
   ⟨i+1,rfl,f,by rw[D,gs];rfl,aai.Y3 _ _ _,p.put _ nT,U⟩
def aen(rows:AM)(D:List (Nat×Nat)):Nat:=(D.map fun d=>(aal rows d).2+1).sum
structure agd (rows:AM) (D:List (Nat×Nat)) (hq:aai) (M T B:Nat) (rv:vV) (l:List (Pr×Int)):Prop where
 oM:hq.own M=Z (.map (wy l))
 oT:hq.own T=Z (.cells [(aen rows D:Nat)])
 oB:hq.own B=Z (.cells [rv])
 OT:∀p,(abo l p).getD 0=(((D.map (aaH rows)).count p:Nat):Int)
def strS_le{D:List (Nat×Nat)}(h:∀d∈D,(aal rows d).2<=40000):aen rows D<=40001*D.length:=by
 induction D with
 |nil=>simp[aen]
 |cons d D a=>have c:=h d Ma;have h2:=a fun e b=>h e (by simp[b]);simp only[aen,Lm,V9,ah6]at*;omega
def strS_snoc(rows:AM)(D:List (Nat×Nat))(d:Nat×Nat):aen rows (D++[d])=aen rows D+((aal rows d).2+1):=by simp[aen]
def strD_take{cs:II}(h:i<cs.length):aaj rows (cs.take (i+1))=aaj rows (cs.take i)++(rows.getD cs[i] []).map fun x=>(cs[i],x.toNat):=by unfold aaj;rw[EL h,qL194];simp only[Ug,List.flatMap_nil,ai4]
def afv(W0:LA)(C cv:vV)(cs:II)(h:aai)(hb:RL (RL RP) h C (Zh n es))(J:RL RP h cv (kz cs))(hr:bX ⟨(n:Int),es⟩)(hc:∀c∈cs,c<n/\((Zh n es).getD c []).length≠2)(hl:(aaj (Zh n es) cs).length<=1000)(b2:cs.length<=1000):
  AC pG W0 46 [C,cv] h fun x h'=>∃(M:Nat)(l:List (Pr×Int)),x=.tuple #[.map (Z M),(aaU (Zh n es) cs:Nat)]/\h'.own M=Z (.map (wy l))/\(∀p,(abo l p).getD 0=(aaI (Zh n es) cs p:Int))/\Le h h':=by
 have hR:=hr.GD;have hA:D3 es:=hr.q9;have Wn:=fun c v=>oth_go hR hA hr.n200 (c:=c) (v:=v);have f:=fun(T B:Nat)(s c v:Nat)(g:aai) a1 a2 a3 a4 a5 a6 a7 a8=>other_any W0 T B C s c v h g a1 a2 a3 hb a4 a5 hr a6 a7 a8;have bl:=Xq n es;have bm:=EW hR;have bN:=fun u x=>Ru hR (u:=u) (x:=x);generalize Zh n es=rows at*;refine AC.vE ⟨func46,rfl,WY⟩ ntmps46 results46 fun ae=>?_;simp only[Br,seval];obtain⟨m,e1,l1,w1,o1⟩:=Tt ae [C]
 have bx:zF h C=Z (pT (Z h.next),m):=by obtain⟨a,c,rfl,_⟩:=hb.sl;rw[<-e1];rfl
 obtain⟨h2,e2,l2,w2,o2⟩:=Tt w1 [.int .i64 0]
 have al:abO pG m 3=Z (pT (Z m.next),h2):=by rw[<-e2];rfl
 have ag:=stKI o2 0
 have nB:h.own h.next=Y:=(Le.refl h).next ae (qL0 _)
 have z:m.own m.next=Y:=(Le.refl m).next w1 (qL0 _)
 have nT:=l1.none z
 have ai:h.next≠m.next:=fun e=>by rw[<-e,o1]at z;cases z
 have E:Le m (h2.put m.next (.cells [.int .i64 0])):=l2.put _ z
 have L:WF (h2.put m.next (.cells [.int .i64 0])):=w2.put _ (w2.lt o2)
 have N:=aai.Y3 h2 m.next (.cells [.int .i64 0])
 generalize h2.put m.next (.cells [.int .i64 0])=y at*
 obtain⟨g3,e3,l3,w3,o3⟩:∃g3,y.alloc (.map [])=g3/\Le y g3/\WF g3/\g3.own y.next=Z (.map []):=⟨_,rfl,(Le.refl y).alloc L _,L.alloc _,aai.zT _ _⟩
 have o:y.own y.next=Y:=(Le.refl y).next L (qL0 _)
 have nM:h.own y.next=Y:=(l1.trans E).none o
 have A:m.next≠y.next:=fun e=>by rw[<-e,N]at o;cases o
 have G:h.next≠y.next:=fun e=>by rw[<-e,E.own _ _ o1]at o;cases o
 have ln:=fun g=>J.DH g;rw[y6]at ln;simp only[HO,seval,bx,al,ag,e3,ln]
 have S0:agd rows (aaj rows (cs.take 0)) g3 y.next m.next h.next C []:=⟨o3,l3.own _ _ N,l3.own _ _ (E.own _ _ o1),fun p=>rfl⟩
 have aj:=(l1.trans E).trans l3
 generalize h.next=B at*
 generalize m.next=T at*
 generalize y.next=M at*
 clear e3 o3 o N ag z al e2 bx e1 o1 o2 l2 w2 l1 w1;refine lIn (fun k fr hq=>∃(i:Nat)(l:List (Pr×Int)),k=cs.length-i/\i<=cs.length/\fr=mkF [(2,pT (Z B)),(6,pT (Z T)),(7,.func (.func 76) #[] #[pT (Z T),pT (Z B)]),(8,.map (Z M)),(16,cv),(17,.int .i64 cs.length),(18,.int .i64 i)]/\agd rows (aaj rows (cs.take i)) hq M T B C l/\Le h hq) ⟨0,[],rfl,abe _,rfl,S0,aj⟩ ?_;clear S0 aj l3 w3;rintro k fr hq aP ⟨i,l,rfl,hi,rfl,S,lq⟩;refine sSs ?_;refine Kl.intro (fun ht=>?_) (fun hf=>?_)
 rotate_left
 .have O:cs.length<=i:=vp hf;rw[HV O]at S;have lT:=ldKI S.oT;refine sSs ?_;refine gh (tA [0,1,2,3] .done) ?_;refine sFd lT ?_;exact⟨M,l,rfl,S.oM,S.OT,lq⟩
 have b:i<cs.length:=CC ht;clear ht;obtain⟨aT,P⟩:=hc cs[i] (aev b);have Q:cs[i]<rows.length:=by rw[bl];exact aT
 have aq:∀i,i<=cs.length->(aaj rows (cs.take i)).length<=(aaj rows cs).length:=fun i _=>by
  have:aaj rows cs=aaj rows (cs.take i)++aaj rows (cs.drop i):=by rw[aaj,aaj,aaj,<-qL194,qL91]
  rw[this,aaf];omega
 have R:=strD_take (rows:=rows) b;have U:=aq (i+1) b;have aW:∀d∈aaj rows (cs.take i),(aal rows d).2<=40000:=fun d hd=>by simp only[aaj,y5,Eh]at hd;obtain⟨c,aX,x,V,rfl⟩:=hd;obtain⟨w,rfl,_⟩:=bN c x V;obtain⟨K,k1,-,-,k2⟩:=Wn c w ((bm c w).1 V) (hc c (adQ aX)).2;rw[Z6,k2];exact k1
 have adc:=J.TA i (by rw[y6];exact b);have W:=(J.le Nn.RP lq).Uc i (by rw[y6];exact b);rw[sY b]at W;generalize cs[i]=c at*;have ar:=hb.Wm c Q;obtain⟨u,av,hu⟩:=hb.NS c Q;have lu:=av hq lq;have gd:rows.getD c []=rows[c]:=D4 Q;have bb:=fun g=>hu.DH g;have X:∀x∈rows.getD c [],∃w:Nat,x=(w:Int)/\Jp es c w:=fun x V=>by obtain⟨w,rfl,_⟩:=bN c x V;exact⟨w,rfl,(bm c w).1 V⟩
 rw[R]at U;rw[gd]at R X U;have f:=fun s v g a1 a2 a4 a6 a8=>f T B s c v g a1 a2 ai a4 nT a6 P a8;have Wn:=fun v a=>Wn c v a P;clear P av;generalize rows[c]=r at*;have lB:=ldKR S.oB;have bg:=aaa i NH;simp only[HO,seval,adc,W,lB,ar,lu,bb];simp only[aaf,fj]at U;have b3:r.length<=1000:=NH;refine lIn (fun k fr hz=>∃(j:Nat)(l:List (Pr×Int)),k=r.length-j/\j<=r.length/\fr=mkF [(2,pT (Z B)),(6,pT (Z T)),(7,.func (.func 76) #[] #[pT (Z T),pT (Z B)]),(8,.map (Z M)),(10,(c:Nat)),(16,cv),(17,.int .i64 cs.length),(18,.int .i64 i),(25,u),(26,r.length),(27,j)]/\agd rows (aaj rows (cs.take i)++(r.take j).map fun x=>(c,x.toNat)) hz M T B C l/\Le h hz) ⟨0,l,rfl,abe _,rfl,by simpa using S,lq⟩ ?_;clear S lq lu lB W;clear aP hq l;rintro k fr hz b4 ⟨j,l,rfl,hj,rfl,S,lz⟩;refine sSs ?_;refine Kl.intro (fun ht=>?_) (fun hf=>?_)
 rotate_left
 .have O:r.length<=j:=vp hf;rw[HV O,<-R]at S;refine sFa bg ?_;exact lgA (JS b) ⟨i+1,l,rfl,b,rfl,S,lz⟩
 have t:j<r.length:=CC ht;clear ht;obtain⟨v,ay,az⟩:=X r[j] (aev t);have bh:=hu.TA j t;have aC:=(hu.le Nn.RP lz).Uc j t;have aD:(r.take (j+1)).map (fun x=>(c,x.toNat))=(r.take j).map (fun x=>(c,x.toNat))++[(c,v)]:=by rw[EL t,Bx,ay];simp
 rw[ay]at aC;have b5:(aaj rows (cs.take i)++(r.take j).map fun x=>(c,x.toNat)).length<=1000:=by simp only[aaf,fj,KG];omega
 have bk:∀d∈aaj rows (cs.take i)++(r.take j).map (fun x=>(c,x.toNat)),(aal rows d).2<=40000:=fun d hd=>by
  rcases aax.1 hd with q|q
  .exact aW d q
  .obtain⟨x,V,rfl⟩:=Eh.1 q;obtain⟨w,rfl,ha⟩:=X x (adQ V);obtain⟨K,k1,-,-,k2⟩:=Wn w ha;rw[Z6,k2];exact k1
 have b6:=strS_le bk;have aF:=strS_snoc rows (aaj rows (cs.take i)++(r.take j).map fun x=>(c,x.toNat)) (c,v);rw[bC,<-aD]at aF;have aH:=fun p=>List.count_le_length (a:=p) (l:=(aaj rows (cs.take i)++(r.take j).map fun x=>(c,x.toNat)).map (aaH rows));have bo:(aaj rows (cs.take i)++(r.take (j+1)).map fun x=>(c,x.toNat)).map (aaH rows)=(aaj rows (cs.take i)++(r.take j).map fun x=>(c,x.toNat)).map (aaH rows)++[aaH rows (c,v)]:=by rw[aD,<-bC,Bx];rfl
 generalize aaj rows (cs.take i)++(r.take j).map (fun x=>(c,x.toNat))=D at*;generalize br:aaj rows (cs.take i)++(r.take (j+1)).map (fun x=>(c,x.toNat))=D1 at*;refine sFa (XC bh aC) ?_;refine kCi func76 (f (aen rows D) v hz S.oT S.oB lz az NH) ?_;rintro x H w9 ⟨rfl,bB,l9,kp⟩;have F:=kp M _ A.symm S.oM;have bF:=kp B _ ai S.oB;have hE:aaH rows (c,v)=(min (c:Int) ((aal rows (c,v)).1:Int),max (c:Int) ((aal rows (c,v)).1:Int)):=rfl;generalize aal rows (c,v)=od at*;generalize aaH rows (c,v)=p at*;obtain⟨jj,I,aJ,bG,bH⟩:=afu F p;have aK:=SA F p;have aL:=aai.Y3 H M (.map (wy I));have aa:=SA aL p;rw[bG]at aa;have cp:=S.OT p;have aN:=aH p;rw[fj]at aN;rw[cp]at aK aa aJ;have bI:=aaa ((D.map (aaH rows)).count p) NH;have bQ:=bH (((D.map (aaH rows)).count p+1:Nat):Int);have mn:=Dv (c:Int) (od.1:Int);have mx:=z6 (c:Int) (od.1:Int);have bW:acB pG 49 [(0,.int .i64 (min (c:Int) (od.1:Int))),(1,.int .i64 (max (c:Int) (od.1:Int)))]=Z (UI p):=by rw[hE];exact xe _ _
 have bY:=aaa j NH;have bZ:=aai.Y3 (H.put M (.map (wy I))) M (.map (wy (acs l p (((D.map (aaH rows)).count p+1:Nat):Int))));have lb:Le h ((H.put M (.map (wy I))).put M (.map (wy (acs l p (((D.map (aaH rows)).count p+1:Nat):Int))))):=(l9.put _ nM).put _ nM;have b0:((H.put M (.map (wy I))).put M (.map (wy (acs l p (((D.map (aaH rows)).count p+1:Nat):Int))))).own T=Z (.cells [.int .i64 ((aen rows D+(od.2+1):Nat):Int)]):=(by rw[aai.By _ _ _ _ A,aai.By _ _ _ _ A];exact bB);have b1:((H.put M (.map (wy I))).put M (.map (wy (acs l p (((D.map (aaH rows)).count p+1:Nat):Int))))).own B=Z (.cells [C]):=(by rw[aai.By _ _ _ _ G,aai.By _ _ _ _ G];exact bF);have wb:WF ((H.put M (.map (wy I))).put M (.map (wy (acs l p (((D.map (aaH rows)).count p+1:Nat):Int))))):=(w9.put _ (w9.lt F)).put _ ((w9.put _ (w9.lt F)).lt aL);have S1:agd rows D1 ((H.put M (.map (wy I))).put M (.map (wy (acs l p (((D.map (aaH rows)).count p+1:Nat):Int))))) M T B C (acs l p (((D.map (aaH rows)).count p+1:Nat):Int)):=by
  refine⟨bZ,by rw[aF];exact b0,b1,fun q=>?_⟩;rw[XR,bo,List.count_append,List.count_singleton];by_cases e:p=q
  .subst e;rw[IE rfl];simp
  .rw[yM e,S.OT q,yM (by simpa using e)];rfl
 refine sSs ?_;refine gh (tA [0,1,2,3,4,5,6,7] (.ch 8 [0,7] (tA [9] (JQ 10 [0,1,2,3,4,5,6,7] (tA [11] (JQ 12 [0,1,2,3,4,5,6,7,8,9,10,11] .done)))) (JQ 10 [0,1,2,3,4,5,6,7] (tA [11] (JQ 8 [0,7] (tA [9] (JQ 12 [0,1,2,3,4,5,6,7,8,9,10,11] .done))))))) ?_;simp only[HO,seval,Qg,mn,mx,bW,acS,aK,aa,bI,aJ,bQ,bY];generalize (H.put M (.map (wy I))).put M (.map (wy (acs l p (((D.map (aaH rows)).count p+1:Nat):Int))))=g at*;refine⟨?_,?_⟩
 all_goals exact lgA (JS t) ⟨j+1,_,rfl,t,rfl,by rw[br];exact S1,lb⟩
variable {g:aai} {l:II} {o v:Value} {xs ys:RZ} {α:Type}
def aeV{P:α->Bool}{l:List α}(h:(l.take i).all P=tT)(hi:i<l.length)(a:P l[i]=tT):(l.take (i+1)).all P=tT:=by rw[EL hi,ai8,h];simp[a]
def age{P:α->Bool}{l:List α}(hi:i<l.length)(a:P l[i]=fF):l.all P=fF:=by rw[Bool.eq_false_iff];intro h;rw[DF.1 h _ (aev hi)]at a;cases a
theorem adZ(K:LA)(M:Nat)(l:List (Pr×Int))(W:Pr->Nat)(y bv:vV)(A B:II)(h:aai)(oM:h.own M=Z (.map (wy l)))(L:∀p,(abo l p).getD 0=(W p:Int))(ha:RL RP h y (kz A))(hb:RL RP h bv (kz B))(T:A.length<=1000)(U:B.length<=1000):
  AC pG K 47 [.map (Z M),y,bv] h fun x h'=>x=.bool (abh W A B)/\h'=h:=by
 refine AC.vE ⟨func47,rfl,WY⟩ ntmps47 results47 fun N=>?_;simp only[Br,seval];have ln:=fun g=>ha.DH g;have s:=fun g=>hb.DH g;rw[y6]at ln s;simp only[HO,seval,ln];refine lIn (fun k fr C=>∃i:Nat,k=A.length-i/\i<=A.length/\fr=mkF [(0,.map (Z M)),(2,bv),(11,y),(12,A.length),(13,i)]/\C=h/\(A.take i).all (fun c=>B.all fun d=>c==d||W (min (c:Int) (d:Int),max (c:Int) (d:Int))==2)=tT) ⟨0,rfl,abe _,rfl,rfl,rfl⟩ ?_;rintro k fr C O ⟨i,rfl,hi,rfl,rfl,n⟩;refine sSs ?_;refine Kl.intro (fun t=>?_) (fun hf=>?_)
 rotate_left
 .have q:A.length<=i:=vp hf;rw[HV q]at n;refine sSs ?_;exact(by grind[abh.eq_1])
 have b:i<A.length:=CC t;clear t;have D:=ha.TA i (by rw[y6];exact b);have u:=ha.Uc i (by rw[y6];exact b);rw[sY b]at u;have E:=aeV n b;have Q:=age (P:=fun c=>B.all fun d=>c==d||W (min (c:Int) (d:Int),max (c:Int) (d:Int))==2) b;generalize A[i]=c at*;have F:=aaa i NH;refine sFa (adG D u s) ?_;refine lIn (fun k fr H=>∃j:Nat,k=B.length-j/\j<=B.length/\fr=mkF [(0,.map (Z M)),(2,bv),(8,(c:Nat)),(11,y),(12,A.length),(13,i),(17,bv),(18,B.length),(19,j)]/\H=C/\(B.take j).all (fun d=>c==d||W (min (c:Int) (d:Int),max (c:Int) (d:Int))==2)=tT) ⟨0,rfl,abe _,rfl,rfl,rfl⟩ ?_;rintro k fr H R ⟨j,rfl,V,rfl,rfl,f⟩;refine sSs ?_;refine Kl.intro (fun t=>?_) (fun hf=>?_)
 rotate_left
 .have q:B.length<=j:=vp hf;rw[HV q]at f;refine sFa F ?_;exact lgA (JS b) ⟨i+1,rfl,b,rfl,rfl,E f⟩
 have a:j<B.length:=CC t;clear t;have r:=hb.TA j (by rw[y6];exact a);have m:=hb.Uc j (by rw[y6];exact a);rw[sY a]at m;have o:=aeV f a;have I:=age (P:=fun d=>c==d||W (min (c:Int) (d:Int),max (c:Int) (d:Int))==2) a;generalize B[j]=d at*;have v:=aaa j NH;have mn:=Dv (c:Int) (d:Int);have J:=z6 (c:Int) (d:Int);have w:=xe (min (c:Int) (d:Int)) (max (c:Int) (d:Int));have G:=SA oM (min (c:Int) (d:Int),max (c:Int) (d:Int));rw[L]at G;by_cases e:c=d
 .have z:decide ((c:Int)=(d:Int))=tT:=qL7 NH;refine sFa (afK r m @bne.eq_1.{0} z v) ?_
  exact lgA (JS a) ⟨j+1,rfl,a,rfl,rfl,o (by simp[e])⟩
 have z:decide ((c:Int)=(d:Int))=fF:=WA NH;by_cases S:W (min (c:Int) (d:Int),max (c:Int) (d:Int))=2
 .have d2:decide ((W (min (c:Int) (d:Int),max (c:Int) (d:Int)):Int)=2)=tT:=qL7 NH;simp only[HO,seval,r,m,bne,z,mn,J,w,acS,G,d2,v];exact lgA (JS a) ⟨j+1,rfl,a,rfl,rfl,o (by simp[S])⟩
 .have d2:decide ((W (min (c:Int) (d:Int),max (c:Int) (d:Int)):Int)=2)=fF:=WA NH;simp only[HO,seval,r,m,bne,z,mn,J,w,acS,G,d2];exact(by grind[abh.eq_1])
theorem GI.keep(r:GI h o ys)(k:∀b x,h.own b=Z x->blk o=Z b->g.own b=Z x):GI g o ys:=by
 obtain⟨a,⟨rfl,i⟩|⟨id,c,cap,rfl,d,e,f⟩⟩:=r
 .exact⟨a,hGr⟩
 .exact⟨a,.inr ⟨id,c,cap,rfl,k id _ d rfl,e,f⟩⟩
theorem GI.push2{c h:aai}(g:GI h v xs)(go:GI h o ys)(n:∀b,blk v=Z b->blk o≠Z b)(l:Le c h)(e:Z2 c v)(hw:WF h)(x:Int)(f:xs.length<=100000):
  ∃v' d a,aas pG h 28 1 [(0,x)]=Z (sL (Z h.next) 1 1,d)/\aaR pG d 28 28 v (sL (Z h.next) 1 1)=Z (v',a)/\GI a v' (xs++[x])/\GI a o ys/\(∀b,blk v'=Z b->blk o≠Z b)/\Le c a/\Z2 c v':=by
 obtain⟨v',d,a,e4,i,j,p,l4,hf,r⟩:=g.push hw x f;obtain⟨l5,k⟩:=hf c l e;have own:∀b,blk o=Z b->∃y,h.own b=Z y:=fun b hb=>by
  cases q:h.own b with
  |none=>exact absurd q (GS.Sy go hb)
  |some y=>exact⟨y,rfl⟩
 refine⟨v',d,a,e4,i,j,(by grind[GI.keep]),fun b hb m=>?_,l5,k⟩;obtain⟨y,s⟩:=own b m;exact hGr
def acH{P:Nat->Bool}(hi:i<l.length):(l.take (i+1)).filter P=(l.take i).filter P++if P l[i]then[l[i]]else[]:=by rw[EL hi,Db];cases h:P l[i]<;>simp[h]
def ab9(a b:II):kz (a++b)=kz a++kz b:=by simp[kz]
theorem afw(H:LA)(M:Nat)(l:List (Pr×Int))(W:Pr->Nat)(cv:vV)(cs:II)(h:aai)(oM:h.own M=Z (.map (wy l)))(T:∀p,(abo l p).getD 0=(W p:Int))(u:RL RP h cv (kz cs))(lc:cs.length<=1000)(l0:0<cs.length):
  AC pG H 48 [.map (Z M),cv] h fun x h'=>x=.bool (aa1 W cs)/\Le h h':=by
 refine AC.vE ⟨func48,rfl,WY⟩ ntmps48 results48 fun aa=>?_;simp only[Br,seval];have ln:=fun g=>u.DH g;rw[y6]at ln;have F:=u.TA 0 (by rw[y6];exact l0);have f0:∀g,Le h g->aaC pG g 3 (aaq cv 0)=Z (.int .i64 (cs.headD 0:Nat)):=fun g lg=>by
  have:=(u.le Nn.RP lg).Uc 0 (by rw[y6];exact l0);rw[sY l0]at this;rw[this];cases cs with
  |nil=>cases l0
  |cons=>rfl
 simp only[Dl]at F;have hT:aa1 W cs=((cs.filter fun(c:Nat)=>W (((cs.headD 0:Nat):Int),(c:Int))==0).length==3&&!(cs.filter fun(c:Nat)=>W (((cs.headD 0:Nat):Int),(c:Int))!=0).contains (cs.headD 0)&&abh W (cs.filter fun(c:Nat)=>W (((cs.headD 0:Nat):Int),(c:Int))==0) (cs.filter fun(c:Nat)=>W (((cs.headD 0:Nat):Int),(c:Int))!=0)):=rfl;generalize cs.headD 0=f at*;simp only[HO,seval,ln];refine lIn (fun k fr s=>∃(i:Nat)(m j:vV),k=cs.length-i/\i<=cs.length/\fr=mkF [(0,.map (Z M)),(1,cv),(5,m),(6,j),(10,cv),(11,cs.length),(12,i)]/\GI s m (kz ((cs.take i).filter fun(c:Nat)=>W ((f:Int),(c:Int))==0))/\GI s j (kz ((cs.take i).filter fun(c:Nat)=>W ((f:Int),(c:Int))!=0))/\(∀b,blk m=Z b->blk j≠Z b)/\Le h s/\Z2 h m/\Z2 h j) ⟨0,_,_,rfl,abe _,rfl,GI.nil h,GI.nil h,(by grind[blk]),Le.refl _,fun b hb=>by simp[blk]at hb,fun b hb=>by simp[blk]at hb⟩ ?_;rintro k fr s v ⟨i,m,j,rfl,hi,rfl,w,gt,dj,t,pa,U⟩;have n:=f0 s t;refine sSs ?_;refine Kl.intro (fun V=>?_) (fun hf=>?_)
 rotate_left
 .have I:cs.length<=i:=vp hf;rw[HV I]at w gt;have ae:=im (fun(c:Nat)=>W ((f:Int),(c:Int))==0) cs;have ag:=im (fun(c:Nat)=>W ((f:Int),(c:Int))!=0) cs;generalize cs.filter (fun(c:Nat)=>W ((f:Int),(c:Int))==0)=A at*;generalize cs.filter (fun(c:Nat)=>W ((f:Int),(c:Int))!=0)=B at*;have o:=fun g=>w.rl.DH g;rw[y6]at o;by_cases X:A.length=3
  rotate_left
  .have d3:decide ((A.length:Int)=3)=fF:=WA NH;have e3:(A.length==3)=fF:=by simpa using X
   refine sFa (XC o d3) ?_;exact hGr
  have d3:decide ((A.length:Int)=3)=tT:=qL7 NH;have e3:(A.length==3)=tT:=by simpa using X
  refine sFa (ae7 o d3 F n) ?_;refine kCi func77 (W3 H j (kz B) (f:Int) s gt.rl (by rw[y6];omega)) ?_;rintro y z w5 ⟨rfl,rfl⟩;have J:decide ((f:Int)∈kz B)=B.contains f:=by rw[Bool.eq_iff_iff,uV,qL185,kz,Eh];exact hGr
  rw[J];cases cB:B.contains f with
  |true=>refine sSs ?_;exact hGr
  |false=>refine sSs ?_;refine kCi func47 (adZ H M l W m j A B z (t.own _ _ oM) T w.rl gt.rl NH NH) ?_;rintro y h6 w6 ⟨rfl,rfl⟩;refine sSs ?_;exact hGr
 have a:i<cs.length:=CC V;clear V;have adc:=u.TA i (by rw[y6];exact a);have q:=(u.le Nn.RP t).Uc i (by rw[y6];exact a);rw[sY a]at q;have fa:=acH (P:=fun(c:Nat)=>W ((f:Int),(c:Int))==0) a;have G:=acH (P:=fun(c:Nat)=>W ((f:Int),(c:Int))!=0) a;have K:(kz ((cs.take i).filter fun(c:Nat)=>W ((f:Int),(c:Int))==0)).length<=100000:=by rw[y6];exact(by grind[List.length_take])
 have L:(kz ((cs.take i).filter fun(c:Nat)=>W ((f:Int),(c:Int))!=0)).length<=100000:=by rw[y6];exact(by grind[List.length_take])
 generalize cs[i]=c at*;have C:=aaa i NH;have D:=xe (f:Int) (c:Int);have N:=SA (t.own _ _ oM) ((f:Int),(c:Int));rw[T]at N;by_cases e:W ((f:Int),(c:Int))=0
 .have O:decide ((W ((f:Int),(c:Int)):Int)>0)=fF:=WA NH;obtain⟨v',h4,z,e4,Q,R,d,E,l5,S⟩:=w.push2 gt dj t pa v (c:Int) K;rw[IE (by simp[e])]at fa;rw[yM (by simp[e]),ai4]at G;have r:GI z v' (kz ((cs.take (i+1)).filter fun(c:Nat)=>W ((f:Int),(c:Int))==0)):=by rw[fa,ab9];exact R
  rw[<-G]at d;simp only[HO,seval,adc,q,F,n,D,acS,N,O,e4,Q,C];exact lgA (JS a) ⟨i+1,v',j,rfl,a,rfl,r,d,E,l5,S,U⟩
 .have O:decide ((W ((f:Int),(c:Int)):Int)>0)=tT:=qL7 NH;obtain⟨v',h4,z,e4,Q,R,d,E,l5,S⟩:=gt.push2 w hGr t U v (c:Int) L;rw[yM (by simp[e]),ai4]at fa;rw[IE (by simp[e])]at G;have r:GI z v' (kz ((cs.take (i+1)).filter fun(c:Nat)=>W ((f:Int),(c:Int))!=0)):=by rw[G,ab9];exact R
  rw[<-fa]at d;simp only[HO,seval,adc,q,F,n,D,acS,N,O,e4,Q,C];exact lgA (JS a) ⟨i+1,m,v',rfl,a,rfl,d,r,hGr,l5,pa,S⟩
def aaW(r:RZ):Bool:=!(r.length==0||r.length==2||r.length==3||r.length==4)
def aa8(rows:AM)(cs:II)(m:Nat)(E:Nat):Int:=
 if cs.any (fun c=>(rows.getD c []).length !=E)then 0
 else if aaU rows cs≠2*m then 0
 else if E=4 then(if abh (aaI rows cs) cs cs then 5 else 0)else if aa1 (aaI rows cs) cs then 33 else 0
def kindB_eq(es:xLP):aaN es=if(Zh 200 es).any aaW then 0 else if(aad (Zh 200 es)).length=5 then aa8 (Zh 200 es) (aad (Zh 200 es)) es.length 4 else if(aad (Zh 200 es)).length=6 then aa8 (Zh 200 es) (aad (Zh 200 es)) es.length 3 else 0:=rfl
def abp{cs:II}{E:Nat}(h:∀c∈cs,(rows.getD c []).length=E):(aaj rows cs).length=E*cs.length:=by
 induction cs with
 |nil=>rfl
 |cons c cs a=>have:=a fun d hd=>h d (by simp[hd]);simp only[aaj,Ug,aaf,fj,ah6]at*;rw[this,h c Ma,Nat.mul_add];omega
def corn_step(rows:AM)(i:Nat):(rG (i+1)).filter (aaA rows)=(rG i).filter (aaA rows)++if aaA rows i then[i]else[]:=by rw[rY,Db];cases h:aaA rows i<;>simp[h]
def any_take(h:(rows.take i).any aaW=fF)(hi:i<rows.length)(hb:aaW rows[i]=fF):(rows.take (i+1)).any aaW=fF:=by rw[EL hi,List.any_append,h];simp[hb]
theorem akB(R:LA)(ev:vV)(es:xLP)(h:aai)(U:PR h ev es):
  AC pG R 25 [ev] h fun x h'=>x=.int .i64 (aaz es)/\Le h h':=by
 refine AC.vE ⟨func25,rfl,WY⟩ ntmps25 results25 fun al=>?_;simp only[Br,seval];obtain⟨h2,h3,a2,s2,l3,w3,lG⟩:=newG (n:=200) al U;have bg:=Wj (n:=200) U.sl;have V:GR h3 (.agg #[.int .i64 200,ev]) ⟨200,es⟩:=⟨ev,rfl,U.le l3⟩;refine sFa (ae7 bg a2 s2 ((lG h3 (Le.refl _)).1)) ?_;refine kCi qS7 (ak R _ ⟨200,es⟩ h3 V) ?_;rintro x h4 w4 ⟨⟨bb,rfl,W⟩,l4⟩;cases bb with
 |false=>refine sSs ?_;exact(by grind[aaz.eq_1,Le.trans])
 |true=>
 have X:bX ⟨((200:Nat):Int),es⟩:=W.1 rfl;have m:aaz es=aaN es:=IE X;clear W;have aq:=l3.trans l4;refine sFa ((lG h4 l4).1) ?_;refine kCi afm (oe R _ 200 es h4 (V.le l4) X) ?_;rintro bv h5 w5 ⟨hb,l5⟩;have av:=aq.trans l5;have aN:es.length<=594:=X.len;have hR:=X.GD;rw[kindB_eq]at m;have L:=fun cv cs g b1 b2 b3 b4 b5=>afv R bv cv (n:=200) (es:=es) cs g b1 b2 X b3 b4 b5;have bl:=Xq 200 es;generalize Zh 200 es=rows at*;have lb:=fun g=>hb.qP5 g;rw[bl]at lb;refine sFa lb ?_;refine lIn (fun k fr S=>∃(i:Nat)(cv:vV),k=200-i/\i<=200/\fr=mkF [(0,ev),(4,bv),(5,cv),(20,bv),(21,(200:Nat)),(22,.int .i64 i)]/\GI S cv (kz ((rG i).filter (aaA rows)))/\Le h5 S/\Z2 h5 cv/\(rows.take i).any aaW=fF) ⟨0,_,rfl,abe _,rfl,GI.nil h5,Le.refl _,fun b hb=>by simp[blk]at hb,rfl⟩ ?_;rintro k fr S ay ⟨i,cv,rfl,hi,rfl,gc,F,pc,t⟩;have aa:=av.trans F;refine sSs ?_;refine Kl.intro (fun O=>?_) (fun hf=>?_)
 rotate_left
 .have G:200<=i:=by grind[vp]
  obtain rfl:i=200:=NH;rw[HV NH]at t;rw[t,yM Ma]at m;have az:aad rows=(rG 200).filter (aaA rows):=by rw[aad,bl]
  rw[<-az]at gc;have H:∀c∈aad rows,c<200:=hGr;generalize aad rows=cs at*;have lc:=fun g=>gc.rl.DH g;rw[y6]at lc;by_cases c5:cs.length=5
  .have d5:decide ((cs.length:Int)=5)=tT:=qL7 NH;rw[IE c5]at m;simp only[HO,seval,lc,d5];refine lIn (fun k fr I=>∃i:Nat,k=cs.length-i/\i<=cs.length/\fr=mkF [(0,ev),(4,bv),(5,cv),(8,.int .i64 4),(46,cv),(47,.int .i64 cs.length),(48,.int .i64 i)]/\I=S/\∀c∈cs.take i,(rows.getD c []).length=4) ⟨0,rfl,abe _,rfl,rfl,fun c J=>by simp at J⟩ ?_;rintro k fr I aC ⟨i,rfl,hi,rfl,rfl,f⟩;refine sSs ?_;refine Kl.intro (fun O=>?_) (fun hf=>?_)
   .have a:i<cs.length:=CC O;clear O;have A:=aev a;have adc:=gc.rl.TA i (by rw[y6];exact a);have v:=gc.rl.Uc i (by rw[y6];exact a);rw[sY a]at v;have P:=EL a;generalize cs[i]=c at*;have aD:=H c A;have w:c<rows.length:=NH;have B:=hb.Wm c w;obtain⟨u,C,hu⟩:=hb.NS c w;have lu:=C I F;have gd:rows.getD c []=rows[c]:=D4 w;generalize rows[c]=r at*;have j:=fun g=>hu.DH g;have o:=aaa i NH;by_cases e:r.length=4
    .have z:decide ((r.length:Int)=4)=tT:=qL7 NH;simp only[HO,seval,adc,v,B,lu,j,bne,z,o];exact lgA (JS a) ⟨i+1,rfl,a,rfl,rfl,fun d hd=>by
      rw[P]at hd;rcases aax.1 hd with q|q
      .exact f d q
      .rw[xD.1 q,gd];exact e⟩
    .have z:decide ((r.length:Int)=4)=fF:=WA NH;have p:cs.any (fun c=>(rows.getD c []).length !=4)=tT:=by grind[List.any_eq_true]
     simp only[HO,seval,adc,v,B,lu,j,bne,z];exact(by grind[aa8.eq_1])
   have G:cs.length<=i:=vp hf;rw[HV G]at f;have p:¬cs.any (fun c=>(rows.getD c []).length !=4)=tT:=by grind[List.any_eq_true]
   rw[aa8,yM p]at m;refine sSs ?_;refine kCi func46 (L cv cs I (hb.le (Nn.RL Nn.RP) F) gc.rl (fun c J=>⟨H c J,by rw[f c J];decide⟩) (by rw[abp f];omega) NH) ?_;rintro x h8 w8 ⟨M,l,rfl,oM,hW,T⟩;have aF:=aa.trans T;have lP:=fun g=>U.len g;have D:aaY .i64 (2*(es.length:Int))=((2*es.length:Nat):Int):=by rw[ie _ NH NH];omega
   by_cases e:aaU rows cs=2*es.length
   rotate_left
   .have z:decide (((aaU rows cs:Nat):Int)=((2*es.length:Nat):Int))=fF:=WA NH;rw[IE e]at m;refine sFa (ae7 lP D @bne.eq_1.{0} z) ?_
    exact hGr
   have z:decide (((aaU rows cs:Nat):Int)=((2*es.length:Nat):Int))=tT:=qL7 NH;rw[yM (fun q=>q e)]at m;rw[IE rfl]at m;have d4:decide ((4:Int)=4)=tT:=by decide
   have aH:decide ((4:Int)=3)=fF:=by decide
   refine sFa (afK lP D @bne.eq_1.{0} z d4) ?_
   refine kCi func47 (adZ R M l (aaI rows cs) cv cv cs cs h8 oM hW (gc.rl.le Nn.RP T) (gc.rl.le Nn.RP T) NH NH) ?_;rintro y h9 w9 ⟨rfl,rfl⟩;cases hE:abh (aaI rows cs) cs cs with
   |true=>rw[hE,IE rfl]at m;refine sSs ?_;exact hGr
   |false=>rw[hE,yM Ma]at m;refine sFa aH ?_;exact hGr
  have d5:decide ((cs.length:Int)=5)=fF:=WA NH;rw[yM c5]at m;by_cases c6:cs.length=6
  .have d5:decide ((cs.length:Int)=5)=fF:=WA NH;rw[IE c6]at m;have d6:decide ((cs.length:Int)=6)=tT:=qL7 NH;simp only[HO,seval,lc,d5,bne,d6];refine lIn (fun k fr I=>∃i:Nat,k=cs.length-i/\i<=cs.length/\fr=mkF [(0,ev),(4,bv),(5,cv),(8,.int .i64 3),(46,cv),(47,.int .i64 cs.length),(48,.int .i64 i)]/\I=S/\∀c∈cs.take i,(rows.getD c []).length=3) ⟨0,rfl,abe _,rfl,rfl,fun c J=>by simp at J⟩ ?_;rintro k fr I aC ⟨i,rfl,hi,rfl,rfl,f⟩;refine sSs ?_;refine Kl.intro (fun O=>?_) (fun hf=>?_)
   .have a:i<cs.length:=CC O;clear O;have A:=aev a;have adc:=gc.rl.TA i (by rw[y6];exact a);have v:=gc.rl.Uc i (by rw[y6];exact a);rw[sY a]at v;have P:=EL a;generalize cs[i]=c at*;have aD:=H c A;have w:c<rows.length:=NH;have B:=hb.Wm c w;obtain⟨u,C,hu⟩:=hb.NS c w;have lu:=C I F;have gd:rows.getD c []=rows[c]:=D4 w;generalize rows[c]=r at*;have j:=fun g=>hu.DH g;have o:=aaa i NH;by_cases e:r.length=3
    .have z:decide ((r.length:Int)=3)=tT:=qL7 NH;simp only[HO,seval,adc,v,B,lu,j,bne,z,o];exact lgA (JS a) ⟨i+1,rfl,a,rfl,rfl,fun d hd=>by
      rw[P]at hd;rcases aax.1 hd with q|q
      .exact f d q
      .rw[xD.1 q,gd];exact e⟩
    .have z:decide ((r.length:Int)=3)=fF:=WA NH;have p:cs.any (fun c=>(rows.getD c []).length !=3)=tT:=by grind[List.any_eq_true]
     simp only[HO,seval,adc,v,B,lu,j,bne,z];exact(by grind[aa8.eq_1])
   have G:cs.length<=i:=vp hf;rw[HV G]at f;have p:¬cs.any (fun c=>(rows.getD c []).length !=3)=tT:=by grind[List.any_eq_true]
   rw[aa8,yM p]at m;refine sSs ?_;refine kCi func46 (L cv cs I (hb.le (Nn.RL Nn.RP) F) gc.rl (fun c J=>⟨H c J,by rw[f c J];decide⟩) (by rw[abp f];omega) NH) ?_;rintro x h8 w8 ⟨M,l,rfl,oM,hW,T⟩;have aF:=aa.trans T;have lP:=fun g=>U.len g;have D:aaY .i64 (2*(es.length:Int))=((2*es.length:Nat):Int):=by rw[ie _ NH NH];omega
   by_cases e:aaU rows cs=2*es.length
   rotate_left
   .have z:decide (((aaU rows cs:Nat):Int)=((2*es.length:Nat):Int))=fF:=WA NH;rw[IE e]at m;refine sFa (ae7 lP D @bne.eq_1.{0} z) ?_
    exact hGr
   have z:decide (((aaU rows cs:Nat):Int)=((2*es.length:Nat):Int))=tT:=qL7 NH;rw[yM (fun q=>q e)]at m;rw[yM WY]at m;have aJ:decide ((3:Int)=4)=fF:=by decide
   have d3:decide ((3:Int)=3)=tT:=by decide
   refine sFa (afN lP D @bne.eq_1.{0} z aJ d3) ?_
   refine kCi func48 (afw R M l (aaI rows cs) cv cs h8 oM hW (gc.rl.le Nn.RP T) NH NH) ?_;rintro y h9 w9 ⟨rfl,l9⟩;cases hE:aa1 (aaI rows cs) cs with
   |true=>rw[hE,IE rfl]at m;refine sSs ?_;exact(by grind[Le.trans])
   |false=>rw[hE,yM Ma]at m;refine sSs ?_;exact(by grind[Le.trans])
  have d6:decide ((cs.length:Int)=6)=fF:=WA NH;rw[yM c6]at m;simp only[HO,seval,lc,d5,bne,d6];exact hGr
 have a:i<200:=by grind[CC]
 clear O;have K:i<rows.length:=NH;have B:=hb.Wm i K;obtain⟨u,C,hu⟩:=hb.NS i K;have lu:=C S F;have gd:rows.getD i []=rows[i]:=D4 K;have E:=corn_step rows i;have ae:aaA rows i=((rows[i]).length==3||(rows[i]).length==4):=by rw[aaA,gd]
 have N:=any_take t K;have ag:aaW rows[i]=tT->rows.any aaW=tT:=by grind[List.getElem_mem]
 generalize rows[i]=r at*;have j:=fun g=>hu.DH g;have o:=aaa i NH;have aK:(kz ((rG i).filter (aaA rows))).length<=100000:=by rw[y6];exact(by grind[List.length_filter_le])
 by_cases c0:r.length=0\/r.length=2
 .have cb:aaA rows i=fF:=by rw[ae];rcases c0 with q|q<;>rw[q]<;>rfl
  rw[cb,yM Ma,ai4]at E;have s:=N (by unfold aaW;rcases c0 with q|q<;>rw[q]<;>rfl);rcases c0 with q|q
  .have Q:decide ((r.length:Int)=0)=tT:=qL7 NH;simp only[HO,seval,B,lu,j,Q,o];exact lgA (JS a) ⟨i+1,cv,rfl,a,rfl,by rw[E];exact gc,F,pc,s⟩
  .have Q:decide ((r.length:Int)=0)=fF:=WA NH;have d2:decide ((r.length:Int)=2)=tT:=qL7 NH;simp only[HO,seval,B,lu,j,Q,d2,o];exact lgA (JS a) ⟨i+1,cv,rfl,a,rfl,by rw[E];exact gc,F,pc,s⟩
 have Q:decide ((r.length:Int)=0)=fF:=WA NH;have d2:decide ((r.length:Int)=2)=fF:=WA NH;by_cases c3:r.length=3\/r.length=4
 .have cb:aaA rows i=tT:=by rw[ae];rcases c3 with q|q<;>rw[q]<;>rfl
  rw[cb,IE rfl]at E;have s:=N (by unfold aaW;rcases c3 with q|q<;>rw[q]<;>rfl);obtain⟨v',h6,h7,e6,e7,g7,w7,l6,aL,-⟩:=gc.push ay (i:Int) aK;obtain⟨l7,a7⟩:=aL h5 F pc;have ai:GI h7 v' (kz ((rG (i+1)).filter (aaA rows))):=by rw[E,ab9];exact g7
  rcases c3 with q|q
  .have d3:decide ((r.length:Int)=3)=tT:=qL7 NH;simp only[HO,seval,B,lu,j,Q,d2,d3,e6,e7,o];exact lgA (JS a) ⟨i+1,v',rfl,a,rfl,ai,l7,a7,s⟩
  .have d3:decide ((r.length:Int)=3)=fF:=WA NH;have d4:decide ((r.length:Int)=4)=tT:=qL7 NH;simp only[HO,seval,B,lu,j,Q,d2,d3,d4,e6,e7,o];exact lgA (JS a) ⟨i+1,v',rfl,a,rfl,ai,l7,a7,s⟩
 have d3:decide ((r.length:Int)=3)=fF:=WA NH;have d4:decide ((r.length:Int)=4)=fF:=WA NH;have aj:aaW r=tT:=by
  unfold aaW;have e0:(r.length==0)=fF:=by grind[beq_eq_false_iff_ne]
  have e2:(r.length==2)=fF:=by grind[beq_eq_false_iff_ne]
  have e3:(r.length==3)=fF:=by grind[beq_eq_false_iff_ne]
  have e4:(r.length==4)=fF:=by grind[beq_eq_false_iff_ne]
  rw[e0,e2,e3,e4];rfl
 rw[ag aj,IE rfl]at m;simp only[HO,seval,B,lu,j,Q,d2,d3,d4];exact hGr
end
end Go.Fw
