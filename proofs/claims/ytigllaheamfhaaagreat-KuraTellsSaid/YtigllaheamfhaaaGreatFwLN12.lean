/- A text. -/
import Derived.Test.YtigllaheamfhaaaGreatFwLT3
set_option linter.all false
set_option maxRecDepth 99999
set_option maxHeartbeats 9999999
open Go.Proofs
open Option renaming some→Z,none→Y
open Bool renaming true→tT,false→fF
open List renaming replicate→rP,range→rG
open Go.Value renaming slice→sL,pointer→pT
open Go renaming Value→vV
open Go.Proofs.Tryz renaming prog→pG
open Go.Proofs.Tryz
open List
namespace Go.Fw
section
attribute [local irreducible] Kp MQ lU KO1 KO KN KX KE VK Kl ZJ TC aab
variable {L:RZ} {es:List Pr} {h:aai} {n:Nat}
def putG(hw:WF h){n:Int}{b:vV}{f:xLP}(r:PR h b f):∃c h2,abO pG h 24=Z (pT (Z ⟨h.next,0,Y⟩),c)/\aaK pG c 24 (pT (Z ⟨h.next,0,Y⟩)) (.agg #[.int .i64 n,b])=Z h2/\
  Le h h2/\WF h2/\∀g,Le h2 g->aaC pG g 24 ⟨h.next,0,Y⟩=Z (.agg #[.int .i64 n,b]):=by
 obtain⟨c,i,l1,w1,d⟩:=Tt hw [.int .i64 0,.slice Y 0 0];have e:=Lo h;rw[i]at e
 have j:h.own h.next=Y:=(Le.refl h).next hw (qL0 _)
 have a:UA pG 24=2:=Ji;have one:=r.sl.one
 have oo:=aai.Y3 c h.next (.cells [.int .i64 n,b])
 refine⟨c,c.put h.next (.cells [.int .i64 n,b]),e,?_,l1.put _ j,w1.put _ (w1.lt d),fun g k=>?_⟩
 .have l:(vV.agg #[.int .i64 n,b]).cells=#[.int .i64 n,b]:=rfl;have m:(vV.int IntKind.i64 n).oneCell'=tT:=rfl;simp[aaK,d,l,a,putCells,qS5,one,m]
 .rw[Wx qS5 rfl a (k.own _ _ oo) Ma];rfl
def map_idx(nd:es.Nodup)(a:L.length=es.length)(h:∀x,x<es.length->L[x]?=Z (x:Int)):L=es.map fun p=>((es.idxOf p:Nat):Int):=by
 refine mJ fun x=>?_;by_cases c:x<es.length
 .rw[h x c,aiq,CA c,ahe,nd.idxOf_getElem x c]
 .rw[aex NH,aex (by simp;omega)]
def mk38(h:aai){u:vV}(a:xO u n):aas pG h 40 1 [(0,u)]=Z (sL (Z h.next) 1 1,h.alloc (.cells [u])):=by obtain⟨_,_,rfl,_⟩:=a;rfl
def an1(W0:abw)(v:vV)(G:GM)(h:aai)(hg:GR h v G):
  AC pG W0 23 [v] h fun x h'=>Le h h'/\((¬bX G/\x=.tuple #[.slice Y 0 0,.int .i64 20])\/(bX G/\∃bv,x=.tuple #[bv,.int .i64 0]/\RL PR h' bv (vq G.n.toNat G.es))):=by
 have bj:=hg;have⟨gn,es⟩:=G
 obtain⟨ev,rfl,W⟩:=hg.open
 refine AC.vF func23 ntmps23 results23 fun b6=>?_;obtain⟨h1,b1,N,db,-,lA⟩:=r8 (n:=gn) b6 W
 generalize h.next=B at*
 have b8:=lA h1 (Le.refl _);refine Sk (XC b1 b8.1) ?_;refine kCi apZ (agd W0 _ _ h1 (bj.le N)) ?_;rintro x h2 w2 ⟨⟨bb,rfl,bk⟩,l2⟩;cases bb with
 |false=>refine Uy ?_;exact⟨N.trans l2,.inl ⟨(fun J=>by cases bk.2 J),trivial⟩⟩
 |true=>
 have J:=bk.1 rfl;have h0:0<=gn:=J.n0;obtain⟨n,rfl⟩:=WA h0;have c6:(n:Int)<=200:=J.n1;have c9:es.length<=594:=J.len;have hR:=J.GD;have nd:es.Nodup:=D3.nodup J.q9;simp only[yM];have hlen:=fun g=>W.len g;have b9:=lA h2 l2;have mk:=Ye (P:=pG) (t:=47) (z:=.int .i64 0) h2 Mb rfl rfl rfl rfl Ji Ac Ji es.length NH;have⟨h3,e3,l3,w3,o3⟩:=Tt w2 (rP es.length (.int .i64 0));rw[e3]at mk
 have nT:h2.own h2.next=Y:=(Le.refl h2).next w2 (qL0 _)
 have cc:=l2.none nT;simp only[HO,seval,Di,Ip,Gc,b9.2.2,hlen,mk]
 generalize h2.next=T at*
 have g3:GI h3 (sL (Z T) es.length es.length) (rP es.length 0):=by have:=GS.full (k:=1) (n:=es.length) o3 Ma NH;simpa[GI,Bp]using this
 refine lIn (fun k fr hq=>∃(i:Nat)(L:RZ),k=es.length-i/\i<=es.length/\fr=mkF [(1,pT (Z B)),(4,sL (Z T) es.length es.length),(5,i)]/\
   GI hq (sL (Z T) es.length es.length) L/\L.length=es.length/\(∀x,x<i->L[x]?=Z (x:Int))/\Le h1 hq) ⟨0,_,rfl,Z6 _,rfl,g3,Ma,(fun x S=>by omega),l2.trans l3⟩ ?_
 clear g3 mk e3 o3 w3 l3;clear h3;rintro k fr hq bm ⟨i,L,rfl,hi,rfl,gL,X,aL,leq⟩;have lL:=fun g=>gL.rl.TA g;rw[X]at lL;refine Sk lL ?_;refine Kl.intro (fun U=>?_) (fun hf=>?_)
 .have m:i<es.length:=acb U;clear U;have ad:=gL.rl.DH i NH;have⟨g1,st,cd,dc,bo,dd⟩:=gL.store bm (i:=i) NH (i:Int);have br:=bo h1 leq (fun b hb=>by injection hb with hb;subst hb;exact cc);simp only[HO,seval,ad,st,aaa i NH];exact lgA NH ⟨i+1,L.set i (i:Int),rfl,m,rfl,cd,by simp[X],fun x S=>by
    rw[Tn];by_cases e:i=x
    .subst e;rw[abe rfl,abe NH]
    .rw[abE e];exact aL x NH,br⟩
 have E:es.length<=i:=vp hf;rw[map_idx nd X (fun x S=>aL x NH)]at gL;clear aL X E hf hi lL;have aN:OF n es (fun p=>((es.idxOf p:Nat):Int)) 0 0 0:=OF.start fun p W q hq e=>by obtain⟨x,S,rfl⟩:=qL194 W;obtain⟨y,F,rfl⟩:=qL194 hq;rw[nd.idxOf_getElem x S,nd.idxOf_getElem y F]at e;have:x=y:=NH;subst this;rfl
 generalize (fun p:Pr=>((es.idxOf p:Nat):Int))=f0 at gL aN;refine Uy ?_;refine lIn (fun k fr S=>∃(w:Nat)(C:vV)(f:Pr->Int),k=n-w/\w<=n/\fr=mkF [(1,pT (Z B)),(4,C),(6,w)]/\GI S C (es.map f)/\OF n es f w 0 0/\Le h1 S) ⟨0,_,f0,rfl,Z6 _,rfl,gL,aN,leq⟩ ?_;clear gL aN leq bm;clear hq;rintro k fr S de ⟨w,C,f,rfl,hw,rfl,gf,V,lex⟩;have bx:=lA S lex;refine Sk (xU @Ii @Ip.eq_1 @Gc bx.2.1) ?_;refine Kl.intro (fun U=>?_) (fun hf=>?_)
 .have cf:w<n:=acb U;clear U;refine Sk bx.1 ?_;refine kCi func41 (anC W0 (.agg #[n,ev]) n w es S (bj.le (N.trans lex)) NH) ?_;rintro x h3 w3 ⟨xv,rfl,bz,l3,a3⟩;have⟨h4,h5,e4,e5,l5,w5,cg⟩:=putG w3 (n:=(n:Int)) bz.pr;have ck:bX ⟨(n:Int),woV es w⟩:=J.sub EP;have aq:=l3.trans l5;have gQ:GR h5 (.agg #[n,xv]) ⟨(n:Int),woV es w⟩:=⟨xv,rfl,(bz.le l5).pr⟩;refine Sk (XC e4 e5) ?_
  generalize h3.next=Q at*
  refine lIn (fun k fr F=>∃(i:Nat)(C:vV)(f:Pr->Int),k=es.length-i/\i<=es.length/\fr=mkF [(1,pT (Z B)),(4,C),(6,w),(7,pT (Z Q)),(8,i)]/\GI F C (es.map f)/\OF n es f w i 0/\Le h5 F) ⟨0,_,f,rfl,Z6 _,rfl,gf.le aq,V,Le.refl _⟩ ?_;clear gf V e4 e5;clear f C h4;rintro k fr F cm ⟨i,C,f,rfl,hi,rfl,gf,V,D⟩;have s:=lex.trans (aq.trans D);have bA:=lA F s;have lf:=fun g=>gf.rl.TA g;rw[wI]at lf;refine Sk lf ?_;refine Kl.intro (fun U=>?_) (fun hf=>?_)
  rotate_left
  .have E:es.length<=i:=vp hf;refine Sk (aaa w NH) ?_;exact lgA NH ⟨w+1,C,f,rfl,cf,rfl,gf,V.nextV E,s⟩
  have m:i<es.length:=acb U;clear U;have K:=CA m;have av:=aaf m;generalize es[i]=p at K av;have ad:=W.addr (k:=.i64) i m;have ld:=(W.le (N.trans s)).load K;simp only[HO,seval,Di,Ip,Gc,bA.2.2,ad,ld];refine kCi func42 (am1 W0 p (w:Int) F) ?_;rintro x h6 w6 ⟨rfl,l6⟩;rcases XH hR av w with⟨a,cp,ea,ay,bB⟩|⟨ea,cq⟩
  rotate_left
  .rw[ea];have d:decide ((-1:Int)<0)=tT:=by decide
   refine Sk (XC d (aaa i NH)) ?_;exact lgA NH ⟨i+1,C,f,rfl,m,rfl,gf.le l6,V.skipI K cq,D.trans l6⟩
  rw[ea];have d:decide ((a:Int)<0)=fF:=Sb NH;have bF:=cg h6 (D.trans l6);refine Sk (XC d bF) ?_;refine kCi func43 (RAway_any W0 (.agg #[n,xv]) n a (woV es w) h6 (gQ.le (D.trans l6)) ck cp) ?_;rintro x h7 w7 ⟨dv,L,rfl,gl,X,hL,l7,df⟩;refine Uy ?_;refine lIn (fun kk fr O=>∃(k:Nat)(C:vV)(f:Pr->Int),kk=i-k/\k<=i/\fr=mkF [(1,pT (Z B)),(4,C),(6,w),(7,pT (Z Q)),(8,i),(10,dv),(12,.int .i64 k)]/\GI O C (es.map f)/\OF n es f w i k/\Le h7 O) ⟨0,_,f,rfl,Z6 _,rfl,gf.le (l6.trans l7),V,Le.refl _⟩ ?_;clear gf V lf;clear f C;rintro kk fr O al ⟨k,C,f,rfl,hk,rfl,gf,V,A⟩;have az:=l6.trans (l7.trans A);have aA:=s.trans az;have aP:=lA O aA;refine Uy ?_;refine Kl.intro (fun U=>?_) (fun hf=>?_)
  rotate_left
  .have E:i<=k:=vp hf;refine Sk (aaa i NH) ?_;exact lgA NH ⟨i+1,C,f,rfl,m,rfl,gf,V.nextI E,D.trans az⟩
  have aT:k<i:=acb U;clear U;have aa:k<es.length:=NH;have R:=CA aa;have bH:=aaf aa;generalize es[k]=q at R bH;have cx:=W.addr (k:=.i64) k aa;have cz:=(W.le (N.trans aA)).load R;refine Sk (bG @Di @Ip.eq_1 @Gc aP.2.2 cx cz) ?_;refine kCi func42 (am1 W0 q (w:Int) O) ?_;rintro x h8 w8 ⟨rfl,l8⟩;have H:=gf.le l8;rcases XH hR bH w with⟨b,dg,eb,bI,bN⟩|⟨eb,bQ⟩
  rotate_left
  .rw[eb];have d2:decide ((-1:Int)>=0)=fF:=by decide
   refine Sk (XC @d2 (aaa k NH)) ?_;exact lgA NH ⟨k+1,C,f,rfl,aT,rfl,H,V.skipK K R (fun l=>by have⟨a',b',_,_,_,h4,_⟩:=l;exact bQ b' h4),A.trans l8⟩
  rw[eb];have d2:decide ((b:Int)>=0)=tT:=EL NH;have aV:b<L.length:=NH;have cC:=CA aV;have bT:=gl.rl.DH b aV;have bW:=(gl.le (A.trans l8)).rl.Uc b aV;have aB:=hL b _ cC;generalize L[b]=y at*;have bY:a≠w:=fun e=>by subst e;exact Xa hR ay
  by_cases c:y>=0
  .have d3:decide (y>=0)=tT:=EL c;have aW:LK es w p q:=⟨a,b,ay,bI,bB,bN,(anB bY).1 (aB.1 c)⟩;have M:i<(es.map f).length:=by simpa using m
   have aX:k<(es.map f).length:=by simpa using aa
   have ae:=H.rl.DH i M;have ag:=H.rl.Uc i M;have aC:=H.rl.DH k aX;have aD:=H.rl.Uc k aX;have e1:(es.map f)[i]=f p:=by rw[NC];congr 1;rw[CA m]at K;injection K
   have e2:(es.map f)[k]=f q:=by rw[NC];congr 1;rw[CA aa]at R;injection R
   rw[e1]at ag;rw[e2]at aD;refine Sk (xU @d2 bT bW d3) ?_;refine gh (fRn 0 9 (JQ 9 [0,4,8] (JQ 10 [0,1,2,3,4,5,6,7,8,9] .done))) ?_;refine CO (xU ae ag aC aD) ?_;refine kGi func44 (Rone_any W0 C (es.map f) (f p) (f q) h8 H.rl (by simp;omega)) ?_;rintro x h9 w9 ⟨g9,l9,a9⟩
   have em:(es.map f).map (fun x=>if x=f p then f q else x)=es.map (aoo f (f p) (f q)):=by rw[KG];rfl
   rw[em]at g9;have aE:=(H.le l9).rl.Uc i M;have aF:=(H.le l9).rl.Uc k aX;rw[e1]at aE;rw[e2]at aF;refine CO (IX ae aC aE aF (aaa k NH)) ?_;exact lgA NH ⟨k+1,x,_,rfl,aT,rfl,g9,V.link hR K R aW,A.trans (l8.trans l9)⟩
  .have d3:decide (y>=0)=fF:=Sb c;have aW:¬LK es w p q:=by
    rintro⟨a',b',_,_,h3,h4,h5⟩;have cE:=ahq (bB.symm.trans h3);have cJ:=ahq (bN.symm.trans h4);subst cE;subst cJ;exact c (aB.2 ((anB bY).2 h5))
   refine Sk (IX @d2 bT bW d3 (aaa k NH)) ?_;exact lgA NH ⟨k+1,C,f,rfl,aT,rfl,H,V.skipK K R aW,A.trans l8⟩
 have E:n<=w:=vp hf;have bZ:∀p∈es,∀q∈es,f p=f q↔cQ n es p=cQ n es q:=fun p W q hq=>V.fin hR E W hq;clear V E hf hw;refine Uy ?_;have lf:=fun g=>gf.rl.TA g;rw[wI]at lf;have cK:Z2 S (.slice Y 0 0):=fun b hb=>by cases hb
 refine lIn (fun k fr F=>∃(i:Nat)(bv:vV)(us:xLV),k=es.length-i/\i<=es.length/\fr=mkF [(1,pT (Z B)),(4,C),(14,bv),(15,i)]/\GS 1 F bv us.length us/\us.all (·.oneCell')=tT/\us.length=(alV f es i).length/\us.length<=i/\
   (∀(j:Nat) u r,us[j]?=Z u->(alV f es i)[j]?=Z r->GP F u r/\∀b,blk bv=Z b->blk u≠Z b)/\Le S F/\Z2 S bv) ⟨0,_,[],rfl,Z6 _,rfl,GS.nil 1 _,rfl,rfl,qL0 _,(fun j u r hu=>(by simp at hu)),Le.refl _,cK⟩ ?_
 rintro k fr F cm ⟨i,bv,us,rfl,hi,rfl,gs,a6,ai,dk,I,D,ab⟩;have s:=lex.trans D;have bA:=lA F s;refine Sk lf ?_;refine Kl.intro (fun U=>?_) (fun hf=>?_)
 rotate_left
 .have E:es.length<=i:=vp hf;obtain rfl:i=es.length:=NH;rw[anE bZ]at ai I;refine Uy ?_;exact⟨N.trans s,.inr ⟨J,bv,rfl,us,(GS.cs gs).rs,ai,fun j r u J hu=>(I j u r hu J).1.pr⟩⟩
 have m:i<es.length:=acb U;clear U;have dlt:decide ((i:Int)<(es.length:Int))=tT:=EL NH;have M:i<(es.map f).length:=by simpa using m
 have e1:(es.map f)[i]=f es[i]:=by rw[NC]
 have a8:=gf.le D;by_cases c:f es[i]∈(es.map f).take i
 .have hold:=rowsF_old m c;refine Uy ?_;refine lIn (fun k fr O=>k=0/\fr=mkF [(1,pT (Z B)),(4,C),(14,bv),(15,i),(16,.slice Y 0 0),(17,i)]/\O=F) ⟨rfl,rfl,rfl⟩ ?_;rintro k fr O al ⟨rfl,rfl,rfl⟩;simp only[HO,seval,lf,dlt];refine kCi func45 (am2 W0 C (es.map f) i O a8.rl (by simp;omega) M) ?_;rintro x h9 w9 ⟨rfl,rfl⟩;have d:decide ((es.map f)[i]∉(es.map f).take i)=fF:=by rw[e1];exact Sb (fun k=>k c)
  have cM:∀g,aeh pG g 22 (.slice Y 0 0)=Z (.int .i64 0):=fun g=>(PR.nil g).len g;have d0:decide ((0:Int)>0)=fF:=by decide
  refine Sk (xU d cM d0 (aaa i NH)) ?_;exact lgA NH ⟨i+1,bv,us,rfl,m,rfl,gs,a6,by rw[hold];exact ai,NH,by rw[hold];exact I,D,ab⟩
 have aH:=rowsF_new m c;have dF:decide ((es.map f)[i]∉(es.map f).take i)=tT:=by rw[e1];exact EL c
 have ae:=gf.rl.DH i M;have ag:=fun g (l:Le F g)=>(a8.le l).rl.Uc i M;rw[e1]at ag;have b0:es[i]∈(es.drop i).filter fun p=>decide (f p=f es[i]):=K4.2 ⟨by rw[AQ m];exact Hs,Ma⟩;generalize f es[i]=y at*;have da:=aho b0;clear b0;have cN:Z2 F (.slice Y 0 0):=fun b hb=>by cases hb
 refine Uy ?_;refine lIn (fun k fr O=>∃(j:Nat)(rv:vV),k=es.length-j/\i<=j/\j<=es.length/\fr=mkF [(1,pT (Z B)),(4,C),(14,bv),(15,i),(16,rv),(17,.int .i64 j)]/\GP O rv (((es.take j).drop i).filter fun p=>decide (f p=y))/\Le F O/\Z2 F rv) ⟨i,_,rfl,qL0 _,hi,rfl,by rw[qL177 (by simp;omega)];exact GP.nil _,Le.refl _,cN⟩ ?_;rintro k fr O al ⟨j,rv,rfl,dm,hj,rfl,gr,A,ar⟩;have b2:=a8.le A;by_cases cj:j<es.length
 .have dj:decide ((j:Int)<(es.length:Int))=tT:=EL NH;have b3:j<(es.map f).length:=by simpa using cj
  refine Sk (XC lf dj) ?_;refine kCi func45 (am2 W0 C (es.map f) i O b2.rl (by simp;omega) M) ?_;rintro x h9 w9 ⟨rfl,rfl⟩;have aJ:=gf.rl.DH j b3;have ba:=b2.rl.Uc j b3;have aK:=ag _ A;have e2:(es.map f)[j]=f es[j]:=by rw[NC]
  rw[e2]at ba;have b4:(es.take (j+1)).drop i=(es.take j).drop i++[es[j]]:=by rw[XJ cj,qL191 (by simp;omega)]
  have cP:=CA cj;have aP:=lA _ (s.trans A);have cR:=W.addr (k:=.i64) j cj;have cU:=(W.le (N.trans (s.trans A))).load cP;generalize es[j]=q at*;refine Sk dF ?_;refine gh (fRn 0 9 .done) ?_;by_cases c2:f q=y
  .have d2:decide (f q=y)=tT:=EL c2;have dp:(((es.take j).drop i).filter fun p=>decide (f p=y)).length<=600:=by
    have:=abZ (fun p=>decide (f p=y)) ((es.take j).drop i);simp at this;omega
   have⟨v',g1,g2,q1,q2,cW,dq,br,fg,kg⟩:=gr.push al q NH;have⟨lx,ax⟩:=fg F A ar;refine CO (Da ae aK aJ ba @d2 @Di @Ip.eq_1 @Gc aP.2.2 cR cU q1 q2 (aaa j NH)) ?_;exact lgA NH ⟨j+1,v',rfl,NH,cj,rfl,by rw[b4,Db];simpa[c2]using cW,lx,ax⟩
  .have d2:decide (f q=y)=fF:=Sb c2;refine CO (bG ae aK aJ ba @d2 (aaa j NH)) ?_;exact lgA NH ⟨j+1,rv,rfl,NH,cj,rfl,by rw[b4,Db];simpa[c2]using gr,A,ar⟩
 obtain rfl:j=es.length:=NH;have dj:decide (((es.length:Nat):Int)<(es.length:Int))=fF:=Sb NH;rw[JR]at gr;have cZ:=fun g=>gr.pr.len g;have d0:decide ((((es.drop i).filter fun p=>decide (f p=y)).length:Int)>0)=tT:=EL NH;have⟨h6,e6,l6,w6,o6⟩:=Tt al [rv];have b5:=mk38 O gr.pr.sl;rw[e6]at b5;have bg:=A.trans l6;have⟨bh,h7,e7,c0,f7⟩:=GS.push (P:=pG) (t:=40) Ji (GS.le gs bg) o6 a6 gr.pr.sl.one NH;have k7:=fun b o ho hb=>aG (a:=b) (o:=o) (h:=h6) (h':=h7) (v:=bv) (v':=bh) f7 w6 ho hb;have⟨l7,a7⟩:=f7 S w6 (D.trans bg) ab;have aj:∀{u:vV}{r:xLP},GP h6 u r->(∀b,blk bv=Z b->blk u≠Z b)->GP h7 u r/\∀b,blk bh=Z b->blk u≠Z b:=fun{u r} g hd=>by
  refine⟨GS.kept g fun b o hb ho=>(k7 b o ho (fun e=>hd b e hb)).1,fun b hb e=>?_⟩;have:=GS.Sy g e;cases ho:h6.own b with
  |none=>exact this ho
  |some o=>exact(k7 b o ho (fun e'=>hd b e' e)).2 hb
 have c3:=gr.le l6;have c4:∀b,blk bv=Z b->blk rv≠Z b:=fun b hb e=>by have h1:=GS.Sy gs hb;exact h1 (ar b e)
 refine Sk (rE lf dj cZ d0 b5 e7 (aaa i NH)) ?_;exact lgA NH ⟨i+1,bh,us++[rv],rfl,m,rfl,by rw[Eh];exact c0,by simpa[gr.pr.sl.one]using a6,by rw[aH];simp[ai],by simp;omega,fun j u r hu J=>by
   rw[aH]at J;by_cases e:j<us.length
   .rw[si e]at hu;rw[si NH]at J;have⟨k1,k2⟩:=I j u r hu J;exact aj (k1.le bg) k2
   .have c5:j<(us++[rv]).length:=(Ny.1 hu).1;simp at c5;have:j=us.length:=NH;subst this;rw[AE (qL0 _)]at hu;rw[AE NH,ai]at J;simp at hu J;subst hu;subst J;exact aj c3 c4,l7,a7⟩
variable {a v:Nat} {k:Int} {p:Pr} {α:Type}
theorem aj5{l:List α}(nd:l.Nodup):1<l.length↔∃x y,x∈l/\y∈l/\x≠y:=by
 constructor
 .intro h
  match l,h with
  |x::y::r,_=>rw[VU]at nd;exact⟨x,y,Ma,Ma,hGr⟩
 .rintro⟨x,y,c,e,d⟩
  match l with
  |[]=>cases c
  |[a]=>grind
  |a::b::r=>simp
def atB(v:Int)(b:xLP):Bool:=b.any (AN v)
theorem inc_pair(b:InR n es)(c:p∈es)(h:AN (v:Int) p=tT):∃a,Jp es v a/\p=GW v a:=by
 rcases XH b c v with⟨a,_,_,d,h2⟩|⟨d,_⟩
 .grind
 .have:=b p c;grind[jo,AN]
theorem zo:AN (v:Int) (GW v a)=tT:=by grind[AN,GW]
theorem at_iff(b:InR n es):atB (v:Int) (es.filter fun p=>decide (cQ n es p=k))=tT↔∃a,Jp es v a/\cQ n es (GW v a)=k:=by grind[atB,inc_pair,T0,zo]
def Sq(n:Nat)(es:xLP)(v:Nat):Nat:=((vq n es).filter (atB (v:Int))).length
def amm(n:Nat)(es:xLP)(v:Nat):RZ:=(CY (cQ n es) es).filter fun k=>atB (v:Int) (es.filter fun p=>decide (cQ n es p=k))
def JW(n:Nat)(es:xLP)(v:Nat):Sq n es v=(amm n es v).length:=by rw[Sq,aaB,qL219,wI];rfl
theorem PS(n:Nat)(es:xLP)(v:Nat):(amm n es v).Nodup:=(ahE (cQ n es) _ es rfl).1.sublist EP
theorem dG(b:InR n es):k∈amm n es v↔∃a,Jp es v a/\cQ n es (GW v a)=k:=by rw[amm,K4,at_iff b];refine⟨fun h=>h.2,fun⟨a,ha,c⟩=>⟨((ahE (cQ n es) _ es rfl).2 k).2 (by grind[T0]),a,ha,c⟩⟩
theorem YH(c:InR n es)(v:Nat):1<Sq n es v↔Fo.Cut2 es v:=by
 rw[JW,aj5 (PS n es v)];constructor
 .rintro⟨x,y,d,f,g⟩;obtain⟨a,ha,rfl⟩:=(dG c).1 d;obtain⟨b,hb,rfl⟩:=(dG c).1 f;exact⟨a,b,ha,hb,(by grind[dR])⟩
 .rintro⟨a,b,ha,hb,h⟩;exact⟨_,_,(dG c).2 ⟨a,ha,rfl⟩,(dG c).2 ⟨b,hb,rfl⟩,fun e=>h ((dR c ha hb).1 e)⟩
variable {R:Nat} {ev:Value} {n:Int} {ps:List Pr}
def aib{x y:Value}(d:h.own R=some (.cells [x,y]))(one:ev.oneCell'=true)(b:ev.cells=#[ev]):aaK Tryz.prog h 24 (.pointer (some ⟨R,0,none⟩)) (.agg #[.int .i64 n,ev])=some (h.put R (.cells [.int .i64 n,ev])):=by
 have a:UA Tryz.prog 24=2:=Ji;have e:(Value.agg #[.int .i64 n,ev]).cells=#[.int .i64 n,ev]:=by have c:(Value.int IntKind.i64 n).cells=#[.int .i64 n]:=rfl;simp[Value.cells,b]
 have c:(Value.int IntKind.i64 n).oneCell'=true:=rfl;simp[aaK,d,e,a,putCells,qS5,one,c]
def ai2(e:h.own R=Z (.cells [n,ev]))(d:∃a l c,ev=.slice a l c):aaC pG h 24 ⟨R,0,Y⟩=Z (.agg #[n,ev]):=by have b:UA pG 24=2:=Ji;obtain⟨a,l,c,rfl⟩:=d;rw[Wx qS5 rfl b e Ma];rfl
def lZ(p:Pr):Pr:=(min p.1 p.2,max p.1 p.2)
structure YG (n:Int) (ps:xLP):Prop where
 n0:0<=n
 n1:n<=200
 len:ps.length<=594
 ok:∀p∈ps,0<=(lZ p).1/\(lZ p).1≠(lZ p).2/\(lZ p).2<n
 nd:(ps.map lZ).Nodup
theorem YG.right{n:Nat}(k:YG (n:Int) ps):bX ⟨(n:Int),aa5 (ps.map lZ)⟩:=by
 have nd:(aa5 (ps.map lZ)).Nodup:=(YA _).nodup_iff.2 k.nd;have hle:=VH (ps.map lZ);refine bX.of (by have:=k.n1;omega) (by grind[ZS,YG.len]) (fun q a=>?_) (Nl.2 ?_)
 .rw[Wb,aev]at a;obtain⟨p,b,rfl⟩:=a;have⟨c,h2,h3⟩:=k.ok p b;grind[lZ]
 .refine(hle.and nd).imp fun{x y} h=>?_;grind
theorem ahz(o:abw)(v:vV)(xs:RZ)(y:Int)(h:aai)(b:RL RP h v xs)(u:xs.length<=100000):
  AC pG o 66 [v,y] h fun x h'=>((y∉xs/\x=.int .i64 (-1))\/∃i:Nat,x=i/\xs[i]?=Z y/\∀j,j<i->xs[j]?≠Z y)/\h'=h:=by
 refine AC.vF ap6 ntmps66 results66 fun p=>?_;have e:=fun g=>b.TA g;refine Uy ?_;refine lIn (fun k fr l=>∃i:Nat,k=xs.length-i/\i<=xs.length/\fr=mkF [(0,v),(1,y),(5,i)]/\l=h/\∀j:Nat,j<i->xs[j]?≠Z y) ⟨0,rfl,Z6 _,rfl,rfl,fun j m=>absurd m (y5 j)⟩ ?_;rintro k fr l q ⟨i,rfl,hi,rfl,rfl,r⟩;refine Sk e ?_;refine Kl.intro (fun n=>?_) (fun hf=>?_)
 .have a:i<xs.length:=acb n;clear n;have ad:=b.DH i a;have ld:=b.Uc i a;have s:=qL7 a;have f:=aaa i NH;generalize xs[i]=z at s ld;by_cases c:z=y
  .have d:decide (z=y)=tT:=EL c;simp only[HO,seval,e,ad,ld,d];grind
  .have d:decide (z=y)=fF:=Sb c;simp only[HO,seval,e,ad,ld,d,f];refine lgA NH ⟨i+1,rfl,a,rfl,rfl,fun j m=>?_⟩;grind
 .have t:xs.length<=i:=vp hf;refine Uy ?_;grind[mem_iff_getElem?]
def afX(p:Pr)(a b:Int):Bool:=(decide (p.1=a)&&decide (p.2=b))||(decide (p.1=b)&&decide (p.2=a))
def akC(es:xLP)(a b:Int):xLP:=es.filter fun p=>!afX p a b
def an2(e:abw)(p:Pr)(a b:Int)(h:aai):AC pG e 34 [UI p,a,b] h fun x h'=>x=.bool (afX p a b)/\Le h h':=by
 refine AC.vF func34 ntmps34 results34 fun c=>?_;have⟨l,f,l1,w1,d⟩:=Tt c (xM p);have g:=lK d;have i:=HY d;unfold afX;cases c1:decide (p.1=a)<;>cases c2:decide (p.2=b)<;>cases j:decide (p.1=b)<;>cases k:decide (p.2=a)<;>
  simp only[HO,seval,Ci,f,Dh,Z0,Ip,Gc,g,i,c1,c2,j,k]<;>exact⟨rfl,l1⟩
theorem akT(W0:abw)(v:vV)(n:Int)(a b:Int)(es:xLP)(h:aai)(hg:GR h v ⟨n,es⟩)(hn:es.length<=1000):
  AC pG W0 20 [v,.int .i64 a,.int .i64 b] h fun x h'=>∃ev,x=.agg #[.int .i64 n,ev]/\GP h' ev (akC es a b)/\Le h h'/\Z2 h ev:=by
 have ae:=hg
 obtain⟨ev,rfl,w⟩:=hg.open
 refine AC.vF qS34 ntmps20 results20 fun J=>?_;obtain⟨f,b1,d,z,-,y⟩:=r8 (n:=n) J w
 generalize h.next=B at*
 obtain⟨h2,e2,l2,w2,o2⟩:=Tt z [.int .i64 0,.slice Y 0 0];have A:=y h2 l2
 have nR:f.own f.next=Y:=(Le.refl f).next z (qL0 _)
 obtain⟨h3,h4,e3,e4,l4,w4,nX,C⟩:=GX.new w2 n;have K:=y h4 (l2.trans l4)
 have D:h2.next≠f.next:=fun e=>by grind
 have E:=l4.own _ _ o2;have hlen:=fun g=>w.len g;have al:=Lo f;rw[e2]at al;refine Sk (Pj b1 al @Ii @Di @Ip.eq_1 @Gc A.2.1 @ait e3 e4) ?_;have L:=l2.none nX
 generalize h2.next=X at*
 generalize f.next=R at*
 have aX:Z2 f (.slice Y 0 0):=fun b hb=>by cases hb
 refine lIn (fun k fr m=>∃(i:Nat)(c:vV),k=es.length-i/\i<=es.length/\fr=mkF [(1,.int .i64 a),(2,.int .i64 b),(3,pT (Z ⟨B,0,Y⟩)),(6,pT (Z ⟨R,0,Y⟩)),(7,pT (Z ⟨X,0,Y⟩)),(8,.int .i64 i)]/\
   GX m X n c ((es.take i).filter fun p=>!afX p a b)/\Le f m/\Z2 f c/\m.own R=Z (.cells [.int .i64 0,.slice Y 0 0])/\blk c≠Z R) ⟨0,_,rfl,Z6 _,rfl,C,l2.trans l4,aX,E,by simp[blk]⟩ ?_
 clear C aX E K w4 l4 e4 e3 o2 e2 A;clear h3 h4;rintro k fr m ag ⟨i,c,rfl,hi,rfl,o,leq,ax,oR,t⟩;have q:=y m leq;simp only[HO,seval,Di,Ip,Gc,q.2.2,hlen];refine Kl.intro (fun ht=>?_) (fun hf=>?_)
 .have j:i<es.length:=acb ht;clear ht;have l:=CA j;have M:es.take (i+1)=es.take i++[es[i]]:=XJ j;generalize es[i]=p at l M;have ad:=w.addr (k:=.i64) i j;have r:=w.le (d.trans leq);have ld:=r.load l;simp only[HO,seval,Di,Ip,Gc,DF,q.2.2,ad,ld];refine kCi func34 (an2 W0 p a b m) ?_;rintro bv hr N ⟨rfl,lr⟩;have o:=o.le lr;have leq:=leq.trans lr;have q:=y hr leq;have oR:=lr.own _ _ oR;have r:=w.le (d.trans leq);have ld:=r.load l;cases ai:afX p a b with
  |true=>have e:(es.take (i+1)).filter (fun p=>!afX p a b)=(es.take i).filter (fun p=>!afX p a b):=hGr;refine Sk (aaa i NH) ?_;exact lgA NH ⟨i+1,c,rfl,j,rfl,hGr,leq,ax,oR,t⟩
  |false=>have aj:(es.take (i+1)).filter (fun p=>!afX p a b)=(es.take i).filter (fun p=>!afX p a b)++[p]:=hGr;have aq:((es.take i).filter fun p=>!afX p a b).length<=i:=hGr;obtain⟨v',g4,g5,g6,q4,q5,q6,ar,w9,u,f9,k9,f5,O⟩:=o.an0 N p NH;have F:=f5 f leq ax;have P:=y g5 F;have G:aaC pG g5 22 ⟨X,1,Y⟩=Z c:=Fq AV rfl O;have Q:=(w.le (d.trans F)).load l;obtain⟨l9,a9⟩:=f9 f leq L ax;obtain⟨S,T⟩:=k9 R _ oR (EH D) t;have U:=o.ld;have H:=y g4 (leq.trans u);have I:=(o.le u).ld;have V:=(r.le u).load l;refine Uy ?_;refine gh (fRn 0 7 (JQ 7 [6] (JQ 8 [1,7] (tA [9] (JQ 10 [0,1,2,3,4,5,6,7,8,9] .done))))) ?_;simp only[HO,seval,Qg,Di,Ip,Gc,DF,U.2.2,I.2.2,G,q.2.2,H.2.2,P.2.2,ad,ld,V,Q,q4,q5,q6,aaa i NH];exact lgA NH ⟨i+1,v',rfl,j,rfl,hGr,l9,a9,S,T⟩
 .have W:es.length<=i:=vp hf;rw[HV W]at o;have U:=o.ld;have s:UA pG 24=2:=Ji;have one:=o.gp.pr.sl.one;have st:aaK pG m 24 (pT (Z ⟨R,0,Y⟩)) (.agg #[.int .i64 n,c])=Z (m.put R (.cells [.int .i64 n,c])):=by
   have hc:(vV.agg #[.int .i64 n,c]).cells=#[.int .i64 n,c]:=rfl;have h0:(vV.int IntKind.i64 n).oneCell'=tT:=rfl;simp[aaK,oR,hc,s,putCells,qS5,one,h0]
  have oo:=aai.Y3 m R (.cells [.int .i64 n,c]);have aa:aaC pG (m.put R (.cells [.int .i64 n,c])) 24 ⟨R,0,Y⟩=Z (.agg #[.int .i64 n,c]):=by rw[Wx qS5 rfl s oo Ma];rfl
  simp only[HO,seval,U.1,st,aa];exact⟨c,rfl,GS.put o.gp _ t,(d.trans leq).put _ (d.none nR),fun b hb=>d.none (ax b hb)⟩
theorem an3(o:abw)(v:vV)(xs:RZ)(y:Int)(h:aai)(b:RL RP h v xs)(u:xs.length<=100000):
  AC pG o 32 [v,y] h fun x h'=>x=.bool (decide (y∈xs))/\h'=h:=by
 refine AC.vF func32 ntmps32 results32 fun p=>?_;have e:=fun g=>b.TA g;refine Uy ?_;refine lIn (fun k fr l=>∃i:Nat,k=xs.length-i/\i<=xs.length/\fr=mkF [(0,v),(1,y),(5,i)]/\l=h/\∀j:Nat,j<i->xs[j]?≠Z y) ⟨0,rfl,Z6 _,rfl,rfl,fun j m=>absurd m (y5 j)⟩ ?_;rintro k fr l q ⟨i,rfl,hi,rfl,rfl,r⟩;refine Sk e ?_;refine Kl.intro (fun n=>?_) (fun hf=>?_)
 .have a:i<xs.length:=acb n;clear n;have ad:=b.DH i a;have ld:=b.Uc i a;have s:=qL7 a;have f:=aaa i NH;generalize xs[i]=z at s ld;by_cases c:z=y
  .have d:decide (z=y)=tT:=EL c;simp only[HO,seval,e,ad,ld,d];grind
  .have d:decide (z=y)=fF:=Sb c;simp only[HO,seval,e,ad,ld,d,f];refine lgA NH ⟨i+1,rfl,a,rfl,rfl,fun j m=>?_⟩;grind
 .have t:xs.length<=i:=vp hf;refine Uy ?_;grind[mem_iff_getElem?]
def amy(p:Pr)(y:Int):RZ:=(if p.1=y then[p.2]else[])++if p.2=y then[p.1]else[]
def acv(ps:xLP)(y:Int):RZ:=ps.flatMap fun p=>amy p y
theorem endP_len(p:Pr)(y:Int):(amy p y).length<=2:=by grind[amy]
theorem akV(y:Int):∀ps:xLP,(acv ps y).length<=2*ps.length
 |[]=>by simp[acv]
 |p::ps=>by have:=akV y ps;grind[endP_len,acv]
def aop(ps:xLP)(p:Pr)(y:Int):acv (ps++[p]) y=acv ps y++amy p y:=by simp[acv]
theorem akK(G:abw)(v:vV)(ps:xLP)(y:Int)(h:aai)(d:PR h v ps)(R:ps.length<=1000):
  AC pG G 30 [v,y] h fun x h'=>GI h' x (acv ps y)/\Le h h'/\Z2 h x:=by
 refine AC.vF func30 ntmps30 results30 fun H=>?_;have I:=fun g=>d.len g;refine Uy ?_;refine lIn (fun k fr n=>∃(i:Nat)(e:vV),k=ps.length-i/\i<=ps.length/\fr=mkF [(0,v),(1,y),(5,e),(6,i)]/\GI n e (acv (ps.take i) y)/\Le h n/\Z2 h e) ⟨0,_,rfl,Z6 _,rfl,GI.nil h,Le.refl _,fun b hb=>by simp[blk]at hb⟩ ?_;rintro k fr n f ⟨i,e,rfl,hi,rfl,g,j,ap⟩;refine Sk I ?_;refine Kl.intro (fun B=>?_) (fun hf=>?_)
 rotate_left
 .have o:ps.length<=i:=vp hf;rw[HV o]at g;refine Uy ?_;grind
 have a:i<ps.length:=acb B;clear B;have c:=CA a;have q:ps.take (i+1)=ps.take i++[ps[i]]:=XJ a;have r:=aop (ps.take i) ps[i] y;rw[<-q]at r;have hle:(acv (ps.take i) y).length<=2*i:=by grind[akV]
 generalize ps[i]=p at*;have ad:=d.addr (k:=.i64) i a;have aw:=aaa i NH;have l:=(d.le j).l0 c;have m:=(d.le j).l1 c;by_cases c1:p.1=y
 .have d1:decide (p.1=y)=tT:=EL c1;obtain⟨J,S,T,e4,C,K,L,l4,M,-⟩:=g.push f p.2 NH;have⟨l5,D⟩:=M h j ap;have E:=(d.le l5).l0 c;have F:=(d.le l5).l1 c;by_cases c2:p.2=y
  .have d2:decide (p.2=y)=tT:=EL c2;obtain⟨s,N,O,t,u,P,Q,l6,w,-⟩:=K.push L p.1 hGr;have⟨z,A⟩:=w h l5 D;simp only[HO,seval,ad,Dh,Z0,l,m,E,F,d1,d2,e4,C,t,u,aw];refine lgA NH ⟨i+1,s,rfl,a,rfl,?_,z,A⟩;grind[amy]
  .have d2:decide (p.2=y)=fF:=Sb c2;simp only[HO,seval,ad,Dh,Z0,l,m,E,F,d1,d2,e4,C,aw];refine lgA NH ⟨i+1,J,rfl,a,rfl,?_,l5,D⟩;grind[amy]
 .have d1:decide (p.1=y)=fF:=Sb c1;by_cases c2:p.2=y
  .have d2:decide (p.2=y)=tT:=EL c2;obtain⟨s,N,O,t,u,P,Q,l6,w,-⟩:=g.push f p.1 NH;have⟨z,A⟩:=w h j ap;simp only[HO,seval,ad,Dh,Z0,l,m,d1,d2,t,u,aw];refine lgA NH ⟨i+1,s,rfl,a,rfl,?_,z,A⟩;grind[amy]
  .have d2:decide (p.2=y)=fF:=Sb c2;simp only[HO,seval,ad,Dh,Z0,l,m,d1,d2,aw];refine lgA NH ⟨i+1,e,rfl,a,rfl,?_,j,ap⟩;grind[amy]
def alr(p:Pr)(y:Int):Bool:=decide (p.1≠y)&&decide (p.2≠y)
def akA(ps:xLP)(y a b:Int):xLP:=(ps.filter fun p=>alr p y)++[(a,b)]
theorem taken_any(I:abw)(v:vV)(ps:xLP)(y a b:Int)(h:aai)(o:PR h v ps)(P:ps.length<=1000):
  AC pG I 31 [v,y,a,.int .i64 b] h fun x h'=>Le h h'/\((ps.any (fun p=>afX p a b)=tT/\x=.tuple #[.slice Y 0 0,.bool fF])\/(ps.any (fun p=>afX p a b)=fF/\∃f,x=.tuple #[f,.bool tT]/\PR h' f (akA ps y a b)/\Z2 h f)):=by
 refine AC.vF func31 ntmps31 results31 fun J=>?_;have K:=fun g=>o.len g;refine Uy ?_;refine lIn (fun k fr B=>∃(i:Nat)(f:vV),k=ps.length-i/\i<=ps.length/\fr=mkF [(0,v),(1,y),(2,a),(3,.int .i64 b),(10,f),(11,i)]/\GP B f ((ps.take i).filter fun p=>alr p y)/\Le h B/\Z2 h f/\(ps.take i).any (fun p=>afX p a b)=fF) ⟨0,_,rfl,Z6 _,rfl,GP.nil h,Le.refl _,fun b hb=>by simp[blk]at hb,Ma⟩ ?_;rintro k fr B q ⟨i,f,rfl,hi,rfl,g,j,ap,r⟩;refine Sk K ?_;have hle:((ps.take i).filter fun p=>alr p y).length<=i:=hGr;refine Kl.intro (fun H=>?_) (fun hf=>?_)
 rotate_left
 .have C:ps.length<=i:=vp hf;obtain⟨D,L,M,e4,E,w,N,l4,F,-⟩:=g.push q (a,b) NH;have⟨l5,G⟩:=F h j ap;rw[HV C]at w r;refine Sk (Yb @xe e4 E) ?_;exact⟨l5,.inr ⟨r,D,rfl,w.pr,G⟩⟩
 have d:i<ps.length:=acb H;clear H;have l:=CA d;have O:ps.take (i+1)=ps.take i++[ps[i]]:=XJ d;have s:ps[i]∈ps:=aaf d;generalize ps[i]=p at*;have ad:=o.addr (k:=.i64) i d;have aw:=aaa i NH;have z:=(o.le j).l0 l;have A:=(o.le j).l1 l;have ld:=(o.le j).load l;by_cases hb:afX p a b=tT
 .have t:ps.any (fun p=>afX p a b)=tT:=agN.2 ⟨p,s,hb⟩;unfold afX at hb
  cases c1:decide (p.1=a)<;>cases c2:decide (p.2=b)<;>cases m:decide (p.1=b)<;>cases n:decide (p.2=a)<;>simp only[c1,c2,m,n]at hb<;>first|exact absurd hb WY|(simp only[HO,seval,ad,Dh,Z0,z,A,c1,c2,m,n];exact⟨j,.inl ⟨t,trivial⟩⟩)
 have hb:afX p a b=fF:=hGr;have e:(ps.take (i+1)).any (fun p=>afX p a b)=fF:=hGr;obtain⟨D,L,M,e4,E,w,N,l4,F,-⟩:=g.push q p NH;have⟨l5,G⟩:=F h j ap
 have c:(ps.take (i+1)).filter (fun p=>alr p y)=(ps.take i).filter (fun p=>alr p y)++if alr p y then[p]else[]:=hGr
 unfold afX at hb
 cases c1:decide (p.1=a)<;>cases c2:decide (p.2=b)<;>cases m:decide (p.1=b)<;>cases n:decide (p.2=a)<;>simp only[c1,c2,m,n]at hb<;>first|exact absurd hb WY|skip
 all_goals
  by_cases k1:p.1=y
  .have d1:decide (p.1=y)=tT:=EL k1;have u:alr p y=fF:=by unfold alr;simp[k1]
   rw[u]at c;simp only[acg,if_false,adN]at c;simp only[HO,seval,ad,Dh,Z0,z,A,c1,c2,m,n,bne,d1,aw];exact lgA NH ⟨i+1,f,rfl,d,rfl,by rw[c];exact g,j,ap,e⟩
  by_cases k2:p.2=y
  .have d1:decide (p.1=y)=fF:=Sb k1;have d2:decide (p.2=y)=tT:=EL k2;have u:alr p y=fF:=by unfold alr;simp[k2]
   rw[u]at c;simp only[acg,if_false,adN]at c;simp only[HO,seval,ad,Dh,Z0,z,A,c1,c2,m,n,bne,d1,d2,aw];exact lgA NH ⟨i+1,f,rfl,d,rfl,by rw[c];exact g,j,ap,e⟩
  have d1:decide (p.1=y)=fF:=Sb k1;have d2:decide (p.2=y)=fF:=Sb k2;have u:alr p y=tT:=by unfold alr;simp[k1,k2]
  rw[u]at c;simp only[if_true]at c;simp only[HO,seval,ad,Dh,Z0,z,A,c1,c2,m,n,bne,d1,d2,ld,e4,E,aw];exact lgA NH ⟨i+1,D,rfl,d,rfl,by rw[c];exact w,l5,G,e⟩
end
end Go.Fw
namespace Go.Fw
namespace Fo
variable{n:Nat}{es:List Pr}{num:Nat->Nat}{up:Nat->Option Nat}{hd:Nat->Nat}
theorem Io{a b:Nat}(h:pJ up a b)(ne:a≠b):up b≠Y:=by grind[pJ.last]
def beg(n:Nat)(up:Nat->Option Nat)(hd:Nat->Nat):II:=(rG n).filter fun c=>decide (up c≠Y/\hd c=c)
theorem AF{c:Nat}:c∈beg n up hd↔c<n/\up c≠Y/\hd c=c:=by simp[beg]
theorem beg_nd:(beg n up hd).Nodup:=uV.sublist EP
def JB(n:Nat)(up:Nat->Option Nat)(hd:Nat->Nat)(v:Nat):II:=(beg n up hd).filter fun c=>decide (up c=Z v)
theorem an4(F:Fo n es num up)(H:abi n es num up hd){v:Nat}(h:v<n)(c:Nat):(∃a,Jp es v a/\hd (lower num v a)=c)↔c∈JB n up hd v\/(up v≠Y/\c=hd v):=by
 rw[JB,K4,AF,vg];constructor
 .rintro⟨a,ha,rfl⟩;have i:=F.JD ha;have e:=(ha.lt F.rD).2;unfold lower;by_cases q:num a<num v
  .rw[abe q];exact .inr ⟨Io (F.anc a v ha.symm q) hGr,rfl⟩
  .rw[abE q];have⟨c,f,b⟩:=(F.anc v a ha NH).child hGr;have d:=(F.yO b e).1;rw[F.zP H f b ha];by_cases hb:ym es num up v c
   all_goals grind[Fo.CJ,Fo.Io,Fo.abi.on,Fo.abi.new]
 .rintro(⟨⟨d,_,hh⟩,f⟩|⟨g,rfl⟩)
  .obtain⟨j,h2⟩:=F.Kd c v d f;grind[Fo.lower]
  .obtain⟨u,g⟩:=N8.1 g;have⟨j,h2⟩:=F.Kd v u h g;grind[Jp.symm,Fo.lower]
theorem hd_notAt(F:Fo n es num up)(H:abi n es num up hd){v:Nat}(a:v<n):hd v∉JB n up hd v:=by intro h;rw[JB,K4,AF,vg]at h;have b:=(F.US H (num v) v (qL0 _) a).1;have h2:=(F.Kd _ v h.1.1 h.2).2;grind[Fo.yO]
end Fo
open Classical in
theorem incN_eq{n:Nat}{es:xLP}{num:Nat->Nat}{up:Nat->Option Nat}(S:aay n es (Jz n es).1 (Jz n es).2 num up){v:Nat}(h:v<n):
  Sq n es v=(Fo.JB n up (Cl n es) v).length+(if up v=Y then 0 else 1):=by
 have F:=S.fo;have H:=(FY S).1;have d:=F.rD;have b:∀k:Int,k∈amm n es v↔∃c:Nat,k=(c:Int)/\(c∈Fo.JB n up (Cl n es) v\/(up v≠Y/\c=Cl n es v)):=by
  intro k;rw[dG d];constructor
  .rintro⟨a,ha,rfl⟩;exact⟨_,jm S ha,(by grind[Fo.an4])⟩
  grind[Fo.an4,jm]
 have e:(Fo.JB n up (Cl n es) v).Nodup:=Fo.beg_nd.sublist EP;rw[JW];by_cases f:up v=Y
 .rw[abe f];have:(amm n es v).Perm (kz (Fo.JB n up (Cl n es) v)):=by grind[PS,kz.eq_1]
  rw[this.length_eq,y6];rfl
 .have g:(Cl n es v::Fo.JB n up (Cl n es) v).Nodup:=by grind[Fo.hd_notAt]
  have:(amm n es v).Perm (kz (Cl n es v::Fo.JB n up (Cl n es) v)):=(aoC (PS n es v) (by grind[kz.eq_1])).2 (by grind[kz.eq_1]);grind[List.Perm.length_eq,y6]
theorem VV{n:Nat}{es:xLP}{num:Nat->Nat}{up:Nat->Option Nat}(S:aay n es (Jz n es).1 (Jz n es).2 num up):(vq n es).length=(Fo.beg n up (Cl n es)).length:=by
 have F:=S.fo;have H:=(FY S).1;have i:=F.rD;have⟨l,mk⟩:=ahE (cQ n es) _ es rfl;have:(CY (cQ n es) es).Perm (kz (Fo.beg n up (Cl n es))):=(aoC l (by grind[kz.eq_1,Fo.beg_nd])).2 fun k=>by
  rw[mk,kz,aev];constructor
  .rintro⟨p,m,rfl⟩;obtain⟨a,c,rfl,o,d,b⟩:=ends i m;have q:((a:Int),(c:Int))=GW a c:=by grind[ac0]
   have w:=jm S b;have r:=F.JD b;have e:Fo.lower num a c<n:=by grind[Fo.lower]
   have s:up (Cl n es (Fo.lower num a c))≠Y:=by have key:=fun x y f g=>F.link H (fun _ _=>()) (fun _ _=>rfl) hGr (num x) x y (qL0 _) f g;grind[Fo.lower,Jp.symm]
   have t:=F.US H _ (Fo.lower num a c) (qL0 _) e;grind[Fo.AF,Fo.yO]
  .rintro⟨c,v,rfl⟩;have⟨d,h,hh⟩:=Fo.AF.1 v;have⟨u,h⟩:=N8.1 h;have⟨j,h2⟩:=F.Kd c u d h;refine⟨GW c u,T0 i j.symm,?_⟩;rw[jm S j.symm];grind[Fo.lower]
 grind[aaB,List.Perm.length_eq,y6]
end Go.Fw
namespace Go.Fw
theorem sum_add(f g:Nat->Nat):∀l:II,(l.map fun x=>f x+g x).sum=(l.map f).sum+(l.map g).sum
 |[]=>rfl
 |x::l=>by simp only[QD,alw,sum_add f g l];omega
theorem aj7(u:Nat):∀n,((rG n).map fun v=>if u=v then 1 else 0).sum=if u<n then 1 else 0
 |0=>rfl
 |n+1=>by rw[Bx,akG,sum_append,aj7 u n];grind
def Rp:∀n,((rG n).map fun _=>0).sum=0
 |0=>rfl
 |n+1=>by rw[Bx,akG,sum_append,Rp n];rfl
theorem akg(n:Nat)(up:Nat->Option Nat):∀(l:II),(∀c∈l,∃u,up c=Z u/\u<n)->((rG n).map fun v=>(l.filter fun c=>decide (up c=Z v)).length).sum=l.length
 |[],_=>by exact Rp n
 |c::l,h=>by
  obtain⟨u,a,b⟩:=h c Ma;have d:=akg n up l hGr
  have e:(fun v=>((c::l).filter fun c=>decide (up c=Z v)).length)=fun v=>(l.filter fun c=>decide (up c=Z v)).length+(if u=v then 1 else 0):=hGr
  grind[sum_add,aj7]
theorem akr(p:Nat->Prop)[DecidablePred p]:∀l:II,(l.map fun v=>if p v then 0 else 1).sum=(l.filter fun v=>decide (¬p v)).length
 |[]=>rfl
 |x::l=>by rw[QD,alw,akr p l,ahG];grind
theorem yA(inc:Nat->Nat):∀l:II,(l.map inc).sum+(l.filter fun v=>decide (1<inc v)).length=((l.filter fun v=>decide (1<inc v)).map inc).sum+(l.filter fun v=>decide (0<inc v)).length
 |[]=>rfl
 |x::l=>by have a:=yA inc l;grind
theorem Yu{A B:II}{R:Nat->Nat->Prop}(c:A.Nodup)(h:∀a∈A,∃b∈B,R a b)(inj:∀a∈A,∀a'∈A,∀b,R a b->R a' b->a=a'):A.length<=B.length:=by
 classical
 let f:Nat->Nat:=fun a=>if h:∃b∈B,R a b then Classical.choose h else 0
 have nd:(A.map f).Nodup:=by grind[List.Pairwise.imp_of_mem]
 have:=nd.length_le_of_subset (l₂:=B) hGr;grind
namespace Fo
variable{n:Nat}{es:List Pr}{num:Nat->Nat}{up:Nat->Option Nat}
def root_ex(F:Fo n es num up):∀(k v:Nat),num v<=k->v<n->∃r,r<n/\up r=Y/\pJ up r v/\Pu es r v:=by
 intro k
 induction k with
 |zero=>
  intro v d b;cases a:up v with
  |none=>exact⟨v,b,a,.refl v,Pu.refl _ _⟩
  |some u=>have:=(F.Kd v u b a).2;omega
 |succ k e=>
  intro v d b;cases a:up v with
  |none=>exact⟨v,b,a,.refl v,Pu.refl _ _⟩
  |some u=>have⟨c,h2⟩:=F.Kd v u b a;have⟨r,f,h3,g,h⟩:=e u NH (c.lt F.rD).1;exact⟨r,f,h3,g.step a,.step h c rfl⟩
theorem root_con(F:Fo n es num up){r u v:Nat}(a:up r=Y)(h:pJ up r u)(c:Pu es u v):pJ up r v:=by
 induction c<;>grind[Fo.JD,pJ.trans,Fo.anc,Jp.symm,pJ.chain,Fo.Io]
theorem root_uniq(F:Fo n es num up){r s:Nat}(a:up r=Y)(hs:up s=Y)(c:Pu es r s):r=s:=by have h:=F.root_con a (.refl r) c;grind[Fo.Io]
end Fo
open Classical in
theorem HJ{n:Nat}{es:xLP}(b:InR n es){v:Nat}:0<Sq n es v↔∃a,Jp es v a:=by
 rw[JW,length_pos_iff_exists_mem];constructor
 .grind[dG]
 .rintro⟨a,ha⟩;exact⟨_,(dG b).2 ⟨a,ha,rfl⟩⟩
theorem FV{es:xLP}{u v:Nat}(h:Pu es u v)(ne:u≠v):(∃a,Jp es u a)/\∃a,Jp es v a:=by
 constructor
 .induction h<;>grind
 .cases h<;>grind[Jp.symm]
open Classical in
theorem tZ{n:Nat}{es:xLP}(f:InR n es):
  (vq n es).length+(JL n es).length=((JL n es).map (Sq n es)).sum+((Es n es).filter fun h=>decide (0<Sq n es h)).length:=by
 have⟨num,up,S⟩:=Ob f;have F:=S.fo;have s:JL n es=(rG n).filter fun v=>decide (1<Sq n es v):=by grind[JL.eq_1,filter_congr,YH,Cv]
 have j:=yA (Sq n es) (rG n);have h2:((rG n).map (Sq n es)).sum=(Fo.beg n up (Cl n es)).length+((rG n).filter fun v=>decide (¬up v=Y)).length:=by
  have e:(rG n).map (Sq n es)=(rG n).map fun v=>(Fo.JB n up (Cl n es) v).length+(if up v=Y then 0 else 1):=(by grind[map_congr_left,incN_eq])
  rw[e,sum_add,akr (fun v=>up v=Y)];congr 1;exact akg n up _ fun c g=>by have⟨i,d,_⟩:=Fo.AF.1 g;have⟨u,d⟩:=N8.1 d;exact⟨u,d,((F.Kd c u i d).1.lt f).1⟩
 have h3:=MS (fun v=>decide (¬up v=Y)) ((rG n).filter fun v=>decide (0<Sq n es v));rw[anm,anm]at h3;have t:(rG n).filter (fun v=>decide (¬up v=Y)&&decide (0<Sq n es v))=(rG n).filter fun v=>decide (¬up v=Y):=by
  refine Uz fun v k=>?_;rw[j3]at k;by_cases q:up v=Y
  .simp[q]
  .obtain⟨u,d⟩:=N8.1 q;have:0<Sq n es v:=(HJ f).2 ⟨u,(F.Kd v u k d).1.symm⟩;simp[this]
 have w:((rG n).filter fun v=>(!decide (¬up v=Y))&&decide (0<Sq n es v)).length=((Es n es).filter fun h=>decide (0<Sq n es h)).length:=by
  have l:∀v,v∈((rG n).filter fun v=>(!decide (¬up v=Y))&&decide (0<Sq n es v))↔v<n/\up v=Y/\0<Sq n es v:=fun v=>by simp
  have m:∀v,v∈((Es n es).filter fun h=>decide (0<Sq n es h))↔v∈Es n es/\0<Sq n es v:=fun v=>by simp
  have move:∀{a b:Nat},Pu es a b->0<Sq n es a->0<Sq n es b:=fun{a b} c h=>by
   by_cases e:a=b
   all_goals grind[HJ,FV]
  refine Nat.le_antisymm ?_ ?_
  .refine Yu (R:=fun a b=>Pu es a b) (by grind[nodup_range]) (fun a ha=>?_) (fun a ha a' mi b j h2=>?_)
   .obtain⟨k1,k2,o⟩:=(l a).1 ha;have⟨h,hh,g⟩:=B6 f a k1;grind[Cn.symm]
   grind[Fo.root_uniq,Cn.trans,Cn.symm]
  .refine Yu (R:=fun a b=>Pu es a b) (by grind[qD]) (fun a ha=>?_) (fun a ha a' mi b j h2=>?_)
   .obtain⟨k1,o⟩:=(m a).1 ha;have⟨r,p,x,y,g⟩:=F.root_ex (num a) a (qL0 _) (QO.1 k1).1;grind[Cn.symm]
   grind[rf,Cn.trans,Cn.symm]
 grind[VV]
end Go.Fw
namespace Go.Fw
structure TM where
 bs:List xLP
 cs:RZ
 ls:xLP
structure LinkOK (b n:Nat) (p:Pr):Prop where
 x0:0<=p.1
 x1:p.1<(b:Int)
 y0:0<=p.2
 y1:(b:Int)+p.2<(n:Int)
end Go.Fw
namespace Go.Fw
attribute [local instance] Classical.propDecidable
structure H9 (n:Nat) (es fs:xLP) (π:Nat->Nat):Prop where
 r1:InR n es
 r2:InR n fs
 lt:∀a,a<n->π a<n
 inj:∀a b,a<n->b<n->π a=π b->a=b
 surj:∀x,x<n->∃a,a<n/\π a=x
 Jp:∀a b,a<n->b<n->(Jp fs (π a) (π b)↔Jp es a b)
namespace H9
variable{n:Nat}{es fs:List Pr}{π:Nat->Nat}
theorem inv(I:H9 n es fs π):∃σ,H9 n fs es σ/\(∀a,a<n->σ (π a)=a)/\∀x,x<n->π (σ x)=x:=by
 let σ:Nat->Nat:=fun x=>if h:∃a,a<n/\π a=x then Classical.choose h else 0
 have hs:∀x,x<n->σ x<n/\π (σ x)=x:=by grind[H9.surj]
 have b:∀a,a<n->σ (π a)=a:=by grind[H9.inj,H9.lt]
 exact⟨σ,⟨I.r2,I.r1,hGr,hGr,fun x c=>⟨π x,I.lt x c,b x c⟩,
  (by grind[H9.Jp])⟩,b,hGr⟩
end H9
theorem aiu{n:Nat}{es:xLP}(d:InR n es){p:Pr}(e:p∈es):∃a b:Nat,a<n/\b<n/\Jp es a b/\p=GW a b:=by obtain⟨a,c,rfl,f,g,h⟩:=ends d e;exact(by grind[ac0])
namespace H9
variable{n:Nat}{es fs:List Pr}{π:Nat->Nat}
end H9
namespace H9
variable{n:Nat}{es fs:List Pr}{π:Nat->Nat}
end H9
end Go.Fw
namespace Go.Fw
section
attribute [local instance] Classical.propDecidable
def bU(b:Nat)(ls:xLP):xLP:=ls.map fun p=>(p.1,(b:Int)+p.2)
structure Lk (b n:Nat) (ls:xLP):Prop where
 n0:n≠0
 len:ls.length+1=n
 ok:∀p∈ls,LinkOK b n p
 bp:∀v,v<n->Pu (bU b ls) 0 v
def JS{a j:Nat}(h:j<a):a-(j+1)<a-j:=NH
section
variable{n:Nat}{es:List Pr}{rs:AM}
end
section
variable{α β:Type}[DecidableEq α]
end
section
variable{n:Nat}{es:List Pr}{rs:AM}
noncomputable def IN(n:Nat)(rs:AM):AM:=(vf n (Xl rs)).map kz
end
end
section
attribute [local irreducible] Jz JL vq cQ
variable {es:List Pr} {n:Nat}
def lkU(i:Nat)(b:xLP)(cs:II)(k:Nat):xLP:=((rG k).filter fun j=>atB ((cs.getD j 0:Nat):Int) b).map fun(j:Nat)=>((i:Int),(j:Int))
def Rb(bs:List xLP)(cs:II)(i:Nat):xLP:=(rG i).flatMap fun k=>lkU k (bs.getD k []) cs cs.length
theorem lkU_succ(i:Nat)(b:xLP)(cs:II)(k:Nat):lkU i b cs (k+1)=lkU i b cs k++if atB ((cs.getD k 0:Nat):Int) b then[((i:Int),(k:Int))]else[]:=by grind[lkU.eq_1,range_succ]
theorem DK(bs:List xLP)(cs:II)(i:Nat):Rb bs cs (i+1)=Rb bs cs i++lkU i (bs.getD i []) cs cs.length:=by grind[Rb.eq_1,range_succ]
def acF(n:Nat)(es:xLP):TM:=⟨vq n es,kz (JL n es),Rb (vq n es) (JL n es) (vq n es).length⟩
def JoinG(n:Nat)(es:xLP):Prop:=es≠[]/\(Es n es).length=1
theorem u5(b:bX ⟨(n:Int),es⟩)(a:es≠[]):0<(vq n es).length:=by obtain⟨p,l,rfl⟩:=eR a;grind[Zg,mem_cons_self]
end
def mk57(h:aai)(n:Nat)(a:n<=1000):abl pG h 45 n n=Z (sL (Z h.next) n n,h.alloc (.cells (rP n (.slice Y 0 0)))):=Ye (P:=pG) (t:=45) (z:=.slice Y 0 0) h qS6 Ji rfl rfl rfl Ji Mb Ji n NH
def mk100(h:aai)(n:Nat)(a:n<=1000):abl pG h 94 n n=Z (sL (Z h.next) n n,h.alloc (.cells (rP n (.bool fF)))):=Ye (P:=pG) (t:=94) (z:=.bool fF) h Uh rfl rfl rfl rfl Ji eY Ji n NH
def mk35(h:aai)(n:Nat)(a:n<=1000):abl pG h 47 n n=Z (sL (Z h.next) n n,h.alloc (.cells (rP n (.int .i64 0)))):=Ye (P:=pG) (t:=47) (z:=.int .i64 0) h Mb rfl rfl rfl rfl Ji Ac Ji n NH
def rB(ls:xLP)(v:Nat):RZ:=(ls.filter fun p=>decide (p.1=(v:Int))).map (·.2)
def rC(ls:xLP)(v:Nat):RZ:=(ls.filter fun p=>decide (p.2=(v:Int))).map (·.1)
def nbU(b:Nat)(ls:xLP)(v:Nat):II:=if v<b then(rB ls v).map fun x=>b+x.toNat else(rC ls (v-b)).map fun x=>x.toNat
section
variable{b n:Nat}{ls:List Pr}
end
section
attribute [local irreducible] Jz JL vq cQ
variable {es:List Pr} {n u v w:Nat}
def join_of(d:InR n es)(e:0<n)(c:es≠[])(h:∀v,v<n->Pu es 0 v):JoinG n es:=by refine⟨c,?_⟩;have⟨a,ha,f⟩:=B6 d 0 e;have:∀b∈Es n es,b=a:=fun b hb=>rf hb ha ((h b (QO.1 hb).1).symm.trans f.symm);exact Cq (qD n es) ha this
theorem tM(h:Pu es u v)(a:Jp es v w):Pu es u w:=h.step a rfl
attribute [local instance] Classical.propDecidable
variable {b:List Pr} {c i j k:Nat} {p:Pr} {α:Type}
theorem ah{bs:List xLP}{cs:II}:∀k,p∈Rb bs cs k↔∃i j:Nat,i<k/\j<cs.length/\atB ((cs.getD j 0:Nat):Int) (bs.getD i [])=tT/\p=((i:Int),(j:Int)):=by grind[Rb,lkU]
theorem FU(i:Nat)(b:xLP)(cs:II):∀k,k<=cs.length->(lkU i b cs k).length=((cs.take k).filter fun c=>atB ((c:Nat):Int) b).length
 |0,_=>by simp[lkU]
 |k+1,h=>by rw[lkU_succ,Eh,FU i b cs k NH,ahI,Db,Eh];grind
theorem Er(bs:List xLP)(cs:II):∀k,k<=bs.length->(Rb bs cs k).length=(cs.map fun c=>((bs.take k).filter (atB ((c:Nat):Int))).length).sum
 |0,_=>by
  rw[Rb]
  induction cs<;>grind
 |k+1,h=>by
  rw[DK,Eh,Er bs cs k NH,FU k _ cs cs.length (qL0 _),JR];have hb:bs[k]?=Z bs[k]:=qL7 h;rw[ahI,hb,Option.toList_some,D4 h]
  induction cs<;>grind
theorem uh(h:(Es n es).length=1)(a:u<n)(b:v<n):Pu es u v:=by
 have g:0<n:=NH;have m0:0∈Es n es:=by grind[QO]
 have⟨x,i⟩:=qL176.1 h;have key:∀k v,v<=k->v<n->Pu es 0 v:=by
  intro k
  induction k with
  |zero=>grind[Pu.refl]
  |succ k c=>
   intro v j b;by_cases e:v=0
   .grind
   have d:v∉Es n es:=hGr;rw[QO]at d;have:∃u,u<v/\Pu es u v:=hGr;have⟨u,a,f⟩:=this;exact(c u NH NH).trans f
 exact(key _ u (qL0 _) a).symm.trans (key _ v (qL0 _) b)
theorem nodup_idx{l:List α}(nd:l.Nodup){x:α}(h:l[i]?=Z x)(g:l[j]?=Z x):i=j:=by grind[pairwise_iff_getElem]
theorem bK(h:(vq n es)[k]?=Z b):∃x,(CY (cQ n es) es)[k]?=Z x/\b=es.filter fun p=>decide (cQ n es p=x):=by grind[aaB]
theorem block_at(h:(vq n es)[k]?=Z b)(a:p∈b):p∈es:=by grind[bK]
theorem at_mem{v:Int}(a:p∈b)(h:AN v p=tT):atB v b=tT:=by grind[atB]
theorem tree_two(hR:bX ⟨(n:Int),es⟩)(f:v<n){b c:xLP}(h:(vq n es)[j]?=Z b)(g:(vq n es)[k]?=Z c)(hb:atB (v:Int) b=tT)(d:atB (v:Int) c=tT)(ne:j≠k):
  ∃m:Nat,(JL n es)[m]?=Z v:=by
 have a:=hR.GD;have h2:1<Sq n es v:=by rw[JW,aj5 (PS n es v)];obtain⟨x,i,rfl⟩:=bK h;obtain⟨y,l,rfl⟩:=bK g;rw[at_iff a]at hb d;refine⟨x,y,(dG a).2 hb,(dG a).2 d,fun e=>ne ?_⟩;have nd:=(ahE (cQ n es) _ es rfl).1;grind[nodup_idx]
 rw[YH a]at h2;exact vZ.1 (by grind[OI])
theorem link_in(h:(vq n es)[i]?=Z b)(g:(JL n es)[j]?=Z c):((i:Int),(j:Int))∈(acF n es).ls↔atB (c:Int) b=tT:=by show _∈Rb _ _ _↔_;grind[ah]
theorem vC(h:(vq n es)[i]?=Z b)(g:(JL n es)[j]?=Z c)(ha:atB (c:Int) b=tT):Jp (bU (vq n es).length (acF n es).ls) i ((vq n es).length+j):=by left;refine aev.2 ⟨_,(link_in h g).2 ha,?_⟩;grind
theorem aoU(hR:bX ⟨(n:Int),es⟩)(e:v<n){b c:xLP}(h:(vq n es)[j]?=Z b)(g:(vq n es)[k]?=Z c)(hb:atB (v:Int) b=tT)(a:atB (v:Int) c=tT):Pu (bU (vq n es).length (acF n es).ls) j k:=by
 by_cases ne:j=k
 .grind[Pu.refl]
 have⟨m,d⟩:=tree_two hR e h g hb a ne;exact(abu (vC h d hb)).trans (abu (vC g d a)).symm
theorem tree_con(hR:bX ⟨(n:Int),es⟩)(q:u<n)(l:Pu es u v):∀{j k:Nat}{b c:xLP},(vq n es)[j]?=Z b->(vq n es)[k]?=Z c->atB (u:Int) b=tT->atB (v:Int) c=tT->Pu (bU (vq n es).length (acF n es).ls) j k:=by
 have f:=hR.GD
 induction l with
 |refl _=>grind[aoU]
 |@step w x _ a _ o=>intro j k b c h g hb e;have⟨m,d,i,hd,_⟩:=Zg hR (H4 f a);have p:atB (w:Int) d=tT:=at_mem hd zo;have h2:atB (x:Int) d=tT:=at_mem hd (by rw[so];exact zo);exact(o h i hb p).trans (aoU hR (a.lt f).2 i g h2 e)
theorem treeM_lk(hR:bX ⟨(n:Int),es⟩)(k:JoinG n es):Lk (vq n es).length ((vq n es).length+(JL n es).length) (acF n es).ls:=by
 have o:=hR.GD;have f:=u5 hR k.1;have y:=XF hR;have e:∀i b,(vq n es)[i]?=Z b->∃a c:Nat,((a:Int),(c:Int))∈b/\a<n/\atB (a:Int) b=tT:=fun i b hb=>by obtain⟨p,l,rfl⟩:=eR (y.ne b (BS hb));obtain⟨a,c,rfl,z,q,_⟩:=ends o (block_at hb Hs);grind[at_mem,AN]
 have blk:∀i,i<(vq n es).length->Pu (bU (vq n es).length (acF n es).ls) 0 i:=fun i hi=>by have r:(vq n es)[i]?=Z (vq n es)[i]:=qL7 hi;have w:(vq n es)[0]?=Z (vq n es)[0]:=qL7 f;have⟨a,_,_,ha,ea⟩:=e _ _ w;have⟨c,_,_,s,A⟩:=e _ _ r;exact tree_con hR ha (uh k.2 ha s) w r ea A
 refine⟨NH,?_,fun p B=>?_,fun v F=>?_⟩
 .have G:=tZ o;have H:(acF n es).ls.length=((JL n es).map (Sq n es)).sum:=by
   show(Rb _ _ _).length=_;rw[Er _ _ _ (qL0 _),JR];rfl
  have r:((Es n es).filter fun h=>decide (0<Sq n es h)).length=1:=by
   have⟨x,C⟩:=qL176.1 k.2;have t:x∈Es n es:=by rw[C];simp
   have D:=(QO.1 t).1;obtain⟨p,l,rfl⟩:=eR k.1;grind[ends,mem_cons_self,HJ,FV,uh]
  omega
 .obtain⟨i,j,hi,E,_,rfl⟩:=(ah _).1 B;exact⟨Ma,hGr,Ma,hGr⟩
 .by_cases hb:v<(vq n es).length
  .grind
  obtain⟨j,rfl⟩:∃j,v=(vq n es).length+j:=⟨v-(vq n es).length,NH⟩;have u:j<(JL n es).length:=NH;have s:(JL n es)[j]?=Z (JL n es)[j]:=qL7 u;have⟨q,g⟩:=(OI o _).1 (BS s);have⟨a,_,ha,_⟩:=g;have⟨m,d,I,hd,_⟩:=Zg hR (H4 o ha);grind[at_mem,zo,Cn.trans,abu,vC]
end
section
attribute [local irreducible] IN
variable {M:Nat} {h:aai}
def SA{l:List (Pr×Int)}(a:h.own M=Z (.map (wy l)))(k:Pr):adH pG h 48 (.map (Z M)) (UI k) fF=Z (.int .i64 ((abo l k).getD 0)):=mapP_look a k fF
end
section
attribute [local instance] Classical.propDecidable
variable {L:RZ} {T i n:Nat} {es:List Pr} {h hh:aai}
noncomputable def VF{α:Type}(P:Nat->α->Prop)(l:List α)(a:Nat):Nat:=(l.filter fun e=>decide (P a e)).length
noncomputable def Gn(es l:xLP)(a:Nat):Nat:=VF (fun a (e:Pr)=>Pu es a e.1.toNat) l a
noncomputable def sA(es:xLP)(l:AM)(a:Nat):Nat:=VF (fun a (f:RZ)=>Pu es a (f.headD 0).toNat) l a
def z8(n:Nat)(es:xLP)(rs:AM):Prop:=∀a∈Es n es,0<Gn es es a->(Ic n es a).length+sA es (IN n rs) a=Gn es es a+2
theorem JE{r:Nat->II}(R:V7 n r){d:H8}(hd:d∈dl n r):(kz (zu r d)).headD 0=(d.1:Int)/\0<(kz (zu r d)).length:=by
 have:=(aaM (aaG R) hd).1;have e:rG (bt (Nv r) d)=0::(List.range' 1 (bt (Nv r) d-1)):=by rw[range_eq_range',show bt (Nv r) d=(bt (Nv r) d-1)+1 from by omega,qL211];simp
 refine⟨?_,by grind[kz,zu,AA]⟩;simp only[kz,zu,AA,e,QD,qL220];rfl
theorem Uj{rs:AM}(a:InR n es)(ha:D3 es)(G:Av n es rs){f:RZ}(hf:f∈IN n rs):0<f.length/\∃v:Nat,v<n/\f.headD 0=(v:Int):=by have R:=G.jD a ha;rw[IN,aev]at hf;grind[vf.eq_1,afQ,dl,IP,JE]
def stI(o:hh.own T=Z (.cells (Bp L)))(hi:i<L.length)(x:Int):
  aaK pG hh 3 (pT (Z ⟨T,i,Y⟩)) x=Z (hh.put T (.cells (Bp (L.set i x)))):=by rw[QB (P:=pG) (t:=3) (x:=x) Ac Ji o (off:=i) (by rw[uE];exact hi) rfl rfl,yy]
def ldI{l:Int}(o:hh.own T=Z (.cells (Bp L)))(a:L[i]?=Z l):aaC pG hh 3 ⟨T,i,Y⟩=Z (.int .i64 l):=by rw[Fq Ac rfl o];simp[Bp,a]
def Kx(T m:Nat)(k:IntKind)(j:Nat)(a:j<m):aao pG 47 (sL (Z T) m m) (.int k j)=Z (pT (Z ⟨T,j,Y⟩)):=by rw[Wc Mb Ac Ji j a];simp[Ip]
structure NewT3 (h h':aai) (A B C:Nat) (x:xLV):Prop where
 le:Le h h'
 wf:WF h'
 oA:h'.own A=Z (.cells x)
 oB:h'.own B=Z (.cells x)
 oC:h'.own C=Z (.cells x)
 nA:h.own A=Y
 nB:h.own B=Y
 nC:h.own C=Y
 ab:A≠B
 ac:A≠C
 bc:B≠C
theorem new3(hw:WF h)(x:xLV):NewT3 h (((h.alloc (.cells x)).alloc (.cells x)).alloc (.cells x)) h.next (h.next+1) (h.next+1+1) x:=by
 have a:∀x,h.next<=x->h.own x=Y:=fun x b=>(Le.refl h).next hw b
 exact⟨by grind[Le.refl,Le.alloc,WF.alloc],(by grind[WF.alloc]),by grind[Mh],by simp[Mh,om],by simp[Mh,om],hGr,a _ NH,a _ NH,NH,NH,NH⟩
attribute [local irreducible] Kp MQ lU KO1 KO KN KX KE VK Kl ZJ TC aab
variable {b0:aai} {rows:AM} {us:List Value} {w:Nat}
theorem Rows.put{L:Nat}(R:Rows b0 h L us rows)(k:WF h){u:vV}{r:RZ}(j:us[w]?=Z u)(l:rows[w]?=Z r)(hi:i<r.length)(x:Int):
  ∃h',aaK pG h 3 (pT (Z (aaq u i))) x=Z h'/\Rows b0 h' L us (rows.set w (r.set i x))/\WF h'/\(∀f,Le f h->Z2 f u->Le f h')/\(∀b o,h.own b=Z o->blk u≠Z b->h'.own b=Z o):=by
 have⟨h',e,g,wf,m,keep⟩:=GI.store (show GI h u r from R.gs w u r j l) k hi x;refine⟨h',e,⟨keep _ _ R.oL (R.nL w u j),by grind[Rows.len],fun v a q ha d=>?_,R.nL,R.TE,R.ap,m _ R.le (R.ap w u j),R.bL⟩,wf,m,keep⟩;rw[Tn]at d;by_cases c:w=v
 .subst c;rw[abe rfl,abe (Ny.1 l).1]at d;injection d with d;subst d;rw[j]at ha;injection ha with ha;subst ha;exact g
 .rw[abE c]at d;refine(R.gs v a q ha d).kept fun b o hb n=>keep b o n fun sZ=>R.TE w v u a b c j ha sZ hb
theorem OS(l:abw)(v:Value)(xs:RZ)(y:Int)(h:aai)(d:RL RP h v xs)(s:xs.length<=100000):AC Tryz.prog l 68 [v,.int .i64 y] h fun x h'=>((x=.int .i64 (-1)/\y∉xs)\/∃i,∃hi:i<xs.length,x=.int .i64 (i:Nat)/\xs[i]=y/\∀j (b:j<i),xs[j]≠y)/\h'=h:=by
 refine AC.vF Tryz.func68 Tryz.ntmps68 Tryz.results68 fun m=>?_;have n:=fun g=>d.TA g;refine Sk n ?_;refine lIn (fun k fr e=>∃i,k=xs.length-i/\i<=xs.length/\fr=mkF [(0,v),(1,.int .i64 y),(7,.int .i64 xs.length),(8,.int .i64 i)]/\e=h/\∀j (b:j<xs.length),j<i->xs[j]≠y) ⟨0,rfl,Z6 _,rfl,rfl,fun j _ b=>absurd b (y5 _)⟩ ?_;rintro k fr e o ⟨i,rfl,hi,rfl,rfl,p⟩;refine Uy ?_;refine Kl.intro (fun f=>?_) (fun hf=>?_)
 .have a:i<xs.length:=acb f;clear f;have ad:=d.DH i a;have ld:=d.Uc i a;have hw:=aaa i NH;by_cases c:y=xs[i]
  .simp only[HO,seval,ad,ld,EL c];grind
  .simp only[HO,seval,ad,ld,Sb c,hw];refine lgA (JS a) ⟨i+1,rfl,a,rfl,rfl,fun j b q=>?_⟩;grind
 .have r:xs.length<=i:=vp hf;refine Uy ?_;grind[List.mem_iff_getElem]
theorem W3(b:abw)(v:vV)(xs:RZ)(y:Int)(h:aai)(c:RL RP h v xs)(e:xs.length<=100000):AC pG b 49 [v,y] h fun x h'=>x=.bool (decide (y∈xs))/\h'=h:=by
 refine AC.vF func49 ntmps49 results49 fun f=>?_;refine Uy ?_;refine kCi func68 (OS b v xs y h c e) ?_;rintro x h2 w2 ⟨⟨rfl,a⟩|⟨i,hi,rfl,a,-⟩,rfl⟩
 .have d:decide ((-1:Int)>=0)=fF:=by decide
  simp only[HO,seval,d,Sb a];grind
 .have d:decide ((i:Int)>=0)=tT:=by simp
  have g:y∈xs:=a▸aaf hi;simp only[HO,seval,d,EL g];grind
def mkR(h:aai){u:vV}(b:xO u n):aas pG h 70 1 [(0,u)]=Z (sL (Z h.next) 1 1,h.alloc (.cells [u])):=by obtain⟨a,c,rfl,_⟩:=b;rfl
end
variable {es:List Pr} {n:Nat} {rs:AM}
attribute [local instance] Classical.propDecidable in
theorem vS{n:Nat}{es:xLP}{rs:AM}(c:InR n es)(ha:D3 es)(G:Av n es rs)(d:0<n)(k:∀v,v<n->Pu es 0 v):
  z8 n es rs↔(0<es.length->n+(IN n rs).length=es.length+2):=by
 have all:∀a,a<n->Gn es es a=es.length/\(Ic n es a).length=n/\sA es (IN n rs) a=(IN n rs).length:=fun a g=>by
  have i:∀v,v<n->Pu es a v:=by grind[Cn.symm,Cn.trans]
  refine⟨?_,?_,?_⟩
  .unfold Gn VF;rw[OM.2];intro e j;have h:=c e j;grind
  .grind[Ic,filter_eq_self]
  .unfold sA VF;rw[OM.2];intro f hf;have⟨_,v,l,e⟩:=Uj c ha G hf;grind
 constructor
 .intro H m;have⟨a,b,_⟩:=B6 c 0 d;have⟨o,p,e3⟩:=all a (QO.1 b).1;have:=H a b hGr;grind
 .intro H a b;grind[QO]
theorem rotG_of(h:rs.length=n)(d:(rG n).all (fun v=>(rs.getD v []).isPerm ((Zh n es).getD v []))=tT):Av n es rs:=⟨h,(by grind[isPerm_iff])⟩
theorem X9(a:bX ⟨(n:Int),es⟩)(G:Av n es rs){hs:List (H8×Nat)}(C:Cert n (Xl rs) hs):IN n rs=hs.map fun p=>(rG p.2).map fun j=>(((it (Nv (Xl rs)) j p.1).1:Nat):Int):=by rw[IN,Fs (G.jD a.GD a.q9) C,KG];grind[map_congr_left,kz]
instance (n:Nat) (r:Nat->II) (hs:List (H8×Nat)):Decidable (Cert n r hs):=by unfold Cert;infer_instance
section
attribute [local irreducible] Kp MQ lU KO1 KO KN KX KE VK Kl ZJ TC aab
variable {B M T i:Nat} {h:aai} {rows:AM} {x:Int}
theorem afu{l:List (Pr×Int)}(e:h.own M=some (.map (wy l)))(k:Pr):∃(j:Nat)(l1:List (Pr×Int)),
  ad9 Tryz.prog h 48 (.map (some M)) (UI k)=some (.tuple #[.int .i64 ((abo l k).getD 0),.int .i64 (j:Int)],h.put M (.map (wy l1)))/\(abo l1 k).getD 0=(abo l k).getD 0/\
  ∀v:Int,acT (h.put M (.map (wy l1))) (.map (some M)) (.int .i64 (j:Int)) (.int .i64 v)=some ((h.put M (.map (wy l1))).put M (.map (wy (acs l k v)))):=by
 have f:acd Tryz.prog 3=some (.int .i64 0):=Ji;have hf:=akz k l 0;have hd:∀v:Int,_:=fun v=>Ek l k v;rcases Ek l k 0 with⟨c,i⟩|⟨j,b,c,h2,h3,i⟩
 .have d:=hf.1 c;refine⟨l.length,l++[(k,0)],?_,?_,fun v=>?_⟩
  .simp only[ad9,qS26,keyP,e,f,if_true,d,show flat (.int .i64 0)=true from rfl,c];simp[wy]
  .grind[anr]
  .have hs:acs l k v=l++[(k,v)]:=hGr;have g:(0:Int)<=(l.length:Int):=NH;simp only[acT,aai.Y3,g,if_true,yM];rw[hs];simp[wy]
 .have a:=hf.2 j b h2 h3;rw[Gc]at a;refine⟨j,l,?_,rfl,fun v=>?_⟩
  .simp only[ad9,qS26,keyP,e,f,if_true,a,c,Option.getD_some]
  .have hs:acs l k v=l.set j (k,v):=hGr;have g:(0:Int)<=(j:Int):=NH;grind[wy,acT,aai.Y3,Int.toNat_natCast,List.map_set]
def bX.n200(a:bX ⟨(n:Int),es⟩):n<=200:=by have:(n:Int)<=200:=a.n1;omega
def stKI{x:vV}(o:h.own T=Z (.cells [x]))(y:Int):aaK pG h 3 (pT (Z T)) y=Z (h.put T (.cells [y])):=QB Ac Ji o Nat.zero_lt_one rfl rfl
def ldKI(o:h.own T=Z (.cells [x])):aaC pG h 3 ⟨T,0,Y⟩=Z (.int .i64 x):=by rw[Fq Ac rfl o];rfl
def ldKR{a:vV}(o:h.own B=Z (.cells [a])):aaC pG h 45 ⟨B,0,Y⟩=Z a:=by rw[Fq qS6 rfl o];rfl
theorem other_any(S:abw)(T B:Nat)(O:vV)(s c v:Nat)(p h:aai)(oT:h.own T=Z (.cells [(s:Nat)]))(oB:h.own B=Z (.cells [O]))(F:B≠T)(hb:RL (RL RP) p O (Zh n es))(l0:Le p h)(nT:p.own T=Y)(G:bX ⟨(n:Int),es⟩)(P:Jp es c v)(U:((Zh n es).getD c []).length≠2)(hs:s<=100000000):
  AC pG S 48 [(c:Nat),(v:Nat),pT (Z T),pT (Z B)] h fun x h'=>x=.int .i64 ((aal (Zh n es) (c,v)).1:Nat)/\h'.own T=Z (.cells [.int .i64 ((s+((aal (Zh n es) (c,v)).2+1):Nat):Int)])/\Le p h'/\∀b o,b≠T->h.own b=Z o->h'.own b=Z o:=by
 have hR:=G.GD;have hA:D3 es:=G.q9;have⟨K,hK,h2,h3,V⟩:=ahL hR hA G.n200 P U;rw[V];have H:=aa7 hR hA (d:=(c,v)) P;have rt:=fun v=>abg hR hA (v:=v);have bl:=Xq n es;have bn:∀{x y},Jp es x y->y<n:=fun a=>(a.lt hR).2;generalize Zh n es=rows at*;refine AC.vF func48 ntmps48 results48 fun r=>?_;have t:=ldKI oT;have w:=stKI oT ((s+1:Nat):Int);have z:=aaa s NH;refine Sk (Yb t z w) ?_;have w1:WF (h.put T (.cells [((s+1:Nat):Int)])):=r.put _ (r.lt oT);refine aab.intro (fun k fr f=>∃i:Nat,k=K-i/\i<=K/\fr=mkF [(1,.int .i64 ((it (goS rows) i (c,v)).2:Nat)),(2,pT (Z T)),(3,pT (Z B)),(7,.int .i64 ((it (goS rows) i (c,v)).1:Nat))]/\
   f.own T=Z (.cells [((s+1+i:Nat):Int)])/\Le p f/\∀b o,b≠T->h.own b=Z o->f.own b=Z o)
  K [(1,(v:Nat)),(2,pT (Z T)),(3,pT (Z B)),(7,(c:Nat))] hAs
  ⟨0,rfl,Z6 _,rfl,aai.Y3 _ _ _,l0.put _ nT,fun b o hb W=>by grind[aai.By]⟩ ?_
 clear w1 w t z oT;rintro k fr f X ⟨i,rfl,hi,rfl,oT,A,kp⟩;have lB:=ldKR (kp B _ F oB);have ha:=H i fun q f=>h2 q NH;generalize C:it (goS rows) i (c,v)=d at*;have j:d.2<rows.length:=hGr;have I:=hb.NS d.2 j;have⟨u,J,m⟩:=hb.Wm d.2 j;have lu:=J f A;have gd:rows.getD d.2 []=rows[d.2]:=D4 j;have ln:=fun g=>m.TA g;have Q:=ldKI oT;have st:=stKI oT ((s+1+(i+1):Nat):Int);have aw:=aaa (s+1+i) NH;rw[qL240 (s+1) i 1]at aw;by_cases c2:(rows.getD d.2 []).length=2
 rotate_left
 .have e:i=K:=hGr;subst e;have d2:decide ((rows[d.2].length:Int)=2)=fF:=Sb hGr;rw[C];simp only[HO,seval,lB,I,lu,ln,d2];grind
 have e:i<K:=hGr;have⟨a,b,L,ne,h4,h5,h6⟩:=rt d.2 c2;have D:it (goS rows) (i+1) (c,v)=goS rows d:=by rw[<-C];rfl
 have gs:goS rows d=(d.2,if(a:Int)=(d.1:Int)then b else a):=by unfold goS;rw[L];simp only[qL196,getD_cons_succ];split<;>simp
 rw[gd]at L;rw[L]at m ln;have d2:decide ((([(a:Int),(b:Int)]:RZ).length:Int)=2)=tT:=by simp
 have M:=m.DH 0 Ma;have a1:=m.DH 1 Ma;have l:=(m.le Nn.RP A).Uc 0 Ma;have E:=(m.le Nn.RP A).Uc 1 Ma;simp only[qL225,getElem_cons_succ]at l E;simp only[oZ]at M a1;have R:∀b o,b≠T->h.own b=Z o->(f.put T (.cells [.int .i64 ((s+1+(i+1):Nat):Int)])).own b=Z o:=fun b o hb W=>by grind[aai.By]
 by_cases ca:(a:Int)=(d.1:Int)
 .have N:decide ((a:Int)=(d.1:Int))=tT:=EL ca;rw[abe ca]at gs;simp only[HO,seval,lB,I,lu,ln,d2,M,l,N,a1,E,Q,aw,st];exact tn (K-(i+1)) [(1,(b:Nat)),(2,pT (Z T)),(3,pT (Z B)),(7,(d.2:Nat))] NH hAs
   ⟨i+1,rfl,e,by rw[D,gs];rfl,aai.Y3 _ _ _,A.put _ nT,R⟩
 .have N:decide ((a:Int)=(d.1:Int))=fF:=Sb ca;rw[abE ca]at gs;simp only[HO,seval,lB,I,lu,ln,d2,M,l,N,Q,aw,st];exact tn (K-(i+1)) [(1,(a:Nat)),(2,pT (Z T)),(3,pT (Z B)),(7,(d.2:Nat))] NH hAs
   ⟨i+1,rfl,e,by rw[D,gs];rfl,aai.Y3 _ _ _,A.put _ nT,R⟩
def aen(rows:AM)(D:List (Nat×Nat)):Nat:=(D.map fun d=>(aal rows d).2+1).sum
structure aoV (rows:AM) (D:List (Nat×Nat)) (hq:aai) (M T B:Nat) (rv:vV) (l:List (Pr×Int)):Prop where
 oM:hq.own M=Z (.map (wy l))
 oT:hq.own T=Z (.cells [(aen rows D:Nat)])
 oB:hq.own B=Z (.cells [rv])
 OT:∀p,(abo l p).getD 0=(((D.map (aaH rows)).count p:Nat):Int)
theorem strS_le{D:List (Nat×Nat)}(h:∀d∈D,(aal rows d).2<=40000):aen rows D<=40001*D.length:=by
 induction D<;>grind[aen]
def strS_snoc(rows:AM)(D:List (Nat×Nat))(d:Nat×Nat):aen rows (D++[d])=aen rows D+((aal rows d).2+1):=by simp[aen]
theorem strD_take{cs:II}(h:i<cs.length):aaj rows (cs.take (i+1))=aaj rows (cs.take i)++(rows.getD cs[i] []).map fun x=>(cs[i],x.toNat):=by grind[aaj,take_succ_eq_append_getElem]
theorem afv(W0:abw)(z cv:vV)(cs:II)(h:aai)(hb:RL (RL RP) h z (Zh n es))(G:RL RP h cv (kz cs))(hr:bX ⟨(n:Int),es⟩)(hc:∀c∈cs,c<n/\((Zh n es).getD c []).length≠2)(hl:(aaj (Zh n es) cs).length<=1000)(bI:cs.length<=1000):
  AC pG W0 27 [z,cv] h fun x h'=>∃(M:Nat)(l:List (Pr×Int)),x=.tuple #[.map (Z M),(aaU (Zh n es) cs:Nat)]/\h'.own M=Z (.map (wy l))/\(∀p,(abo l p).getD 0=(aaI (Zh n es) cs p:Int))/\Le h h':=by
 have hR:=hr.GD;have hA:D3 es:=hr.q9;have Wn:=fun c v=>ahL hR hA hr.n200 (c:=c) (v:=v);have f:=fun(T B:Nat)(s c v:Nat)(g:aai) a1 a2 a3 a4 a5 a6 a7 a8=>other_any W0 T B z s c v h g a1 a2 a3 hb a4 a5 hr a6 a7 a8;have bl:=Xq n es;have bm:=EW hR;have bN:=fun u x=>Ru hR (u:=u) (x:=x);generalize Zh n es=rows at*;refine AC.vF func27 ntmps27 results27 fun aa=>?_;have⟨m,e1,l1,w1,o1⟩:=Tt aa [z]
 have bx:zF h z=Z (pT (Z h.next),m):=by obtain⟨a,c,rfl,_⟩:=hb.sl;rw[<-e1];rfl
 have⟨h2,e2,l2,w2,o2⟩:=Tt w1 [.int .i64 0]
 have al:abO pG m 3=Z (pT (Z m.next),h2):=by rw[<-e2];rfl
 have ae:=stKI o2 0
 have nB:h.own h.next=Y:=(Le.refl h).next aa (qL0 _)
 have H:m.own m.next=Y:=(Le.refl m).next w1 (qL0 _)
 have nT:=l1.none H
 have ag:h.next≠m.next:=fun e=>by grind
 have I:Le m (h2.put m.next (.cells [.int .i64 0])):=l2.put _ H
 have J:WF (h2.put m.next (.cells [.int .i64 0])):=w2.put _ (w2.lt o2)
 have ai:=aai.Y3 h2 m.next (.cells [.int .i64 0])
 generalize h2.put m.next (.cells [.int .i64 0])=t at*
 obtain⟨X,e3,l3,w3,o3⟩:∃X,t.alloc (.map [])=X/\Le t X/\WF X/\X.own t.next=Z (.map []):=⟨_,rfl,(Le.refl t).alloc J _,J.alloc _,aai.zT _ _⟩
 have aj:t.own t.next=Y:=(Le.refl t).next J (qL0 _)
 have nM:h.own t.next=Y:=(l1.trans I).none aj
 have y:m.next≠t.next:=fun e=>by grind
 have C:h.next≠t.next:=fun e=>by grind[Le.own]
 have ln:=fun g=>G.TA g;rw[y6]at ln;simp only[HO,seval,bx,al,ae,e3,ln]
 have S0:aoV rows (aaj rows (cs.take 0)) X t.next m.next h.next z []:=⟨o3,l3.own _ _ ai,l3.own _ _ (I.own _ _ o1),fun p=>rfl⟩
 have aq:=(l1.trans I).trans l3
 generalize h.next=B at*
 generalize m.next=T at*
 generalize t.next=M at*
 clear e3 o3 aj ai ae H al e2 bx e1 o1 o2 l2 w2 l1 w1;refine lIn (fun k fr hq=>∃(i:Nat)(l:List (Pr×Int)),k=cs.length-i/\i<=cs.length/\fr=mkF [(2,pT (Z B)),(6,pT (Z T)),(7,.func (.func 48) #[] #[pT (Z T),pT (Z B)]),(8,.map (Z M)),(16,cv),(17,.int .i64 cs.length),(18,.int .i64 i)]/\aoV rows (aaj rows (cs.take i)) hq M T B z l/\Le h hq) ⟨0,[],rfl,Z6 _,rfl,S0,aq⟩ ?_;clear S0 aq l3 w3;rintro k fr hq aL ⟨i,l,rfl,hi,rfl,S,lq⟩;refine Uy ?_;refine Kl.intro (fun ht=>?_) (fun hf=>?_)
 rotate_left
 .have L:cs.length<=i:=vp hf;rw[HV L]at S;have lT:=ldKI S.oT;refine Uy ?_;refine gh (tA [0,1,2,3] .done) ?_;refine CO lT ?_;exact⟨M,l,rfl,S.oM,S.OT,lq⟩
 have b:i<cs.length:=acb ht;clear ht;have⟨bQ,N⟩:=hc cs[i] (aaf b);have O:cs[i]<rows.length:=hGr;have av:∀i,i<=cs.length->(aaj rows (cs.take i)).length<=(aaj rows cs).length:=fun i _=>by grind[aaj.eq_1,List.take_append_drop]
 have P:=strD_take (rows:=rows) b;have Q:=av (i+1) b;have aN:∀d∈aaj rows (cs.take i),(aal rows d).2<=40000:=fun d hd=>by simp only[aaj,uu,aev]at hd;obtain⟨c,aP,x,R,rfl⟩:=hd;obtain⟨w,rfl,_⟩:=bN c x R;obtain⟨K,k1,-,-,k2⟩:=Wn c w ((bm c w).1 R) (hc c (aj8 aP)).2;grind[Int.toNat_natCast]
 have adc:=G.DH i (by rw[y6];exact b);have U:=(G.le Nn.RP lq).Uc i (by rw[y6];exact b);rw[sY b]at U;generalize cs[i]=c at*;have ar:=hb.NS c O;have⟨u,ay,hu⟩:=hb.Wm c O;have lu:=ay hq lq;have gd:rows.getD c []=rows[c]:=D4 O;have aT:=fun g=>hu.TA g;have V:∀x∈rows.getD c [],∃w:Nat,x=(w:Int)/\Jp es c w:=fun x R=>by obtain⟨w,rfl,_⟩:=bN c x R;exact⟨w,rfl,(bm c w).1 R⟩
 rw[P]at Q;rw[gd]at P V Q;have f:=fun s v g a1 a2 a4 a6 a8=>f T B s c v g a1 a2 ag a4 nT a6 N a8;have Wn:=fun v a=>Wn c v a N;clear N ay;generalize rows[c]=r at*;have lB:=ldKR S.oB;have aV:=aaa i NH;simp only[HO,seval,adc,U,lB,ar,lu,aT];simp only[Eh,wI]at Q;have bT:r.length<=1000:=NH;refine lIn (fun k fr hz=>∃(j:Nat)(l:List (Pr×Int)),k=r.length-j/\j<=r.length/\fr=mkF [(2,pT (Z B)),(6,pT (Z T)),(7,.func (.func 48) #[] #[pT (Z T),pT (Z B)]),(8,.map (Z M)),(10,(c:Nat)),(16,cv),(17,.int .i64 cs.length),(18,.int .i64 i),(25,u),(26,r.length),(27,j)]/\aoV rows (aaj rows (cs.take i)++(r.take j).map fun x=>(c,x.toNat)) hz M T B z l/\Le h hz) ⟨0,l,rfl,Z6 _,rfl,by simpa using S,lq⟩ ?_;clear S lq lu lB U;clear aL hq l;rintro k fr hz bW ⟨j,l,rfl,hj,rfl,S,lz⟩;refine Uy ?_;refine Kl.intro (fun ht=>?_) (fun hf=>?_)
 rotate_left
 .have L:r.length<=j:=vp hf;rw[HV L,<-P]at S;refine Sk aV ?_;exact lgA (JS b) ⟨i+1,l,rfl,b,rfl,S,lz⟩
 have o:j<r.length:=acb ht;clear ht;have⟨v,az,aA⟩:=V r[j] (aaf o);have aW:=hu.DH j o;have aB:=(hu.le Nn.RP lz).Uc j o;have aC:(r.take (j+1)).map (fun x=>(c,x.toNat))=(r.take j).map (fun x=>(c,x.toNat))++[(c,v)]:=by rw[XJ o,akG,az];simp
 rw[az]at aB;have bY:(aaj rows (cs.take i)++(r.take j).map fun x=>(c,x.toNat)).length<=1000:=by simp only[Eh,wI,WL];omega
 have aX:∀d∈aaj rows (cs.take i)++(r.take j).map (fun x=>(c,x.toNat)),(aal rows d).2<=40000:=fun d hd=>by
  rcases aax.1 hd with q|q
  .exact aN d q
  .obtain⟨x,R,rfl⟩:=aev.1 q;obtain⟨w,rfl,ha⟩:=V x (aj8 R);obtain⟨K,k1,-,-,k2⟩:=Wn w ha;rw[yM,k2];exact k1
 have bZ:=strS_le aX;have aD:=strS_snoc rows (aaj rows (cs.take i)++(r.take j).map fun x=>(c,x.toNat)) (c,v);rw[Cg,<-aC]at aD;have aE:=fun p=>List.count_le_length (a:=p) (l:=(aaj rows (cs.take i)++(r.take j).map fun x=>(c,x.toNat)).map (aaH rows));have ba:(aaj rows (cs.take i)++(r.take (j+1)).map fun x=>(c,x.toNat)).map (aaH rows)=(aaj rows (cs.take i)++(r.take j).map fun x=>(c,x.toNat)).map (aaH rows)++[aaH rows (c,v)]:=by rw[aC,<-Cg,akG];rfl
 generalize aaj rows (cs.take i)++(r.take j).map (fun x=>(c,x.toNat))=D at*;generalize bb:aaj rows (cs.take i)++(r.take (j+1)).map (fun x=>(c,x.toNat))=D1 at*;refine Sk (XC aW aB) ?_;refine kCi func48 (f (aen rows D) v hz S.oT S.oB lz aA NH) ?_;rintro x E w9 ⟨rfl,bg,l9,kp⟩;have A:=kp M _ y.symm S.oM;have bh:=kp B _ ag S.oB;have hE:aaH rows (c,v)=(min (c:Int) ((aal rows (c,v)).1:Int),max (c:Int) ((aal rows (c,v)).1:Int)):=rfl;generalize aal rows (c,v)=od at*;generalize aaH rows (c,v)=p at*;have⟨jj,F,aF,bj,bk⟩:=afu A p;have aH:=SA A p;have aJ:=aai.Y3 E M (.map (wy F));have W:=SA aJ p;rw[bj]at W;have cp:=S.OT p;have aK:=aE p;rw[wI]at aK;rw[cp]at aH W aF;have bo:=aaa ((D.map (aaH rows)).count p) NH;have br:=bk (((D.map (aaH rows)).count p+1:Nat):Int);have mn:=Dv (c:Int) (od.1:Int);have mx:=z6 (c:Int) (od.1:Int);have bz:acB pG 37 [(0,.int .i64 (min (c:Int) (od.1:Int))),(1,.int .i64 (max (c:Int) (od.1:Int)))]=Z (UI p):=by rw[hE];exact xe _ _
 have bA:=aaa j NH;have bB:=aai.Y3 (E.put M (.map (wy F))) M (.map (wy (acs l p (((D.map (aaH rows)).count p+1:Nat):Int))));have lb:Le h ((E.put M (.map (wy F))).put M (.map (wy (acs l p (((D.map (aaH rows)).count p+1:Nat):Int))))):=(l9.put _ nM).put _ nM;have bF:((E.put M (.map (wy F))).put M (.map (wy (acs l p (((D.map (aaH rows)).count p+1:Nat):Int))))).own T=Z (.cells [.int .i64 ((aen rows D+(od.2+1):Nat):Int)]):=(by rw[aai.By _ _ _ _ y,aai.By _ _ _ _ y];exact bg);have bH:((E.put M (.map (wy F))).put M (.map (wy (acs l p (((D.map (aaH rows)).count p+1:Nat):Int))))).own B=Z (.cells [z]):=(by rw[aai.By _ _ _ _ C,aai.By _ _ _ _ C];exact bh);have wb:WF ((E.put M (.map (wy F))).put M (.map (wy (acs l p (((D.map (aaH rows)).count p+1:Nat):Int))))):=(w9.put _ (w9.lt A)).put _ ((w9.put _ (w9.lt A)).lt aJ);have S1:aoV rows D1 ((E.put M (.map (wy F))).put M (.map (wy (acs l p (((D.map (aaH rows)).count p+1:Nat):Int))))) M T B z (acs l p (((D.map (aaH rows)).count p+1:Nat):Int)):=by
  refine⟨bB,by rw[aD];exact bF,bH,fun q=>?_⟩;rw[anr,ba,List.count_append,List.count_singleton];by_cases e:p=q
  .subst e;rw[abe rfl];simp
  .rw[abE e,S.OT q,abE (by simpa using e)];rfl
 refine Uy ?_;refine gh (fRn 0 8 (.ch 8 [0,7] (tA [9] (JQ 10 [0,1,2,3,4,5,6,7] (tA [11] (JQ 12 [0,1,2,3,4,5,6,7,8,9,10,11] .done)))) (JQ 10 [0,1,2,3,4,5,6,7] (tA [11] (JQ 8 [0,7] (tA [9] (JQ 12 [0,1,2,3,4,5,6,7,8,9,10,11] .done))))))) ?_;simp only[HO,seval,Qg,mn,mx,bz,acS,aH,W,bo,aF,br,bA];generalize (E.put M (.map (wy F))).put M (.map (wy (acs l p (((D.map (aaH rows)).count p+1:Nat):Int))))=g at*;refine⟨?_,?_⟩
 all_goals exact lgA (JS o) ⟨j+1,_,rfl,o,rfl,by rw[bb];exact S1,lb⟩
end
end Go.Fw
