/- A text. -/
import Derived.Test.YtkccdnmaaelbiaaGreatFwLJ23
set_option linter.all false
set_option maxRecDepth 99999
set_option maxHeartbeats 9999999
namespace Go.Fw
section
attribute [local irreducible] Kp MQ lU rS KO KN KX KE VK Kl ZJ TC gU
attribute [local irreducible] Jz JL vq cQ
open Go.Proofs
variable {D N0 S a c i n t:Nat} {es:List Pr} {h:AHeap} {α:Type}
def w8_succ (h:t<5):awrap .u8 ((t:Int)+1)=((t+1:Nat):Int):=by
 have:t=0\/t=1\/t=2\/t=3\/t=4:=NH;rcases this with rfl|rfl|rfl|rfl|rfl<;>decide
def tw_c (h:D<=5*i+t) (h2:i<=S) (h3:S<=10) (a:t<=c) (b:c<5):D+1<=100000:=NH
def tw_d (h:n<=N0+4*i+t) (h2:i<=S) (h3:S<=10) (a:N0<=6) (b:t<=c) (d:c<5):n+1<=200:=NH
def tw_e {D i S t c r:Nat} (h:D<=5*i+t) (h2:i<=S) (h3:S<=10) (a:t<=c) (b:c<5) (d:r<=10):D+(r+1)+1<=594:=NH
def tw_f (h:n<=N0+4*i+t) (h2:i<=S) (h3:S<=10) (a:N0<=6) (b:t<=c) (d:c<5):n<4611686018427387904:=NH
def tw_g (h:D+1<=5*(i+1)) (h2:i<=S) (h3:S<=10):D+1<=100000:=NH
def tw_h (h:n<=N0+4*i+t):n+1<=N0+4*i+(t+1):=NH
def tw_i {D:List α} {x:α} (h:D.length<=5*i+t):(D++[x]).length<=5*i+(t+1):=by rw[Eh];simp only[BR,C2];omega
def tw_j (h:n<=N0+4*S) (h3:S<=10) (a:N0<=6):n<=46:=NH
def tw_k (h:D<=5*S) (h3:S<=10):D<=100000:=NH
def aaX (h:a<=594):a+1<=1000000000:=NH
def abA (h:a<=594):a<=100000:=NH
def aaI {x:Pr} (h:es.length<=594):(es++[x]).length<=100000:=by rw[Eh];simp only[BR,C2];omega
def new42b (hw:WF h) (p:Pr):∃a h2,aAlloc Tryz.prog h 38=some (.pointer (some ⟨h.next,0,none⟩),a)/\aStore Tryz.prog a 38 (.pointer (some ⟨h.next,0,none⟩)) (UI p)=some h2/\Le h h2/\WF h2/\h2.own h.next=some (.cells (xM p))/\Le h a:=by
 obtain⟨a,c,l1,w1,b⟩:=Tt hw [.int .i64 0,.int .i64 0]
 exact⟨a,_,by rw[rM,c],gD b,l1.put _ ((Le.refl h).next hw (vT _)),w1.put _ (w1.lt b),AHeap.Y3 _ _ _,l1⟩
def aay (b:WF h) (p:Pr):∃a,aBuildSlice Tryz.prog h 22 1 [(0,UI p)]=some (.slice (some ⟨h.next,0,none⟩) 1 1,a)/\Le h a/\WF a/\PR a (.slice (some ⟨h.next,0,none⟩) 1 1) [p]:=by
 obtain⟨a,c,l1,w1,d⟩:=Tt b (xM p);refine⟨a,by rw[mkP1,c],l1,w1,?_⟩;have:=CS.own (k:=2) (off:=0) (n:=1) (cap:=1) d (by simp[xM]);exact this
def aas (d:LA) (n:Int) (v:Value) (ps:List Pr) (h:AHeap) (f:PR h v ps) (c:ps.length<=100000):
  AC Tryz.prog d 29 [.int .i64 n,v] h fun x h'=>Le h h'/\∃(m k:Int) (ev:Value) (L:List Pr),x=.tuple #[.agg #[.int .i64 m,ev],.int .i64 k]/\GP h' ev L/\Z2 h ev/\(k=0->m=n/\YG n ps/\L=sg ps):=
 (gZ d n v ps h f c).mono fun x h' ⟨l,q⟩=>⟨l,by
  rcases q with⟨-,k,i,rfl⟩|⟨ok,ev,rfl,g,a⟩
  .exact⟨0,k,_,[],rfl,GP.nil _,fun b hb=>by simp[blk]at hb,fun e=>absurd e i⟩
  .exact⟨n,0,ev,_,rfl,g,a,fun _=>⟨rfl,ok,rfl⟩⟩⟩
theorem aaY (W0:LA) (uv mv:Value) (which:Bool) (us:List Int) (ms:List Pr) (h:AHeap) (hu:RL isB h uv us) (hm:UR h mv ms):
  AC Tryz.prog W0 6 [.bool which,uv,mv] h fun x h'=>x=.bool true:=by
 refine AC.vE ⟨Tryz.func6,rfl,WY⟩ Tryz.ntmps6 Tryz.results6 fun hwf=>?_;simp only[Br,Nat.reduceAdd];simp only[HO,Nat.reduceLT,↓reduceIte,Nat.reduceEqDiff,reduceCtorEq];refine TC.intro PJ ⟨Tryz.func30,rfl,WY⟩ (XE W0 h) ?_;rintro x h1 w1 ⟨⟨ev5,rfl,p5,c5⟩,l1⟩;obtain⟨h2,h3,e2,e3,l3,w3,o3,-⟩:=abc w1 (n:=5) p5
 have nX:h.own h1.next=none:=l1.next w1 (vT _)
 generalize h1.next=X at*
 simp only[HO,Nat.reduceLT,↓reduceIte,Nat.reduceEqDiff,reduceCtorEq,e2,e3];apply Ya (F:=fun(fr:aaa) (hq:AHeap)=>∃(N0:Nat) (S0:List Pr) (ev:Value),Fj fr [(1,uv),(2,mv),(7,.pointer (some ⟨X,0,none⟩))]∧Le h hq∧WF hq∧hq.own X=some (.cells [.int .i64 (N0:Int),ev])∧PR hq ev S0∧Twi N0 S0∧N0≤6∧S0.length≤10)
 ·intro cont
  cases which with
  |false=>
   simp only[qj,Nat.reduceLT,↓reduceIte,Nat.reduceEqDiff,reduceCtorEq,Nat.reduceBEq,Qg];refine KN.UJ fun fr' h' x y=>cont fr' h' ?_;rw[x,y];exact⟨5,k5L,ev5,fD,l1.trans l3,w3,o3,p5.le l3,k5_twi,NH,WY⟩
  |true=>
   simp only[HO,Nat.reduceLT,↓reduceIte,Nat.reduceEqDiff,reduceCtorEq];refine TC.intro PJ ⟨Tryz.func31,rfl,WY⟩ (AC.frame o3 (aa9 W0 (h3.kill X))) ?_;rintro x h4 w4 ⟨g,⟨⟨ev6,rfl,p6,c6⟩,l4⟩,n6,rfl⟩;obtain⟨_,_,e6,-⟩:=p6.sl;have st:=DG (n:=6) (AHeap.Y3 g X (.cells [.int .i64 5,ev5])) p6.sl.one (by rw[e6];rfl);have l6:Le g ((g.put X (.cells [.int .i64 5,ev5])).put X (.cells [.int .i64 6,ev6])):=(Le.Y5 n6 _).put _ n6;simp only[qj,Nat.reduceLT,↓reduceIte,Nat.reduceEqDiff,reduceCtorEq,Nat.reduceBEq,Qg,st];refine KN.UJ fun fr' h' x y=>cont fr' h' ?_;rw[x,y];exact⟨6,E9,ev6,fD,(((l1.trans l3).Oo nX).trans l4).trans l6,w4.put _ (w4.lt (AHeap.Y3 _ _ _)),AHeap.Y3 _ _ _,p6.le l6,k33_twi,NH,WY⟩
 rintro fr hq ⟨N0,S0,ev,hfr,lq,wq,oX,pS,T0,hN,hS⟩;simp only[Fj]at hfr;obtain⟨f1,f2,f7,-⟩:=hfr;have g0:aload Tryz.prog hq 3 ⟨X,0,none⟩=some (.int .i64 (N0:Int)):=Fq Ac rfl oX;have g1:aload Tryz.prog hq 22 ⟨X,1,none⟩=some ev:=Fq Uh rfl oX;have lS:=fun g=>pS.len g;simp only[HO,Nat.reduceLT,↓reduceIte,Nat.reduceEqDiff,reduceCtorEq,f7,Ii,Di,Ip,BS,g0,g1,lS];refine gU.intro (fun k fr hy=>∃(i n:Nat) (D:List Pr) (lv:Value),k=S0.length-i∧i≤S0.length∧fr=mkF [(1,uv),(2,mv),(8,.int .i64 (n:Nat)),(9,lv),(27,ev),(28,.int .i64 (S0.length:Nat)),(29,.int .i64 (i:Nat))]∧Le hq hy∧Z2 hq lv∧GP hy lv D∧Twi n (D++S0.drop i)∧n≤N0+4*i∧D.length≤5*i)
  S0.length [(1,uv),(2,mv),(8,.int .i64 (N0:Nat)),(9,.slice none 0 0),(27,ev),(28,.int .i64 (S0.length:Nat)),(29,.int .i64 (0:Nat))] (by simp only[Fj,HO,Nat.reduceLT,↓reduceIte,Nat.reduceEqDiff,reduceCtorEq,f1,f2];simp)
  ⟨0,N0,[],_,rfl,qy _,rfl,Le.refl _,fun b hb=>by simp[blk]at hb,GP.nil _,by simpa using T0,NH,Ma⟩ ?_
 clear f1 f2 f7;rintro k fr hy wy ⟨i,n,D,lv,rfl,hi,rfl,ly,al,gl,T,hn,hD⟩;simp only[HO,Nat.reduceLT,↓reduceIte,Nat.reduceEqDiff,reduceCtorEq];refine Kl.intro (fun ht=>?_) (fun hf=>?_)
 ·have hit : i < S0.length := CC ht
  clear ht;have hpi:=CA hit;have hdr:S0.drop i=S0[i]::S0.drop (i+1):=mJ hit;have ad:=pS.addr (k:=.i64) i hit;have ld:=(pS.le ly).load hpi;have hp0:=T.ok.ok S0[i] (OM _ (by rw[hdr];exact iy));rw[hdr]at T;obtain⟨a,b,hab⟩:∃a b:Nat,S0[i]=((a:Int),(b:Int)):=by
   refine⟨S0[i].1.toNat,S0[i].2.toNat,yI ?_ ?_⟩<;>simp only[aac]at hp0 ⊢<;>omega
  rw[hab]at ld T;obtain⟨h5,h6,q5,q6,l6,w6,o6⟩:=Ut wy ((a:Int),(b:Int))
  have nE:hy.own hy.next=none:=(Le.refl hy).next wy (vT _)
  have Lp0:=lK o6
  have nlE:∀{v:Value},GP hy v D→blk v≠some hy.next:=fun g e=>GS.Sy g e nE
  have nlE:=nlE gl;have ly6:=ly.trans l6;have gl6:=gl.le l6
  have nEq:hq.own hy.next=none:=ly.next wy (vT _)
  generalize hy.next=E at*
  have lu:=fun g=>hu.len (P:=Tryz.prog) qS26 g;have awi:=Tw i NH;simp only[HO,Nat.reduceLT,↓reduceIte,Nat.reduceEqDiff,reduceCtorEq,ad,ld,q5,q6,Dh,Ip,BS,Lp0,lu];apply Ya (F:=fun(fr:aaa) (hz:AHeap)=>∃(n la:Nat) (D:List Pr) (lv:Value),Fj fr [(1,uv),(2,mv),(8,.int .i64 (n:Nat)),(9,lv),(11,.pointer (some ⟨E,0,none⟩)),(12,.int .i64 (la:Nat)),(27,ev),(28,.int .i64 (S0.length:Nat)),(29,.int .i64 (i:Nat))]∧Le hq hz∧WF hz∧Z2 hq lv∧GP hz lv D∧hz.own E=some (.cells (xM ((a:Int),(b:Int))))∧Twi n (D++((la:Int),(b:Int))::S0.drop (i+1))∧n≤N0+4*(i+1)∧D.length+1≤5*(i+1))
  ·intro cont
   refine Kl.intro (fun ht=>?_) (fun hf=>?_)
   ·have hiu : i < us.length := CC ht
    clear ht;have adb:=hu.addr (P:=Tryz.prog) qS26 qS5 Ji (k:=.i64) i hiu;obtain⟨x,ldb,hx⟩:=(hu.le Nn.isB ((lq.trans ly6))).load qS5 rfl i hiu;obtain⟨rfl,x0,x1⟩:=hx;generalize us[i]=x at*;obtain⟨y,rfl⟩:=HV x0;have nz:¬((5:Int)=0):=by decide
    have tm:((y:Int)).tmod 5=((y%5:Nat):Int):=by rw[Int.tmod_eq_emod_of_nonneg NH];omega
    obtain⟨c,hc⟩:∃c,c=y%5:=⟨_,rfl⟩;have hc5:c<5:=NH;rw[←hc]at tm;simp only[HO,Nat.reduceLT,↓reduceIte,Nat.reduceEqDiff,reduceCtorEq,adb,ldb,nz,tm];refine gU.intro (fun k fr hz=>∃(t n la:Nat) (D:List Pr) (lv:Value),k=c-t∧t≤c∧fr=mkF [(1,uv),(2,mv),(8,.int .i64 (n:Nat)),(9,lv),(11,.pointer (some ⟨E,0,none⟩)),(12,.int .i64 (la:Nat)),(27,ev),(28,.int .i64 (S0.length:Nat)),(29,.int .i64 (i:Nat)),(44,.int .u8 (c:Nat)),(45,.int .u8 (t:Nat))]∧Le hq hz∧Z2 hq lv∧blk lv≠some E∧GP hz lv D∧hz.own E=some (.cells (xM ((a:Int),(b:Int))))∧
      Twi n (D++((la:Int),(b:Int))::S0.drop (i+1))∧n≤N0+4*i+t∧D.length≤5*i+t)
     c [(1,uv),(2,mv),(8,.int .i64 (n:Nat)),(9,lv),(11,.pointer (some ⟨E,0,none⟩)),(12,.int .i64 (a:Nat)),(27,ev),(28,.int .i64 (S0.length:Nat)),(29,.int .i64 (i:Nat)),(44,.int .u8 (c:Nat)),(45,.int .u8 (0:Nat))] fD
     ⟨0,n,a,D,lv,rfl,qy _,rfl,ly6,al,nlE,gl6,o6,T,NH,NH⟩ ?_
    rintro k fr hz wz ⟨t,n,la,D,lv,rfl,hct,rfl,lz,alz,nlz,glz,oz,T,hn,hD⟩;simp only[HO,Nat.reduceLT,↓reduceIte,Nat.reduceEqDiff,reduceCtorEq];refine Kl.intro (fun ht=>?_) (fun hf=>?_)
    ·have htc : t < c := CC ht
     clear ht;have hTl:=T.ok.len;have hdl:(S0.drop (i+1)).length≤10:=by rw[Fk];omega
     obtain⟨v',z4,z5,e4,e5,g5,wz5,-,fz,kz⟩:=glz.push wz ((la:Int),(n:Int)) (tw_c hD hi hS hct hc5);obtain⟨lz5,a5⟩:=fz hq lz alz;obtain⟨oz5,nz5⟩:=kz _ _ oz nlz;have T':=T.upon (tw_d hn hi hS hN hct hc5) (by rw[Eh,BR];exact tw_e hD hi hS hct hc5 hdl);have wn:=Tw n (tw_f hn hi hS hN hct hc5);have wt:=w8_succ (zx htc (Nat.le_of_lt hc5));simp only[HO,Nat.reduceLT,↓reduceIte,Nat.reduceEqDiff,reduceCtorEq,xe,e4,e5,wn,wt];exact tn (c-(t+1)) [(1,uv),(2,mv),(8,.int .i64 (n+1:Nat)),(9,v'),(11,.pointer (some ⟨E,0,none⟩)),(12,.int .i64 (n:Nat)),(27,ev),(28,.int .i64 (S0.length:Nat)),(29,.int .i64 (i:Nat)),(44,.int .u8 (c:Nat)),(45,.int .u8 (t+1:Nat))] (JS htc) fD
      ⟨t+1,n+1,n,_,v',rfl,htc,rfl,lz5,a5,nz5,g5,oz5,T',tw_h hn,tw_i hD⟩
    ·simp only [qj, Nat.reduceLT, ↓reduceIte, Nat.reduceEqDiff, reduceCtorEq, Nat.reduceBEq, Qg]
     refine KN.UJ fun fr' h' x y=>cont fr' h' ?_;rw[x,y];exact⟨n,la,D,lv,fD,lz,wz,alz,glz,oz,T,NH,NH⟩
   ·simp only [qj, Nat.reduceLT, ↓reduceIte, Nat.reduceEqDiff, reduceCtorEq, Nat.reduceBEq, Qg]
    refine KN.UJ fun fr' h' x y=>cont fr' h' ?_;rw[x,y];exact⟨n,a,D,lv,fD,ly6,w6,al,gl6,o6,T,NH,NH⟩
  clear gl6 o6 T gl al hn hD;rintro fr hz ⟨n,la,D,lv,hfr,lz,wz,alz,glz,oz,T,hn,hD⟩;simp only[Fj]at hfr;obtain⟨f1,f2,f8,f9,f11,f12,f27,f28,f29,-⟩:=hfr;have L1:=HY oz;obtain⟨v',z4,z5,e4,e5,g5,wz5,-,fz,kz⟩:=glz.push wz ((la:Int),(b:Int)) (tw_g hD hi hS);obtain⟨lz5,a5⟩:=fz hq lz alz;simp only[HO,Nat.reduceLT,↓reduceIte,Nat.reduceEqDiff,reduceCtorEq,f8,f9,f11,f12,f29,Z0,Ip,BS,L1,xe,e4,e5,awi];exact tn (S0.length-(i+1)) [(1,uv),(2,mv),(8,.int .i64 (n:Nat)),(9,v'),(27,ev),(28,.int .i64 (S0.length:Nat)),(29,.int .i64 (i+1:Nat))] (JS hit) (by simp only[Fj,HO,Nat.reduceLT,↓reduceIte,Nat.reduceEqDiff,reduceCtorEq,f1,f2,f8,f27,f28];simp)
   ⟨i+1,n,_,v',rfl,hit,rfl,lz5,a5,g5,by rw[KG];exact T,hn,by rw[Eh];simp only[BR,C2];omega⟩
 have hge:S0.length≤i:=vp hf;obtain rfl:i=S0.length:=Nat.le_antisymm hi hge;rw[List.drop_length,Gq]at T;have n46:=tw_j hn hS hN;clear hge hf hi hn oX g0 g1 lS;simp only[HO,Nat.reduceLT,↓reduceIte,Nat.reduceEqDiff,reduceCtorEq];refine TC.intro PJ ⟨pE,rfl,WY⟩ (gZ W0 (n:Int) lv D hy gl.pr (tw_k hD hS)) ?_;rintro x hb wb ⟨lb,⟨hno,-⟩|⟨-,ev1,rfl,ge1,-⟩⟩
 ·exact absurd T.ok hno
 obtain⟨h2',h3',e2',e3',l3',w3',oZ,-⟩:=abc wb (n:=(n:Int)) ge1.pr
 have nZ:hb.own hb.next=none:=(Le.refl hb).next wb (vT _)
 have ge3:=ge1.le l3';have r1:=T.ok.right;have T1:Twi n (sg D):=T.more r1.abb fun x y h=>(aal _ _ _).2 h;have lhb:=(lq.trans ly).trans lb;clear T gl ge1 hD al ly pS T0
 generalize hb.next=Z at*
 simp only[HO,Nat.reduceLT,↓reduceIte,Nat.reduceEqDiff,reduceCtorEq,e2',e3'];refine gU.intro (fun k fr hc=>∃(i:Nat) (ev:Value) (es:List Pr),k=ms.length-i∧i≤ms.length∧fr=mkF [(2,mv),(8,.int .i64 (n:Nat)),(13,.pointer (some ⟨Z,0,none⟩)),(14,.int .i64 (0:Int)),(15,.int .i64 (i:Nat))]∧
   Le hb hc∧hc.own Z=some (.cells [.int .i64 (n:Int),ev])∧GP hc ev es∧Twi n es∧bX ⟨(n:Int),es⟩)
  ms.length [(2,mv),(8,.int .i64 (n:Nat)),(13,.pointer (some ⟨Z,0,none⟩)),(14,.int .i64 (0:Int)),(15,.int .i64 (0:Nat))] fD
  ⟨0,ev1,sg D,rfl,qy _,rfl,l3',oZ,ge3,T1,r1⟩ ?_
 clear w3' l3' ge3 oZ e3' e2' T1 r1;clear h3' h2';rintro k fr hc wc ⟨i,ev2,es,rfl,hi,rfl,lc,oZ,ge,T,hr⟩;have lm:=fun g=>hm.len g;have d00:decide ((0:Int)=0)=true:=by decide
 have hend:∀{h':AHeap},h'=hc→True:=fun _=>trivial;by_cases c1:i<ms.length∧i<10
 ·obtain ⟨c1, c2⟩ := c1
  have d1:decide ((i:Int)<(ms.length:Int))=true:=decide_eq_true NH;have d2:decide ((i:Int)<10)=true:=decide_eq_true NH;have hmc:=hm.le (lhb.trans lc);have adm:=hmc.addr (k:=.i64) i c1;have hgp:=CA c1;have ldm:=hmc.ld hgp;obtain⟨o1,o2,o3',o4⟩:=hmc.ok _ (VU c1);generalize ms[i]=p at*;have cv:∀(x:Int) (g:AHeap),0≤x→x<256→aConvert Tryz.prog g 5 3 (.int .u8 x)=some (.int .i64 x,g):=fun x g h1 h2=>by simp only[aConvert,qS5,Ac,ie x NH NH]
  have cv1:=fun g=>cv p.1 g o1 o2;have cv2:=fun g=>cv p.2 g o3' o4;have n3:=T.two.n3;have nz:¬((n:Int)=0):=NH;obtain⟨x,hx⟩:∃x:Pr,x=(p.1.tmod (n:Int),p.2.tmod (n:Int)):=⟨_,rfl⟩;have bld:aBuild Tryz.prog 38 [(0,.int .i64 (p.1.tmod (n:Int))),(1,.int .i64 (p.2.tmod (n:Int)))]=some (UI x):=by rw[hx];exact xe _ _
  obtain⟨h5,h6,q5,q6,l6,w6,o6,l5⟩:=new42b wc x;have hm5:=(hmc.le l5).ld hgp;have hm6:=(hmc.le l6).ld hgp
  have nE:hc.own hc.next=none:=(Le.refl hc).next wc (vT _)
  have lE:∀g,Le h6 g→aload Tryz.prog g 38 ⟨hc.next,0,none⟩=some (UI x):=fun g l=>uM (l.own _ _ o6)
  generalize hc.next=E at*
  have awi:=Tw i NH;simp only[HO,Nat.reduceLT,↓reduceIte,Nat.reduceEqDiff,reduceCtorEq,lm,d1,d2,d00];refine gh (tA [0,1,2,3,4,5,6,7,8,9,10,11,12,13,14,15,16] (JQ 17 [] (JQ 18 [0,1,2,3,4,5,6,7,8,9,10,11,12,13,14,15,16,17] .done))) ?_;simp only[HO,Nat.reduceLT,↓reduceIte,Nat.reduceEqDiff,reduceCtorEq,Nat.reduceBEq,Qg,adm,ua0,ua1,ldm.1,ldm.2,hm5.1,hm5.2,hm6.1,hm6.2,cv1,cv2,nz,bld,q5,q6];have lcz:=lc.trans l6;have gez:=ge.le l6;have oZz:=l6.own _ _ oZ;have pe:∀g,Le h6 g→PR g ev2 es:=fun g l=>(gez.le l).pr;have L1:∀g,Le h6 g→aload Tryz.prog g 22 ⟨Z,1,none⟩=some ev2∧aload Tryz.prog g 38 ⟨E,0,none⟩=some (UI x):=fun g l=>⟨Fq Uh rfl (l.own _ _ oZz),lE g l⟩;have lz:Le h6 h6:=Le.refl _;obtain⟨hz,hzz⟩:∃hz,hz=h6:=⟨_,rfl⟩;obtain⟨gz,gzz⟩:∃gz,gz=h6:=⟨_,rfl⟩;have wz:WF gz:=gzz▸w6;apply Ya (F:=fun(fr:aaa) (h':AHeap)=>∃(Y:Nat) (m k:Int) (ev3:Value) (L:List Pr),Fj fr [(2,mv),(8,.int .i64 (n:Nat)),(13,.pointer (some ⟨Z,0,none⟩)),(14,.int .i64 (0:Int)),(15,.int .i64 (i:Nat)),(17,.pointer (some ⟨Y,0,none⟩)),(18,.int .i64 k)]∧
   Le hz h'∧WF h'∧GP h' ev3 L∧Z2 hz ev3∧(∀g,Le h' g→aload Tryz.prog g 24 ⟨Y,0,none⟩=some (.agg #[.int .i64 m,ev3]))∧(k=0→m=(n:Int)∧YG (n:Int) (es++[x])∧L=sg (es++[x])))
  ·intro cont
   rw[←hzz]at pe L1;have lz:Le hz gz:=by rw[hzz,gzz];exact Le.refl _
   rw[←gzz];refine gh (tA [0,1,2,4] (.ch 3 [2] (.ch 5 [4] (.ch 6 [3,5] (.ch 7 [0,6] (tA [8,9,10] (JQ 11 [] (JQ 12 [0,1,2,3,4,5,6,7,8,9,11] (tA [13] .done)))) (JQ 11 [] (JQ 7 [0,6] (tA [8,9,10] (JQ 12 [0,1,2,3,4,5,6,7,8,9,11] (tA [13] .done)))))) (JQ 11 [] (JQ 6 [3,5] (JQ 7 [0,6] (tA [8,9,10] (JQ 12 [0,1,2,3,4,5,6,7,8,9,11] (tA [13] .done))))))) (JQ 11 [] (JQ 5 [4] (JQ 6 [3,5] (JQ 7 [0,6] (tA [8,9,10] (JQ 12 [0,1,2,3,4,5,6,7,8,9,11] (tA [13] .done)))))))) (.ch 5 [4] (.ch 3 [2] (.ch 6 [3,5] (.ch 7 [0,6] (tA [8,9,10] (JQ 11 [] (JQ 12 [0,1,2,3,4,5,6,7,8,9,11] (tA [13] .done)))) (JQ 11 [] (JQ 7 [0,6] (tA [8,9,10] (JQ 12 [0,1,2,3,4,5,6,7,8,9,11] (tA [13] .done)))))) (JQ 11 [] (JQ 6 [3,5] (JQ 7 [0,6] (tA [8,9,10] (JQ 12 [0,1,2,3,4,5,6,7,8,9,11] (tA [13] .done))))))) (JQ 11 [] (JQ 3 [2] (JQ 6 [3,5] (JQ 7 [0,6] (tA [8,9,10] (JQ 12 [0,1,2,3,4,5,6,7,8,9,11] (tA [13] .done)))))))) (JQ 11 [] (.ch 3 [2] (JQ 5 [4] (JQ 6 [3,5] (JQ 7 [0,6] (tA [8,9,10] (JQ 12 [0,1,2,3,4,5,6,7,8,9,11] (tA [13] .done)))))) (JQ 5 [4] (JQ 3 [2] (JQ 6 [3,5] (JQ 7 [0,6] (tA [8,9,10] (JQ 12 [0,1,2,3,4,5,6,7,8,9,11] (tA [13] .done)))))))))))) ?_;have Sz:=L1 gz lz;obtain⟨gzB,eBzB,lBzB,wzB,pxzB⟩:=aay wz x;have lzB:=lz.trans lBzB;have SzB:=L1 gzB lzB;obtain⟨gzBA,eAzBA,lAzBA,wzBA,oYzBA⟩:=aaq wzB;have lzBA:=lzB.trans lAzBA
   have nYzBA:hz.own gzB.next=none:=lzB.next wzB (vT _)
   have pxzBA:=pxzB.le lAzBA;have SzBA:=L1 gzBA lzBA;obtain⟨gzA,eAzA,lAzA,wzA,oYzA⟩:=aaq wz;have lzA:=lz.trans lAzA
   have nYzA:hz.own gz.next=none:=lz.next wz (vT _)
   have SzA:=L1 gzA lzA;obtain⟨gzAB,eBzAB,lBzAB,wzAB,pxzAB⟩:=aay wzA x;have lzAB:=lzA.trans lBzAB;have oYzAB:=lBzAB.own _ _ oYzA;have SzAB:=L1 gzAB lzAB;simp only[qj,Nat.reduceLT,↓reduceIte,Nat.reduceEqDiff,reduceCtorEq,Nat.reduceBEq,Qg,Di,Ip,BS,Sz,eBzB,SzB,eAzBA,SzBA,eAzA,SzA,eBzAB,SzAB];refine⟨?_,⟨⟨?_,?_⟩,⟨?_,?_⟩⟩⟩
   ·refine VA.intro PJ ⟨SV, rfl, WY⟩ (aaf W0 ev2 es gz (pe gz lz) (abA hr.len)) ?_
    rintro cv gzC wzC ⟨gczC,lC,aC⟩;have lzC:=lz.trans lC;have aC0:Z2 hz cv:=fun b hb=>lz.none (aC b hb);have SzC:=L1 gzC lzC;obtain⟨gzCB,eBzCB,lBzCB,wzCB,pxzCB⟩:=aay wzC x;have lzCB:=lzC.trans lBzCB;have gczCB:=gczC.le lBzCB;have SzCB:=L1 gzCB lzCB;obtain⟨vzCBP,gzCBP,ePzCBP,gpzCBP,wzCBP,fPzCBP,kPzCBP⟩:=gczCB.join wzCB pxzCB (aaX hr.len);obtain⟨lzCBP,-⟩:=fPzCBP hz lzCB aC0;have SzCBP:=L1 gzCBP lzCBP;obtain⟨gzCBPA,eAzCBPA,lAzCBPA,wzCBPA,oYzCBPA⟩:=aaq wzCBP;have lzCBPA:=lzCBP.trans lAzCBPA
    have nYzCBPA:hz.own gzCBP.next=none:=lzCBP.next wzCBP (vT _)
    have gpzCBPA:=gpzCBP.le lAzCBPA;have SzCBPA:=L1 gzCBPA lzCBPA;obtain⟨gzCBA,eAzCBA,lAzCBA,wzCBA,oYzCBA⟩:=aaq wzCB;have lzCBA:=lzCB.trans lAzCBA
    have nYzCBA:hz.own gzCB.next=none:=lzCB.next wzCB (vT _)
    have gczCBA:=gczCB.le lAzCBA
    have nczCBA:blk cv≠some gzCB.next:=fun e=>GS.Sy gczCB e ((Le.refl gzCB).next wzCB (vT _))
    have pxzCBA:=pxzCB.le lAzCBA;have SzCBA:=L1 gzCBA lzCBA;obtain⟨vzCBAP,gzCBAP,ePzCBAP,gpzCBAP,wzCBAP,fPzCBAP,kPzCBAP⟩:=gczCBA.join wzCBA pxzCBA (aaX hr.len);obtain⟨lzCBAP,-⟩:=fPzCBAP hz lzCBA aC0;have oYzCBAP:=(kPzCBAP _ _ oYzCBA nczCBA).1;have SzCBAP:=L1 gzCBAP lzCBAP;obtain⟨gzCA,eAzCA,lAzCA,wzCA,oYzCA⟩:=aaq wzC;have lzCA:=lzC.trans lAzCA
    have nYzCA:hz.own gzC.next=none:=lzC.next wzC (vT _)
    have gczCA:=gczC.le lAzCA
    have nczCA:blk cv≠some gzC.next:=fun e=>GS.Sy gczC e ((Le.refl gzC).next wzC (vT _))
    have SzCA:=L1 gzCA lzCA;obtain⟨gzCAB,eBzCAB,lBzCAB,wzCAB,pxzCAB⟩:=aay wzCA x;have lzCAB:=lzCA.trans lBzCAB;have gczCAB:=gczCA.le lBzCAB;have oYzCAB:=lBzCAB.own _ _ oYzCA;have SzCAB:=L1 gzCAB lzCAB;obtain⟨vzCABP,gzCABP,ePzCABP,gpzCABP,wzCABP,fPzCABP,kPzCABP⟩:=gczCAB.join wzCAB pxzCAB (aaX hr.len);obtain⟨lzCABP,-⟩:=fPzCABP hz lzCAB aC0;have oYzCABP:=(kPzCABP _ _ oYzCAB nczCA).1;have SzCABP:=L1 gzCABP lzCABP;simp only[qj,Nat.reduceLT,↓reduceIte,Nat.reduceEqDiff,reduceCtorEq,Nat.reduceBEq,Qg,Di,Ip,BS,SzC,eBzCB,SzCB,ePzCBP,SzCBP,eAzCBPA,SzCBPA,eAzCBA,SzCBA,ePzCBAP,SzCBAP,eAzCA,SzCA,eBzCAB,SzCAB,ePzCABP,SzCABP];refine⟨⟨⟨?_,?_⟩,?_⟩,?_⟩
    ·refine VA.intro PJ ⟨pE, rfl, WY⟩ (aas W0 (n : Int) vzCBP _ gzCBP gpzCBP.pr (aaI hr.len)) ?_
     rintro y gzCBPN wzCBPN ⟨lN,m,k,ev3,L,rfl,gN,aN,cN⟩;have lzCBPN:=lzCBP.trans lN;have SzCBPN:=L1 gzCBPN lzCBPN;obtain⟨gE,gF,eE,eF,lF,wF,oF,lE⟩:=abc wzCBPN (n:=m) gN.pr;have SE:=L1 gE (lzCBPN.trans lE);have SF:=L1 gF (lzCBPN.trans lF);simp only[qj,Nat.reduceLT,↓reduceIte,Nat.reduceEqDiff,reduceCtorEq,Nat.reduceBEq,Qg,Di,Ip,BS,SzCBPN,SE,SF,eE,eF];refine KN.UJ fun fr' h' x y=>cont fr' h' ?_;rw[x,y]
     exact⟨gzCBPN.next,m,k,ev3,L,fD,lzCBPN.trans lF,wF,gN.le lF,fun b hb=>lzCBP.none (aN b hb),fun q lq=>ldGo gN.pr (lq.own _ _ oF),cN⟩
    ·refine VA.intro PJ ⟨pE, rfl, WY⟩ (aas W0 (n : Int) vzCBP _ gzCBPA gpzCBPA.pr (aaI hr.len)) ?_
     rintro y gzCBPAN wzCBPAN ⟨lN,m,k,ev3,L,rfl,gN,aN,cN⟩;have lzCBPAN:=lzCBPA.trans lN;have SzCBPAN:=L1 gzCBPAN lzCBPAN;obtain⟨gF,eF,lF,wF,gL,ldF⟩:=aaV (n:=m) wzCBPAN (lN.own _ _ oYzCBPA) gN (fun e=>by have:=aN _ e;rw[oYzCBPA]at this;cases this) lzCBPAN nYzCBPA;have SF:=L1 gF lF;simp only[qj,Nat.reduceLT,↓reduceIte,Nat.reduceEqDiff,reduceCtorEq,Nat.reduceBEq,Qg,Di,Ip,BS,SzCBPAN,SF,eF];refine KN.UJ fun fr' h' x y=>cont fr' h' ?_;rw[x,y]
     exact⟨gzCBP.next,m,k,ev3,L,fD,lF,wF,gL,fun b hb=>lzCBPA.none (aN b hb),ldF,cN⟩
    ·refine VA.intro PJ ⟨pE, rfl, WY⟩ (aas W0 (n : Int) vzCBAP _ gzCBAP gpzCBAP.pr (aaI hr.len)) ?_
     rintro y gzCBAPN wzCBAPN ⟨lN,m,k,ev3,L,rfl,gN,aN,cN⟩;have lzCBAPN:=lzCBAP.trans lN;have SzCBAPN:=L1 gzCBAPN lzCBAPN;obtain⟨gF,eF,lF,wF,gL,ldF⟩:=aaV (n:=m) wzCBAPN (lN.own _ _ oYzCBAP) gN (fun e=>by have:=aN _ e;rw[oYzCBAP]at this;cases this) lzCBAPN nYzCBA;have SF:=L1 gF lF;simp only[qj,Nat.reduceLT,↓reduceIte,Nat.reduceEqDiff,reduceCtorEq,Nat.reduceBEq,Qg,Di,Ip,BS,SzCBAPN,SF,eF];refine KN.UJ fun fr' h' x y=>cont fr' h' ?_;rw[x,y]
     exact⟨gzCB.next,m,k,ev3,L,fD,lF,wF,gL,fun b hb=>lzCBAP.none (aN b hb),ldF,cN⟩
    ·refine VA.intro PJ ⟨pE, rfl, WY⟩ (aas W0 (n : Int) vzCABP _ gzCABP gpzCABP.pr (aaI hr.len)) ?_
     rintro y gzCABPN wzCABPN ⟨lN,m,k,ev3,L,rfl,gN,aN,cN⟩;have lzCABPN:=lzCABP.trans lN;have SzCABPN:=L1 gzCABPN lzCABPN;obtain⟨gF,eF,lF,wF,gL,ldF⟩:=aaV (n:=m) wzCABPN (lN.own _ _ oYzCABP) gN (fun e=>by have:=aN _ e;rw[oYzCABP]at this;cases this) lzCABPN nYzCA;have SF:=L1 gF lF;simp only[qj,Nat.reduceLT,↓reduceIte,Nat.reduceEqDiff,reduceCtorEq,Nat.reduceBEq,Qg,Di,Ip,BS,SzCABPN,SF,eF];refine KN.UJ fun fr' h' x y=>cont fr' h' ?_;rw[x,y]
     exact⟨gzC.next,m,k,ev3,L,fD,lF,wF,gL,fun b hb=>lzCABP.none (aN b hb),ldF,cN⟩
   ·refine VA.intro PJ ⟨SV, rfl, WY⟩ (aaf W0 ev2 es gzB (pe gzB lzB) (abA hr.len)) ?_
    rintro cv gzBC wzBC ⟨gczBC,lC,aC⟩;have lzBC:=lzB.trans lC;have aC0:Z2 hz cv:=fun b hb=>lzB.none (aC b hb);have pxzBC:=pxzB.le lC;have SzBC:=L1 gzBC lzBC;obtain⟨vzBCP,gzBCP,ePzBCP,gpzBCP,wzBCP,fPzBCP,kPzBCP⟩:=gczBC.join wzBC pxzBC (aaX hr.len);obtain⟨lzBCP,-⟩:=fPzBCP hz lzBC aC0;have SzBCP:=L1 gzBCP lzBCP;obtain⟨gzBCPA,eAzBCPA,lAzBCPA,wzBCPA,oYzBCPA⟩:=aaq wzBCP;have lzBCPA:=lzBCP.trans lAzBCPA
    have nYzBCPA:hz.own gzBCP.next=none:=lzBCP.next wzBCP (vT _)
    have gpzBCPA:=gpzBCP.le lAzBCPA;have SzBCPA:=L1 gzBCPA lzBCPA;obtain⟨gzBCA,eAzBCA,lAzBCA,wzBCA,oYzBCA⟩:=aaq wzBC;have lzBCA:=lzBC.trans lAzBCA
    have nYzBCA:hz.own gzBC.next=none:=lzBC.next wzBC (vT _)
    have gczBCA:=gczBC.le lAzBCA
    have nczBCA:blk cv≠some gzBC.next:=fun e=>GS.Sy gczBC e ((Le.refl gzBC).next wzBC (vT _))
    have pxzBCA:=pxzBC.le lAzBCA;have SzBCA:=L1 gzBCA lzBCA;obtain⟨vzBCAP,gzBCAP,ePzBCAP,gpzBCAP,wzBCAP,fPzBCAP,kPzBCAP⟩:=gczBCA.join wzBCA pxzBCA (aaX hr.len);obtain⟨lzBCAP,-⟩:=fPzBCAP hz lzBCA aC0;have oYzBCAP:=(kPzBCAP _ _ oYzBCA nczBCA).1;have SzBCAP:=L1 gzBCAP lzBCAP;simp only[qj,Nat.reduceLT,↓reduceIte,Nat.reduceEqDiff,reduceCtorEq,Nat.reduceBEq,Qg,Di,Ip,BS,SzBC,ePzBCP,SzBCP,eAzBCPA,SzBCPA,eAzBCA,SzBCA,ePzBCAP,SzBCAP];refine⟨⟨?_,?_⟩,?_⟩
    ·refine VA.intro PJ ⟨pE, rfl, WY⟩ (aas W0 (n : Int) vzBCP _ gzBCP gpzBCP.pr (aaI hr.len)) ?_
     rintro y gzBCPN wzBCPN ⟨lN,m,k,ev3,L,rfl,gN,aN,cN⟩;have lzBCPN:=lzBCP.trans lN;have SzBCPN:=L1 gzBCPN lzBCPN;obtain⟨gE,gF,eE,eF,lF,wF,oF,lE⟩:=abc wzBCPN (n:=m) gN.pr;have SE:=L1 gE (lzBCPN.trans lE);have SF:=L1 gF (lzBCPN.trans lF);simp only[qj,Nat.reduceLT,↓reduceIte,Nat.reduceEqDiff,reduceCtorEq,Nat.reduceBEq,Qg,Di,Ip,BS,SzBCPN,SE,SF,eE,eF];refine KN.UJ fun fr' h' x y=>cont fr' h' ?_;rw[x,y]
     exact⟨gzBCPN.next,m,k,ev3,L,fD,lzBCPN.trans lF,wF,gN.le lF,fun b hb=>lzBCP.none (aN b hb),fun q lq=>ldGo gN.pr (lq.own _ _ oF),cN⟩
    ·refine VA.intro PJ ⟨pE, rfl, WY⟩ (aas W0 (n : Int) vzBCP _ gzBCPA gpzBCPA.pr (aaI hr.len)) ?_
     rintro y gzBCPAN wzBCPAN ⟨lN,m,k,ev3,L,rfl,gN,aN,cN⟩;have lzBCPAN:=lzBCPA.trans lN;have SzBCPAN:=L1 gzBCPAN lzBCPAN;obtain⟨gF,eF,lF,wF,gL,ldF⟩:=aaV (n:=m) wzBCPAN (lN.own _ _ oYzBCPA) gN (fun e=>by have:=aN _ e;rw[oYzBCPA]at this;cases this) lzBCPAN nYzBCPA;have SF:=L1 gF lF;simp only[qj,Nat.reduceLT,↓reduceIte,Nat.reduceEqDiff,reduceCtorEq,Nat.reduceBEq,Qg,Di,Ip,BS,SzBCPAN,SF,eF];refine KN.UJ fun fr' h' x y=>cont fr' h' ?_;rw[x,y]
     exact⟨gzBCP.next,m,k,ev3,L,fD,lF,wF,gL,fun b hb=>lzBCPA.none (aN b hb),ldF,cN⟩
    ·refine VA.intro PJ ⟨pE, rfl, WY⟩ (aas W0 (n : Int) vzBCAP _ gzBCAP gpzBCAP.pr (aaI hr.len)) ?_
     rintro y gzBCAPN wzBCAPN ⟨lN,m,k,ev3,L,rfl,gN,aN,cN⟩;have lzBCAPN:=lzBCAP.trans lN;have SzBCAPN:=L1 gzBCAPN lzBCAPN;obtain⟨gF,eF,lF,wF,gL,ldF⟩:=aaV (n:=m) wzBCAPN (lN.own _ _ oYzBCAP) gN (fun e=>by have:=aN _ e;rw[oYzBCAP]at this;cases this) lzBCAPN nYzBCA;have SF:=L1 gF lF;simp only[qj,Nat.reduceLT,↓reduceIte,Nat.reduceEqDiff,reduceCtorEq,Nat.reduceBEq,Qg,Di,Ip,BS,SzBCAPN,SF,eF];refine KN.UJ fun fr' h' x y=>cont fr' h' ?_;rw[x,y]
     exact⟨gzBC.next,m,k,ev3,L,fD,lF,wF,gL,fun b hb=>lzBCAP.none (aN b hb),ldF,cN⟩
   ·refine VA.intro PJ ⟨SV, rfl, WY⟩ (aaf W0 ev2 es gzBA (pe gzBA lzBA) (abA hr.len)) ?_
    rintro cv gzBAC wzBAC ⟨gczBAC,lC,aC⟩;have lzBAC:=lzBA.trans lC;have aC0:Z2 hz cv:=fun b hb=>lzBA.none (aC b hb);have pxzBAC:=pxzBA.le lC;have oYzBAC:=lC.own _ _ oYzBA
    have nczBAC:blk cv≠some gzB.next:=fun e=>by have:=aC _ e;rw[oYzBA]at this;cases this
    have SzBAC:=L1 gzBAC lzBAC;obtain⟨vzBACP,gzBACP,ePzBACP,gpzBACP,wzBACP,fPzBACP,kPzBACP⟩:=gczBAC.join wzBAC pxzBAC (aaX hr.len);obtain⟨lzBACP,-⟩:=fPzBACP hz lzBAC aC0;have oYzBACP:=(kPzBACP _ _ oYzBAC nczBAC).1;have SzBACP:=L1 gzBACP lzBACP;simp only[qj,Nat.reduceLT,↓reduceIte,Nat.reduceEqDiff,reduceCtorEq,Nat.reduceBEq,Qg,Di,Ip,BS,SzBAC,ePzBACP,SzBACP];refine VA.intro PJ ⟨pE,rfl,WY⟩ (aas W0 (n:Int) vzBACP _ gzBACP gpzBACP.pr (aaI hr.len)) ?_;rintro y gzBACPN wzBACPN ⟨lN,m,k,ev3,L,rfl,gN,aN,cN⟩;have lzBACPN:=lzBACP.trans lN;have SzBACPN:=L1 gzBACPN lzBACPN;obtain⟨gF,eF,lF,wF,gL,ldF⟩:=aaV (n:=m) wzBACPN (lN.own _ _ oYzBACP) gN (fun e=>by have:=aN _ e;rw[oYzBACP]at this;cases this) lzBACPN nYzBA;have SF:=L1 gF lF;simp only[qj,Nat.reduceLT,↓reduceIte,Nat.reduceEqDiff,reduceCtorEq,Nat.reduceBEq,Qg,Di,Ip,BS,SzBACPN,SF,eF];refine KN.UJ fun fr' h' x y=>cont fr' h' ?_;rw[x,y]
    exact⟨gzB.next,m,k,ev3,L,fD,lF,wF,gL,fun b hb=>lzBACP.none (aN b hb),ldF,cN⟩
   ·refine VA.intro PJ ⟨SV, rfl, WY⟩ (aaf W0 ev2 es gzA (pe gzA lzA) (abA hr.len)) ?_
    rintro cv gzAC wzAC ⟨gczAC,lC,aC⟩;have lzAC:=lzA.trans lC;have aC0:Z2 hz cv:=fun b hb=>lzA.none (aC b hb);have oYzAC:=lC.own _ _ oYzA
    have nczAC:blk cv≠some gz.next:=fun e=>by have:=aC _ e;rw[oYzA]at this;cases this
    have SzAC:=L1 gzAC lzAC;obtain⟨gzACB,eBzACB,lBzACB,wzACB,pxzACB⟩:=aay wzAC x;have lzACB:=lzAC.trans lBzACB;have gczACB:=gczAC.le lBzACB;have oYzACB:=lBzACB.own _ _ oYzAC;have SzACB:=L1 gzACB lzACB;obtain⟨vzACBP,gzACBP,ePzACBP,gpzACBP,wzACBP,fPzACBP,kPzACBP⟩:=gczACB.join wzACB pxzACB (aaX hr.len);obtain⟨lzACBP,-⟩:=fPzACBP hz lzACB aC0;have oYzACBP:=(kPzACBP _ _ oYzACB nczAC).1;have SzACBP:=L1 gzACBP lzACBP;simp only[qj,Nat.reduceLT,↓reduceIte,Nat.reduceEqDiff,reduceCtorEq,Nat.reduceBEq,Qg,Di,Ip,BS,SzAC,eBzACB,SzACB,ePzACBP,SzACBP];refine VA.intro PJ ⟨pE,rfl,WY⟩ (aas W0 (n:Int) vzACBP _ gzACBP gpzACBP.pr (aaI hr.len)) ?_;rintro y gzACBPN wzACBPN ⟨lN,m,k,ev3,L,rfl,gN,aN,cN⟩;have lzACBPN:=lzACBP.trans lN;have SzACBPN:=L1 gzACBPN lzACBPN;obtain⟨gF,eF,lF,wF,gL,ldF⟩:=aaV (n:=m) wzACBPN (lN.own _ _ oYzACBP) gN (fun e=>by have:=aN _ e;rw[oYzACBP]at this;cases this) lzACBPN nYzA;have SF:=L1 gF lF;simp only[qj,Nat.reduceLT,↓reduceIte,Nat.reduceEqDiff,reduceCtorEq,Nat.reduceBEq,Qg,Di,Ip,BS,SzACBPN,SF,eF];refine KN.UJ fun fr' h' x y=>cont fr' h' ?_;rw[x,y]
    exact⟨gz.next,m,k,ev3,L,fD,lF,wF,gL,fun b hb=>lzACBP.none (aN b hb),ldF,cN⟩
   ·refine VA.intro PJ ⟨SV, rfl, WY⟩ (aaf W0 ev2 es gzAB (pe gzAB lzAB) (abA hr.len)) ?_
    rintro cv gzABC wzABC ⟨gczABC,lC,aC⟩;have lzABC:=lzAB.trans lC;have aC0:Z2 hz cv:=fun b hb=>lzAB.none (aC b hb);have pxzABC:=pxzAB.le lC;have oYzABC:=lC.own _ _ oYzAB
    have nczABC:blk cv≠some gz.next:=fun e=>by have:=aC _ e;rw[oYzAB]at this;cases this
    have SzABC:=L1 gzABC lzABC;obtain⟨vzABCP,gzABCP,ePzABCP,gpzABCP,wzABCP,fPzABCP,kPzABCP⟩:=gczABC.join wzABC pxzABC (aaX hr.len);obtain⟨lzABCP,-⟩:=fPzABCP hz lzABC aC0;have oYzABCP:=(kPzABCP _ _ oYzABC nczABC).1;have SzABCP:=L1 gzABCP lzABCP;simp only[qj,Nat.reduceLT,↓reduceIte,Nat.reduceEqDiff,reduceCtorEq,Nat.reduceBEq,Qg,Di,Ip,BS,SzABC,ePzABCP,SzABCP];refine VA.intro PJ ⟨pE,rfl,WY⟩ (aas W0 (n:Int) vzABCP _ gzABCP gpzABCP.pr (aaI hr.len)) ?_;rintro y gzABCPN wzABCPN ⟨lN,m,k,ev3,L,rfl,gN,aN,cN⟩;have lzABCPN:=lzABCP.trans lN;have SzABCPN:=L1 gzABCPN lzABCPN;obtain⟨gF,eF,lF,wF,gL,ldF⟩:=aaV (n:=m) wzABCPN (lN.own _ _ oYzABCP) gN (fun e=>by have:=aN _ e;rw[oYzABCP]at this;cases this) lzABCPN nYzA;have SF:=L1 gF lF;simp only[qj,Nat.reduceLT,↓reduceIte,Nat.reduceEqDiff,reduceCtorEq,Nat.reduceBEq,Qg,Di,Ip,BS,SzABCPN,SF,eF];refine KN.UJ fun fr' h' x y=>cont fr' h' ?_;rw[x,y]
    exact⟨gz.next,m,k,ev3,L,fD,lF,wF,gL,fun b hb=>lzABCP.none (aN b hb),ldF,cN⟩
  rintro fr hw ⟨Y,m,k,ev3,L,hfr,lw,ww,gL,aL,ldY,hk⟩;simp only[Fj]at hfr;obtain⟨f2,f8,f13,f14,f15,f17,f18,-⟩:=hfr;rw[hzz]at lw aL;have oZw:=lw.own _ _ oZz;by_cases k0:k=0
  ·subst k0
   obtain⟨rfl,okN,rfl⟩:=hk rfl;obtain⟨_,_,e3,-⟩:=gL.pr.sl;have st:=DG (n:=(n:Int)) oZw gL.pr.sl.one (by rw[e3];rfl);have T':Twi n (sg (es++[x])):=T.more okN.right.abb fun a b h=>(aal _ _ _).2 (h.imp (LH _) (LH _));have nb:blk ev3≠some Z:=fun e=>by have:=aL _ e;rw[oZz]at this;cases this
   simp only[HO,Nat.reduceLT,↓reduceIte,Nat.reduceEqDiff,reduceCtorEq,f13,f15,f17,f18,d00,ldY hw (Le.refl _),st,awi];exact tn (ms.length-(i+1)) [(2,mv),(8,.int .i64 (n:Nat)),(13,.pointer (some ⟨Z,0,none⟩)),(14,.int .i64 (0:Int)),(15,.int .i64 (i+1:Nat))] (JS c1) (by simp only[Fj,HO,Nat.reduceLT,↓reduceIte,Nat.reduceEqDiff,reduceCtorEq,f2,f8,f13,f14];simp)
    ⟨i+1,ev3,_,rfl,c1,rfl,(lcz.trans lw).put _ nZ,AHeap.Y3 _ _ _,GS.put gL _ nb,T',okN.right⟩
  ·have dk : decide (k = 0) = false := decide_eq_false k0
   simp only[HO,Nat.reduceLT,↓reduceIte,Nat.reduceEqDiff,reduceCtorEq,f15,f18,dk,awi];exact tn (ms.length-(i+1)) [(2,mv),(8,.int .i64 (n:Nat)),(13,.pointer (some ⟨Z,0,none⟩)),(14,.int .i64 (0:Int)),(15,.int .i64 (i+1:Nat))] (JS c1) (by simp only[Fj,HO,Nat.reduceLT,↓reduceIte,Nat.reduceEqDiff,reduceCtorEq,f2,f8,f13,f14];simp)
    ⟨i+1,ev2,es,rfl,c1,rfl,lcz.trans lw,oZw,gez.le lw,T,hr⟩
 ·have hd:decide ((i:Int)<(ms.length:Int))=false∨decide ((i:Int)<(ms.length:Int))=true∧decide ((i:Int)<10)=false:=by
   by_cases c:i<ms.length
   ·exact .inr ⟨decide_eq_true NH,decide_eq_false NH⟩
   ·exact .inl (decide_eq_false NH)
  have lZ:aload Tryz.prog hc 24 ⟨Z,0,none⟩=some (.agg #[.int .i64 (n:Int),ev2]):=ldGo ge.pr oZ;have tG:zW n es:=T.two.twoG hr.GD;have nP:¬XU n (eN n es):=fun P=>T.no n (vT _) (by have:(n:Int)≤200:=hr.n1;omega) ((XU.congr fun v w=>by rw[vD T.ok.right.GD,vD hr.GD,aal]).2 P);have d90:decide ((90:Int)=90)=true:=by decide
  have fin:∀rv e (h':AHeap),Hw ⟨(n:Int),es⟩ h' rv e→e=90:=fun rv e h' I=>by
   simp only[Hw,yY]at I;rcases I with⟨q,-⟩|⟨-,q,-⟩|⟨-,-,-,-,rfl,-⟩|⟨-,-,rs2,-,R2,F2,-⟩
   ·exact absurd hr q
   ·exact absurd tG q
   ·rfl
   ·exact absurd (Vg hr.GD hr.q9 R2 F2) nP
  rcases hd with d1|⟨d1,d2⟩
  ·simp only [HO, Nat.reduceLT, ↓reduceIte, Nat.reduceEqDiff, reduceCtorEq, lm, d1, lZ]
   refine TC.intro PJ ⟨YW,rfl,WY⟩ (Im W0 _ ⟨(n:Int),es⟩ hc ⟨ev2,rfl,ge.pr,GS.Ov ge⟩) ?_;rintro y h9 w9 ⟨l9,rv,e,rfl,I⟩;obtain rfl:=fin _ _ _ I;simp only[HO,Nat.reduceLT,↓reduceIte,Nat.reduceEqDiff,reduceCtorEq,d00,d90];refine TC.intro PJ ⟨Tryz.func17,rfl,WY⟩ (jS W0 h9) ?_;rintro y h10 w10 ⟨rfl,l10⟩;simp only[HO,Nat.reduceLT,↓reduceIte,Nat.reduceEqDiff,reduceCtorEq]
  ·simp only [HO, Nat.reduceLT, ↓reduceIte, Nat.reduceEqDiff, reduceCtorEq, lm, d1, d2, lZ]
   refine TC.intro PJ ⟨YW,rfl,WY⟩ (Im W0 _ ⟨(n:Int),es⟩ hc ⟨ev2,rfl,ge.pr,GS.Ov ge⟩) ?_;rintro y h9 w9 ⟨l9,rv,e,rfl,I⟩;obtain rfl:=fin _ _ _ I;simp only[HO,Nat.reduceLT,↓reduceIte,Nat.reduceEqDiff,reduceCtorEq,d00,d90];refine TC.intro PJ ⟨Tryz.func17,rfl,WY⟩ (jS W0 h9) ?_;rintro y h10 w10 ⟨rfl,l10⟩;simp only[HO,Nat.reduceLT,↓reduceIte,Nat.reduceEqDiff,reduceCtorEq]
end
section
open Go.Proofs Go.ChangeShapes Go.WideShapes Go.RowKit Go.ChangeAt
open Go.Proofs.YtkccdnmaaelbiaaGreat
def aar (os:Os) (started:os.Started) (H:Type) (enc:TypeId×Value->H):
  ReturnsInHanded {} Tryz.checked os 6 .any (Rows.embedTwistedSpec.pre6 enc Tryz.prog Tryz.f6 Rows.embedTwistedRow.domain false) (Rows.embedTwistedSpec.post enc Tryz.prog Tryz.f6 false true false false):=by
 have own:ownKnob Tryz.prog.godebug=Option.none:=Ji;have laidOut:laidOutB Tryz.prog=true:=Ji;refine returnsInHanded_of_change (C:=Tryz.checked) own started Ji Tryz.func6
  (ChangeSpec.witness6 (enc:=enc) (C:=Tryz.checked) false ⟨#[],#[.bool false,.slice Option.none 0 0,.slice Option.none 0 0],[]⟩ 8 Ji Ji Ji Ji) ?_
 intro W base args ds gs before c u w _;have b:∀(j:Nat) t v,Tryz.f6.params[j]?=some t->args[j]?=some v->Value.okWide Tryz.prog W .any base t v:=c;have d:=u;obtain⟨p,q,i,D,rfl,E,F⟩:=u;have hA:DataW.TrodAll enc Tryz.prog W 0 (fun _=>true) true Tryz.f6.params.toList args.toList ds p:=i;rw[Tryz.params6]at hA b;obtain⟨z,N,O,P,Q,S,a,rfl,rfl,A,hA⟩:=trodAll_cons hA;obtain⟨k,w1,d1,T,G,U,rfl,rfl,rfl,B,hA⟩:=trodAll_cons hA;obtain⟨l,V,d2,X,I,Y,rfl,rfl,rfl,h2,hA⟩:=trodAll_cons hA;obtain⟨rfl,rfl,rfl⟩:=trodAll_nil hA;obtain rfl:args=#[z,k,l]:=by cases args;simp_all
 obtain⟨rfl,rfl⟩:=trodVars_none D;obtain⟨x0,rfl,rfl,rfl⟩:=open_bool AV (b 0 4 z rfl rfl) A;obtain⟨u1,x1,m,n⟩:=abw (b 1 42 k rfl rfl) B (fun _=>⟨0,0,0⟩);obtain⟨J,K,o,r⟩:=abv (b 2 43 l rfl rfl) h2 (fun _=>⟨0,0,0⟩);refine(aaY (LA.of W) u1 J x0 x1 K (MR W) n r [] (fun _=>⟨0,0,0⟩) W [.bool x0,k,l] (Rel.start W _) ?_).mono ?_
 .exact .cons (.flat rfl) (.cons m (.cons o ((.nil _ _))))
 .rintro e L ⟨x, x', Z, h', rfl, R, -, -, M, rfl, -⟩
  obtain rfl:=M.YE;have hb:=R.below;have g:∀y∈G,y.block<W.heap.size:=fun y s=>d.lt y (by simp[s]);have h:∀y∈I,y.block<W.heap.size:=fun y s=>d.lt y (by simp[s]);have f:DataW.Trod enc Tryz.prog L W.heap.size (fun _=>false) false 4 (.bool true) (.lit (.bool true)) []:=⟨1,by simp[DataW.trod,Value.cells,AV]⟩;have a:=
   abt (Below.trod laidOut Ji (of_decide_eq_true Ji) A hb Ma) (abt (Below.trod laidOut Ji (of_decide_eq_true Ji) B hb g) (abt (Below.trod laidOut Ji (of_decide_eq_true Ji) h2 hb h) (trodAll_mk0)))
  try simp only[Gq,Q9]at a
  exact⟨_,rfl,_,_,_,[],_,[],d,trodAll_mk1 f,a,rfl,hb.frame _,fun e=>by cases e⟩
def embedTwisted_said:Rows.EmbedTwistedSaid:=
 OpenClaim.holds_of_wide 6 Tryz.f6 rfl rfl rfl rfl rfl rfl rfl ⟨rfl,rfl,rfl,rfl,rfl⟩ rfl rfl rfl rfl rfl Ji Tryz.func6 Ji
  (of_decide_eq_true Ji) (by unfold Func.isWrapper;first|(rw[if_pos iw];kernel_rfl)|(rw[if_neg iw];exact⟨rfl,rfl⟩))
  (fun os started H enc _=>aar os started H enc)
end
end Go.Fw
