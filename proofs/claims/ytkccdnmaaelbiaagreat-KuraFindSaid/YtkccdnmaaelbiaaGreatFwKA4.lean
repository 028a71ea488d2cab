/- A text. -/
import Derived.Test.YtkccdnmaaelbiaaGreatFwLJ22
set_option linter.all false
set_option maxRecDepth 99999
set_option maxHeartbeats 9999999
namespace Go.Fw
section
attribute [local irreducible] Kp MQ lU KO1 KO KN KX KE VK Kl ZJ TC aab
open Go.Proofs
variable {B M T i n:Nat} {es:List Pr} {h:AHeap} {rows:AM}
def afu {l:List (Pr×Int)} (i:h.own M=some (.map (wy l))) (k:Pr):∃(j:Nat) (l1:List (Pr×Int)),
  aMapEntry Tryz.prog h 88 (.map (some M)) (UI k)=some (.tuple #[.int .i64 ((lookK l k).getD 0),.int .i64 (j:Int)],h.put M (.map (wy l1)))/\(lookK l1 k).getD 0=(lookK l k).getD 0/\
  ∀v:Int,aEntryStore (h.put M (.map (wy l1))) (.map (some M)) (.int .i64 (j:Int)) (.int .i64 v)=some ((h.put M (.map (wy l1))).put M (.map (wy (setK l k v)))):=by
 have m:azero Tryz.prog 3=some (.int .i64 0):=Ji;have hf:=afind_mapP k l 0;have hd:∀v:Int,_:=fun v=>Ek l k v;rcases Ek l k 0 with⟨a,n⟩|⟨j,b,a,h2,h3,n⟩
 .have d := hf.1 a
  refine⟨l.length,l++[(k,0)],?_,?_,fun v=>?_⟩
  .simp only [aMapEntry, qS24, keyP, i, m, if_true, d, show flat (.int .i64 0) = true from rfl, a]
   simp[wy]
  .rw[<-n,XR,if_pos rfl,a];rfl
  .have hs:setK l k v=l++[(k,v)]:=by
    rcases hd v with⟨_,e⟩|⟨j,b,e,_⟩
    .exact e
    .rw[a]at e;cases e
   have f:(0:Int)<=(l.length:Int):=NH;simp only[aEntryStore,AHeap.Y3,f,if_true,HV];rw[hs];simp[wy]
 .have c := hf.2 j b h2 h3
  rw[XJ]at c;refine⟨j,l,?_,rfl,fun v=>?_⟩
  .simp only[aMapEntry,qS24,keyP,i,m,if_true,c,a,Option.getD_some]
  .have hs:setK l k v=l.set j (k,v):=by
    rcases hd v with⟨e,_⟩|⟨g,s,e,o,p,r⟩
    .rw[a]at e;cases e
    .have:g=j:=by
      rcases cJ g j with q|q|q
      .exact absurd rfl (h3 g q _ o)
      .exact q
      .exact absurd rfl (p j q _ h2)
     rw[r,this]
   have f:(0:Int)<=(j:Int):=NH;have hg:(wy l)[j]?=some (UI k,.int .i64 b):=by simp[wy,h2]
   simp only[aEntryStore,AHeap.Y3,f,if_true,HV,hg];rw[hs];simp[wy,ac9]
def bX.n200 (a:bX ⟨(n:Int),es⟩):n<=200:=by
 have:(n:Int)<=200:=a.n1;omega
def stKI {x:Value} (o:h.own T=some (.cells [x])) (y:Int):aStore Tryz.prog h 3 (.pointer (some ⟨T,0,none⟩)) (.int .i64 y)=some (h.put T (.cells [.int .i64 y])):=
 QB Mb Ji o Nat.zero_lt_one rfl rfl
def ldKI {x:Int} (o:h.own T=some (.cells [.int .i64 x])):aload Tryz.prog h 3 ⟨T,0,none⟩=some (.int .i64 x):=by rw[Fq Mb rfl o];rfl
def ldKR {a:Value} (o:h.own B=some (.cells [a])):aload Tryz.prog h 27 ⟨B,0,none⟩=some a:=by rw[Fq yU rfl o];rfl
def agC (V:LA) (T B:Nat) (Q:Value) (s c v:Nat) (t h:AHeap) (oT:h.own T=some (.cells [.int .i64 (s:Nat)])) (oB:h.own B=some (.cells [Q])) (F:B≠T) (hb:RL (RL RP) t Q (Zh n es)) (l0:Le t h) (nT:t.own T=none)
  (G:bX ⟨(n:Int),es⟩) (R:Jp es c v) (W:((Zh n es).getD c []).length≠2) (hs:s<=100000000):
  AC Tryz.prog V 128 [.int .i64 (c:Nat),.int .i64 (v:Nat),.pointer (some ⟨T,0,none⟩),.pointer (some ⟨B,0,none⟩)] h fun x h'=>x=.int .i64 ((aal (Zh n es) (c,v)).1:Nat)/\h'.own T=some (.cells [.int .i64 ((s+((aal (Zh n es) (c,v)).2+1):Nat):Int)])/\Le t h'/\∀b o,b≠T->h.own b=some o->h'.own b=some o:=by
 have hR:=G.GD;have hA:D3 es:=G.q9;obtain⟨K,hK,h2,h3,X⟩:=acu hR hA G.n200 R W;rw[X];have H:=aa7 hR hA (d:=(c,v)) R;have rt:=fun v=>abg hR hA (v:=v);have bl:=Xq n es;have bn:∀{x y},Jp es x y->y<n:=fun a=>(a.lt hR).2;generalize Zh n es=rows at*;refine AC.vE ⟨Tryz.func128,rfl,WY⟩ Tryz.ntmps128 Tryz.results128 fun w=>?_;simp only[Br,Nat.reduceAdd];have z:=ldKI oT;have A:=stKI oT ((s+1:Nat):Int);have C:=aaa s NH;refine Sk (Yb z C A) ?_;have w1:WF (h.put T (.cells [.int .i64 ((s+1:Nat):Int)])):=w.put _ (w.lt oT);refine aab.intro (fun k fr j=>∃i:Nat,k=K-i/\i<=K/\fr=mkF [(1,.int .i64 ((it (goS rows) i (c,v)).2:Nat)),(2,.pointer (some ⟨T,0,none⟩)),(3,.pointer (some ⟨B,0,none⟩)),(7,.int .i64 ((it (goS rows) i (c,v)).1:Nat))]/\
   j.own T=some (.cells [.int .i64 ((s+1+i:Nat):Int)])/\Le t j/\∀b o,b≠T->h.own b=some o->j.own b=some o)
  K [(1,.int .i64 (v:Nat)),(2,.pointer (some ⟨T,0,none⟩)),(3,.pointer (some ⟨B,0,none⟩)),(7,.int .i64 (c:Nat))] fD
  ⟨0,rfl,Og _,rfl,AHeap.Y3 _ _ _,l0.put _ nT,fun b o hb I=>by rw[AHeap.By _ _ _ _ hb];exact I⟩ ?_
 clear w1 A z C oT;rintro k fr j Y ⟨i,rfl,hi,rfl,oT,p,J⟩;have lB:=ldKR (J B _ F oB);have ha:=H i fun q j=>h2 q NH;generalize e:it (goS rows) i (c,v)=d at*;have l:d.2<rows.length:=by rw[bl];exact bn ha
 have L:=hb.NS d.2 l;obtain⟨u,M,r⟩:=hb.Wm d.2 l;have lu:=M j p;have gd:rows.getD d.2 []=rows[d.2]:=D4 l;have ln:=fun g=>r.Uc g;have S:=ldKI oT;have st:=stKI oT ((s+1+(i+1):Nat):Int);have aw:=aaa (s+1+i) NH;rw[ahP (s+1) i 1]at aw;by_cases c2:(rows.getD d.2 []).length=2
 rotate_left
 .have f:i=K:=by
   rcases Tj i K with q|q
   .have:=h2 i q;rw[e]at this;exact absurd this c2
   .omega
  subst f;have d2:decide ((rows[d.2].length:Int)=2)=false:=decide_eq_false (by rw[gd]at c2;omega);rw[e];simp only[HO,Nat.reduceLT,↓reduceIte,Nat.reduceEqDiff,reduceCtorEq,lB,L,lu,ln,d2];have Z:s+1+i=s+(i+1):=NH;rw[Z]at oT;exact⟨trivial,oT,p,J⟩
 have f:i<K:=by
  rcases Tj i K with q|q
  .exact q
  .obtain rfl : i = K := NH
   rw[e]at h3;exact absurd c2 h3
 obtain⟨a,b,N,ne,h4,h5,h6⟩:=rt d.2 c2;have D:it (goS rows) (i+1) (c,v)=goS rows d:=by rw[<-e];rfl
 have gs:goS rows d=(d.2,if(a:Int)=(d.1:Int)then b else a):=by
  unfold goS;rw[N];simp only[pC,NC];split<;>simp
 rw[gd]at N;rw[N]at r ln;have d2:decide ((([(a:Int),(b:Int)]:RZ).length:Int)=2)=true:=by simp
 have O:=r.TA 0 Ma;have a1:=r.TA 1 Ma;have m:=(r.le Nn.RP p).DH 0 Ma;have E:=(r.le Nn.RP p).DH 1 Ma;simp only[qL224,qL229]at m E;simp only[Int.cast_ofNat_Int]at O a1;have U:∀b o,b≠T->h.own b=some o->(j.put T (.cells [.int .i64 ((s+1+(i+1):Nat):Int)])).own b=some o:=fun b o hb I=>by rw[AHeap.By _ _ _ _ hb];exact J b o hb I
 by_cases ca:(a:Int)=(d.1:Int)
 .have P : decide ((a : Int) = (d.1 : Int)) = true := decide_eq_true ca
  rw[if_pos ca]at gs;simp only[HO,Nat.reduceLT,↓reduceIte,Nat.reduceEqDiff,reduceCtorEq,lB,L,lu,ln,d2,O,m,P,a1,E,S,aw,st];exact tn (K-(i+1)) [(1,.int .i64 (b:Nat)),(2,.pointer (some ⟨T,0,none⟩)),(3,.pointer (some ⟨B,0,none⟩)),(7,.int .i64 (d.2:Nat))] NH fD
   ⟨i+1,rfl,f,by rw[D,gs];rfl,AHeap.Y3 _ _ _,p.put _ nT,U⟩
 .have P : decide ((a : Int) = (d.1 : Int)) = false := decide_eq_false ca
  rw[if_neg ca]at gs;simp only[HO,Nat.reduceLT,↓reduceIte,Nat.reduceEqDiff,reduceCtorEq,lB,L,lu,ln,d2,O,m,P,S,aw,st];exact tn (K-(i+1)) [(1,.int .i64 (a:Nat)),(2,.pointer (some ⟨T,0,none⟩)),(3,.pointer (some ⟨B,0,none⟩)),(7,.int .i64 (d.2:Nat))] NH fD
   ⟨i+1,rfl,f,by rw[D,gs];rfl,AHeap.Y3 _ _ _,p.put _ nT,U⟩
def aen (rows:AM) (D:List (Nat×Nat)):Nat:=(D.map fun d=>(aal rows d).2+1).sum
structure agd (rows:AM) (D:List (Nat×Nat)) (hq:AHeap) (M T B:Nat) (rv:Value) (l:List (Pr×Int)):Prop where
 oM:hq.own M=some (.map (wy l))
 oT:hq.own T=some (.cells [.int .i64 (aen rows D:Nat)])
 oB:hq.own B=some (.cells [rv])
 OT:∀p,(lookK l p).getD 0=(((D.map (aaH rows)).count p:Nat):Int)
def strS_le {D:List (Nat×Nat)} (h:∀d∈D,(aal rows d).2<=40000):aen rows D<=40001*D.length:=by
 induction D with
 |nil=>simp[aen]
 |cons d D a=>
  have c:=h d Ma;have h2:=a fun e b=>h e (by simp[b]);simp only[aen,mJ,MY,Uz]at*;omega
def agD (rows:AM) (D:List (Nat×Nat)) (d:Nat×Nat):aen rows (D++[d])=aen rows D+((aal rows d).2+1):=by simp[aen]
def agE {cs:II} (h:i<cs.length):aaj rows (cs.take (i+1))=aaj rows (cs.take i)++(rows.getD cs[i] []).map fun x=>(cs[i],x.toNat):=by
 unfold aaj;rw[Sb h,afN];simp only[U0,List.flatMap_nil,wV]
def afv (W0:LA) (C cv:Value) (cs:II) (h:AHeap) (hb:RL (RL RP) h C (Zh n es)) (J:RL RP h cv (kz cs)) (hr:bX ⟨(n:Int),es⟩)
  (hc:∀c∈cs,c<n/\((Zh n es).getD c []).length≠2) (hl:(aaj (Zh n es) cs).length<=1000) (b5:cs.length<=1000):
  AC Tryz.prog W0 78 [C,cv] h fun x h'=>∃(M:Nat) (l:List (Pr×Int)),x=.tuple #[.map (some M),.int .i64 (aaU (Zh n es) cs:Nat)]/\h'.own M=some (.map (wy l))/\(∀p,(lookK l p).getD 0=(aaI (Zh n es) cs p:Int))/\Le h h':=by
 have hR:=hr.GD;have hA:D3 es:=hr.q9;have Wn:=fun c v=>acu hR hA hr.n200 (c:=c) (v:=v);have f:=fun(T B:Nat) (s c v:Nat) (g:AHeap) a1 a2 a3 a4 a5 a6 a7 a8=>agC W0 T B C s c v h g a1 a2 a3 hb a4 a5 hr a6 a7 a8;have bl:=Xq n es;have bm:=EW hR;have bN:=fun u x=>Ru hR (u:=u) (x:=x);generalize Zh n es=rows at*;refine AC.vE ⟨Tryz.func78,rfl,WY⟩ Tryz.ntmps78 Tryz.results78 fun aa=>?_;simp only[Br,Nat.reduceAdd];obtain⟨m,e1,l1,w1,o1⟩:=Tt aa [C]
 have bx:zF h C=some (.pointer (some ⟨h.next,0,none⟩),m):=by
  obtain⟨a,c,rfl,_⟩:=hb.sl;rw[<-e1];rfl
 obtain⟨h2,e2,l2,w2,o2⟩:=Tt w1 [.int .i64 0]
 have al:aAlloc Tryz.prog m 3=some (.pointer (some ⟨m.next,0,none⟩),h2):=by rw[<-e2];rfl
 have ae:=stKI o2 0
 have nB:h.own h.next=none:=(Le.refl h).next aa (qL0 _)
 have z:m.own m.next=none:=(Le.refl m).next w1 (qL0 _)
 have nT:=l1.none z
 have ag:h.next≠m.next:=fun e=>by rw[<-e,o1]at z;cases z
 have E:Le m (h2.put m.next (.cells [.int .i64 0])):=l2.put _ z
 have L:WF (h2.put m.next (.cells [.int .i64 0])):=w2.put _ (w2.lt o2)
 have N:=AHeap.Y3 h2 m.next (.cells [.int .i64 0])
 generalize h2.put m.next (.cells [.int .i64 0])=y at*
 obtain⟨Z,e3,l3,w3,o3⟩:∃Z,y.alloc (.map [])=Z/\Le y Z/\WF Z/\Z.own y.next=some (.map []):=⟨_,rfl,(Le.refl y).alloc L _,L.alloc _,AHeap.zT _ _⟩
 have o:y.own y.next=none:=(Le.refl y).next L (qL0 _)
 have nM:h.own y.next=none:=(l1.trans E).none o
 have A:m.next≠y.next:=fun e=>by rw[<-e,N]at o;cases o
 have G:h.next≠y.next:=fun e=>by rw[<-e,E.own _ _ o1]at o;cases o
 have ln:=fun g=>J.Uc g;rw[y6]at ln;simp only[HO,Nat.reduceLT,↓reduceIte,Nat.reduceEqDiff,reduceCtorEq,bx,al,ae,e3,ln]
 have S0:agd rows (aaj rows (cs.take 0)) Z y.next m.next h.next C []:=⟨o3,l3.own _ _ N,l3.own _ _ (E.own _ _ o1),fun p=>rfl⟩
 have aj:=(l1.trans E).trans l3
 generalize h.next=B at*
 generalize m.next=T at*
 generalize y.next=M at*
 clear e3 o3 o N ae z al e2 bx e1 o1 o2 l2 w2 l1 w1;refine lIn (fun k fr hq=>∃(i:Nat) (l:List (Pr×Int)),k=cs.length-i/\i<=cs.length/\fr=mkF [(2,.pointer (some ⟨B,0,none⟩)),(6,.pointer (some ⟨T,0,none⟩)),(7,.func (.func 128) #[] #[.pointer (some ⟨T,0,none⟩),.pointer (some ⟨B,0,none⟩)]),(8,.map (some M)),(16,cv),(17,.int .i64 cs.length),(18,.int .i64 i)]/\agd rows (aaj rows (cs.take i)) hq M T B C l/\Le h hq) ⟨0,[],rfl,Og _,rfl,S0,aj⟩ ?_;clear S0 aj l3 w3;rintro k fr hq aW ⟨i,l,rfl,hi,rfl,S,lq⟩;refine Uy ?_;refine Kl.intro (fun ht=>?_) (fun hf=>?_)
 rotate_left
 .have O : cs.length <= i := vp hf
  rw[yM O]at S;have lT:=ldKI S.oT;refine Uy ?_;refine gh (tA [0,1,2,3] .done) ?_;refine CO lT ?_;exact⟨M,l,rfl,S.oM,S.OT,lq⟩
 have b:i<cs.length:=CC ht;clear ht;obtain⟨aX,P⟩:=hc cs[i] (ZT b);have Q:cs[i]<rows.length:=by rw[bl];exact aX
 have aq:∀i,i<=cs.length->(aaj rows (cs.take i)).length<=(aaj rows cs).length:=fun i _=>by
  have:aaj rows cs=aaj rows (cs.take i)++aaj rows (cs.drop i):=by rw[aaj,aaj,aaj,<-afN,qL92]
  rw[this,j9];omega
 have R:=agE (rows:=rows) b;have U:=aq (i+1) b;have bb:∀d∈aaj rows (cs.take i),(aal rows d).2<=40000:=fun d hd=>by
  simp only[aaj,Yi,Z6]at hd;obtain⟨c,bg,x,V,rfl⟩:=hd;obtain⟨w,rfl,_⟩:=bN c x V;obtain⟨K,k1,-,-,k2⟩:=Wn c w ((bm c w).1 V) (hc c (dr bg)).2;rw[HV,k2];exact k1
 have adc:=J.TA i (by rw[y6];exact b);have W:=(J.le Nn.RP lq).DH i (by rw[y6];exact b);rw[sY b]at W;generalize cs[i]=c at*;have ar:=hb.NS c Q;obtain⟨u,av,hu⟩:=hb.Wm c Q;have lu:=av hq lq;have gd:rows.getD c []=rows[c]:=D4 Q;have bh:=fun g=>hu.Uc g;have X:∀x∈rows.getD c [],∃w:Nat,x=(w:Int)/\Jp es c w:=fun x V=>by
  obtain⟨w,rfl,_⟩:=bN c x V;exact⟨w,rfl,(bm c w).1 V⟩
 rw[R]at U;rw[gd]at R X U;have f:=fun s v g a1 a2 a4 a6 a8=>f T B s c v g a1 a2 ag a4 nT a6 P a8;have Wn:=fun v a=>Wn c v a P;clear P av;generalize rows[c]=r at*;have lB:=ldKR S.oB;have bk:=aaa i NH;simp only[HO,Nat.reduceLT,↓reduceIte,Nat.reduceEqDiff,reduceCtorEq,adc,W,lB,ar,lu,bh];simp only[j9,jz]at U;have b6:r.length<=1000:=NH;refine lIn (fun k fr hz=>∃(j:Nat) (l:List (Pr×Int)),k=r.length-j/\j<=r.length/\fr=mkF [(2,.pointer (some ⟨B,0,none⟩)),(6,.pointer (some ⟨T,0,none⟩)),(7,.func (.func 128) #[] #[.pointer (some ⟨T,0,none⟩),.pointer (some ⟨B,0,none⟩)]),(8,.map (some M)),(10,.int .i64 (c:Nat)),(16,cv),(17,.int .i64 cs.length),(18,.int .i64 i),(25,u),(26,.int .i64 r.length),(27,.int .i64 j)]/\agd rows (aaj rows (cs.take i)++(r.take j).map fun x=>(c,x.toNat)) hz M T B C l/\Le h hz) ⟨0,l,rfl,Og _,rfl,by simpa using S,lq⟩ ?_;clear S lq lu lB W;clear aW hq l;rintro k fr hz b8 ⟨j,l,rfl,hj,rfl,S,lz⟩;refine Uy ?_;refine Kl.intro (fun ht=>?_) (fun hf=>?_)
 rotate_left
 .have O : r.length <= j := vp hf
  rw[yM O,<-R]at S;refine Sk bk ?_;exact lgA (JS b) ⟨i+1,l,rfl,b,rfl,S,lz⟩
 have t:j<r.length:=CC ht;clear ht;obtain⟨v,ay,az⟩:=X r[j] (ZT t);have bo:=hu.TA j t;have aC:=(hu.le Nn.RP lz).DH j t;have aD:(r.take (j+1)).map (fun x=>(c,x.toNat))=(r.take j).map (fun x=>(c,x.toNat))++[(c,v)]:=by rw[Sb t,bC,ay];simp
 rw[ay]at aC;have b9:(aaj rows (cs.take i)++(r.take j).map fun x=>(c,x.toNat)).length<=1000:=by simp only[j9,jz,PN];omega
 have br:∀d∈aaj rows (cs.take i)++(r.take j).map (fun x=>(c,x.toNat)),(aal rows d).2<=40000:=fun d hd=>by
  rcases qL7.1 hd with q|q
  .exact bb d q
  .obtain ⟨x, V, rfl⟩ := Z6.1 q
   obtain⟨w,rfl,ha⟩:=X x (dr V);obtain⟨K,k1,-,-,k2⟩:=Wn w ha;rw[HV,k2];exact k1
 have cc:=strS_le br;have aF:=agD rows (aaj rows (cs.take i)++(r.take j).map fun x=>(c,x.toNat)) (c,v);rw[Ki,<-aD]at aF;have aH:=fun p=>List.count_le_length (a:=p) (l:=(aaj rows (cs.take i)++(r.take j).map fun x=>(c,x.toNat)).map (aaH rows));have bB:(aaj rows (cs.take i)++(r.take (j+1)).map fun x=>(c,x.toNat)).map (aaH rows)=(aaj rows (cs.take i)++(r.take j).map fun x=>(c,x.toNat)).map (aaH rows)++[aaH rows (c,v)]:=by rw[aD,<-Ki,bC];rfl
 generalize aaj rows (cs.take i)++(r.take j).map (fun x=>(c,x.toNat))=D at*;generalize bF:aaj rows (cs.take i)++(r.take (j+1)).map (fun x=>(c,x.toNat))=D1 at*;refine Sk (XC bo aC) ?_;refine TC.intro PJ ⟨Tryz.func128,rfl,WY⟩ (f (aen rows D) v hz S.oT S.oB lz az NH) ?_;rintro x H w9 ⟨rfl,bH,l9,kp⟩;have F:=kp M _ A.symm S.oM;have bI:=kp B _ ag S.oB;have hE:aaH rows (c,v)=(min (c:Int) ((aal rows (c,v)).1:Int),max (c:Int) ((aal rows (c,v)).1:Int)):=rfl;generalize aal rows (c,v)=od at*;generalize aaH rows (c,v)=p at*;obtain⟨jj,I,aJ,bQ,bW⟩:=afu F p;have aK:=SA F p;have aP:=AHeap.Y3 H M (.map (wy I));have Y:=SA aP p;rw[bQ]at Y;have cp:=S.OT p;have aT:=aH p;rw[jz]at aT;rw[cp]at aK Y aJ;have bY:=aaa ((D.map (aaH rows)).count p) NH;have bZ:=bW (((D.map (aaH rows)).count p+1:Nat):Int);have mn:=Dv (c:Int) (od.1:Int);have mx:=z6 (c:Int) (od.1:Int);have b0:aBuild Tryz.prog 38 [(0,.int .i64 (min (c:Int) (od.1:Int))),(1,.int .i64 (max (c:Int) (od.1:Int)))]=some (UI p):=by rw[hE];exact xe _ _
 have b1:=aaa j NH;have b2:=AHeap.Y3 (H.put M (.map (wy I))) M (.map (wy (setK l p (((D.map (aaH rows)).count p+1:Nat):Int))));have lb:Le h ((H.put M (.map (wy I))).put M (.map (wy (setK l p (((D.map (aaH rows)).count p+1:Nat):Int))))):=(l9.put _ nM).put _ nM;have b3:((H.put M (.map (wy I))).put M (.map (wy (setK l p (((D.map (aaH rows)).count p+1:Nat):Int))))).own T=some (.cells [.int .i64 ((aen rows D+(od.2+1):Nat):Int)]):=(by rw[AHeap.By _ _ _ _ A,AHeap.By _ _ _ _ A];exact bH);have b4:((H.put M (.map (wy I))).put M (.map (wy (setK l p (((D.map (aaH rows)).count p+1:Nat):Int))))).own B=some (.cells [C]):=(by rw[AHeap.By _ _ _ _ G,AHeap.By _ _ _ _ G];exact bI);have wb:WF ((H.put M (.map (wy I))).put M (.map (wy (setK l p (((D.map (aaH rows)).count p+1:Nat):Int))))):=(w9.put _ (w9.lt F)).put _ ((w9.put _ (w9.lt F)).lt aP);have S1:agd rows D1 ((H.put M (.map (wy I))).put M (.map (wy (setK l p (((D.map (aaH rows)).count p+1:Nat):Int))))) M T B C (setK l p (((D.map (aaH rows)).count p+1:Nat):Int)):=by
  refine⟨b2,by rw[aF];exact b3,b4,fun q=>?_⟩;rw[XR,bB,List.count_append,List.count_singleton];by_cases e:p=q
  .subst e;rw[if_pos rfl];simp
  .rw[if_neg e,S.OT q,if_neg (by simpa using e)];rfl
 refine Uy ?_;refine gh (tA [0,1,2,3,4,5,6,7] (.ch 8 [0,7] (tA [9] (JQ 10 [0,1,2,3,4,5,6,7] (tA [11] (JQ 12 [0,1,2,3,4,5,6,7,8,9,10,11] .done)))) (JQ 10 [0,1,2,3,4,5,6,7] (tA [11] (JQ 8 [0,7] (tA [9] (JQ 12 [0,1,2,3,4,5,6,7,8,9,10,11] .done))))))) ?_;simp only[HO,Nat.reduceLT,↓reduceIte,Nat.reduceEqDiff,reduceCtorEq,Nat.reduceBEq,Qg,mn,mx,b0,wD,aK,Y,bY,aJ,bZ,b1];generalize (H.put M (.map (wy I))).put M (.map (wy (setK l p (((D.map (aaH rows)).count p+1:Nat):Int))))=g at*;refine⟨?_,?_⟩
 all_goals exact lgA (JS t) ⟨j+1,_,rfl,t,rfl,by rw[bF];exact S1,lb⟩
variable {g:AHeap} {l:II} {o v:Value} {xs ys:RZ} {α:Type}
def aeV {P:α->Bool} {l:List α} (h:(l.take i).all P=true) (hi:i<l.length) (a:P l[i]=true):(l.take (i+1)).all P=true:=by rw[Sb hi,ahu,h];simp[a]
def age {P:α->Bool} {l:List α} (hi:i<l.length) (a:P l[i]=false):l.all P=false:=by
 rw[agW];intro h;rw[ff.1 h _ (ZT hi)]at a;cases a
theorem adZ (K:LA) (M:Nat) (l:List (Pr×Int)) (W:Pr->Nat) (y bv:Value) (A B:II) (h:AHeap) (oM:h.own M=some (.map (wy l))) (L:∀p,(lookK l p).getD 0=(W p:Int)) (ha:RL RP h y (kz A)) (hb:RL RP h bv (kz B)) (T:A.length<=1000) (U:B.length<=1000):
  AC Tryz.prog K 79 [.map (some M),y,bv] h fun x h'=>x=.bool (abh W A B)/\h'=h:=by
 refine AC.vE ⟨Tryz.func79,rfl,WY⟩ Tryz.ntmps79 Tryz.results79 fun N=>?_;simp only[Br,Nat.reduceAdd];have ln:=fun g=>ha.Uc g;have s:=fun g=>hb.Uc g;rw[y6]at ln s;simp only[HO,Nat.reduceLT,↓reduceIte,Nat.reduceEqDiff,reduceCtorEq,ln];refine lIn (fun k fr C=>∃i:Nat,k=A.length-i/\i<=A.length/\fr=mkF [(0,.map (some M)),(2,bv),(11,y),(12,.int .i64 A.length),(13,.int .i64 i)]/\C=h/\(A.take i).all (fun c=>B.all fun d=>c==d||W (min (c:Int) (d:Int),max (c:Int) (d:Int))==2)=true) ⟨0,rfl,Og _,rfl,rfl,rfl⟩ ?_;rintro k fr C O ⟨i,rfl,hi,rfl,rfl,n⟩;refine Uy ?_;refine Kl.intro (fun t=>?_) (fun hf=>?_)
 rotate_left
 .have q : A.length <= i := vp hf
  rw[yM q]at n;refine Uy ?_;exact(by grind [abh.eq_1])
 have b:i<A.length:=CC t;clear t;have D:=ha.TA i (by rw[y6];exact b);have u:=ha.DH i (by rw[y6];exact b);rw[sY b]at u;have E:=aeV n b;have Q:=age (P:=fun c=>B.all fun d=>c==d||W (min (c:Int) (d:Int),max (c:Int) (d:Int))==2) b;generalize A[i]=c at*;have F:=aaa i NH;refine Sk (Yb D u s) ?_;refine lIn (fun k fr H=>∃j:Nat,k=B.length-j/\j<=B.length/\fr=mkF [(0,.map (some M)),(2,bv),(8,.int .i64 (c:Nat)),(11,y),(12,.int .i64 A.length),(13,.int .i64 i),(17,bv),(18,.int .i64 B.length),(19,.int .i64 j)]/\H=C/\(B.take j).all (fun d=>c==d||W (min (c:Int) (d:Int),max (c:Int) (d:Int))==2)=true) ⟨0,rfl,Og _,rfl,rfl,rfl⟩ ?_;rintro k fr H R ⟨j,rfl,V,rfl,rfl,f⟩;refine Uy ?_;refine Kl.intro (fun t=>?_) (fun hf=>?_)
 rotate_left
 .have q : B.length <= j := vp hf
  rw[yM q]at f;refine Sk F ?_;exact lgA (JS b) ⟨i+1,rfl,b,rfl,rfl,E f⟩
 have a:j<B.length:=CC t;clear t;have r:=hb.TA j (by rw[y6];exact a);have m:=hb.DH j (by rw[y6];exact a);rw[sY a]at m;have o:=aeV f a;have I:=age (P:=fun d=>c==d||W (min (c:Int) (d:Int),max (c:Int) (d:Int))==2) a;generalize B[j]=d at*;have v:=aaa j NH;have mn:=Dv (c:Int) (d:Int);have J:=z6 (c:Int) (d:Int);have w:=xe (min (c:Int) (d:Int)) (max (c:Int) (d:Int));have G:=SA oM (min (c:Int) (d:Int),max (c:Int) (d:Int));rw[L]at G;by_cases e:c=d
 .have z : decide ((c : Int) = (d : Int)) = true := decide_eq_true NH
  refine Sk (IX r m @bne.eq_1.{0} z v) ?_
  exact lgA (JS a) ⟨j+1,rfl,a,rfl,rfl,o (by simp[e])⟩
 have z:decide ((c:Int)=(d:Int))=false:=decide_eq_false NH;by_cases S:W (min (c:Int) (d:Int),max (c:Int) (d:Int))=2
 .have d2 : decide ((W (min (c : Int) (d : Int), max (c : Int) (d : Int)) : Int) = 2) = true := decide_eq_true NH
  simp only[HO,Nat.reduceLT,↓reduceIte,Nat.reduceEqDiff,reduceCtorEq,r,m,bne,z,mn,J,w,wD,G,d2,v];exact lgA (JS a) ⟨j+1,rfl,a,rfl,rfl,o (by simp[S])⟩
 .have d2 : decide ((W (min (c : Int) (d : Int), max (c : Int) (d : Int)) : Int) = 2) = false := decide_eq_false NH
  simp only[HO,Nat.reduceLT,↓reduceIte,Nat.reduceEqDiff,reduceCtorEq,r,m,bne,z,mn,J,w,wD,G,d2];exact(by grind [abh.eq_1])
theorem GI.keep (r:GI h o ys) (k:∀b x,h.own b=some x->blk o=some b->g.own b=some x):GI g o ys:=by
 obtain⟨a,⟨rfl,i⟩|⟨id,c,cap,rfl,d,e,f⟩⟩:=r
 .exact⟨a,pw⟩
 .exact⟨a,.inr ⟨id,c,cap,rfl,k id _ d rfl,e,f⟩⟩
theorem GI.push2 {c h:AHeap} (g:GI h v xs) (go:GI h o ys) (n:∀b,blk v=some b->blk o≠some b) (l:Le c h) (e:Z2 c v) (hw:WF h) (x:Int) (f:xs.length<=100000):
  ∃v' d a,aBuildSlice Tryz.prog h 49 1 [(0,.int .i64 x)]=some (.slice (some ⟨h.next,0,none⟩) 1 1,d)/\aAppend Tryz.prog d 49 49 v (.slice (some ⟨h.next,0,none⟩) 1 1)=some (v',a)/\GI a v' (xs++[x])/\GI a o ys/\(∀b,blk v'=some b->blk o≠some b)/\Le c a/\Z2 c v':=by
 obtain⟨v',d,a,e4,i,j,p,l4,hf,r⟩:=g.push hw x f;obtain⟨l5,k⟩:=hf c l e;have own:∀b,blk o=some b->∃y,h.own b=some y:=fun b hb=>by
  cases q:h.own b with
  |none=>exact absurd q (GS.Sy go hb)
  |some y=>exact⟨y,rfl⟩
 refine⟨v',d,a,e4,i,j,(by grind [GI.keep]),fun b hb m=>?_,l5,k⟩;obtain⟨y,s⟩:=own b m;exact pw
def acH {P:Nat->Bool} (hi:i<l.length):(l.take (i+1)).filter P=(l.take i).filter P++if P l[i]then[l[i]]else[]:=by
 rw[Sb hi,N8];cases h:P l[i]<;>simp[h]
def ab9 (a b:II):kz (a++b)=kz a++kz b:=by simp[kz]
theorem afw (H:LA) (M:Nat) (l:List (Pr×Int)) (W:Pr->Nat) (cv:Value) (cs:II) (h:AHeap) (oM:h.own M=some (.map (wy l))) (T:∀p,(lookK l p).getD 0=(W p:Int)) (u:RL RP h cv (kz cs)) (lc:cs.length<=1000) (l0:0<cs.length):
  AC Tryz.prog H 80 [.map (some M),cv] h fun x h'=>x=.bool (aa1 W cs)/\Le h h':=by
 refine AC.vE ⟨Tryz.func80,rfl,WY⟩ Tryz.ntmps80 Tryz.results80 fun Y=>?_;simp only[Br,Nat.reduceAdd];have ln:=fun g=>u.Uc g;rw[y6]at ln;have F:=u.TA 0 (by rw[y6];exact l0);have Z:∀g,Le h g->aload Tryz.prog g 3 (elemAddr cv 0)=some (.int .i64 (cs.headD 0:Nat)):=fun g lg=>by
  have:=(u.le Nn.RP lg).DH 0 (by rw[y6];exact l0);rw[sY l0]at this;rw[this];cases cs with
  |nil=>cases l0
  |cons=>rfl
 simp only[Int.cast_ofNat_Int]at F;have hT:aa1 W cs=((cs.filter fun(c:Nat)=>W (((cs.headD 0:Nat):Int),(c:Int))==0).length==3&&!(cs.filter fun(c:Nat)=>W (((cs.headD 0:Nat):Int),(c:Int))!=0).contains (cs.headD 0)&&abh W (cs.filter fun(c:Nat)=>W (((cs.headD 0:Nat):Int),(c:Int))==0) (cs.filter fun(c:Nat)=>W (((cs.headD 0:Nat):Int),(c:Int))!=0)):=rfl;generalize cs.headD 0=f at*;simp only[HO,Nat.reduceLT,↓reduceIte,Nat.reduceEqDiff,reduceCtorEq,ln];refine lIn (fun k fr s=>∃(i:Nat) (m j:Value),k=cs.length-i/\i<=cs.length/\fr=mkF [(0,.map (some M)),(1,cv),(5,m),(6,j),(10,cv),(11,.int .i64 cs.length),(12,.int .i64 i)]/\GI s m (kz ((cs.take i).filter fun(c:Nat)=>W ((f:Int),(c:Int))==0))/\GI s j (kz ((cs.take i).filter fun(c:Nat)=>W ((f:Int),(c:Int))!=0))/\(∀b,blk m=some b->blk j≠some b)/\Le h s/\Z2 h m/\Z2 h j) ⟨0,_,_,rfl,Og _,rfl,GI.nil h,GI.nil h,(by grind [blk]),Le.refl _,fun b hb=>by simp[blk]at hb,fun b hb=>by simp[blk]at hb⟩ ?_;rintro k fr s v ⟨i,m,j,rfl,hi,rfl,w,gt,dj,t,pa,U⟩;have n:=Z s t;refine Uy ?_;refine Kl.intro (fun V=>?_) (fun hf=>?_)
 rotate_left
 .have I : cs.length <= i := vp hf
  rw[yM I]at w gt;have aa:=OM (fun(c:Nat)=>W ((f:Int),(c:Int))==0) cs;have ae:=OM (fun(c:Nat)=>W ((f:Int),(c:Int))!=0) cs;generalize cs.filter (fun(c:Nat)=>W ((f:Int),(c:Int))==0)=A at*;generalize cs.filter (fun(c:Nat)=>W ((f:Int),(c:Int))!=0)=B at*;have o:=fun g=>w.rl.Uc g;rw[y6]at o;by_cases X:A.length=3
  rotate_left
  .have d3 : decide ((A.length : Int) = 3) = false := decide_eq_false NH
   have e3:(A.length==3)=false:=by simpa using X
   refine Sk (XC o d3) ?_;exact pw
  have d3:decide ((A.length:Int)=3)=true:=decide_eq_true NH;have e3:(A.length==3)=true:=by simpa using X
  refine Sk (xU o d3 F n) ?_;refine TC.intro PJ ⟨qS35,rfl,WY⟩ (W3 H j (kz B) (f:Int) s gt.rl (by rw[y6];omega)) ?_;rintro y z w5 ⟨rfl,rfl⟩;have J:decide ((f:Int)∈kz B)=B.contains f:=by
   rw[abz,decide_eq_true_eq,dU,kz,Z6];exact pw
  rw[J];cases cB:B.contains f with
  |true=>
   refine Uy ?_;exact pw
  |false=>
   refine Uy ?_;refine TC.intro PJ ⟨Tryz.func79,rfl,WY⟩ (adZ H M l W m j A B z (t.own _ _ oM) T w.rl gt.rl NH NH) ?_;rintro y h6 w6 ⟨rfl,rfl⟩;refine Uy ?_;exact pw
 have a:i<cs.length:=CC V;clear V;have adc:=u.TA i (by rw[y6];exact a);have q:=(u.le Nn.RP t).DH i (by rw[y6];exact a);rw[sY a]at q;have fa:=acH (P:=fun(c:Nat)=>W ((f:Int),(c:Int))==0) a;have G:=acH (P:=fun(c:Nat)=>W ((f:Int),(c:Int))!=0) a;have K:(kz ((cs.take i).filter fun(c:Nat)=>W ((f:Int),(c:Int))==0)).length<=100000:=by rw[y6];exact(by grind [List.length_take])
 have L:(kz ((cs.take i).filter fun(c:Nat)=>W ((f:Int),(c:Int))!=0)).length<=100000:=by rw[y6];exact(by grind [List.length_take])
 generalize cs[i]=c at*;have C:=aaa i NH;have D:=xe (f:Int) (c:Int);have N:=SA (t.own _ _ oM) ((f:Int),(c:Int));rw[T]at N;by_cases e:W ((f:Int),(c:Int))=0
 .have O : decide ((W ((f : Int), (c : Int)) : Int) > 0) = false := decide_eq_false NH
  obtain⟨v',h4,z,e4,Q,R,d,E,l5,S⟩:=w.push2 gt dj t pa v (c:Int) K;rw[if_pos (by simp[e])]at fa;rw[if_neg (by simp[e]),wV]at G;have r:GI z v' (kz ((cs.take (i+1)).filter fun(c:Nat)=>W ((f:Int),(c:Int))==0)):=by rw[fa,ab9];exact R
  rw[<-G]at d;simp only[HO,Nat.reduceLT,↓reduceIte,Nat.reduceEqDiff,reduceCtorEq,adc,q,F,n,D,wD,N,O,e4,Q,C];exact lgA (JS a) ⟨i+1,v',j,rfl,a,rfl,r,d,E,l5,S,U⟩
 .have O : decide ((W ((f : Int), (c : Int)) : Int) > 0) = true := decide_eq_true NH
  obtain⟨v',h4,z,e4,Q,R,d,E,l5,S⟩:=gt.push2 w pw t U v (c:Int) L;rw[if_neg (by simp[e]),wV]at fa;rw[if_pos (by simp[e])]at G;have r:GI z v' (kz ((cs.take (i+1)).filter fun(c:Nat)=>W ((f:Int),(c:Int))!=0)):=by rw[G,ab9];exact R
  rw[<-fa]at d;simp only[HO,Nat.reduceLT,↓reduceIte,Nat.reduceEqDiff,reduceCtorEq,adc,q,F,n,D,wD,N,O,e4,Q,C];exact lgA (JS a) ⟨i+1,m,v',rfl,a,rfl,d,r,pw,l5,pa,S⟩
def aaW (r:RZ):Bool:=!(r.length==0||r.length==2||r.length==3||r.length==4)
def aa8 (rows:AM) (cs:II) (m:Nat) (E:Nat):Int:=
 if cs.any (fun c=>(rows.getD c []).length !=E)then 0
 else if aaU rows cs≠2*m then 0
 else if E=4 then(if abh (aaI rows cs) cs cs then 5 else 0)else if aa1 (aaI rows cs) cs then 33 else 0
def aa9 (es:List Pr):aaN es=if(Zh 200 es).any aaW then 0 else if(aad (Zh 200 es)).length=5 then aa8 (Zh 200 es) (aad (Zh 200 es)) es.length 4 else if(aad (Zh 200 es)).length=6 then aa8 (Zh 200 es) (aad (Zh 200 es)) es.length 3 else 0:=rfl
def abp {cs:II} {E:Nat} (h:∀c∈cs,(rows.getD c []).length=E):(aaj rows cs).length=E*cs.length:=by
 induction cs with
 |nil=>rfl
 |cons c cs a=>
  have:=a fun d hd=>h d (by simp[hd]);simp only[aaj,U0,j9,jz,Uz]at*;rw[this,h c Ma,Nat.mul_add];omega
def agF (rows:AM) (i:Nat):(List.range (i+1)).filter (aaA rows)=(List.range i).filter (aaA rows)++if aaA rows i then[i]else[]:=by
 rw[Bx,N8];cases h:aaA rows i<;>simp[h]
def any_take (h:(rows.take i).any aaW=false) (hi:i<rows.length) (hb:aaW rows[i]=false):(rows.take (i+1)).any aaW=false:=by rw[Sb hi,List.any_append,h];simp[hb]
theorem aba (T:LA) (O:Value) (es:List Pr) (h:AHeap) (W:PR h O es):
  AC Tryz.prog T 40 [O] h fun x h'=>x=.int .i64 (aaz es)/\Le h h':=by
 refine AC.vE ⟨YW,rfl,WY⟩ Tryz.ntmps40 Tryz.results40 fun aq=>?_;simp only[Br,Nat.reduceAdd];obtain⟨h2,h3,a2,s2,l3,w3,lG⟩:=newG (n:=200) aq W;have bg:=Wj (n:=200) W.sl;have X:GR h3 (.agg #[.int .i64 200,O]) ⟨200,es⟩:=⟨O,rfl,W.le l3⟩;refine Sk (xU bg a2 s2 ((lG h3 (Le.refl _)).1)) ?_;refine TC.intro PJ ⟨pE,rfl,WY⟩ (ak T _ ⟨200,es⟩ h3 X) ?_;rintro x h4 w4 ⟨⟨bb,rfl,Y⟩,l4⟩;cases bb with
 |false=>
  refine Uy ?_;exact(by grind [aaz.eq_1,Le.trans])
 |true=>
 have Z:bX ⟨((200:Nat):Int),es⟩:=Y.1 rfl;have m:aaz es=aaN es:=if_pos Z;clear Y;have av:=l3.trans l4;refine Sk ((lG h4 l4).1) ?_;refine TC.intro PJ ⟨zC,rfl,WY⟩ (oe T _ 200 es h4 (X.le l4) Z) ?_;rintro bv h5 w5 ⟨hb,l5⟩;have ay:=av.trans l5;have aW:es.length<=594:=Z.len;have hR:=Z.GD;rw[aa9]at m;have L:=fun cv cs g b1 b2 b3 b4 b5=>afv T bv cv (n:=200) (es:=es) cs g b1 b2 Z b3 b4 b5;have bl:=Xq 200 es;generalize Zh 200 es=rows at*;have lb:=fun g=>hb.len (P:=Tryz.prog) yU g;rw[bl]at lb;refine Sk lb ?_;refine lIn (fun k fr U=>∃(i:Nat) (cv:Value),k=200-i/\i<=200/\fr=mkF [(0,O),(4,bv),(5,cv),(20,bv),(21,.int .i64 (200:Nat)),(22,.int .i64 i)]/\GI U cv (kz ((List.range i).filter (aaA rows)))/\Le h5 U/\Z2 h5 cv/\(rows.take i).any aaW=false) ⟨0,_,rfl,Og _,rfl,GI.nil h5,Le.refl _,fun b hb=>by simp[blk]at hb,rfl⟩ ?_;rintro k fr U az ⟨i,cv,rfl,hi,rfl,gc,F,pc,t⟩;have aa:=ay.trans F;refine Uy ?_;refine Kl.intro (fun Q=>?_) (fun hf=>?_)
 rotate_left
 .have G : 200 <= i := by grind [vp]
  obtain rfl:i=200:=NH;rw[yM NH]at t;rw[t,if_neg Ma]at m;have aC:aad rows=(List.range 200).filter (aaA rows):=by rw[aad,bl]
  rw[<-aC]at gc;have H:∀c∈aad rows,c<200:=by grind
  generalize aad rows=cs at*;have lc:=fun g=>gc.rl.Uc g;rw[y6]at lc;by_cases c5:cs.length=5
  .have d5 : decide ((cs.length : Int) = 5) = true := decide_eq_true NH
   rw[if_pos c5]at m;simp only[HO,Nat.reduceLT,↓reduceIte,Nat.reduceEqDiff,reduceCtorEq,lc,d5];refine lIn (fun k fr I=>∃i:Nat,k=cs.length-i/\i<=cs.length/\fr=mkF [(0,O),(4,bv),(5,cv),(8,.int .i64 4),(46,cv),(47,.int .i64 cs.length),(48,.int .i64 i)]/\I=U/\∀c∈cs.take i,(rows.getD c []).length=4) ⟨0,rfl,Og _,rfl,rfl,fun c J=>by simp at J⟩ ?_;rintro k fr I aD ⟨i,rfl,hi,rfl,rfl,f⟩;refine Uy ?_;refine Kl.intro (fun Q=>?_) (fun hf=>?_)
   .have a : i < cs.length := CC Q
    clear Q;have A:=ZT a;have adc:=gc.rl.TA i (by rw[y6];exact a);have v:=gc.rl.DH i (by rw[y6];exact a);rw[sY a]at v;have R:=Sb a;generalize cs[i]=c at*;have aF:=H c A;have w:c<rows.length:=NH;have B:=hb.NS c w;obtain⟨u,C,hu⟩:=hb.Wm c w;have lu:=C I F;have gd:rows.getD c []=rows[c]:=D4 w;generalize rows[c]=r at*;have j:=fun g=>hu.Uc g;have o:=aaa i NH;by_cases e:r.length=4
    .have z : decide ((r.length : Int) = 4) = true := decide_eq_true NH
     simp only[HO,Nat.reduceLT,↓reduceIte,Nat.reduceEqDiff,reduceCtorEq,adc,v,B,lu,j,bne,z,o];exact lgA (JS a) ⟨i+1,rfl,a,rfl,rfl,fun d hd=>by
      rw[R]at hd;rcases qL7.1 hd with q|q
      .exact f d q
      .rw[jf.1 q,gd];exact e⟩
    .have z : decide ((r.length : Int) = 4) = false := decide_eq_false NH
     have p:cs.any (fun c=>(rows.getD c []).length !=4)=true:=by grind [List.any_eq_true]
     simp only[HO,Nat.reduceLT,↓reduceIte,Nat.reduceEqDiff,reduceCtorEq,adc,v,B,lu,j,bne,z];exact(by grind [aa8.eq_1])
   have G:cs.length<=i:=vp hf;rw[yM G]at f;have p:¬cs.any (fun c=>(rows.getD c []).length !=4)=true:=by grind [List.any_eq_true]
   rw[aa8,if_neg p]at m;refine Uy ?_;refine TC.intro PJ ⟨Tryz.func78,rfl,WY⟩ (L cv cs I (hb.le (Nn.RL Nn.RP) F) gc.rl (fun c J=>⟨H c J,by rw[f c J];decide⟩) (by rw[abp f];omega) NH) ?_;rintro x h8 w8 ⟨M,l,rfl,oM,hW,V⟩;have aH:=aa.trans V;have lP:=fun g=>W.len g;have D:awrap .i64 (2*(es.length:Int))=((2*es.length:Nat):Int):=by rw[ie _ NH NH];omega
   by_cases e:aaU rows cs=2*es.length
   rotate_left
   .have z : decide (((aaU rows cs : Nat) : Int) = ((2 * es.length : Nat) : Int)) = false := decide_eq_false NH
    rw[if_pos e]at m;refine Sk (xU lP D @bne.eq_1.{0} z) ?_
    exact pw
   have z:decide (((aaU rows cs:Nat):Int)=((2*es.length:Nat):Int))=true:=decide_eq_true NH;rw[if_neg (fun q=>q e)]at m;rw[if_pos rfl]at m;have d4:decide ((4:Int)=4)=true:=by decide
   have aJ:decide ((4:Int)=3)=false:=by decide
   refine Sk (IX lP D @bne.eq_1.{0} z d4) ?_
   refine TC.intro PJ ⟨Tryz.func79,rfl,WY⟩ (adZ T M l (aaI rows cs) cv cv cs cs h8 oM hW (gc.rl.le Nn.RP V) (gc.rl.le Nn.RP V) NH NH) ?_;rintro y h9 w9 ⟨rfl,rfl⟩;cases hE:abh (aaI rows cs) cs cs with
   |true=>
    rw[hE,if_pos rfl]at m;refine Uy ?_;exact pw
   |false=>
    rw[hE,if_neg Ma]at m;refine Sk aJ ?_;exact pw
  have d5:decide ((cs.length:Int)=5)=false:=decide_eq_false NH;rw[if_neg c5]at m;by_cases c6:cs.length=6
  .have d5 : decide ((cs.length : Int) = 5) = false := decide_eq_false NH
   rw[if_pos c6]at m;have d6:decide ((cs.length:Int)=6)=true:=decide_eq_true NH;simp only[HO,Nat.reduceLT,↓reduceIte,Nat.reduceEqDiff,reduceCtorEq,lc,d5,bne,d6];refine lIn (fun k fr I=>∃i:Nat,k=cs.length-i/\i<=cs.length/\fr=mkF [(0,O),(4,bv),(5,cv),(8,.int .i64 3),(46,cv),(47,.int .i64 cs.length),(48,.int .i64 i)]/\I=U/\∀c∈cs.take i,(rows.getD c []).length=3) ⟨0,rfl,Og _,rfl,rfl,fun c J=>by simp at J⟩ ?_;rintro k fr I aD ⟨i,rfl,hi,rfl,rfl,f⟩;refine Uy ?_;refine Kl.intro (fun Q=>?_) (fun hf=>?_)
   .have a : i < cs.length := CC Q
    clear Q;have A:=ZT a;have adc:=gc.rl.TA i (by rw[y6];exact a);have v:=gc.rl.DH i (by rw[y6];exact a);rw[sY a]at v;have R:=Sb a;generalize cs[i]=c at*;have aF:=H c A;have w:c<rows.length:=NH;have B:=hb.NS c w;obtain⟨u,C,hu⟩:=hb.Wm c w;have lu:=C I F;have gd:rows.getD c []=rows[c]:=D4 w;generalize rows[c]=r at*;have j:=fun g=>hu.Uc g;have o:=aaa i NH;by_cases e:r.length=3
    .have z : decide ((r.length : Int) = 3) = true := decide_eq_true NH
     simp only[HO,Nat.reduceLT,↓reduceIte,Nat.reduceEqDiff,reduceCtorEq,adc,v,B,lu,j,bne,z,o];exact lgA (JS a) ⟨i+1,rfl,a,rfl,rfl,fun d hd=>by
      rw[R]at hd;rcases qL7.1 hd with q|q
      .exact f d q
      .rw[jf.1 q,gd];exact e⟩
    .have z : decide ((r.length : Int) = 3) = false := decide_eq_false NH
     have p:cs.any (fun c=>(rows.getD c []).length !=3)=true:=by grind [List.any_eq_true]
     simp only[HO,Nat.reduceLT,↓reduceIte,Nat.reduceEqDiff,reduceCtorEq,adc,v,B,lu,j,bne,z];exact(by grind [aa8.eq_1])
   have G:cs.length<=i:=vp hf;rw[yM G]at f;have p:¬cs.any (fun c=>(rows.getD c []).length !=3)=true:=by grind [List.any_eq_true]
   rw[aa8,if_neg p]at m;refine Uy ?_;refine TC.intro PJ ⟨Tryz.func78,rfl,WY⟩ (L cv cs I (hb.le (Nn.RL Nn.RP) F) gc.rl (fun c J=>⟨H c J,by rw[f c J];decide⟩) (by rw[abp f];omega) NH) ?_;rintro x h8 w8 ⟨M,l,rfl,oM,hW,V⟩;have aH:=aa.trans V;have lP:=fun g=>W.len g;have D:awrap .i64 (2*(es.length:Int))=((2*es.length:Nat):Int):=by rw[ie _ NH NH];omega
   by_cases e:aaU rows cs=2*es.length
   rotate_left
   .have z : decide (((aaU rows cs : Nat) : Int) = ((2 * es.length : Nat) : Int)) = false := decide_eq_false NH
    rw[if_pos e]at m;refine Sk (xU lP D @bne.eq_1.{0} z) ?_
    exact pw
   have z:decide (((aaU rows cs:Nat):Int)=((2*es.length:Nat):Int))=true:=decide_eq_true NH;rw[if_neg (fun q=>q e)]at m;rw[if_neg WY]at m;have aK:decide ((3:Int)=4)=false:=by decide
   have d3:decide ((3:Int)=3)=true:=by decide
   refine Sk (bG lP D @bne.eq_1.{0} z aK d3) ?_
   refine TC.intro PJ ⟨Tryz.func80,rfl,WY⟩ (afw T M l (aaI rows cs) cv cs h8 oM hW (gc.rl.le Nn.RP V) NH NH) ?_;rintro y h9 w9 ⟨rfl,l9⟩;cases hE:aa1 (aaI rows cs) cs with
   |true=>
    rw[hE,if_pos rfl]at m;refine Uy ?_;exact(by grind [Le.trans])
   |false=>
    rw[hE,if_neg Ma]at m;refine Uy ?_;exact(by grind [Le.trans])
  have d6:decide ((cs.length:Int)=6)=false:=decide_eq_false NH;rw[if_neg c6]at m;simp only[HO,Nat.reduceLT,↓reduceIte,Nat.reduceEqDiff,reduceCtorEq,lc,d5,bne,d6];exact pw
 have a:i<200:=by grind [CC]
 clear Q;have K:i<rows.length:=NH;have B:=hb.NS i K;obtain⟨u,C,hu⟩:=hb.Wm i K;have lu:=C U F;have gd:rows.getD i []=rows[i]:=D4 K;have E:=agF rows i;have ae:aaA rows i=((rows[i]).length==3||(rows[i]).length==4):=by rw[aaA,gd]
 have N:=any_take t K;have ag:aaW rows[i]=true->rows.any aaW=true:=by grind [List.getElem_mem]
 generalize rows[i]=r at*;have j:=fun g=>hu.Uc g;have o:=aaa i NH;have aP:(kz ((List.range i).filter (aaA rows))).length<=100000:=by rw[y6];exact(by grind [List.length_filter_le])
 by_cases c0:r.length=0\/r.length=2
 .have cb : aaA rows i = false := by rw [ae]; rcases c0 with q | q <;> rw [q] <;> rfl
  rw[cb,if_neg Ma,wV]at E;have s:=N (by unfold aaW;rcases c0 with q|q<;>rw[q]<;>rfl);rcases c0 with q|q
  .have S : decide ((r.length : Int) = 0) = true := decide_eq_true NH
   simp only[HO,Nat.reduceLT,↓reduceIte,Nat.reduceEqDiff,reduceCtorEq,B,lu,j,S,o];exact lgA (JS a) ⟨i+1,cv,rfl,a,rfl,by rw[E];exact gc,F,pc,s⟩
  .have S : decide ((r.length : Int) = 0) = false := decide_eq_false NH
   have d2:decide ((r.length:Int)=2)=true:=decide_eq_true NH;simp only[HO,Nat.reduceLT,↓reduceIte,Nat.reduceEqDiff,reduceCtorEq,B,lu,j,S,d2,o];exact lgA (JS a) ⟨i+1,cv,rfl,a,rfl,by rw[E];exact gc,F,pc,s⟩
 have S:decide ((r.length:Int)=0)=false:=decide_eq_false NH;have d2:decide ((r.length:Int)=2)=false:=decide_eq_false NH;by_cases c3:r.length=3\/r.length=4
 .have cb : aaA rows i = true := by rw [ae]; rcases c3 with q | q <;> rw [q] <;> rfl
  rw[cb,if_pos rfl]at E;have s:=N (by unfold aaW;rcases c3 with q|q<;>rw[q]<;>rfl);obtain⟨v',h6,h7,e6,e7,g7,w7,l6,aT,-⟩:=gc.push az (i:Int) aP;obtain⟨l7,a7⟩:=aT h5 F pc;have aj:GI h7 v' (kz ((List.range (i+1)).filter (aaA rows))):=by rw[E,ab9];exact g7
  rcases c3 with q|q
  .have d3 : decide ((r.length : Int) = 3) = true := decide_eq_true NH
   simp only[HO,Nat.reduceLT,↓reduceIte,Nat.reduceEqDiff,reduceCtorEq,B,lu,j,S,d2,d3,e6,e7,o];exact lgA (JS a) ⟨i+1,v',rfl,a,rfl,aj,l7,a7,s⟩
  .have d3 : decide ((r.length : Int) = 3) = false := decide_eq_false NH
   have d4:decide ((r.length:Int)=4)=true:=decide_eq_true NH;simp only[HO,Nat.reduceLT,↓reduceIte,Nat.reduceEqDiff,reduceCtorEq,B,lu,j,S,d2,d3,d4,e6,e7,o];exact lgA (JS a) ⟨i+1,v',rfl,a,rfl,aj,l7,a7,s⟩
 have d3:decide ((r.length:Int)=3)=false:=decide_eq_false NH;have d4:decide ((r.length:Int)=4)=false:=decide_eq_false NH;have al:aaW r=true:=by
  unfold aaW;have e0:(r.length==0)=false:=by grind [beq_eq_false_iff_ne]
  have e2:(r.length==2)=false:=by grind [beq_eq_false_iff_ne]
  have e3:(r.length==3)=false:=by grind [beq_eq_false_iff_ne]
  have e4:(r.length==4)=false:=by grind [beq_eq_false_iff_ne]
  rw[e0,e2,e3,e4];rfl
 rw[ag al,if_pos rfl]at m;simp only[HO,Nat.reduceLT,↓reduceIte,Nat.reduceEqDiff,reduceCtorEq,B,lu,j,S,d2,d3,d4];exact pw
end
section
attribute [local irreducible] Kp MQ lU KO1 KO KN KX KE VK Kl ZJ TC aab
attribute [local irreducible] Jz JL vq cQ
open Go.Proofs
variable {h:AHeap} {i n:Nat} {ps:List Pr} {v:Value}
theorem aeW (K:LA) (id n i cap:Nat) (c:List Value) (h:AHeap) (L:h.own id=some (.cells c)) (hl:n*2<=c.length) (E:(c.take (n*2)).all (·.oneCell')=true) (hi:i<n) (hn:n<=100000) (w:n<=cap) (F:cap<RA):
  AC Tryz.prog K 73 [.slice (some ⟨id,0,none⟩) n cap,.int .i64 (i:Int),.int .i64 ((i+1:Nat):Int)] h fun x h'=>
   ∃y,y<=cap/\x=.slice (some ⟨id,0,none⟩) y cap/\y=n-1/\∃c',(h'.own id=some (.cells c')/\(∀f,Le f h->f.own id=none->Le f h')/\∀b o,b≠id->h.own b=some o->h'.own b=some o)/\c'.take ((n-1)*2)=c.take (i*2)++((c.drop ((i+1)*2)).take ((n-(i+1))*2)):=by
 have k:¬RA<=cap:=Fk.2 F;have d:=Uh;have j:=qS8;have M:(0:Int)<=(i:Int):=NH;have N:(i:Int)<=((i+1:Nat):Int):=NH;have e3:((i+1:Nat):Int)<=(n:Int):=NH;have e4:(0:Int)<=((i+1:Nat):Int):=NH;have G:(0:Int)<=(n:Int):=NH;have H:(n:Int)<=(cap:Int):=NH;have e7:(i:Int)<=(cap:Int):=NH;have A:∃v,aSlice Tryz.prog 22 (.slice (some ⟨id,0,none⟩) n cap) (some (.int .i64 (i:Int))) (some (.int .i64 ((i+1:Nat):Int))) (some (.int .i64 (n:Int)))=some v:=by
  refine⟨Value.slice (if n=i then some ⟨id,0,none⟩else some ⟨id,i*2,none⟩) (i+1-i) (n-i),?_⟩
  .simp only[aSlice,d,k,if_false,w,j,Cj,and_self,if_true,aBounds,aBound,M,N,e3,e4,G,H,HV,uu,Ip,WE,XJ]
 obtain⟨v1,A⟩:=A;have O:aSlice Tryz.prog 22 (.slice (some ⟨id,0,none⟩) n cap) none (some (.int .i64 (i:Int))) none=some (.slice (some ⟨id,0,none⟩) i cap):=pn d j i NH w F
 have Q:aSlice Tryz.prog 22 (.slice (some ⟨id,0,none⟩) n cap) (some (.int .i64 ((i+1:Nat):Int))) none none=some (.slice (if cap=i+1 then some ⟨id,0,none⟩else some ⟨id,(i+1)*2,none⟩) (n-(i+1)) (cap-(i+1))):=by
  have R:((i+1:Nat):Int)<=(n:Int):=e3;simp only[aSlice,d,k,if_false,w,j,Cj,and_self,if_true,aBounds,aBound,e4,R,HV,uu,Ip,WE,XJ]
 have rd:∀e,UA Tryz.prog e=2->srcCells Tryz.prog h e (.slice (if cap=i+1 then some ⟨id,0,none⟩else some ⟨id,(i+1)*2,none⟩) (n-(i+1)) (cap-(i+1)))=some (n-(i+1),(c.drop ((i+1)*2)).take ((n-(i+1))*2)):=fun e he=>by
  by_cases q:cap=i+1
  .have z : n - (i + 1) = 0 := NH
   rw[if_pos q,z];simp[srcCells,readN]
  grind [qF,srcCells]
 have nl:((c.drop ((i+1)*2)).take ((n-(i+1))*2)).length=(n-(i+1))*2:=pw;have n1:((c.drop ((i+1)*2)).take ((n-(i+1))*2)).all (·.oneCell')=true:=by
  rw[ff]at E ⊢;intro x S;refine E x ?_;obtain⟨q,B⟩:=IE.1 S;rw[Dj]at B;split at B
  .refine Gc (i := (i + 1) * 2 + q) ?_
   grind
  .cases B
 have app:∃c1 l,(l.own id=some (.cells c1)/\(∀f,Le f h->f.own id=none->Le f l)/\∀b o,b≠id->h.own b=some o->l.own b=some o)/\aAppend Tryz.prog h 22 22 (.slice (some ⟨id,0,none⟩) i cap) (.slice (if cap=i+1 then some ⟨id,0,none⟩else some ⟨id,(i+1)*2,none⟩) (n-(i+1)) (cap-(i+1)))=some (.slice (some ⟨id,0,none⟩) (n-1) cap,l)/\c1.length=c.length/\
   c1.take ((n-1)*2)=c.take (i*2)++((c.drop ((i+1)*2)).take ((n-(i+1))*2)):=by
  have u:azero Tryz.prog 38=some (.agg #[Value.int .i64 0,Value.int .i64 0]):=Ji;have I:(Value.agg #[Value.int .i64 0,Value.int .i64 0]).cells.size=UA Tryz.prog 38/\(Value.agg #[Value.int .i64 0,Value.int .i64 0]).cells.toList.all (·.oneCell')=true:=⟨by kernel_rfl,by kernel_rfl⟩;have hs:=rd 38 WE;have T:Tryz.prog.bytesOf 38<=1000:=by decide
  have U:(i+(n-(i+1)))*Tryz.prog.bytesOf 38<=140737488355328:=Hs (KV (show i+(n-(i+1))<=100000 by omega) T) WY;have V:i+(n-(i+1))<=140737488355328:=NH;have J:(Value.agg #[Value.int .i64 0,Value.int .i64 0]).cells.size=UA Tryz.prog 38/\(Value.agg #[Value.int .i64 0,Value.int .i64 0]).cells.toList.all (·.oneCell')/\(Tryz.prog.underlying 38).isSome/\notIntD (.slice 38)/\((c.drop ((i+1)*2)).take ((n-(i+1))*2)).all (·.oneCell')/\(i+(n-(i+1)))*Tryz.prog.bytesOf 38<=140737488355328/\i+(n-(i+1))<=140737488355328/\((c.drop ((i+1)*2)).take ((n-(i+1))*2)).length=(n-(i+1))*UA Tryz.prog 38:=
   ⟨I.1,I.2,by rfl,rfl,n1,U,V,by grind [WE]⟩
  by_cases W:n-(i+1)=0
  .refine ⟨c, h, pw, ?_, rfl, ?_⟩
   .simp only [aAppend, d, u, hs]
    grind
   .rw [W]
    grind
  .have room : i * 2 + ((c.drop ((i + 1) * 2)).take ((n - (i + 1)) * 2)).length <= c.length := pw
   refine⟨putCells c (i*2) ((c.drop ((i+1)*2)).take ((n-(i+1))*2)),_,⟨AHeap.Y3 _ _ _,fun f X hf=>X.put _ hf,fun b o hb L=>by grind [AHeap.By]⟩,?_,O7 _ _ _,?_⟩
   .simp only [aAppend, d, u, hs]
    grind [WE]
   .rw[IW _ _ _ room,gX pw,yM pw]
 obtain⟨c1,l,⟨Y,Z,aa⟩,app,ae,C⟩:=app;have S4:aSlice Tryz.prog 22 (.slice (some ⟨id,0,none⟩) (n-1) cap) (some (.int .i64 ((n-1:Nat):Int))) (some (.int .i64 (n:Int))) none=some (.slice (some ⟨id,(n-1)*2,none⟩) 1 (cap-(n-1))):=by
  have a1:((n-1:Nat):Int)<=(n:Int):=NH;have a2:(0:Int)<=((n-1:Nat):Int):=NH;have a3:n-1<=cap:=NH;have a4:¬cap=n-1:=NH;have a5:n-(n-1)=1:=NH;simp only[aSlice,d,k,if_false,a3,j,Cj,and_self,if_true,aBounds,aBound,G,H,a1,a2,HV,a4,a5,uu,Ip,WE,XJ]
 have p:∃c2,aClear Tryz.prog l 22 (.slice (some ⟨id,(n-1)*2,none⟩) 1 (cap-(n-1)))=some (.tuple #[],l.put id (.cells c2))/\c2.take ((n-1)*2)=c1.take ((n-1)*2):=by
  have u:azero Tryz.prog 38=some (.agg #[Value.int .i64 0,Value.int .i64 0]):=Ji;have ag:(Value.agg #[Value.int .i64 0,Value.int .i64 0]).cells=#[Value.int .i64 0,Value.int .i64 0]:=Ji;have zr:zrow (Value.agg #[Value.int .i64 0,Value.int .i64 0]).cells.toList 1=[Value.int .i64 0,Value.int .i64 0]:=Ji;refine⟨putCells c1 ((n-1)*2) [Value.int .i64 0,Value.int .i64 0],?_,?_⟩
  .have r : (n - 1) * 2 + 1 * (Value.agg #[Value.int .i64 0, Value.int .i64 0]).cells.size <= c1.length := pw
   have fl:(Value.agg #[Value.int .i64 0,Value.int .i64 0]).cells.toList.all flat=true:=Ji;simp only[aClear,d,u,Y,fl,r,decide_true,Bool.and_self,cond_true,zr];rfl
  grind [IW]
 obtain⟨c2,p,D⟩:=p;refine AC.vE ⟨Tryz.func73,rfl,WY⟩ Tryz.ntmps73 Tryz.results73 fun aj=>?_;simp only[Br,Nat.reduceAdd];have s:=fun m g=>Jg (P:=Tryz.prog) (t:=22) (a:=some ⟨id,0,none⟩) (n:=m) (cap:=cap) d g;have d1:decide ((i:Int)=((i+1:Nat):Int))=false:=decide_eq_false NH;refine Sk (xU s A @lW d1) ?_;refine gh (tA [0,1,2,3,4,5] (JQ 6 [2,5] (JQ 7 [0,1,2,3,4,5,6] .done))) ?_;simp only[HO,Nat.reduceLT,↓reduceIte,Nat.reduceEqDiff,reduceCtorEq,Nat.reduceBEq,Qg,O,Q,app,s,S4,p];exact⟨n-1,NH,rfl,rfl,c2,(by grind [AHeap.Y3,Le.put,AHeap.By]),by rw[D,C]⟩
theorem aeX:∀(l:List Pr) (i:Nat),i<l.length->(Iu l).take (i*2)++((Iu l).drop ((i+1)*2)).take ((l.length-(i+1))*2)=Iu (l.eraseIdx i):=by grind [afq,za,Ta,mZ,List.eraseIdx_eq_take_drop_succ]
theorem aeY (q:LA) (g:GP h v ps) (hi:i<ps.length) (t:ps.length<=100000):
  AC Tryz.prog q 73 [v,.int .i64 (i:Int),.int .i64 ((i+1:Nat):Int)] h fun x h'=>PR h' x (ps.eraseIdx i)/\Ct x (ps.eraseIdx i).length/\∀f,Le f h->Z2 f v->Le f h':=by
 have a:(ps.eraseIdx i).length=ps.length-1:=by rw[QU,if_pos hi]
 have y:=aeX ps i hi;have d:=WI ps;obtain⟨z,⟨rfl,E⟩|⟨id,c,cap,rfl,u,p,A⟩⟩:=g
 .omega
 have e:ps.length*2<=c.length:=by
  have:=congrArg List.length p;rw[PN,z]at this;omega
 have B:c.take (i*2)=(Iu ps).take (i*2):=by rw[<-p,List.take_take];congr 1;omega
 have C:(c.drop ((i+1)*2)).take ((ps.length-(i+1))*2)=((Iu ps).drop ((i+1)*2)).take ((ps.length-(i+1))*2):=by rw[<-p,qL231,List.take_take];congr 1;omega
 have w:(c.take (ps.length*2)).all (·.oneCell')=true:=by rw[p];exact d
 have fin:∀(cap':Nat) (h':AHeap) (c':List Value),h'.own id=some (.cells c')->c'.take ((ps.length-1)*2)=c.take (i*2)++((c.drop ((i+1)*2)).take ((ps.length-(i+1))*2))->PR h' (.slice (some ⟨id,0,none⟩) (ps.length-1) cap') (ps.eraseIdx i):=fun cap' h' c' j ct=>by
  rw[B,C,y]at ct;have l:(ps.eraseIdx i).length=ps.length-1:=by rw[QU,if_pos hi]
  have hlen:(ps.length-1)*2<=c'.length:=by
   have:=congrArg List.length ct;rw[PN,Ta,l]at this;omega
  have:=CS.own (k:=2) (off:=0) (n:=ps.length-1) (cap:=cap') j NH;rw[Xz,ct]at this;unfold PR;rw[l];exact this
 rcases A with rfl|⟨rfl,m⟩
 .refine (AC.exact (Q := fun r h' => r = ps.length - 1 /\ ∃ c', (h'.own id = some (.cells c') /\ (∀ f, Le f h -> f.own id = none -> Le f h') /\ ∀ b o, b ≠ id -> h.own b = some o -> h'.own b = some o) /\ c'.take ((ps.length - 1) * 2) = c.take (i * 2) ++ ((c.drop ((i + 1) * 2)).take ((ps.length - (i + 1)) * 2))) NH fun cap h2 h3 => aeW q id ps.length i cap c h u e w hi t h2 h3).mono ?_
  rintro x h' ⟨r,rfl,rfl,c',⟨j,fr,D⟩,ct⟩;exact⟨fin _ h' c' j ct,by rw[a];exact⟨_,_,rfl,pw⟩,fun f s af=>fr f s (af id rfl)⟩
 .refine (aeW q id ps.length i ps.length c h u e w hi t (qL0 _) (Nat.lt_trans m WY)).mono ?_
  rintro x h' ⟨r,-,rfl,rfl,c',⟨j,fr,D⟩,ct⟩;exact⟨fin _ h' c' j ct,by rw[a];exact⟨_,_,rfl,.inl ⟨Nat.lt_trans m WY,NH⟩⟩,fun f s af=>fr f s (af id rfl)⟩
def agG (d:LA) (a b:Int) (h:AHeap):AC Tryz.prog d 164 [.int .i64 a,.int .i64 b] h fun x h'=>x=.bool (decide (a<b))/\h'=h:=by
 refine AC.vE ⟨Tryz.func164,rfl,WY⟩ Tryz.ntmps164 Tryz.results164 fun e=>?_;simp only[Br,Nat.reduceAdd];refine Uy ?_;refine TC.intro PJ ⟨qS23,rfl,WY⟩ (Pd d a h) ?_;rintro x f w1 ⟨rfl,rfl⟩;by_cases c:a<b
 .simp only[HO,Nat.reduceLT,↓reduceIte,Nat.reduceEqDiff,reduceCtorEq,c];exact⟨Ma,trivial⟩
 .simp only[HO,Nat.reduceLT,↓reduceIte,Nat.reduceEqDiff,reduceCtorEq,c];exact⟨Ma,trivial⟩
theorem acI (u:LA) (v:Value) (xs:RZ) (x:Int) (h:AHeap) (l:RL RP h v xs) (M:xs.length<=1000) (ha:xs.Pairwise (·<·)) (A:x∈xs):
  AC Tryz.prog u 123 [v,.int .i64 x] h fun y h'=>(∃i:Nat,y=.tuple #[.int .i64 i,.bool true]/\xs[i]?=some x)/\h'=h:=by
 have lt:∀(i j:Nat) a b,i<j->xs[i]?=some a->xs[j]?=some b->a<b:=fun i j a b B hi C=>by
  obtain⟨N,rfl⟩:=Ny.1 hi;obtain⟨h2,rfl⟩:=Ny.1 C;exact(by grind [List.pairwise_iff_getElem])
 obtain⟨q,f⟩:=IE.1 A;have n:=(Ny.1 f).1;refine AC.vE ⟨Tryz.func123,rfl,WY⟩ Tryz.ntmps123 Tryz.results123 fun D=>?_;simp only[Br,Nat.reduceAdd];have E:=fun g=>l.Uc g;refine Sk E ?_;refine lIn (fun k fr hh=>∃lo hi:Nat,k=hi-lo/\lo<=q/\q<=hi/\hi<=xs.length/\fr=mkF [(0,v),(1,.int .i64 x),(6,.int .i64 xs.length),(7,.int .i64 lo),(8,.int .i64 hi)]/\hh=h) ⟨0,xs.length,rfl,Og _,NH,qL0 _,rfl,rfl⟩ ?_;rintro k fr hh F ⟨lo,hi,rfl,p,s,t,rfl,rfl⟩;refine Uy ?_;refine Kl.intro (fun w=>?_) (fun hf=>?_)
 .have G : lo < hi := CC w
  clear w;have a1:awrap .i64 ((lo:Int)+(hi:Int))=((lo+hi:Nat):Int):=by grind [cT]
  have a2:=ahs (lo+hi) NH;have H:=Tq (lo+hi) NH;have I:awrap .i64 (((lo+hi) / 2:Nat):Int)=(((lo+hi) / 2:Nat):Int):=cT _ NH NH;have O:(lo+hi) / 2<hi:=NH;have J:lo<=(lo+hi) / 2:=NH;refine Sk (bG a1 @cv3u a2 H @cvu3 I) ?_;generalize (lo+hi) / 2=m at*;have d:m<xs.length:=NH;have ad:=l.TA m d;have ld:=l.DH m d;have o:=CA d;generalize xs[m]=y at*;simp only[HO,Nat.reduceLT,↓reduceIte,Nat.reduceEqDiff,reduceCtorEq,ad,ld];refine TC.intro PJ ⟨Tryz.func164,rfl,WY⟩ (agG u y x hh) ?_;rintro z h3 P ⟨rfl,rfl⟩;by_cases c:y<x
  .have dc : decide (y < x) = true := decide_eq_true c
   have e:m<q:=by
    rcases cJ m q with r|r|r
    .exact r
    .subst r;rw[o]at f;injection f with f;omega
    .have:=lt q m x y r f o;omega
   refine Sk (XC dc (aaa m NH)) ?_;exact lgA NH ⟨m+1,hi,rfl,e,s,t,rfl,rfl⟩
  .have dc : decide (y < x) = false := decide_eq_false c
   have e:q<=m:=by
    rcases Tj m q with r|r
    .exact pw
    .exact r
   refine Sk dc ?_;exact lgA NH ⟨lo,m,rfl,p,e,NH,rfl,rfl⟩
 have K:hi<=lo:=vp hf;obtain rfl:lo=q:=NH;have dl:decide ((lo:Int)<(xs.length:Int))=true:=decide_eq_true NH;have ad:=l.TA lo n;have ld:=l.DH lo n;rw[(Ny.1 f).2]at ld;have dx:decide (x=x)=true:=decide_eq_true rfl;have L:((lo:Int)<(xs.length:Int))=True:=pw;simp only[HO,Nat.reduceLT,↓reduceIte,Nat.reduceEqDiff,reduceCtorEq,L,dl,ad,ld,dx];exact pw
def idx_eq {b:List Pr} {x:Int} (h:(kz (aag n b))[i]?=some x):i=abD n b x:=by
 have f:(aag n b).Pairwise (·<·):=pz.filter _;unfold abD;generalize aag n b=l at*
 induction l generalizing i with
 |nil=>simp[kz]at h
 |cons a l g=>
  obtain⟨d,h2⟩:=gK.1 f;cases i with
  |zero=>
   have e:x=(a:Int):=by simpa[kz]using h.symm
   subst e;rw[qL164.2];intro v j;rcases EL.1 j with rfl|q
   .simp
   .have:=d v q;simp;omega
  |succ i=>
   have h':(kz l)[i]?=some x:=by simpa[kz]using h
   have hi:=g h' h2;obtain⟨w,hw,e⟩:=Z6.1 (Gc h');have c:(a:Int)<x:=by have:=d w hw;omega
   rw[agZ,if_pos (by simpa using c),<-hi]
def mkKI2 (h:AHeap) (a b:Int):aBuildSlice Tryz.prog h 49 2 [(0,.int .i64 a),(1,.int .i64 b)]=some (.slice (some ⟨h.next,0,none⟩) 2 2,h.alloc (.cells [.int .i64 a,.int .i64 b])):=Ji
def agH (l:List Pr) (p:Pr):adJ (l++[p])=adJ l++[p.1,p.2]:=by simp[adJ]
def adi (l:List Pr):(adJ l).length=2*l.length:=by
 induction l with
 |nil=>rfl
 |cons p l a=>simp only[adJ,U0,j9,Uz,Q9]at*;omega
theorem flat_any (m:LA) (bv:Value) (n:Nat) (b:List Pr) (h:AHeap) (r:PR h bv b) (hR:aV n b) (hn:n<=200) (hl:b.length<=594):
  AC Tryz.prog m 75 [bv] h fun x h'=>RR (aaV n b) x/\Le h h':=by
 have D:=fun g=>r.len g;refine AC.vE ⟨Tryz.func75,rfl,WY⟩ Tryz.ntmps75 Tryz.results75 fun aa=>?_;simp only[Br,Nat.reduceAdd];by_cases Y:b.length<9
 .have E : decide ((b.length : Int) < 9) = true := decide_eq_true NH
  refine Sk (XC D E) ?_;exact⟨⟨true,rfl,fun _=>.inl Y,fun _=>rfl⟩,Le.refl _⟩
 have E:decide ((b.length:Int)<9)=false:=decide_eq_false NH;refine Sk (XC D E) ?_;refine lIn (fun k fr o=>∃(i:Nat) (z:Value),k=b.length-i/\i<=b.length/\fr=mkF [(0,bv),(3,z),(18,bv),(19,.int .i64 b.length),(20,.int .i64 i)]/\GI o z (adJ (b.take i))/\Le h o/\Z2 h z) ⟨0,_,rfl,Og _,rfl,GI.nil h,Le.refl _,fun b hb=>by simp[blk]at hb⟩ ?_;rintro k fr o F ⟨i,z,rfl,hi,rfl,g,H,ap⟩;refine Uy ?_;refine Kl.intro (fun s=>?_) (fun hf=>?_)
 .have d : i < b.length := CC s
  clear s;have f:=CA d;have l:b.take (i+1)=b.take i++[b[i]]:=Sb d;have hle:(adJ (b.take i)).length<=2000:=by rw[adi,PN];omega
  generalize b[i]=p at f l;have ad:=r.addr (k:=.i64) i d;have ld:=(r.le H).load f;obtain⟨ae,h3,e2,e3,j,J,Z⟩:=Ut F p;have m0:=lK Z;have m1:=HY Z;have l3:=H.trans j;obtain⟨A,e4,l4,w4,o4⟩:=Tt J [.int .i64 p.1,.int .i64 p.2];have bs:=mkKI2 h3 p.1 p.2;rw[e4]at bs
  have r4:RL RP A (.slice (some ⟨h3.next,0,none⟩) 2 2) [p.1,p.2]:=RL.Wh (RS.whole o4 rfl)
  obtain⟨jv,h6,K,L,w6,f6,-⟩:=GI.join ((g.le j).le l4) w4 r4 (by simp;omega);obtain⟨l6,aj⟩:=f6 h (l3.trans l4) ap;rw[<-agH,<-l]at L;simp only[HO,Nat.reduceLT,↓reduceIte,Nat.reduceEqDiff,reduceCtorEq,ad,ld,e2,e3,Dh,Z0,Ip,XJ,m0,m1,bs,K,aaa i NH];exact lgA (JS d) ⟨i+1,jv,rfl,d,rfl,L,l6,aj⟩
 have t:b.length<=i:=vp hf;rw[yM t]at g;refine Uy ?_;refine TC.intro PJ ⟨qS32,rfl,WY⟩ (VQ m g (by rw[adi];omega)) ?_;rintro x h2 w2 ⟨rfl,g2,k2⟩;have M:=k2 h H ap;refine Uy ?_;refine TC.intro PJ ⟨Tryz.func122,rfl,WY⟩ (VY m g2 (by rw[OX,adi];omega)) ?_;rintro N h3 w3 ⟨O,-,k3⟩;have j:=k3 h M ap;rw[adX hR]at O;have lv:=fun g=>O.Uc g;rw[y6]at lv;obtain⟨A,h5,e4,e5,l5,w5,nX,G0⟩:=GX.new w3 ((aag n b).length:Int);refine Sk (IX lv @build24e e4 e5 D) ?_;have ag:(aag n b).length<=200:=Hs (OM _ _) (by simp;omega);have u:(kz (aag n b)).Pairwise (·<·):=by
  unfold kz;rw[wI];exact(pz.filter _).imp fun h=>by omega
 have P:h3.own h3.next=none:=by grind [Le.next]
 generalize h3.next=X at*
 refine lIn (fun k fr o=>∃(i:Nat) (B:Value),k=b.length-i/\i<=b.length/\fr=mkF [(3,N),(6,.pointer (some ⟨X,0,none⟩)),(39,bv),(40,.int .i64 b.length),(41,.int .i64 i)]/\GX o X (aag n b).length B (aat n b|>.take i)/\Le h3 o/\Z2 h3 B) ⟨0,_,rfl,Og _,rfl,G0,l5,fun b hb=>by simp[blk]at hb⟩ ?_;clear G0 w5 l5 e5 e4;rintro k fr hz Q ⟨i,B,rfl,hi,rfl,G,C,az⟩;refine Uy ?_;refine Kl.intro (fun s=>?_) (fun hf=>?_)
 .have d : i < b.length := CC s
  clear s;have f:=CA d;have R:(aat n b)[i]?=some ((abD n b b[i].1:Int),(abD n b b[i].2:Int)):=by rw[aat,Yq,f];rfl
  have l:(aat n b).take (i+1)=(aat n b).take i++[((abD n b b[i].1:Int),(abD n b b[i].2:Int))]:=by rw[Yl,R];rfl
  have v:((aat n b).take i).length+1<=100000:=by rw[PN];omega
  have al:=Gc f;have hm:∀x,aO b[i] x=true->x∈kz (aag n b):=by grind [adX,jn,Wv,aeS]
  have S:=hm b[i].1 (by simp[aO]);have T:=hm b[i].2 (by simp[aO]);generalize b[i]=p at*;have ad:=r.addr (k:=.i64) i d;have ld:=(r.le (j.trans C)).load f;obtain⟨aq,h6,K,s6,l6,w6,o6⟩:=Ut Q p;have m0:=lK o6;have m1:=HY o6;have r6:=O.le Nn.RP (C.trans l6);have aw:=aaa i NH;simp only[HO,Nat.reduceLT,↓reduceIte,Nat.reduceEqDiff,reduceCtorEq,ad,ld,K,s6,Dh,Z0,Ip,XJ,m0];refine TC.intro PJ ⟨Tryz.func123,rfl,WY⟩ (acI m N _ p.1 h6 r6 (by rw[y6];omega) u S) ?_;rintro y h7 w7 ⟨⟨a,rfl,ha⟩,rfl⟩;refine Sk (IX @Dh @Z0 @Ip.eq_1 @XJ m1) ?_;refine TC.intro PJ ⟨Tryz.func123,rfl,WY⟩ (acI m N _ p.2 h7 r6 (by rw[y6];omega) u T) ?_;rintro y h8 w8 ⟨⟨c,rfl,hc⟩,rfl⟩;obtain rfl:=idx_eq ha;obtain rfl:=idx_eq hc;have G6:=G.le l6;obtain⟨v',g4,g5,L,q4,q5,q6,G7,ar,l7,f7,-⟩:=G6.push' w8 ((abD n b p.1:Int),(abD n b p.2:Int)) v;obtain⟨U,a7⟩:=f7 h3 (C.trans l6) P az;rw[<-l]at G7;have V:=xe (abD n b p.1:Int) (abD n b p.2:Int);simp only[HO,Nat.reduceLT,↓reduceIte,Nat.reduceEqDiff,reduceCtorEq,Di,Ip,XJ,G6.ld.2.2,V,q4,q5,q6,aw];exact lgA (JS d) ⟨i+1,v',rfl,d,rfl,G7,U,a7⟩
 have t:b.length<=i:=vp hf;have v:(aat n b).length=b.length:=by simp[aat]
 rw[yM NH]at G;refine Sk G.ld.1 ?_;refine TC.intro PJ ⟨Tryz.func19,rfl,WY⟩ (Im m _ ⟨((aag n b).length:Int),aat n b⟩ hz ⟨B,rfl,G.gp.pr,GS.okc G.gp⟩) ?_;rintro x h9 w9 ⟨l9,rv,e,rfl,I⟩;have W:=(j.trans C).trans l9;have key:decide (e=0)=true↔aaV n b:=by
  rw[decide_eq_true_eq];constructor
  .intro he
   rcases I with⟨-,q,-⟩|⟨-,-,q,-⟩|⟨-,-,-,-,q,-⟩|⟨w,h2,rs,-,h3,A,-⟩
   .omega
   .omega
   .omega
   .exact .inr ⟨w,h2,Vg w.GD w.q9 h3 A⟩
  .rintro (q | ⟨w, h2, h3⟩)
   .exact absurd q Y
   .obtain ⟨rs, -, -, -, q, -⟩ := I.XK w h2 h3
    exact q
 refine Uy ?_;exact⟨⟨_,rfl,key⟩,W⟩
def fkM_len (key:Pr->Int) (es:List Pr):(CY key es).length<=es.length:=by
 have:∀(es:List Pr) (ks:RZ),(es.foldl (fkS key) ks).length<=ks.length+es.length:=by
  intro es
  induction es with
  |nil=>simp
  |cons p es a=>
   intro ks;have:=a (fkS key ks p);have h2:(fkS key ks p).length<=ks.length+1:=by unfold fkS;split<;>simp
   simp only[u3,Uz];omega
 have:=this es [];rw[Q9,XJ]at this;exact this
def afx (n:Nat) (es:List Pr):(vq n es).length<=es.length:=by rw[aaB,jz];exact fkM_len _ _
theorem aaO (o:LA) (v:Value) (G:GM) (h:AHeap) (hg:GR h v G):
  AC Tryz.prog o 37 [v] h fun x h'=>RR (bX G/\aak G.n.toNat G.es) x/\Le h h':=by
 have j:=hg;obtain⟨D,es⟩:=G
 obtain⟨ev,rfl,E⟩:=hg.open
 refine AC.vE ⟨zL,rfl,WY⟩ Tryz.ntmps37 Tryz.results37 fun F=>?_;simp only[Br,Nat.reduceAdd];obtain⟨O,T,r,U,-,Q⟩:=r8 (n:=D) F E
 generalize h.next=B at*
 have H:=Q O (Le.refl _);refine Sk (XC T H.1) ?_;refine TC.intro PJ ⟨Tryz.func46,rfl,WY⟩ (Cw o _ ⟨D,es⟩ O (j.le r)) ?_;rintro x h2 w2 ⟨l2,V⟩;have s:=Q h2 l2;have l:=r.trans l2;rcases V with⟨W,rfl⟩|⟨m,X,rfl,z⟩
 .refine Sk s.1 ?_
  refine TC.intro PJ ⟨pE,rfl,WY⟩ (ak o _ _ h2 (j.le l)) ?_;rintro x h3 Y ⟨⟨t,rfl,a⟩,l3⟩;cases t with
  |true=>exact absurd (a.1 rfl) W
  |false=>
   refine Uy ?_;exact(by grind [RR.f,Le.trans])
 refine Sk s.1 ?_;refine TC.intro PJ ⟨pE,rfl,WY⟩ (ak o _ _ h2 (j.le l)) ?_;rintro x h3 Y ⟨⟨t,rfl,a⟩,l3⟩;obtain rfl:t=true:=a.2 m;clear a;have I:=l.trans l3;have Z:0<=D:=m.n0;obtain⟨n,rfl⟩:=WA Z;simp only[HV]at z ⊢;have lk:=fun g=>z.len (P:=Tryz.prog) Gs g;have aa:aak n es↔∀b∈vq n es,aaV n b:=⟨fun q=>q.2,fun q=>⟨m,q⟩⟩;have w:∀b∈vq n es,b.Sublist es:=by grind [List.mem_iff_getElem?,Jh,List.filter_sublist]
 have ae:(vq n es).length<=100000:=by
  have:=afx n es;have:es.length<=594:=m.len;omega
 generalize vq n es=bs at*;have d0:decide ((0:Int)=0)=true:=by decide
 refine Sk (Yb @bne.eq_1.{0} d0 lk) ?_
 refine lIn (fun k fr A=>∃i:Nat,k=bs.length-i/\i<=bs.length/\fr=mkF [(19,X),(20,.int .i64 bs.length),(21,.int .i64 i)]/\Le h3 A/\∀b∈bs.take i,aaV n b) ⟨0,rfl,Og _,rfl,Le.refl _,fun b hb=>by simp at hb⟩ ?_;rintro k fr A ag ⟨i,rfl,hi,rfl,C,e⟩;refine Uy ?_;refine Kl.intro (fun R=>?_) (fun hf=>?_)
 rotate_left
 .have J : bs.length <= i := vp hf
  rw[yM J]at e;refine Uy ?_;exact⟨⟨true,rfl,pw,fun _=>rfl⟩,I.trans C⟩
 have d:i<bs.length:=CC R;clear R;have K:bs.take (i+1)=bs.take i++[bs[i]]:=Sb d;have L:=ZT d;have M:=z.addr (P:=Tryz.prog) Gs Uh Ji (k:=.i64) i d;obtain⟨u,N,hu⟩:=z.load' (P:=Tryz.prog) Uh rfl i d;have lu:=N A (l3.trans C);generalize bs[i]=b at*;have hs:=w b L;have y:b.length<=594:=Hs hs.length_le m.len;simp only[HO,Nat.reduceLT,↓reduceIte,Nat.reduceEqDiff,reduceCtorEq,M,lu];refine TC.intro PJ ⟨Tryz.func75,rfl,WY⟩ (flat_any o u n b A (hu.le (l3.trans C)) (fun p E=>m.GD p (hs.subset E)) (by have:(n:Int)<=200:=m.n1;omega) y) ?_;rintro x h5 w5 ⟨⟨t,rfl,a⟩,l5⟩;cases t with
 |false=>
  refine Uy ?_;exact(by grind [RR.f,Le.trans])
 |true=>
  refine Sk (aaa i NH) ?_;exact lgA (JS d) ⟨i+1,rfl,d,rfl,C.trans l5,fun c S=>by
   rw[K]at S;rcases qL7.1 S with q|q
   .exact e c q
   .rw[jf.1 q];exact a.1 rfl⟩
attribute [local instance] Classical.propDecidable in
theorem abq (e:LA) (v:Value) (G:GM) (h:AHeap) (hg:GR h v G):
  AC Tryz.prog e 35 [v] h fun x h'=>Le h h'/\((¬bX G/\x=.tuple #[.slice none 0 0,.int .i64 20])\/(bX G/\∃d,x=.tuple #[d,.int .i64 0]/\PR h' d (abv G)/\Ct d (abv G).length)):=by
 have m:=hg;obtain⟨Q,es⟩:=G
 obtain⟨V,rfl,R⟩:=hg.open
 refine AC.vE ⟨iZ,rfl,WY⟩ Tryz.ntmps35 Tryz.results35 fun A=>?_;simp only[Br,Nat.reduceAdd];obtain⟨C,W,f,X,-,z⟩:=r8 (n:=Q) A R
 generalize h.next=B at*
 have o:=z C (Le.refl _);refine Sk (XC W o.1) ?_;refine TC.intro PJ ⟨pE,rfl,WY⟩ (ak e _ _ C (m.le f)) ?_;rintro x h2 w2 ⟨⟨p,rfl,a⟩,l2⟩;have q:=z h2 l2;have r:=f.trans l2;cases p with
 |false=>
  refine Uy ?_;exact pw
 |true=>
 have D:=a.1 rfl;clear a;have Y:0<=Q:=D.n0;obtain⟨n,rfl⟩:=WA Y;refine Sk q.1 ?_;refine TC.intro PJ ⟨zL,rfl,WY⟩ (aaO e _ ⟨(n:Int),es⟩ h2 (m.le r)) ?_;rintro x h3 w3 ⟨⟨p,rfl,a⟩,l3⟩;simp only[HV]at a;have s:=r.trans l3
 have hf:∀F,F=abv ⟨(n:Int),es⟩->F=if aak n es then[]else findM n es.length 0 es:=fun F b=>b
 cases p with
 |true=>
  have:=hf _ rfl;rw[if_pos (a.1 rfl).2]at this;refine Uy ?_;exact(by grind [GP.nil,GP.pr,GP.ct])
 |false=>
 have b:=hf _ rfl;rw[if_neg pw]at b;generalize abv ⟨(n:Int),es⟩=F at*;clear hf a;have t:es.length<=594:=D.len;refine Sk (xU @Di @Ip.eq_1 @XJ ((z h3 (l2.trans l3)).2.2)) ?_;refine TC.intro PJ ⟨ahq,rfl,WY⟩ (DA e V es h3 (R.le s) NH) ?_;rintro d h4 Z ⟨E,l4,-⟩;have H:=s.trans l4;refine Uy ?_;refine lIn (fun k fr u=>∃(i:Nat) (l:List Pr) (d:Value),k=l.length-i/\i<=l.length/\fr=mkF [(1,.pointer (some ⟨B,0,none⟩)),(4,d),(5,.int .i64 i)]/\PR u d l/\Ct d l.length/\Le C u/\findM n (l.length-i) i l=F/\l.Sublist es) ⟨0,es,d,rfl,Og _,rfl,E.pr,E.ct,(by grind [Le.trans]),b.symm,zd _⟩ ?_;clear E Z l4 H b o q;clear d;rintro k fr u aa ⟨i,l,d,rfl,hi,rfl,pl,cl,I,b,hs⟩;have S:=fun g=>pl.len g;have ae:l.length<=594:=Hs hs.length_le t;have ag:=f.trans I;by_cases c:i<l.length
 rotate_left
 .have dc : decide ((i : Int) < (l.length : Int)) = false := decide_eq_false NH
  have J:((i:Int)<(l.length:Int))=False:=pw;have K:l.length-i=0:=NH;rw[K]at b;have b:l=F:=b;refine Sk (Yb S dc J) ?_;exact pw
 have dc:decide ((i:Int)<(l.length:Int))=true:=decide_eq_true NH;have J:((i:Int)<(l.length:Int))=True:=pw;have hk:l.length-i=(l.length-(i+1))+1:=NH;rw[hk,findM,if_pos c]at b;have aw:=aaa i NH;refine Sk (Yb S dc J) ?_;refine TC.intro PJ ⟨ahq,rfl,WY⟩ (DA e d l u pl NH) ?_;rintro cv h5 w5 ⟨g5,l5,a5⟩;simp only[HO,Nat.reduceLT,↓reduceIte,Nat.reduceEqDiff,reduceCtorEq,aw];refine TC.intro PJ ⟨Tryz.func73,rfl,WY⟩ (aeY e g5 c NH) ?_;rintro T U w6 ⟨L,c6,k6⟩;have j:=k6 u l5 a5;have M:=z U (I.trans j);have N:=Wj (n:=(n:Int)) L.sl;refine Sk (IX @Ii @Ip.eq_1 @XJ M.2.1 N) ?_;refine TC.intro PJ ⟨zL,rfl,WY⟩ (aaO e _ ⟨(n:Int),l.eraseIdx i⟩ U ⟨T,rfl,L⟩) ?_;rintro x h7 w7 ⟨⟨p,rfl,a⟩,O⟩;simp only[HV]at a;have w:=(Ex l i).trans hs;have aj:bX ⟨(n:Int),l.eraseIdx i⟩:=D.sub w;have P:(l.eraseIdx i).length=l.length-1:=by rw[QU,if_pos c]
 have y:=I.trans (j.trans O);cases p with
 |true=>
  rw[if_pos (a.1 rfl).2]at b;simp only[HO,Nat.reduceLT,↓reduceIte,Nat.reduceEqDiff,reduceCtorEq,aw];exact lgA NH ⟨i+1,l,d,rfl,c,rfl,pl.le (j.trans O),cl,y,b,hs⟩
 |false=>
  rw[if_neg pw]at b;refine Uy ?_;exact lgA NH ⟨i,l.eraseIdx i,T,rfl,NH,rfl,L.le O,c6,y,by rw[P,show l.length-1-i=l.length-(i+1) by omega];exact b,w⟩
variable {a j:Nat}
def acJ (a j:Nat):List Pr:=(List.range (j-(a+1))).map fun t=>((a:Int),((a+1+t:Nat):Int))
def eachF (f n:Nat):Nat->List Pr
 |0=>[]
 |k+1=>eachF f n k++acJ (f+k) n
def afy (h:a+1<=j):acJ a (j+1)=acJ a j++[((a:Int),(j:Int))]:=by
 unfold acJ;rw[show j+1-(a+1)=(j-(a+1))+1 by omega,Bx,bC];simp;omega
def ad4 (a j:Nat):(acJ a j).length<=j:=by simp[acJ]
def ad5 (f n:Nat):∀k,(eachF f n k).length<=n*k
 |0=>qL0 _
 |k+1=>by
  have:=ad5 f n k;have:=ad4 (f+k) n;rw[eachF,j9,Nat.mul_add];omega
def aeZ (f n:Nat):List Pr:=eachF f n (n-f)
def aca (y:LA) (f n:Nat) (h:AHeap) (u:n<=100) (hf:f<=n):AC Tryz.prog y 44 [.int .i64 (f:Int),.int .i64 (n:Int)] h fun x h'=>GP h' x (aeZ f n)/\Le h h'/\Z2 h x:=by
 refine AC.vE ⟨Tryz.func44,rfl,WY⟩ Tryz.ntmps44 Tryz.results44 fun z=>?_;simp only[Br,Nat.reduceAdd];have m:∀k,k<=n->(eachF f n k).length<=10000:=fun k A=>Hs (ad5 f n k) (KV u (Hs A u));refine Uy ?_;refine aab.intro (fun k fr l=>∃(i:Nat) (v:Value),k=n-f-i/\f+i<=n/\fr=mkF [(1,.int .i64 (n:Nat)),(5,v),(6,.int .i64 (f+i:Nat))]/\GP l v (eachF f n i)/\Le h l/\Z2 h v)
  (n-f) [(1,.int .i64 (n:Nat)),(5,.slice none 0 0),(6,.int .i64 (f:Nat))] fD ⟨0,_,rfl,hf,rfl,GP.nil h,Le.refl _,fun b hb=>by simp[blk]at hb⟩ ?_
 rintro k fr l o ⟨i,v,rfl,hi,rfl,g,d,ap⟩;by_cases c:f+i<n
 rotate_left
 .have dc : decide (((f + i : Nat) : Int) < (n : Int)) = false := decide_eq_false NH
  have a:(((f+i:Nat):Int)<(n:Int))=False:=eq_false NH;have e:n-f=i:=NH;refine Sk (XC dc a) ?_;exact⟨by rw[aeZ,e];exact g,d,ap⟩
 have dc:decide (((f+i:Nat):Int)<(n:Int))=true:=decide_eq_true NH;have a:(((f+i:Nat):Int)<(n:Int))=True:=eq_true NH;have aw:=aaa (f+i) NH;have B:=m i NH;simp only[HO,Nat.reduceLT,↓reduceIte,Nat.reduceEqDiff,reduceCtorEq,dc,a,aw];refine aab.intro (fun k fr p=>∃(j:Nat) (v:Value),k=n-j/\f+i+1<=j/\j<=n/\fr=mkF [(1,.int .i64 (n:Nat)),(5,v),(6,.int .i64 (f+i:Nat)),(7,.int .i64 (j:Nat))]/\GP p v (eachF f n i++acJ (f+i) j)/\Le h p/\Z2 h v)
  (n-(f+i+1)) [(1,.int .i64 (n:Nat)),(5,v),(6,.int .i64 (f+i:Nat)),(7,.int .i64 (f+i+1:Nat))] fD ⟨f+i+1,v,rfl,qL0 _,NH,rfl,by simpa[acJ]using g,d,ap⟩ ?_
 clear g d ap o;clear l v;rintro k fr p q ⟨j,v,rfl,C,D,rfl,g,d,ap⟩;by_cases c2:j<n
 rotate_left
 .have dc : decide (((j : Nat) : Int) < (n : Int)) = false := decide_eq_false NH
  have a:(((j:Nat):Int)<(n:Int))=False:=eq_false NH;obtain rfl:j=n:=NH;simp only[HO,Nat.reduceLT,↓reduceIte,Nat.reduceEqDiff,reduceCtorEq,dc,a,aw];exact tn (j-f-(i+1)) [(1,.int .i64 (j:Nat)),(5,v),(6,.int .i64 (f+i+1:Nat))] NH fD ⟨i+1,v,rfl,NH,rfl,g,d,ap⟩
 have dc:decide (((j:Nat):Int)<(n:Int))=true:=decide_eq_true NH;have a:(((j:Nat):Int)<(n:Int))=True:=eq_true NH;have r:=aaa j NH;have E:=ad4 (f+i) j;obtain⟨v',H,I,e4,F,w,J,l4,s,-⟩:=g.push q (((f+i:Nat):Int),(j:Int)) (by rw[j9];omega);obtain⟨l5,G⟩:=s h d ap;rw[Ki,<-afy C]at w;have t:=xe ((f+i:Nat):Int) (j:Int);refine Sk (bG dc a t e4 F r) ?_;exact tn (n-(j+1)) [(1,.int .i64 (n:Nat)),(5,v'),(6,.int .i64 (f+i:Nat)),(7,.int .i64 (j+1:Nat))] NH fD ⟨j+1,v',rfl,NH,NH,rfl,w,l5,G⟩
def mkP9 (h:AHeap) (a b c d e f g i j:Pr):aBuildSlice Tryz.prog h 22 9 [(0,UI a),(1,UI b),(2,UI c),(3,UI d),(4,UI e),(5,UI f),(6,UI g),(7,UI i),(8,UI j)]=some (.slice (some ⟨h.next,0,none⟩) 9 9,h.alloc (.cells (Iu [a,b,c,d,e,f,g,i,j]))):=Ji
def acK (c:LA) (h:AHeap):AC Tryz.prog c 71 [] h fun x h'=>GP h' x E9/\Le h h'/\Z2 h x:=by
 refine AC.vE ⟨Tryz.func71,rfl,WY⟩ Tryz.ntmps71 Tryz.results71 fun a=>?_;simp only[Br,Nat.reduceAdd];obtain⟨i,d,l1,w1,e⟩:=Tt a (Iu E9);have m:=mkP9 h (0,3) (0,4) (0,5) (1,3) (1,4) (1,5) (2,3) (2,4) (2,5);have f:Iu [(0,3),(0,4),(0,5),(1,3),(1,4),(1,5),(2,3),(2,4),(2,5)]=Iu E9:=rfl;rw[f,d]at m
 have g:h.own h.next=none:=(Le.refl h).next a (qL0 _)
 refine Sk (XC @xe m) ?_;exact⟨GS.full e rfl WY,l1,fun b hb=>by injection hb with hb;subst hb;exact g⟩
def abj (a:LA) (h:AHeap):AC Tryz.prog a 34 [] h fun x h'=>x=.bool true/\Le h h':=by
 refine AC.vE ⟨ahr,rfl,WY⟩ Tryz.ntmps34 Tryz.results34 fun aT=>?_;simp only[Br,Nat.reduceAdd];have P:decide ((0:Int)=0)=true:=by decide
 have d5:decide ((5:Int)=5)=true:=by decide
 have S:decide ((33:Int)=33)=true:=by decide
 have T:awrap .i64 (0+0)=0:=by decide
 have E5:aeZ 0 5=k5L:=by decide
 have E6:aeZ 0 6=k6L:=by decide
 have EU:aeZ 1 6=k5U:=by decide
 refine Uy ?_;refine TC.intro PJ ⟨Tryz.func44,rfl,WY⟩ (aca a 0 5 h WY WY) ?_;rintro U h1 w1 ⟨Q,l1,-⟩;rw[E5]at Q;refine Uy ?_;refine TC.intro PJ ⟨Tryz.func44,rfl,WY⟩ (aca a 0 6 h1 WY WY) ?_;rintro v6 h2 w2 ⟨V,l2,-⟩;rw[E6]at V;have j:=Q.le l2;have y:=Wj (n:=5) Q.pr.sl;refine Sk y ?_;refine TC.intro PJ ⟨iZ,rfl,WY⟩ (abq a _ ⟨((5:Nat):Int),k5L⟩ h2 ⟨U,rfl,j.pr⟩) ?_;rintro x h3 w3 ⟨l3,⟨k,-⟩|⟨-,a5,rfl,f5,-⟩⟩
 .exact absurd k5R k
 rw[fnd_k5]at f5;have W:=Wj (n:=6) V.pr.sl;refine Sk W ?_;refine TC.intro PJ ⟨iZ,rfl,WY⟩ (abq a _ ⟨((6:Nat):Int),k6L⟩ h3 ⟨v6,rfl,(V.le l3).pr⟩) ?_;rintro x h4 w4 ⟨l4,⟨k,-⟩|⟨-,a6,rfl,f6,-⟩⟩
 .exact absurd k6R k
 rw[fnd_k6]at f6;refine Uy ?_;refine TC.intro PJ ⟨Tryz.func71,rfl,WY⟩ (acK a h4) ?_;rintro v3 h5 w5 ⟨g3,l5,-⟩;have X:=Wj (n:=6) g3.pr.sl;refine Sk X ?_;refine TC.intro PJ ⟨iZ,rfl,WY⟩ (abq a _ ⟨((6:Nat):Int),E9⟩ h5 ⟨v3,rfl,g3.pr⟩) ?_;rintro x Y w6 ⟨l6,⟨k,-⟩|⟨-,a3,rfl,Z,-⟩⟩
 .exact absurd agB k
 rw[fnd_k33]at Z;obtain⟨h7,e7,R,w7,o7⟩:=Tt w6 (Iu c4E);have m7:=mkP4 Y (0,1) (0,3) (1,2) (2,3);have aa:Iu [(0,1),(0,3),(1,2),(2,3)]=Iu c4E:=rfl;rw[aa,e7]at m7
 have p7:PR h7 (.slice (some ⟨Y.next,0,none⟩) 4 4) c4E:=PR.made o7 rfl
 obtain⟨h8,h9,a8,s8,z,w9,lG⟩:=newG (n:=4) w7 p7;have ae:=Wj (n:=4) p7.sl;refine Sk (bG @xe m7 ae a8 s8 ((lG h9 (Le.refl _)).1)) ?_
 generalize Y.next=R4 at*
 generalize h7.next=G4 at*
 have p9:=p7.le z;refine TC.intro PJ ⟨iZ,rfl,WY⟩ (abq a _ ⟨((4:Nat):Int),c4E⟩ h9 ⟨_,rfl,p9⟩) ?_;rintro x A aW ⟨b,⟨k,-⟩|⟨-,a4,rfl,f4,-⟩⟩
 .exact absurd c4R k
 rw[fnd_c4]at f4;have m:=l3.trans (l4.trans (l5.trans (l6.trans (R.trans (z.trans b)))));refine Sk (XC T P) ?_;refine TC.intro PJ ⟨Tryz.func39,rfl,WY⟩ (abn a a5 U k5L k5L A (f5.le (l4.trans (l5.trans (l6.trans (R.trans (z.trans b)))))) (j.pr.le m) WY) ?_;rintro x B aX ⟨rfl,ag⟩;have o:Le A B:=by rw[ag];exact Le.refl _
 have sp:∀l:List Pr,decide (l=l)=true:=fun l=>decide_eq_true rfl;simp only[HO,Nat.reduceLT,↓reduceIte,Nat.reduceEqDiff,reduceCtorEq,sp];refine TC.intro PJ ⟨Tryz.func44,rfl,WY⟩ (aca a 1 6 B WY WY) ?_;rintro vU C a7 ⟨gU,p,-⟩;rw[EU]at gU;refine Uy ?_;have D:=f6.le (l5.trans (l6.trans (R.trans (z.trans (b.trans (o.trans p))))));refine TC.intro PJ ⟨Tryz.func39,rfl,WY⟩ (abn a a6 vU k5U k5U C D gU.pr WY) ?_;rintro x E bg ⟨rfl,aj⟩;have q:Le C E:=by rw[aj];exact Le.refl _
 simp only[HO,Nat.reduceLT,↓reduceIte,Nat.reduceEqDiff,reduceCtorEq,sp];refine TC.intro PJ ⟨Tryz.func71,rfl,WY⟩ (acK a E) ?_;rintro vT F bh ⟨gT,r,-⟩;refine Uy ?_;have G:=R.trans (z.trans (b.trans (o.trans (p.trans (q.trans r)))));refine TC.intro PJ ⟨Tryz.func39,rfl,WY⟩ (abn a a3 vT E9 E9 F (Z.le G) gT.pr WY) ?_;rintro x H bk ⟨rfl,al⟩;have s:Le F H:=by rw[al];exact Le.refl _
 have c:=o.trans (p.trans (q.trans (r.trans s)));have aq:=fun g=>f4.len g;have t:=j.pr.le (m.trans c);simp only[HO,Nat.reduceLT,↓reduceIte,Nat.reduceEqDiff,reduceCtorEq,sp,aq,Q9,JR,P];refine TC.intro PJ ⟨YW,rfl,WY⟩ (aba a U k5L H t) ?_;rintro x ar bm ⟨rfl,u⟩;obtain⟨cv,cut,pc,cc⟩:=t.cut (GS.okc Q) (i:=1) WY;simp only[afR]at cut;simp only[HO,Nat.reduceLT,↓reduceIte,Nat.reduceEqDiff,reduceCtorEq,agc,d5,cut];refine TC.intro PJ ⟨YW,rfl,WY⟩ (aba a cv m5E ar (pc.le u)) ?_;rintro x av bo ⟨rfl,I⟩;refine Sk (XC @kind_m5 P) ?_;refine TC.intro PJ ⟨YW,rfl,WY⟩ (aba a a6 k5U av ((D.le (q.trans (r.trans s))).le (u.trans I))) ?_;rintro x ay br ⟨rfl,az⟩;have d:=u.trans (I.trans az);refine Sk (XC @kind_k5U d5) ?_;refine TC.intro PJ ⟨YW,rfl,WY⟩ (aba a a3 E9 ay ((Z.le (G.trans s)).le d)) ?_;rintro x J bx ⟨rfl,K⟩;have f:=b.trans (c.trans (d.trans K));refine Sk (bG @aeU S @Di @Ip.eq_1 @XJ ((lG J f).2.2)) ?_;refine TC.intro PJ ⟨YW,rfl,WY⟩ (aba a _ c4E J (p9.le f)) ?_;rintro x L bB ⟨rfl,v⟩;refine Sk (Yb @kind_c4 P ((lG L (f.trans v)).1)) ?_;refine TC.intro PJ ⟨zL,rfl,WY⟩ (aaO a _ ⟨((4:Nat):Int),c4E⟩ L ⟨_,rfl,p9.le (f.trans v)⟩) ?_;rintro x aC bF ⟨⟨w,rfl,aD⟩,aF⟩;obtain rfl:w=true:=aD.2 ⟨c4R,agb⟩;have e:=d.trans (K.trans (v.trans aF));have aH:=Wj (n:=5) pc.sl;simp only[HO,Nat.reduceLT,↓reduceIte,Nat.reduceEqDiff,reduceCtorEq,cut,aH];refine TC.intro PJ ⟨zL,rfl,WY⟩ (aaO a _ ⟨((5:Nat):Int),m5E⟩ aC ⟨_,rfl,pc.le e⟩) ?_;rintro x aJ bH ⟨⟨w,rfl,M⟩,N⟩;obtain rfl:w=true:=M.2 ⟨m5R,m5_plan⟩;refine Sk y ?_;refine TC.intro PJ ⟨zL,rfl,WY⟩ (aaO a _ ⟨((5:Nat):Int),k5L⟩ aJ ⟨_,rfl,t.le (e.trans N)⟩) ?_;rintro x bI bN ⟨⟨w,rfl,O⟩,aK⟩;have aP:w=false:=by
  cases w with
  |false=>rfl
  |true=>exact absurd (O.1 rfl).2 k5_np
 subst aP;refine Uy ?_;exact⟨trivial,(l1.trans (l2.trans (m.trans c))).trans (e.trans (N.trans aK))⟩
end
end Go.Fw
namespace Go.Fw
open Go.Proofs
attribute [local irreducible] Jz JL vq cQ
attribute [local instance] Classical.propDecidable
theorem agf {on on':Nat->Bool} (b:∀u,on u=false->on' u=false) {es:List Pr} {u w:Nat} (h:Cn on es u w):Cn on' es u w:=by
 induction h with
 |refl h=>exact .refl (b _ h)
 |step _ a o c=>exact .step c a (b _ o)
def agI {on:Nat->Bool} {es:List Pr} {S:Nat->Prop} {x0 c:Nat} (h:Cn on es x0 c) (e:S x0) (b:¬S c):∃x y,S x/\¬S y/\Jp es x y/\Cn (fun u=>on u||decide (S u)) es y c:=by
 induction h with
 |refl _=>exact absurd e b
 |@step w x h a o f=>
  have d:(on x||decide (S x))=false:=by rw[o,decide_eq_false b];rfl
  by_cases hw:S w
  .exact⟨w,x,hw,b,a,.refl d⟩
  .obtain ⟨p, q, g, h2, h3, i⟩ := f hw
   exact⟨p,q,g,h2,h3,.step i a d⟩
theorem first_in {on:Nat->Bool} {es:List Pr} {t a w:Nat} (ne:a≠t) (h:Cn on es a w):Cn (fun u=>on u||decide (u=t)) es a w\/∃z,Jp es z t/\Cn (fun u=>on u||decide (u=t)) es a z:=by
 induction h with
 |refl h=>exact .inl (.refl (by rw[h,decide_eq_false ne];rfl))
 |@step w x h a o b=>
  rcases b with q|q
  .by_cases e : x = t
   .subst e;exact pw
   .exact .inl (.step q a (by rw[o,decide_eq_false e];rfl))
  .exact .inr q
def abb (n:Nat) (es:List Pr) (k:Int):List Pr:=es.filter fun p=>decide (cQ n es p=k)
section
variable {n : Nat} {es : List Pr} (hr : aV n es)
theorem aaw {k:Int} {p:Pr}:p∈abb n es k↔p∈es/\cQ n es p=k:=by simp[abb]
def blkE_sub (k:Int):(abb n es k).Sublist es:=eR
include hr
def agh (k:Int):aV n (abb n es k):=fun p a=>hr p (aaw.1 a).1
theorem abM {k:Int} {u w:Nat}:Jp (abb n es k) u w↔Jp es u w/\cQ n es (GW u w)=k:=by
 constructor
 .intro h
  have a:=aaw.1 (H4 (agh hr k) h);exact⟨h.imp (by grind [aaw]) (by grind [aaw]),a.2⟩
 .rintro ⟨a, h2⟩
  have b:=aaw.2 ⟨H4 hr a,h2⟩;have ne:u≠w:=fun e=>by subst e;exact Xa hr a
  rcases jV ne with c|c
  .left;rwa[GW,oK NH,WL NH]at b
  .right;rwa[GW,Int.min_eq_right NH,Int.max_eq_left NH]at b
theorem blk_path {v a c:Nat} (ha:Jp es v a) (o:Jp es v c) (h:Cn (wo v) es a c):Cn (wo v) (abb n es (cQ n es (GW v a))) a c:=by
 generalize p:cQ n es (GW v a)=K;have nva:a≠v:=by grind [Xa]
 refine qy fun r=>?_;have d:Cn (wo v) (abb n es K) a a:=.refl (iO nva);obtain⟨x,y,l,s,b,f⟩:=agI (S:=fun u=>Cn (wo v) (abb n es K) a u) h d r;have g:y≠v:=by grind [Cn.off1]
 have key:cQ n es (GW x y)=K:=by
  have off:∀u,(wo v u||decide (Cn (wo v) (abb n es K) a u))=false->wo x u=false:=by grind [of_decide_eq_false]
  have i:v≠x:=by grind [Cn.AB]
  have m:Cn (wo x) es y v:=.step (agf off f) o.symm (iO i);by_cases e:x=a
  .subst e
   rw[(dR hr b ha.symm).2 m,so];exact p
  .rcases first_in (uV e) l with q | ⟨z, t, q⟩
   .have:=q.AB;simp at this
   .obtain ⟨j, k⟩ := (abM hr).1 t
    have w:Cn (wo x) es a z:=by
     have:Cn (wo x) (abb n es K) a z:=by grind [agf]
     exact(by grind [Cn.mono,aaw])
    have ya:Cn (wo x) es y z:=(Cn.step m ha pw).trans w;rw[(dR hr b j.symm).2 ya,so];exact k
 exact s (.step l (by grind [abM]) (iO g))
theorem blk_one {k:Int} {p q:Pr} (b:p∈abb n es k) (d:q∈abb n es k):cQ n (abb n es k) p=cQ n (abb n es k) q:=by
 have hb:=agh hr k
 have:=adg hr (fun r=>if r∈abb n es k then cQ n (abb n es k) r else-1) (fun v a c ha f h=>?_) (aaw.1 b).1 (aaw.1 d).1 (by grind [aaw])
 .rw[if_pos b,if_pos d]at this;exact this
 have e:=(dR hr ha f).2 h;have m1:GW v a∈abb n es k↔cQ n es (GW v a)=k:=by rw[aaw];exact(by grind [H4])
 have m2:GW v c∈abb n es k↔cQ n es (GW v c)=k:=by rw[aaw];exact(by grind [H4])
 by_cases c1:cQ n es (GW v a)=k
 .have c2 : cQ n es (GW v c) = k := e ▸ c1
  rw[if_pos (m1.2 c1),if_pos (m2.2 c2)];refine(dR hb (by grind [abM]) (by grind [abM])).2 ?_;have:=blk_path hr ha f h;rwa[c1]at this
 .rw[if_neg (fun q=>c1 (m1.1 q)),if_neg (fun q=>c1 (by rw[e];exact m2.1 q))]
theorem key_mono {c:List Pr} (hs:∀p∈c,p∈es) {d:Nat} (e:aV d c) {p q:Pr} (f:p∈c) (g:q∈c) (h:cQ d c p=cQ d c q):cQ n es p=cQ n es q:=
 adg e (fun r=>cQ n es r) (fun v a b ha hb i=>(dR hr (ha.imp (hs _) (hs _)) (hb.imp (hs _) (hs _))).2 (i.mono hs)) f g h
end
theorem aaP {n:Nat} {es b:List Pr}:b∈vq n es↔∃p∈es,b=abb n es (cQ n es p):=by
 rw[aaB,Z6];constructor
 .rintro ⟨k, c, rfl⟩
  obtain⟨p,a,rfl⟩:=((lQ (cQ n es) _ es rfl).2 k).1 c;exact⟨p,a,rfl⟩
 .rintro ⟨p, a, rfl⟩
  exact⟨cQ n es p,((lQ (cQ n es) _ es rfl).2 _).2 ⟨p,a,rfl⟩,rfl⟩
theorem ae0 {n:Nat} {es:List Pr} (h:∀p∈es,∀q∈es,cQ n es p=cQ n es q) {b:List Pr} (hb:b∈vq n es):b=es:=by
 obtain⟨p,a,rfl⟩:=aaP.1 hb;exact Bn.2 (by grind [decide_eq_true])
theorem agJ {n:Nat} {es:List Pr} (h:∀p∈es,∀q∈es,cQ n es p=cQ n es q) (a:es≠[]):es∈vq n es:=by
 obtain⟨p,l,rfl⟩:=xD a;exact aaP.2 ⟨p,Ma,(Bn.2 (by grind [decide_eq_true])).symm⟩
def aeo (n:Nat) (b:List Pr):Prop:=bX ⟨(n:Int),b⟩/\b≠[]/\∀p∈b,∀q∈b,cQ n b p=cQ n b q
theorem aaQ {n:Nat} {es b:List Pr} (hr:bX ⟨(n:Int),es⟩) (hb:b∈vq n es):aeo n b:=by
 obtain⟨p,d,rfl⟩:=aaP.1 hb;exact⟨hr.sub (blkE_sub _),oZ (aaw.2 ⟨d,rfl⟩),fun a ha c e=>blk_one hr.GD ha e⟩
theorem abc {n:Nat} {b:List Pr} (h:aeo n b):aak n b↔aaV n b:=
 ⟨fun q=>q.2 b (agJ h.2.2 h.2.1),fun q=>⟨h.1,fun c a=>by rw[ae0 h.2.2 a];exact q⟩⟩
theorem acp {n:Nat} {es:List Pr} (hr:bX ⟨(n:Int),es⟩):aak n es↔∀b∈vq n es,aak n b:=
 ⟨fun q b hb=>(abc (aaQ hr hb)).2 (q.2 b hb),fun q=>⟨hr,(by grind [abc,aaQ])⟩⟩
end Go.Fw
