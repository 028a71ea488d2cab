/- A text. -/
import Derived.Test.YtkccdnmaaelbiaaGreatFwLT16
set_option linter.all false
set_option maxRecDepth 99999
set_option maxHeartbeats 9999999
namespace Go.Fw
section
attribute [local irreducible] Kp MQ lU rS KO KN KX KE VK Kl ZJ TC aab
open Go.Proofs
variable {B M T i n:Nat} {es:List Pr} {h:AHeap} {rows:AM}
def aen {l:List (Pr×Int)} (i:h.own M=some (.map (aan l))) (k:Pr):∃(j:Nat) (l1:List (Pr×Int)),
  aMapEntry Tryz.prog h 88 (.map (some M)) (UI k)=some (.tuple #[.int .i64 ((lookK l k).getD 0),.int .i64 (j:Int)],h.put M (.map (aan l1)))/\(lookK l1 k).getD 0=(lookK l k).getD 0/\
  ∀v:Int,aEntryStore (h.put M (.map (aan l1))) (.map (some M)) (.int .i64 (j:Int)) (.int .i64 v)=some ((h.put M (.map (aan l1))).put M (.map (aan (setK l k v)))):=by
 have m:azero Tryz.prog 3=some (.int .i64 0):=Ji;have hf:=afind_mapP k l 0;have hd:∀v:Int,_:=fun v=>Ek l k v;rcases Ek l k 0 with⟨a,n⟩|⟨j,b,a,h2,h3,n⟩
 .have d := hf.1 a
  refine⟨l.length,l++[(k,0)],?_,?_,fun v=>?_⟩
  .simp only [aMapEntry, zL, keyP, i, m, if_true, d, show flat (.int .i64 0) = true from rfl, a]
   simp[aan]
  .rw[<-n,XR,if_pos rfl,a];rfl
  .have hs:setK l k v=l++[(k,v)]:=by
    rcases hd v with⟨_,e⟩|⟨j,b,e,_⟩
    .exact e
    .rw[a]at e;cases e
   have f:(0:Int)<=(l.length:Int):=NH;simp only[aEntryStore,AHeap.Y3,f,if_true,Z6];rw[hs];simp[aan]
 .have c := hf.2 j b h2 h3
  rw[BS]at c;refine⟨j,l,?_,rfl,fun v=>?_⟩
  .simp only[aMapEntry,zL,keyP,i,m,if_true,c,a,Option.getD_some]
  .have hs:setK l k v=l.set j (k,v):=by
    rcases hd v with⟨e,_⟩|⟨g,s,e,o,p,r⟩
    .rw[a]at e;cases e
    .have:g=j:=by
      rcases Tj g j with q|q|q
      .exact absurd rfl (h3 g q _ o)
      .exact q
      .exact absurd rfl (p j q _ h2)
     rw[r,this]
   have f:(0:Int)<=(j:Int):=NH;have hg:(aan l)[j]?=some (UI k,.int .i64 b):=by simp[aan,h2]
   simp only[aEntryStore,AHeap.Y3,f,if_true,Z6,hg];rw[hs];simp[aan,Dk]
def bX.n200 (a:bX ⟨(n:Int),es⟩):n<=200:=by
 have:(n:Int)<=200:=a.n1;omega
def stKI {x:Value} (o:h.own T=some (.cells [x])) (y:Int):aStore Tryz.prog h 3 (.pointer (some ⟨T,0,none⟩)) (.int .i64 y)=some (h.put T (.cells [.int .i64 y])):=
 QB Mb Ji o Nat.zero_lt_one rfl rfl
def ldKI {x:Int} (o:h.own T=some (.cells [.int .i64 x])):aload Tryz.prog h 3 ⟨T,0,none⟩=some (.int .i64 x):=by rw[Fq Mb rfl o];rfl
def ldKR {a:Value} (o:h.own B=some (.cells [a])):aload Tryz.prog h 27 ⟨B,0,none⟩=some a:=by rw[Fq pE rfl o];rfl
def afd (V:LA) (T B:Nat) (Q:Value) (s c v:Nat) (t h:AHeap) (oT:h.own T=some (.cells [.int .i64 (s:Nat)])) (oB:h.own B=some (.cells [Q])) (F:B≠T) (hb:RL (RL RP) t Q (Zh n es)) (l0:Le t h) (nT:t.own T=none)
  (G:bX ⟨(n:Int),es⟩) (R:Jp es c v) (W:((Zh n es).getD c []).length≠2) (hs:s<=100000000):
  AC Tryz.prog V 128 [.int .i64 (c:Nat),.int .i64 (v:Nat),.pointer (some ⟨T,0,none⟩),.pointer (some ⟨B,0,none⟩)] h fun x h'=>x=.int .i64 ((aaj (Zh n es) (c,v)).1:Nat)/\h'.own T=some (.cells [.int .i64 ((s+((aaj (Zh n es) (c,v)).2+1):Nat):Int)])/\Le t h'/\∀b o,b≠T->h.own b=some o->h'.own b=some o:=by
 have hR:=G.GD;have hA:D3 es:=G.q9;obtain⟨K,hK,h2,h3,X⟩:=ab6 hR hA G.n200 R W;rw[X];have H:=aa5 hR hA (d:=(c,v)) R;have rt:=fun v=>aa9 hR hA (v:=v);have bl:=Xq n es;have bn:∀{x y},Jp es x y->y<n:=fun a=>(a.lt hR).2;generalize Zh n es=rows at*;refine AC.vE ⟨Tryz.func128,rfl,WY⟩ Tryz.ntmps128 Tryz.results128 fun w=>?_;simp only[Br,Nat.reduceAdd];have z:=ldKI oT;have A:=stKI oT ((s+1:Nat):Int);have C:=Tw s NH;refine Sk (Yb z C A) ?_;have w1:WF (h.put T (.cells [.int .i64 ((s+1:Nat):Int)])):=w.put _ (w.lt oT);refine aab.intro (fun k fr j=>∃i:Nat,k=K-i/\i<=K/\fr=mkF [(1,.int .i64 ((it (goS rows) i (c,v)).2:Nat)),(2,.pointer (some ⟨T,0,none⟩)),(3,.pointer (some ⟨B,0,none⟩)),(7,.int .i64 ((it (goS rows) i (c,v)).1:Nat))]/\
   j.own T=some (.cells [.int .i64 ((s+1+i:Nat):Int)])/\Le t j/\∀b o,b≠T->h.own b=some o->j.own b=some o)
  K [(1,.int .i64 (v:Nat)),(2,.pointer (some ⟨T,0,none⟩)),(3,.pointer (some ⟨B,0,none⟩)),(7,.int .i64 (c:Nat))] fD
  ⟨0,rfl,aal _,rfl,AHeap.Y3 _ _ _,l0.put _ nT,fun b o hb I=>by rw[AHeap.By _ _ _ _ hb];exact I⟩ ?_
 clear w1 A z C oT;rintro k fr j Y ⟨i,rfl,hi,rfl,oT,p,J⟩;have lB:=ldKR (J B _ F oB);have ha:=H i fun q j=>h2 q NH;generalize e:it (goS rows) i (c,v)=d at*;have l:d.2<rows.length:=by rw[bl];exact bn ha
 have L:=hb.NS d.2 l;obtain⟨u,M,r⟩:=hb.Wm d.2 l;have lu:=M j p;have gd:rows.getD d.2 []=rows[d.2]:=D4 l;have ln:=fun g=>r.Uc g;have S:=ldKI oT;have st:=stKI oT ((s+1+(i+1):Nat):Int);have aw:=Tw (s+1+i) NH;rw[aeF (s+1) i 1]at aw;by_cases c2:(rows.getD d.2 []).length=2
 rotate_left
 .have f:i=K:=by
   rcases fE i K with q|q
   .have:=h2 i q;rw[e]at this;exact absurd this c2
   .omega
  subst f;have d2:decide ((rows[d.2].length:Int)=2)=false:=decide_eq_false (by rw[gd]at c2;omega);rw[e];simp only[HO,Nat.reduceLT,↓reduceIte,Nat.reduceEqDiff,reduceCtorEq,lB,L,lu,ln,d2];have Z:s+1+i=s+(i+1):=NH;rw[Z]at oT;exact⟨trivial,oT,p,J⟩
 have f:i<K:=by
  rcases fE i K with q|q
  .exact q
  .obtain rfl : i = K := NH
   rw[e]at h3;exact absurd c2 h3
 obtain⟨a,b,N,ne,h4,h5,h6⟩:=rt d.2 c2;have D:it (goS rows) (i+1) (c,v)=goS rows d:=by rw[<-e];rfl
 have gs:goS rows d=(d.2,if(a:Int)=(d.1:Int)then b else a):=by
  unfold goS;rw[N];simp only[af1,af2];split<;>simp
 rw[gd]at N;rw[N]at r ln;have d2:decide ((([(a:Int),(b:Int)]:RZ).length:Int)=2)=true:=by simp
 have O:=r.TA 0 Ma;have a1:=r.TA 1 Ma;have m:=(r.le Nn.RP p).DH 0 Ma;have E:=(r.le Nn.RP p).DH 1 Ma;simp only[qL219,List.getElem_cons_succ]at m E;simp only[Int.cast_ofNat_Int]at O a1;have U:∀b o,b≠T->h.own b=some o->(j.put T (.cells [.int .i64 ((s+1+(i+1):Nat):Int)])).own b=some o:=fun b o hb I=>by rw[AHeap.By _ _ _ _ hb];exact J b o hb I
 by_cases ca:(a:Int)=(d.1:Int)
 .have P : decide ((a : Int) = (d.1 : Int)) = true := decide_eq_true ca
  rw[if_pos ca]at gs;simp only[HO,Nat.reduceLT,↓reduceIte,Nat.reduceEqDiff,reduceCtorEq,lB,L,lu,ln,d2,O,m,P,a1,E,S,aw,st];exact tn (K-(i+1)) [(1,.int .i64 (b:Nat)),(2,.pointer (some ⟨T,0,none⟩)),(3,.pointer (some ⟨B,0,none⟩)),(7,.int .i64 (d.2:Nat))] NH fD
   ⟨i+1,rfl,f,by rw[D,gs];rfl,AHeap.Y3 _ _ _,p.put _ nT,U⟩
 .have P : decide ((a : Int) = (d.1 : Int)) = false := decide_eq_false ca
  rw[if_neg ca]at gs;simp only[HO,Nat.reduceLT,↓reduceIte,Nat.reduceEqDiff,reduceCtorEq,lB,L,lu,ln,d2,O,m,P,S,aw,st];exact tn (K-(i+1)) [(1,.int .i64 (a:Nat)),(2,.pointer (some ⟨T,0,none⟩)),(3,.pointer (some ⟨B,0,none⟩)),(7,.int .i64 (d.2:Nat))] NH fD
   ⟨i+1,rfl,f,by rw[D,gs];rfl,AHeap.Y3 _ _ _,p.put _ nT,U⟩
def adi (rows:AM) (D:List (Nat×Nat)):Nat:=(D.map fun d=>(aaj rows d).2+1).sum
structure aeZ (rows:AM) (D:List (Nat×Nat)) (hq:AHeap) (M T B:Nat) (rv:Value) (l:List (Pr×Int)):Prop where
 oM:hq.own M=some (.map (aan l))
 oT:hq.own T=some (.cells [.int .i64 (adi rows D:Nat)])
 oB:hq.own B=some (.cells [rv])
 OT:∀p,(lookK l p).getD 0=(((D.map (aaD rows)).count p:Nat):Int)
def strS_le {D:List (Nat×Nat)} (h:∀d∈D,(aaj rows d).2<=40000):adi rows D<=40001*D.length:=by
 induction D with
 |nil=>simp[adi]
 |cons d D a=>
  have c:=h d Ma;have h2:=a fun e b=>h e (by simp[b]);simp only[adi,wI,MY,vg]at*;omega
def afe (rows:AM) (D:List (Nat×Nat)) (d:Nat×Nat):adi rows (D++[d])=adi rows D+((aaj rows d).2+1):=by simp[adi]
def aff {cs:II} (h:i<cs.length):aai rows (cs.take (i+1))=aai rows (cs.take i)++(rows.getD cs[i] []).map fun x=>(cs[i],x.toNat):=by
 unfold aai;rw[EL h,aeE];simp only[acw,List.flatMap_nil,gK]
def aeo (W0:LA) (C cv:Value) (cs:II) (h:AHeap) (hb:RL (RL RP) h C (Zh n es)) (J:RL RP h cv (aaa cs)) (hr:bX ⟨(n:Int),es⟩)
  (hc:∀c∈cs,c<n/\((Zh n es).getD c []).length≠2) (hl:(aai (Zh n es) cs).length<=1000) (b9:cs.length<=1000):
  AC Tryz.prog W0 78 [C,cv] h fun x h'=>∃(M:Nat) (l:List (Pr×Int)),x=.tuple #[.map (some M),.int .i64 (aaO (Zh n es) cs:Nat)]/\h'.own M=some (.map (aan l))/\(∀p,(lookK l p).getD 0=(aaE (Zh n es) cs p:Int))/\Le h h':=by
 have hR:=hr.GD;have hA:D3 es:=hr.q9;have Wn:=fun c v=>ab6 hR hA hr.n200 (c:=c) (v:=v);have f:=fun(T B:Nat) (s c v:Nat) (g:AHeap) a1 a2 a3 a4 a5 a6 a7 a8=>afd W0 T B C s c v h g a1 a2 a3 hb a4 a5 hr a6 a7 a8;have bl:=Xq n es;have bm:=EW hR;have bN:=fun u x=>Ru hR (u:=u) (x:=x);generalize Zh n es=rows at*;refine AC.vE ⟨Tryz.func78,rfl,WY⟩ Tryz.ntmps78 Tryz.results78 fun ae=>?_;simp only[Br,Nat.reduceAdd];obtain⟨m,e1,l1,w1,o1⟩:=Tt ae [C]
 have bx:zF h C=some (.pointer (some ⟨h.next,0,none⟩),m):=by
  obtain⟨a,c,rfl,_⟩:=hb.sl;rw[<-e1];rfl
 obtain⟨h2,e2,l2,w2,o2⟩:=Tt w1 [.int .i64 0]
 have al:aAlloc Tryz.prog m 3=some (.pointer (some ⟨m.next,0,none⟩),h2):=by rw[<-e2];rfl
 have ag:=stKI o2 0
 have nB:h.own h.next=none:=(Le.refl h).next ae (qL0 _)
 have z:m.own m.next=none:=(Le.refl m).next w1 (qL0 _)
 have nT:=l1.none z
 have aj:h.next≠m.next:=fun e=>by rw[<-e,o1]at z;cases z
 have E:Le m (h2.put m.next (.cells [.int .i64 0])):=l2.put _ z
 have L:WF (h2.put m.next (.cells [.int .i64 0])):=w2.put _ (w2.lt o2)
 have N:=AHeap.Y3 h2 m.next (.cells [.int .i64 0])
 generalize h2.put m.next (.cells [.int .i64 0])=y at*
 obtain⟨Z,e3,l3,w3,o3⟩:∃Z,y.alloc (.map [])=Z/\Le y Z/\WF Z/\Z.own y.next=some (.map []):=⟨_,rfl,(Le.refl y).alloc L _,L.alloc _,AHeap.zT _ _⟩
 have o:y.own y.next=none:=(Le.refl y).next L (qL0 _)
 have nM:h.own y.next=none:=(l1.trans E).none o
 have A:m.next≠y.next:=fun e=>by rw[<-e,N]at o;cases o
 have G:h.next≠y.next:=fun e=>by rw[<-e,E.own _ _ o1]at o;cases o
 have ln:=fun g=>J.Uc g;rw[y6]at ln;simp only[HO,Nat.reduceLT,↓reduceIte,Nat.reduceEqDiff,reduceCtorEq,bx,al,ag,e3,ln]
 have S0:aeZ rows (aai rows (cs.take 0)) Z y.next m.next h.next C []:=⟨o3,l3.own _ _ N,l3.own _ _ (E.own _ _ o1),fun p=>rfl⟩
 have aq:=(l1.trans E).trans l3
 generalize h.next=B at*
 generalize m.next=T at*
 generalize y.next=M at*
 clear e3 o3 o N ag z al e2 bx e1 o1 o2 l2 w2 l1 w1;refine lIn (fun k fr hq=>∃(i:Nat) (l:List (Pr×Int)),k=cs.length-i/\i<=cs.length/\fr=mkF [(2,.pointer (some ⟨B,0,none⟩)),(6,.pointer (some ⟨T,0,none⟩)),(7,.func (.func 128) #[] #[.pointer (some ⟨T,0,none⟩),.pointer (some ⟨B,0,none⟩)]),(8,.map (some M)),(16,cv),(17,.int .i64 cs.length),(18,.int .i64 i)]/\aeZ rows (aai rows (cs.take i)) hq M T B C l/\Le h hq) ⟨0,[],rfl,aal _,rfl,S0,aq⟩ ?_;clear S0 aq l3 w3;rintro k fr hq bb ⟨i,l,rfl,hi,rfl,S,lq⟩;refine Uy ?_;refine Kl.intro (fun ht=>?_) (fun hf=>?_)
 rotate_left
 .have O : cs.length <= i := vp hf
  rw[IE O]at S;have lT:=ldKI S.oT;refine Uy ?_;refine gh (tA [0,1,2,3] .done) ?_;refine CO lT ?_;exact⟨M,l,rfl,S.oM,S.OT,lq⟩
 have b:i<cs.length:=CC ht;clear ht;obtain⟨bg,P⟩:=hc cs[i] (Og b);have Q:cs[i]<rows.length:=by rw[bl];exact bg
 have av:∀i,i<=cs.length->(aai rows (cs.take i)).length<=(aai rows cs).length:=fun i _=>by
  have:aai rows cs=aai rows (cs.take i)++aai rows (cs.drop i):=by rw[aai,aai,aai,<-aeE,qL82]
  rw[this,vZ];omega
 have R:=aff (rows:=rows) b;have U:=av (i+1) b;have bh:∀d∈aai rows (cs.take i),(aaj rows d).2<=40000:=fun d hd=>by
  simp only[aai,QD,HV]at hd;obtain⟨c,bk,x,V,rfl⟩:=hd;obtain⟨w,rfl,_⟩:=bN c x V;obtain⟨K,k1,-,-,k2⟩:=Wn c w ((bm c w).1 V) (hc c (IK bk)).2;rw[Z6,k2];exact k1
 have adc:=J.TA i (by rw[y6];exact b);have W:=(J.le Nn.RP lq).DH i (by rw[y6];exact b);rw[sY b]at W;generalize cs[i]=c at*;have ar:=hb.NS c Q;obtain⟨u,ay,hu⟩:=hb.Wm c Q;have lu:=ay hq lq;have gd:rows.getD c []=rows[c]:=D4 Q;have bo:=fun g=>hu.Uc g;have X:∀x∈rows.getD c [],∃w:Nat,x=(w:Int)/\Jp es c w:=fun x V=>by
  obtain⟨w,rfl,_⟩:=bN c x V;exact⟨w,rfl,(bm c w).1 V⟩
 rw[R]at U;rw[gd]at R X U;have f:=fun s v g a1 a2 a4 a6 a8=>f T B s c v g a1 a2 aj a4 nT a6 P a8;have Wn:=fun v a=>Wn c v a P;clear P ay;generalize rows[c]=r at*;have lB:=ldKR S.oB;have br:=Tw i NH;simp only[HO,Nat.reduceLT,↓reduceIte,Nat.reduceEqDiff,reduceCtorEq,adc,W,lB,ar,lu,bo];simp only[vZ,eR]at U;have cc:r.length<=1000:=NH;refine lIn (fun k fr hz=>∃(j:Nat) (l:List (Pr×Int)),k=r.length-j/\j<=r.length/\fr=mkF [(2,.pointer (some ⟨B,0,none⟩)),(6,.pointer (some ⟨T,0,none⟩)),(7,.func (.func 128) #[] #[.pointer (some ⟨T,0,none⟩),.pointer (some ⟨B,0,none⟩)]),(8,.map (some M)),(10,.int .i64 (c:Nat)),(16,cv),(17,.int .i64 cs.length),(18,.int .i64 i),(25,u),(26,.int .i64 r.length),(27,.int .i64 j)]/\aeZ rows (aai rows (cs.take i)++(r.take j).map fun x=>(c,x.toNat)) hz M T B C l/\Le h hz) ⟨0,l,rfl,aal _,rfl,by simpa using S,lq⟩ ?_;clear S lq lu lB W;clear bb hq l;rintro k fr hz cd ⟨j,l,rfl,hj,rfl,S,lz⟩;refine Uy ?_;refine Kl.intro (fun ht=>?_) (fun hf=>?_)
 rotate_left
 .have O : r.length <= j := vp hf
  rw[IE O,<-R]at S;refine Sk br ?_;exact lgA (JS b) ⟨i+1,l,rfl,b,rfl,S,lz⟩
 have t:j<r.length:=CC ht;clear ht;obtain⟨v,az,aC⟩:=X r[j] (Og t);have bB:=hu.TA j t;have aD:=(hu.le Nn.RP lz).DH j t;have aH:(r.take (j+1)).map (fun x=>(c,x.toNat))=(r.take j).map (fun x=>(c,x.toNat))++[(c,v)]:=by rw[EL t,j3,az];simp
 rw[az]at aD;have cf:(aai rows (cs.take i)++(r.take j).map fun x=>(c,x.toNat)).length<=1000:=by simp only[vZ,eR,Cg];omega
 have bF:∀d∈aai rows (cs.take i)++(r.take j).map (fun x=>(c,x.toNat)),(aaj rows d).2<=40000:=fun d hd=>by
  rcases Sb.1 hd with q|q
  .exact bh d q
  .obtain ⟨x, V, rfl⟩ := HV.1 q
   obtain⟨w,rfl,ha⟩:=X x (IK V);obtain⟨K,k1,-,-,k2⟩:=Wn w ha;rw[Z6,k2];exact k1
 have cg:=strS_le bF;have aJ:=afe rows (aai rows (cs.take i)++(r.take j).map fun x=>(c,x.toNat)) (c,v);rw[rY,<-aH]at aJ;have aK:=fun p=>List.count_le_length (a:=p) (l:=(aai rows (cs.take i)++(r.take j).map fun x=>(c,x.toNat)).map (aaD rows));have bH:(aai rows (cs.take i)++(r.take (j+1)).map fun x=>(c,x.toNat)).map (aaD rows)=(aai rows (cs.take i)++(r.take j).map fun x=>(c,x.toNat)).map (aaD rows)++[aaD rows (c,v)]:=by rw[aH,<-rY,j3];rfl
 generalize aai rows (cs.take i)++(r.take j).map (fun x=>(c,x.toNat))=D at*;generalize bI:aai rows (cs.take i)++(r.take (j+1)).map (fun x=>(c,x.toNat))=D1 at*;refine Sk (XC bB aD) ?_;refine TC.intro PJ ⟨Tryz.func128,rfl,WY⟩ (f (adi rows D) v hz S.oT S.oB lz aC NH) ?_;rintro x H w9 ⟨rfl,bQ,l9,kp⟩;have F:=kp M _ A.symm S.oM;have bW:=kp B _ aj S.oB;have hE:aaD rows (c,v)=(min (c:Int) ((aaj rows (c,v)).1:Int),max (c:Int) ((aaj rows (c,v)).1:Int)):=rfl;generalize aaj rows (c,v)=od at*;generalize aaD rows (c,v)=p at*;obtain⟨jj,I,aP,bZ,b0⟩:=aen F p;have aT:=SA F p;have aW:=AHeap.Y3 H M (.map (aan I));have Y:=SA aW p;rw[bZ]at Y;have cp:=S.OT p;have aX:=aK p;rw[eR]at aX;rw[cp]at aT Y aP;have b1:=Tw ((D.map (aaD rows)).count p) NH;have b2:=b0 (((D.map (aaD rows)).count p+1:Nat):Int);have mn:=Dv (c:Int) (od.1:Int);have mx:=z6 (c:Int) (od.1:Int);have b3:aBuild Tryz.prog 38 [(0,.int .i64 (min (c:Int) (od.1:Int))),(1,.int .i64 (max (c:Int) (od.1:Int)))]=some (UI p):=by rw[hE];exact xe _ _
 have b4:=Tw j NH;have b5:=AHeap.Y3 (H.put M (.map (aan I))) M (.map (aan (setK l p (((D.map (aaD rows)).count p+1:Nat):Int))));have lb:Le h ((H.put M (.map (aan I))).put M (.map (aan (setK l p (((D.map (aaD rows)).count p+1:Nat):Int))))):=(l9.put _ nM).put _ nM;have b6:((H.put M (.map (aan I))).put M (.map (aan (setK l p (((D.map (aaD rows)).count p+1:Nat):Int))))).own T=some (.cells [.int .i64 ((adi rows D+(od.2+1):Nat):Int)]):=(by rw[AHeap.By _ _ _ _ A,AHeap.By _ _ _ _ A];exact bQ);have b8:((H.put M (.map (aan I))).put M (.map (aan (setK l p (((D.map (aaD rows)).count p+1:Nat):Int))))).own B=some (.cells [C]):=(by rw[AHeap.By _ _ _ _ G,AHeap.By _ _ _ _ G];exact bW);have wb:WF ((H.put M (.map (aan I))).put M (.map (aan (setK l p (((D.map (aaD rows)).count p+1:Nat):Int))))):=(w9.put _ (w9.lt F)).put _ ((w9.put _ (w9.lt F)).lt aW);have S1:aeZ rows D1 ((H.put M (.map (aan I))).put M (.map (aan (setK l p (((D.map (aaD rows)).count p+1:Nat):Int))))) M T B C (setK l p (((D.map (aaD rows)).count p+1:Nat):Int)):=by
  refine⟨b5,by rw[aJ];exact b6,b8,fun q=>?_⟩;rw[XR,bH,List.count_append,List.count_singleton];by_cases e:p=q
  .subst e;rw[if_pos rfl];simp
  .rw[if_neg e,S.OT q,if_neg (by simpa using e)];rfl
 refine Uy ?_;refine gh (tA [0,1,2,3,4,5,6,7] (.ch 8 [0,7] (tA [9] (JQ 10 [0,1,2,3,4,5,6,7] (tA [11] (JQ 12 [0,1,2,3,4,5,6,7,8,9,10,11] .done)))) (JQ 10 [0,1,2,3,4,5,6,7] (tA [11] (JQ 8 [0,7] (tA [9] (JQ 12 [0,1,2,3,4,5,6,7,8,9,10,11] .done))))))) ?_;simp only[HO,Nat.reduceLT,↓reduceIte,Nat.reduceEqDiff,reduceCtorEq,Nat.reduceBEq,Qg,mn,mx,b3,wD,aT,Y,b1,aP,b2,b4];generalize (H.put M (.map (aan I))).put M (.map (aan (setK l p (((D.map (aaD rows)).count p+1:Nat):Int))))=g at*;refine⟨?_,?_⟩
 all_goals exact lgA (JS t) ⟨j+1,_,rfl,t,rfl,by rw[bI];exact S1,lb⟩
variable {g:AHeap} {l:II} {o v:Value} {xs ys:RZ} {α:Type}
def ad5 {P:α->Bool} {l:List α} (h:(l.take i).all P=true) (hi:i<l.length) (a:P l[i]=true):(l.take (i+1)).all P=true:=by rw[EL hi,ti,h];simp[a]
def ae0 {P:α->Bool} {l:List α} (hi:i<l.length) (a:P l[i]=false):l.all P=false:=by
 rw[agc];intro h;rw[LH.1 h _ (Og hi)]at a;cases a
theorem acV (K:LA) (M:Nat) (l:List (Pr×Int)) (W:Pr->Nat) (y bv:Value) (A B:II) (h:AHeap) (oM:h.own M=some (.map (aan l))) (L:∀p,(lookK l p).getD 0=(W p:Int)) (ha:RL RP h y (aaa A)) (hb:RL RP h bv (aaa B)) (T:A.length<=1000) (U:B.length<=1000):
  AC Tryz.prog K 79 [.map (some M),y,bv] h fun x h'=>x=.bool (aba W A B)/\h'=h:=by
 refine AC.vE ⟨Tryz.func79,rfl,WY⟩ Tryz.ntmps79 Tryz.results79 fun N=>?_;simp only[Br,Nat.reduceAdd];have ln:=fun g=>ha.Uc g;have s:=fun g=>hb.Uc g;rw[y6]at ln s;simp only[HO,Nat.reduceLT,↓reduceIte,Nat.reduceEqDiff,reduceCtorEq,ln];refine lIn (fun k fr C=>∃i:Nat,k=A.length-i/\i<=A.length/\fr=mkF [(0,.map (some M)),(2,bv),(11,y),(12,.int .i64 A.length),(13,.int .i64 i)]/\C=h/\(A.take i).all (fun c=>B.all fun d=>c==d||W (min (c:Int) (d:Int),max (c:Int) (d:Int))==2)=true) ⟨0,rfl,aal _,rfl,rfl,rfl⟩ ?_;rintro k fr C O ⟨i,rfl,hi,rfl,rfl,n⟩;refine Uy ?_;refine Kl.intro (fun t=>?_) (fun hf=>?_)
 rotate_left
 .have q : A.length <= i := vp hf
  rw[IE q]at n;refine Uy ?_;exact(by grind [aba.eq_1])
 have b:i<A.length:=CC t;clear t;have D:=ha.TA i (by rw[y6];exact b);have u:=ha.DH i (by rw[y6];exact b);rw[sY b]at u;have E:=ad5 n b;have Q:=ae0 (P:=fun c=>B.all fun d=>c==d||W (min (c:Int) (d:Int),max (c:Int) (d:Int))==2) b;generalize A[i]=c at*;have F:=Tw i NH;refine Sk (Yb D u s) ?_;refine lIn (fun k fr H=>∃j:Nat,k=B.length-j/\j<=B.length/\fr=mkF [(0,.map (some M)),(2,bv),(8,.int .i64 (c:Nat)),(11,y),(12,.int .i64 A.length),(13,.int .i64 i),(17,bv),(18,.int .i64 B.length),(19,.int .i64 j)]/\H=C/\(B.take j).all (fun d=>c==d||W (min (c:Int) (d:Int),max (c:Int) (d:Int))==2)=true) ⟨0,rfl,aal _,rfl,rfl,rfl⟩ ?_;rintro k fr H R ⟨j,rfl,V,rfl,rfl,f⟩;refine Uy ?_;refine Kl.intro (fun t=>?_) (fun hf=>?_)
 rotate_left
 .have q : B.length <= j := vp hf
  rw[IE q]at f;refine Sk F ?_;exact lgA (JS b) ⟨i+1,rfl,b,rfl,rfl,E f⟩
 have a:j<B.length:=CC t;clear t;have r:=hb.TA j (by rw[y6];exact a);have m:=hb.DH j (by rw[y6];exact a);rw[sY a]at m;have o:=ad5 f a;have I:=ae0 (P:=fun d=>c==d||W (min (c:Int) (d:Int),max (c:Int) (d:Int))==2) a;generalize B[j]=d at*;have v:=Tw j NH;have mn:=Dv (c:Int) (d:Int);have J:=z6 (c:Int) (d:Int);have w:=xe (min (c:Int) (d:Int)) (max (c:Int) (d:Int));have G:=SA oM (min (c:Int) (d:Int),max (c:Int) (d:Int));rw[L]at G;by_cases e:c=d
 .have z : decide ((c : Int) = (d : Int)) = true := decide_eq_true NH
  refine Sk (IX r m @bne.eq_1.{0} z v) ?_
  exact lgA (JS a) ⟨j+1,rfl,a,rfl,rfl,o (by simp[e])⟩
 have z:decide ((c:Int)=(d:Int))=false:=decide_eq_false NH;by_cases S:W (min (c:Int) (d:Int),max (c:Int) (d:Int))=2
 .have d2 : decide ((W (min (c : Int) (d : Int), max (c : Int) (d : Int)) : Int) = 2) = true := decide_eq_true NH
  simp only[HO,Nat.reduceLT,↓reduceIte,Nat.reduceEqDiff,reduceCtorEq,r,m,bne,z,mn,J,w,wD,G,d2,v];exact lgA (JS a) ⟨j+1,rfl,a,rfl,rfl,o (by simp[S])⟩
 .have d2 : decide ((W (min (c : Int) (d : Int), max (c : Int) (d : Int)) : Int) = 2) = false := decide_eq_false NH
  simp only[HO,Nat.reduceLT,↓reduceIte,Nat.reduceEqDiff,reduceCtorEq,r,m,bne,z,mn,J,w,wD,G,d2];exact(by grind [aba.eq_1])
theorem GI.keep (r:GI h o ys) (k:∀b x,h.own b=some x->blk o=some b->g.own b=some x):GI g o ys:=by
 obtain⟨a,⟨rfl,i⟩|⟨id,c,cap,rfl,d,e,f⟩⟩:=r
 .exact⟨a,pw⟩
 .exact⟨a,.inr ⟨id,c,cap,rfl,k id _ d rfl,e,f⟩⟩
theorem GI.push2 {c h:AHeap} (g:GI h v xs) (go:GI h o ys) (n:∀b,blk v=some b->blk o≠some b) (l:Le c h) (e:Z2 c v) (hw:WF h) (x:Int) (f:xs.length<=100000):
  ∃v' d a,aBuildSlice Tryz.prog h 49 1 [(0,.int .i64 x)]=some (.slice (some ⟨h.next,0,none⟩) 1 1,d)/\aAppend Tryz.prog d 49 49 v (.slice (some ⟨h.next,0,none⟩) 1 1)=some (v',a)/\GI a v' (xs++[x])/\GI a o ys/\(∀b,blk v'=some b->blk o≠some b)/\Le c a/\Z2 c v':=by
 obtain⟨v',d,a,e4,i,j,p,l4,hf,r⟩:=g.push hw x f;obtain⟨l5,k⟩:=hf c l e;have own:∀b,blk o=some b->∃y,h.own b=some y:=fun b hb=>by
  cases q:h.own b with
  |none=>exact absurd q (GS.Sy go hb)
  |some y=>exact⟨y,rfl⟩
 refine⟨v',d,a,e4,i,j,(by grind [GI.keep]),fun b hb m=>?_,l5,k⟩;obtain⟨y,s⟩:=own b m;exact pw
def ack {P:Nat->Bool} (hi:i<l.length):(l.take (i+1)).filter P=(l.take i).filter P++if P l[i]then[l[i]]else[]:=by
 rw[EL hi,EP];cases h:P l[i]<;>simp[h]
def abU (a b:II):aaa (a++b)=aaa a++aaa b:=by simp[aaa]
theorem aep (H:LA) (M:Nat) (l:List (Pr×Int)) (W:Pr->Nat) (cv:Value) (cs:II) (h:AHeap) (oM:h.own M=some (.map (aan l))) (T:∀p,(lookK l p).getD 0=(W p:Int)) (u:RL RP h cv (aaa cs)) (lc:cs.length<=1000) (l0:0<cs.length):
  AC Tryz.prog H 80 [.map (some M),cv] h fun x h'=>x=.bool (aaV W cs)/\Le h h':=by
 refine AC.vE ⟨Tryz.func80,rfl,WY⟩ Tryz.ntmps80 Tryz.results80 fun Y=>?_;simp only[Br,Nat.reduceAdd];have ln:=fun g=>u.Uc g;rw[y6]at ln;have F:=u.TA 0 (by rw[y6];exact l0);have Z:∀g,Le h g->aload Tryz.prog g 3 (elemAddr cv 0)=some (.int .i64 (cs.headD 0:Nat)):=fun g lg=>by
  have:=(u.le Nn.RP lg).DH 0 (by rw[y6];exact l0);rw[sY l0]at this;rw[this];cases cs with
  |nil=>cases l0
  |cons=>rfl
 simp only[Int.cast_ofNat_Int]at F;have hT:aaV W cs=((cs.filter fun(c:Nat)=>W (((cs.headD 0:Nat):Int),(c:Int))==0).length==3&&!(cs.filter fun(c:Nat)=>W (((cs.headD 0:Nat):Int),(c:Int))!=0).contains (cs.headD 0)&&aba W (cs.filter fun(c:Nat)=>W (((cs.headD 0:Nat):Int),(c:Int))==0) (cs.filter fun(c:Nat)=>W (((cs.headD 0:Nat):Int),(c:Int))!=0)):=rfl;generalize cs.headD 0=f at*;simp only[HO,Nat.reduceLT,↓reduceIte,Nat.reduceEqDiff,reduceCtorEq,ln];refine lIn (fun k fr s=>∃(i:Nat) (m j:Value),k=cs.length-i/\i<=cs.length/\fr=mkF [(0,.map (some M)),(1,cv),(5,m),(6,j),(10,cv),(11,.int .i64 cs.length),(12,.int .i64 i)]/\GI s m (aaa ((cs.take i).filter fun(c:Nat)=>W ((f:Int),(c:Int))==0))/\GI s j (aaa ((cs.take i).filter fun(c:Nat)=>W ((f:Int),(c:Int))!=0))/\(∀b,blk m=some b->blk j≠some b)/\Le h s/\Z2 h m/\Z2 h j) ⟨0,_,_,rfl,aal _,rfl,GI.nil h,GI.nil h,(by grind [blk]),Le.refl _,fun b hb=>by simp[blk]at hb,fun b hb=>by simp[blk]at hb⟩ ?_;rintro k fr s v ⟨i,m,j,rfl,hi,rfl,w,gt,dj,t,pa,U⟩;have n:=Z s t;refine Uy ?_;refine Kl.intro (fun V=>?_) (fun hf=>?_)
 rotate_left
 .have I : cs.length <= i := vp hf
  rw[IE I]at w gt;have ae:=zx (fun(c:Nat)=>W ((f:Int),(c:Int))==0) cs;have ag:=zx (fun(c:Nat)=>W ((f:Int),(c:Int))!=0) cs;generalize cs.filter (fun(c:Nat)=>W ((f:Int),(c:Int))==0)=A at*;generalize cs.filter (fun(c:Nat)=>W ((f:Int),(c:Int))!=0)=B at*;have o:=fun g=>w.rl.Uc g;rw[y6]at o;by_cases X:A.length=3
  rotate_left
  .have d3 : decide ((A.length : Int) = 3) = false := decide_eq_false NH
   have e3:(A.length==3)=false:=by simpa using X
   refine Sk (XC o d3) ?_;exact pw
  have d3:decide ((A.length:Int)=3)=true:=decide_eq_true NH;have e3:(A.length==3)=true:=by simpa using X
  refine Sk (xU o d3 F n) ?_;refine TC.intro PJ ⟨qS39,rfl,WY⟩ (W3 H j (aaa B) (f:Int) s gt.rl (by rw[y6];omega)) ?_;rintro y z w5 ⟨rfl,rfl⟩;have J:decide ((f:Int)∈aaa B)=B.contains f:=by
   rw[acN,decide_eq_true_eq,Po,aaa,HV];exact pw
  rw[J];cases cB:B.contains f with
  |true=>
   refine Uy ?_;exact pw
  |false=>
   refine Uy ?_;refine TC.intro PJ ⟨Tryz.func79,rfl,WY⟩ (acV H M l W m j A B z (t.own _ _ oM) T w.rl gt.rl NH NH) ?_;rintro y h6 w6 ⟨rfl,rfl⟩;refine Uy ?_;exact pw
 have a:i<cs.length:=CC V;clear V;have adc:=u.TA i (by rw[y6];exact a);have q:=(u.le Nn.RP t).DH i (by rw[y6];exact a);rw[sY a]at q;have fa:=ack (P:=fun(c:Nat)=>W ((f:Int),(c:Int))==0) a;have G:=ack (P:=fun(c:Nat)=>W ((f:Int),(c:Int))!=0) a;have K:(aaa ((cs.take i).filter fun(c:Nat)=>W ((f:Int),(c:Int))==0)).length<=100000:=by rw[y6];exact(by grind [List.length_take])
 have L:(aaa ((cs.take i).filter fun(c:Nat)=>W ((f:Int),(c:Int))!=0)).length<=100000:=by rw[y6];exact(by grind [List.length_take])
 generalize cs[i]=c at*;have C:=Tw i NH;have D:=xe (f:Int) (c:Int);have N:=SA (t.own _ _ oM) ((f:Int),(c:Int));rw[T]at N;by_cases e:W ((f:Int),(c:Int))=0
 .have O : decide ((W ((f : Int), (c : Int)) : Int) > 0) = false := decide_eq_false NH
  obtain⟨v',h4,z,e4,Q,R,d,E,l5,S⟩:=w.push2 gt dj t pa v (c:Int) K;rw[if_pos (by simp[e])]at fa;rw[if_neg (by simp[e]),gK]at G;have r:GI z v' (aaa ((cs.take (i+1)).filter fun(c:Nat)=>W ((f:Int),(c:Int))==0)):=by rw[fa,abU];exact R
  rw[<-G]at d;simp only[HO,Nat.reduceLT,↓reduceIte,Nat.reduceEqDiff,reduceCtorEq,adc,q,F,n,D,wD,N,O,e4,Q,C];exact lgA (JS a) ⟨i+1,v',j,rfl,a,rfl,r,d,E,l5,S,U⟩
 .have O : decide ((W ((f : Int), (c : Int)) : Int) > 0) = true := decide_eq_true NH
  obtain⟨v',h4,z,e4,Q,R,d,E,l5,S⟩:=gt.push2 w pw t U v (c:Int) L;rw[if_neg (by simp[e]),gK]at fa;rw[if_pos (by simp[e])]at G;have r:GI z v' (aaa ((cs.take (i+1)).filter fun(c:Nat)=>W ((f:Int),(c:Int))!=0)):=by rw[G,abU];exact R
  rw[<-fa]at d;simp only[HO,Nat.reduceLT,↓reduceIte,Nat.reduceEqDiff,reduceCtorEq,adc,q,F,n,D,wD,N,O,e4,Q,C];exact lgA (JS a) ⟨i+1,m,v',rfl,a,rfl,d,r,pw,l5,pa,S⟩
def aaR (r:RZ):Bool:=!(r.length==0||r.length==2||r.length==3||r.length==4)
def abc (rows:AM) (cs:II) (m:Nat) (E:Nat):Int:=
 if cs.any (fun c=>(rows.getD c []).length !=E)then 0
 else if aaO rows cs≠2*m then 0
 else if E=4 then(if aba (aaE rows cs) cs cs then 5 else 0)else if aaV (aaE rows cs) cs then 33 else 0
def abm (es:List Pr):aaT es=if(Zh 200 es).any aaR then 0 else if(aac (Zh 200 es)).length=5 then abc (Zh 200 es) (aac (Zh 200 es)) es.length 4 else if(aac (Zh 200 es)).length=6 then abc (Zh 200 es) (aac (Zh 200 es)) es.length 3 else 0:=rfl
def aa6 {cs:II} {E:Nat} (h:∀c∈cs,(rows.getD c []).length=E):(aai rows cs).length=E*cs.length:=by
 induction cs with
 |nil=>rfl
 |cons c cs a=>
  have:=a fun d hd=>h d (by simp[hd]);simp only[aai,acw,vZ,eR,vg]at*;rw[this,h c Ma,Nat.mul_add];omega
def afg (rows:AM) (i:Nat):(List.range (i+1)).filter (aax rows)=(List.range i).filter (aax rows)++if aax rows i then[i]else[]:=by
 rw[Bx,EP];cases h:aax rows i<;>simp[h]
def any_take (h:(rows.take i).any aaR=false) (hi:i<rows.length) (hb:aaR rows[i]=false):(rows.take (i+1)).any aaR=false:=by rw[EL hi,List.any_append,h];simp[hb]
theorem aaS (S:LA) (ev:Value) (es:List Pr) (h:AHeap) (V:PR h ev es):
  AC Tryz.prog S 40 [ev] h fun x h'=>x=.int .i64 (aat es)/\Le h h':=by
 refine AC.vE ⟨KT,rfl,WY⟩ Tryz.ntmps40 Tryz.results40 fun aq=>?_;simp only[Br,Nat.reduceAdd];obtain⟨h2,h3,a2,s2,l3,w3,lG⟩:=As (n:=200) aq V;have bg:=Wj (n:=200) V.sl;have W:GR h3 (.agg #[.int .i64 200,ev]) ⟨200,es⟩:=⟨ev,rfl,V.le l3⟩;refine Sk (xU bg a2 s2 ((lG h3 (Le.refl _)).1)) ?_;refine TC.intro PJ ⟨qv,rfl,WY⟩ (ak S _ ⟨200,es⟩ h3 W) ?_;rintro x h4 w4 ⟨⟨bb,rfl,X⟩,l4⟩;cases bb with
 |false=>
  refine Uy ?_;exact(by grind [aat.eq_1,Le.trans])
 |true=>
 have Y:bX ⟨((200:Nat):Int),es⟩:=X.1 rfl;have m:aat es=aaT es:=if_pos Y;clear X;have av:=l3.trans l4;refine Sk ((lG h4 l4).1) ?_;refine TC.intro PJ ⟨iZ,rfl,WY⟩ (oe S _ 200 es h4 (W.le l4) Y) ?_;rintro bv h5 w5 ⟨hb,l5⟩;have ay:=av.trans l5;have aX:es.length<=594:=Y.len;have hR:=Y.GD;rw[abm]at m;have L:=fun cv cs g b1 b2 b3 b4 b5=>aeo S bv cv (n:=200) (es:=es) cs g b1 b2 Y b3 b4 b5;have bl:=Xq 200 es;generalize Zh 200 es=rows at*;have lb:=fun g=>hb.len (P:=Tryz.prog) pE g;rw[bl]at lb;refine Sk lb ?_;refine lIn (fun k fr T=>∃(i:Nat) (cv:Value),k=200-i/\i<=200/\fr=mkF [(0,ev),(4,bv),(5,cv),(20,bv),(21,.int .i64 (200:Nat)),(22,.int .i64 i)]/\GI T cv (aaa ((List.range i).filter (aax rows)))/\Le h5 T/\Z2 h5 cv/\(rows.take i).any aaR=false) ⟨0,_,rfl,aal _,rfl,GI.nil h5,Le.refl _,fun b hb=>by simp[blk]at hb,rfl⟩ ?_;rintro k fr T az ⟨i,cv,rfl,hi,rfl,gc,F,pc,t⟩;have Z:=ay.trans F;refine Uy ?_;refine Kl.intro (fun O=>?_) (fun hf=>?_)
 rotate_left
 .have G : 200 <= i := by grind [vp]
  obtain rfl:i=200:=NH;rw[IE NH]at t;rw[t,if_neg Ma]at m;have aC:aac rows=(List.range 200).filter (aax rows):=by rw[aac,bl]
  rw[<-aC]at gc;have H:∀c∈aac rows,c<200:=pw;generalize aac rows=cs at*;have lc:=fun g=>gc.rl.Uc g;rw[y6]at lc;by_cases c5:cs.length=5
  .have d5 : decide ((cs.length : Int) = 5) = true := decide_eq_true NH
   rw[if_pos c5]at m;simp only[HO,Nat.reduceLT,↓reduceIte,Nat.reduceEqDiff,reduceCtorEq,lc,d5];refine lIn (fun k fr I=>∃i:Nat,k=cs.length-i/\i<=cs.length/\fr=mkF [(0,ev),(4,bv),(5,cv),(8,.int .i64 4),(46,cv),(47,.int .i64 cs.length),(48,.int .i64 i)]/\I=T/\∀c∈cs.take i,(rows.getD c []).length=4) ⟨0,rfl,aal _,rfl,rfl,fun c J=>by simp at J⟩ ?_;rintro k fr I aD ⟨i,rfl,hi,rfl,rfl,f⟩;refine Uy ?_;refine Kl.intro (fun O=>?_) (fun hf=>?_)
   .have a : i < cs.length := CC O
    clear O;have A:=Og a;have adc:=gc.rl.TA i (by rw[y6];exact a);have v:=gc.rl.DH i (by rw[y6];exact a);rw[sY a]at v;have Q:=EL a;generalize cs[i]=c at*;have aH:=H c A;have w:c<rows.length:=NH;have B:=hb.NS c w;obtain⟨u,C,hu⟩:=hb.Wm c w;have lu:=C I F;have gd:rows.getD c []=rows[c]:=D4 w;generalize rows[c]=r at*;have j:=fun g=>hu.Uc g;have o:=Tw i NH;by_cases e:r.length=4
    .have z : decide ((r.length : Int) = 4) = true := decide_eq_true NH
     simp only[HO,Nat.reduceLT,↓reduceIte,Nat.reduceEqDiff,reduceCtorEq,adc,v,B,lu,j,bne,z,o];exact lgA (JS a) ⟨i+1,rfl,a,rfl,rfl,fun d hd=>by
      rw[Q]at hd;rcases Sb.1 hd with q|q
      .exact f d q
      .rw[jf.1 q,gd];exact e⟩
    .have z : decide ((r.length : Int) = 4) = false := decide_eq_false NH
     have p:cs.any (fun c=>(rows.getD c []).length !=4)=true:=by grind [List.any_eq_true]
     simp only[HO,Nat.reduceLT,↓reduceIte,Nat.reduceEqDiff,reduceCtorEq,adc,v,B,lu,j,bne,z];exact(by grind [abc.eq_1])
   have G:cs.length<=i:=vp hf;rw[IE G]at f;have p:¬cs.any (fun c=>(rows.getD c []).length !=4)=true:=by grind [List.any_eq_true]
   rw[abc,if_neg p]at m;refine Uy ?_;refine TC.intro PJ ⟨Tryz.func78,rfl,WY⟩ (L cv cs I (hb.le (Nn.RL Nn.RP) F) gc.rl (fun c J=>⟨H c J,by rw[f c J];decide⟩) (by rw[aa6 f];omega) NH) ?_;rintro x h8 w8 ⟨M,l,rfl,oM,hW,U⟩;have aJ:=Z.trans U;have lP:=fun g=>V.len g;have D:awrap .i64 (2*(es.length:Int))=((2*es.length:Nat):Int):=by rw[ie _ NH NH];omega
   by_cases e:aaO rows cs=2*es.length
   rotate_left
   .have z : decide (((aaO rows cs : Nat) : Int) = ((2 * es.length : Nat) : Int)) = false := decide_eq_false NH
    rw[if_pos e]at m;refine Sk (xU lP D @bne.eq_1.{0} z) ?_
    exact pw
   have z:decide (((aaO rows cs:Nat):Int)=((2*es.length:Nat):Int))=true:=decide_eq_true NH;rw[if_neg (fun q=>q e)]at m;rw[if_pos rfl]at m;have d4:decide ((4:Int)=4)=true:=by decide
   have aK:decide ((4:Int)=3)=false:=by decide
   refine Sk (IX lP D @bne.eq_1.{0} z d4) ?_
   refine TC.intro PJ ⟨Tryz.func79,rfl,WY⟩ (acV S M l (aaE rows cs) cv cv cs cs h8 oM hW (gc.rl.le Nn.RP U) (gc.rl.le Nn.RP U) NH NH) ?_;rintro y h9 w9 ⟨rfl,rfl⟩;cases hE:aba (aaE rows cs) cs cs with
   |true=>
    rw[hE,if_pos rfl]at m;refine Uy ?_;exact pw
   |false=>
    rw[hE,if_neg Ma]at m;refine Sk aK ?_;exact pw
  have d5:decide ((cs.length:Int)=5)=false:=decide_eq_false NH;rw[if_neg c5]at m;by_cases c6:cs.length=6
  .have d5 : decide ((cs.length : Int) = 5) = false := decide_eq_false NH
   rw[if_pos c6]at m;have d6:decide ((cs.length:Int)=6)=true:=decide_eq_true NH;simp only[HO,Nat.reduceLT,↓reduceIte,Nat.reduceEqDiff,reduceCtorEq,lc,d5,bne,d6];refine lIn (fun k fr I=>∃i:Nat,k=cs.length-i/\i<=cs.length/\fr=mkF [(0,ev),(4,bv),(5,cv),(8,.int .i64 3),(46,cv),(47,.int .i64 cs.length),(48,.int .i64 i)]/\I=T/\∀c∈cs.take i,(rows.getD c []).length=3) ⟨0,rfl,aal _,rfl,rfl,fun c J=>by simp at J⟩ ?_;rintro k fr I aD ⟨i,rfl,hi,rfl,rfl,f⟩;refine Uy ?_;refine Kl.intro (fun O=>?_) (fun hf=>?_)
   .have a : i < cs.length := CC O
    clear O;have A:=Og a;have adc:=gc.rl.TA i (by rw[y6];exact a);have v:=gc.rl.DH i (by rw[y6];exact a);rw[sY a]at v;have Q:=EL a;generalize cs[i]=c at*;have aH:=H c A;have w:c<rows.length:=NH;have B:=hb.NS c w;obtain⟨u,C,hu⟩:=hb.Wm c w;have lu:=C I F;have gd:rows.getD c []=rows[c]:=D4 w;generalize rows[c]=r at*;have j:=fun g=>hu.Uc g;have o:=Tw i NH;by_cases e:r.length=3
    .have z : decide ((r.length : Int) = 3) = true := decide_eq_true NH
     simp only[HO,Nat.reduceLT,↓reduceIte,Nat.reduceEqDiff,reduceCtorEq,adc,v,B,lu,j,bne,z,o];exact lgA (JS a) ⟨i+1,rfl,a,rfl,rfl,fun d hd=>by
      rw[Q]at hd;rcases Sb.1 hd with q|q
      .exact f d q
      .rw[jf.1 q,gd];exact e⟩
    .have z : decide ((r.length : Int) = 3) = false := decide_eq_false NH
     have p:cs.any (fun c=>(rows.getD c []).length !=3)=true:=by grind [List.any_eq_true]
     simp only[HO,Nat.reduceLT,↓reduceIte,Nat.reduceEqDiff,reduceCtorEq,adc,v,B,lu,j,bne,z];exact(by grind [abc.eq_1])
   have G:cs.length<=i:=vp hf;rw[IE G]at f;have p:¬cs.any (fun c=>(rows.getD c []).length !=3)=true:=by grind [List.any_eq_true]
   rw[abc,if_neg p]at m;refine Uy ?_;refine TC.intro PJ ⟨Tryz.func78,rfl,WY⟩ (L cv cs I (hb.le (Nn.RL Nn.RP) F) gc.rl (fun c J=>⟨H c J,by rw[f c J];decide⟩) (by rw[aa6 f];omega) NH) ?_;rintro x h8 w8 ⟨M,l,rfl,oM,hW,U⟩;have aJ:=Z.trans U;have lP:=fun g=>V.len g;have D:awrap .i64 (2*(es.length:Int))=((2*es.length:Nat):Int):=by rw[ie _ NH NH];omega
   by_cases e:aaO rows cs=2*es.length
   rotate_left
   .have z : decide (((aaO rows cs : Nat) : Int) = ((2 * es.length : Nat) : Int)) = false := decide_eq_false NH
    rw[if_pos e]at m;refine Sk (xU lP D @bne.eq_1.{0} z) ?_
    exact pw
   have z:decide (((aaO rows cs:Nat):Int)=((2*es.length:Nat):Int))=true:=decide_eq_true NH;rw[if_neg (fun q=>q e)]at m;rw[if_neg WY]at m;have aP:decide ((3:Int)=4)=false:=by decide
   have d3:decide ((3:Int)=3)=true:=by decide
   refine Sk (bG lP D @bne.eq_1.{0} z aP d3) ?_
   refine TC.intro PJ ⟨Tryz.func80,rfl,WY⟩ (aep S M l (aaE rows cs) cv cs h8 oM hW (gc.rl.le Nn.RP U) NH NH) ?_;rintro y h9 w9 ⟨rfl,l9⟩;cases hE:aaV (aaE rows cs) cs with
   |true=>
    rw[hE,if_pos rfl]at m;refine Uy ?_;exact(by grind [Le.trans])
   |false=>
    rw[hE,if_neg Ma]at m;refine Uy ?_;exact(by grind [Le.trans])
  have d6:decide ((cs.length:Int)=6)=false:=decide_eq_false NH;rw[if_neg c6]at m;simp only[HO,Nat.reduceLT,↓reduceIte,Nat.reduceEqDiff,reduceCtorEq,lc,d5,bne,d6];exact pw
 have a:i<200:=by grind [CC]
 clear O;have K:i<rows.length:=NH;have B:=hb.NS i K;obtain⟨u,C,hu⟩:=hb.Wm i K;have lu:=C T F;have gd:rows.getD i []=rows[i]:=D4 K;have E:=afg rows i;have ae:aax rows i=((rows[i]).length==3||(rows[i]).length==4):=by rw[aax,gd]
 have N:=any_take t K;have ag:aaR rows[i]=true->rows.any aaR=true:=by grind [List.getElem_mem]
 generalize rows[i]=r at*;have j:=fun g=>hu.Uc g;have o:=Tw i NH;have aT:(aaa ((List.range i).filter (aax rows))).length<=100000:=by rw[y6];exact(by grind [List.length_filter_le])
 by_cases c0:r.length=0\/r.length=2
 .have cb : aax rows i = false := by rw [ae]; rcases c0 with q | q <;> rw [q] <;> rfl
  rw[cb,if_neg Ma,gK]at E;have s:=N (by unfold aaR;rcases c0 with q|q<;>rw[q]<;>rfl);rcases c0 with q|q
  .have R : decide ((r.length : Int) = 0) = true := decide_eq_true NH
   simp only[HO,Nat.reduceLT,↓reduceIte,Nat.reduceEqDiff,reduceCtorEq,B,lu,j,R,o];exact lgA (JS a) ⟨i+1,cv,rfl,a,rfl,by rw[E];exact gc,F,pc,s⟩
  .have R : decide ((r.length : Int) = 0) = false := decide_eq_false NH
   have d2:decide ((r.length:Int)=2)=true:=decide_eq_true NH;simp only[HO,Nat.reduceLT,↓reduceIte,Nat.reduceEqDiff,reduceCtorEq,B,lu,j,R,d2,o];exact lgA (JS a) ⟨i+1,cv,rfl,a,rfl,by rw[E];exact gc,F,pc,s⟩
 have R:decide ((r.length:Int)=0)=false:=decide_eq_false NH;have d2:decide ((r.length:Int)=2)=false:=decide_eq_false NH;by_cases c3:r.length=3\/r.length=4
 .have cb : aax rows i = true := by rw [ae]; rcases c3 with q | q <;> rw [q] <;> rfl
  rw[cb,if_pos rfl]at E;have s:=N (by unfold aaR;rcases c3 with q|q<;>rw[q]<;>rfl);obtain⟨v',h6,h7,e6,e7,g7,w7,l6,aW,-⟩:=gc.push az (i:Int) aT;obtain⟨l7,a7⟩:=aW h5 F pc;have aj:GI h7 v' (aaa ((List.range (i+1)).filter (aax rows))):=by rw[E,abU];exact g7
  rcases c3 with q|q
  .have d3 : decide ((r.length : Int) = 3) = true := decide_eq_true NH
   simp only[HO,Nat.reduceLT,↓reduceIte,Nat.reduceEqDiff,reduceCtorEq,B,lu,j,R,d2,d3,e6,e7,o];exact lgA (JS a) ⟨i+1,v',rfl,a,rfl,aj,l7,a7,s⟩
  .have d3 : decide ((r.length : Int) = 3) = false := decide_eq_false NH
   have d4:decide ((r.length:Int)=4)=true:=decide_eq_true NH;simp only[HO,Nat.reduceLT,↓reduceIte,Nat.reduceEqDiff,reduceCtorEq,B,lu,j,R,d2,d3,d4,e6,e7,o];exact lgA (JS a) ⟨i+1,v',rfl,a,rfl,aj,l7,a7,s⟩
 have d3:decide ((r.length:Int)=3)=false:=decide_eq_false NH;have d4:decide ((r.length:Int)=4)=false:=decide_eq_false NH;have al:aaR r=true:=by
  unfold aaR;have e0:(r.length==0)=false:=by grind [beq_eq_false_iff_ne]
  have e2:(r.length==2)=false:=by grind [beq_eq_false_iff_ne]
  have e3:(r.length==3)=false:=by grind [beq_eq_false_iff_ne]
  have e4:(r.length==4)=false:=by grind [beq_eq_false_iff_ne]
  rw[e0,e2,e3,e4];rfl
 rw[ag al,if_pos rfl]at m;simp only[HO,Nat.reduceLT,↓reduceIte,Nat.reduceEqDiff,reduceCtorEq,B,lu,j,R,d2,d3,d4];exact pw
end
end Go.Fw
