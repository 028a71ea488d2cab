/- A text. -/
import Derived.Test.YtkccdnmaaelbiaaGreatFwLM1
set_option linter.all false
set_option maxRecDepth 99999
set_option maxHeartbeats 9999999
namespace Go.Fw
open Go.Proofs
attribute [local irreducible] Kp MQ lU KO1 KO KN KX KE VK Kl ZJ TC aab
def sf0 (a:Addr):aField Tryz.prog 77 (.pointer (some a)) 0=some (.pointer (some (Ip a 0))):=rfl
def sf1 (a:Addr):aField Tryz.prog 77 (.pointer (some a)) 1=some (.pointer (some (Ip a 1))):=rfl
def sf2 (a:Addr):aField Tryz.prog 77 (.pointer (some a)) 2=some (.pointer (some (Ip a 2))):=rfl
def sf4 (a:Addr):aField Tryz.prog 77 (.pointer (some a)) 4=some (.pointer (some (Ip a 4))):=rfl
structure Sr (h:AHeap) (B:Nat) (n:Nat) (bv ov fv iv lv:Value):Prop where
 o:h.own B=some (.cells [.int .i64 n,bv,ov,fv,iv,lv])
section
variable {h : AHeap} {B n : Nat} {bv ov fv iv lv : Value}
theorem Sr.le {h':AHeap} (s:Sr h B n bv ov fv iv lv) (e:Le h h'):Sr h' B n bv ov fv iv lv:=⟨e.own _ _ s.o⟩
def Sr.l0 (s:Sr h B n bv ov fv iv lv):aload Tryz.prog h 3 ⟨B,0,none⟩=some (.int .i64 n):=by rw[Fq Mb rfl s.o];rfl
def Sr.l1 (s:Sr h B n bv ov fv iv lv):aload Tryz.prog h 27 ⟨B,1,none⟩=some bv:=by rw[Fq yU rfl s.o];rfl
def Sr.l2 (s:Sr h B n bv ov fv iv lv):aload Tryz.prog h 59 ⟨B,2,none⟩=some ov:=by rw[Fq eY rfl s.o];rfl
def Sr.l3 (s:Sr h B n bv ov fv iv lv):aload Tryz.prog h 27 ⟨B,3,none⟩=some fv:=by rw[Fq yU rfl s.o];rfl
def Sr.l4 (s:Sr h B n bv ov fv iv lv):aload Tryz.prog h 74 ⟨B,4,none⟩=some iv:=by rw[Fq qS25 rfl s.o];rfl
def Sr.l5 (s:Sr h B n bv ov fv iv lv):aload Tryz.prog h 75 ⟨B,5,none⟩=some lv:=by rw[Fq afm rfl s.o];rfl
end
theorem qc (n:Nat) (f:II):(eJ n f).length=n:=by simp[eJ]
theorem NN {n v:Nat} (f:II) (a:v<n):(eJ n f)[v]?=some (decide (v∈f)):=by grind [eJ]
theorem MT (n:Nat):eJ n []=List.replicate n false:=by
 apply V3
 grind [NN,qc]
theorem afr {n v:Nat} (f:II) (a:v<n):eJ n (f++[v])=(eJ n f).set v true:=by
 apply V3
 grind [NN,qc]
theorem bJ (q:LA) (B n:Nat) (bv ov fv iv lv v:Value) (f:II) (h:AHeap) (hs:Sr h B n bv ov fv iv lv) (e:RL RP h v (kz f)) (hf:∀x∈f,x<n) (r:n<=1000) (C:f.length<=1000):
  AC Tryz.prog q 133 [.pointer (some ⟨B,0,none⟩),v] h fun x h'=>GS 1 h' x n (Bo (eJ n f))/\Le h h'/\Z2 h x:=by
 refine AC.vE ⟨Tryz.func133,rfl,WY⟩ Tryz.ntmps133 Tryz.results133 fun c=>?_;simp only[Br,Nat.reduceAdd];obtain⟨s,u,l1,w1,w⟩:=Tt c (List.replicate n (.bool false));have mk:=mk100 h n r;rw[u]at mk;have hlen:(kz f).length=f.length:=y6 f;have o:=fun g=>e.Uc g;rw[hlen]at o;simp only[HO,Nat.reduceLT,↓reduceIte,Nat.reduceEqDiff,reduceCtorEq,sf0,Ip,XJ,hs.l0,mk,o]
 have nT:h.own h.next=none:=(Le.refl h).next c (qL0 _)
 generalize h.next=T at*
 have y:s.own T=some (.cells (Bo (eJ n (f.take 0)))):=by rw[w,ahO,MT];simp[Bo]
 refine lIn (fun k fr d=>∃i:Nat,k=f.length-i/\i<=f.length/\fr=mkF [(5,.slice (some ⟨T,0,none⟩) n n),(13,v),(14,.int .i64 (f.length:Nat)),(15,.int .i64 (i:Nat))]/\d.own T=some (.cells (Bo (eJ n (f.take i))))/\Le h d) ⟨0,rfl,Og _,rfl,y,l1⟩ ?_;rintro k fr d z ⟨i,rfl,hi,rfl,oT,leq⟩;refine Uy ?_;refine Kl.intro (fun p=>?_) (fun hf=>?_)
 .have a : i < f.length := CC p
  clear p;have ad:=e.TA i NH;have ld:=(e.le Nn.RP leq).DH i NH;rw[sY a]at ld;have j:f.take (i+1)=f.take i++[f[i]]:=Sb a;have l:=hf f[i] (ZT a);generalize f[i]=x at*;have A:aIndexAddr Tryz.prog 59 (.slice (some ⟨T,0,none⟩) n n) (.int .i64 (x:Int))=some (.pointer (some ⟨T,x,none⟩)):=by rw[Wc eY AV Ji x l];simp[Ip]
  have st:aStore Tryz.prog d 4 (.pointer (some ⟨T,x,none⟩)) (.bool true)=some (d.put T (.cells (Bo (eJ n (f.take (i+1)))))):=by rw[QB (P:=Tryz.prog) (t:=4) (x:=.bool true) AV Ji oT (off:=x) (by rw[O2,qc];exact l) rfl rfl,Tr,j,afr _ l]
  simp only[HO,Nat.reduceLT,↓reduceIte,Nat.reduceEqDiff,reduceCtorEq,ad,ld,A,st,aaa i NH];exact lgA NH ⟨i+1,rfl,a,rfl,AHeap.Y3 _ _ _,leq.put _ nT⟩
 .have m : f.length <= i := vp hf
  rw[yM m]at oT;refine Uy ?_;refine⟨GS.full oT (by grind [O2,qc]) NH,leq,fun b hb=>by grind [blk]⟩
theorem QQ (j:LA) (lv:Value) (xs:RZ) (P:Int->Bool) (F:FuncId) {fn:Func} {c:Code} (b:Good Tryz.prog F fn c) (cap:List Value) (h:AHeap) (d:RL RP h lv xs) (u:xs.length<=100000)
  (hf:∀x∈xs,AC Tryz.prog j F (.int .i64 x::cap) h fun y h'=>y=.bool (P x)/\h'=h):
  AC Tryz.prog j 168 [lv,.func (.func F) #[] cap.toArray] h fun x h'=>((x=.int .i64 (-1)/\xs.any P=false)\/∃i:Nat,x=.int .i64 (i:Nat)/\xs.any P=true)/\h'=h:=by
 refine AC.vE ⟨Tryz.func168,rfl,WY⟩ Tryz.ntmps168 Tryz.results168 fun o=>?_;simp only[Br,Nat.reduceAdd];have p:=fun g=>d.Uc g;refine Sk p ?_;refine lIn (fun k fr l=>∃i:Nat,k=xs.length-i/\i<=xs.length/\fr=mkF [(0,lv),(1,.func (.func F) #[] cap.toArray),(7,.int .i64 (xs.length:Nat)),(8,.int .i64 (i:Nat))]/\l=h/\(xs.take i).any P=false) ⟨0,rfl,Og _,rfl,rfl,rfl⟩ ?_;rintro k fr l q ⟨i,rfl,hi,rfl,rfl,e⟩;refine Uy ?_;refine Kl.intro (fun m=>?_) (fun hf=>?_)
 .have a : i < xs.length := CC m
  clear m;have ad:=d.TA i a;have ld:=d.DH i a;have r:xs.take (i+1)=xs.take i++[xs[i]]:=Sb a;have s:=ZT a;have t:=hf xs[i] s;generalize xs[i]=x at*;simp only[HO,Nat.reduceLT,↓reduceIte,Nat.reduceEqDiff,reduceCtorEq,ad,ld];refine TC.intro PJ b (by simpa using t) ?_;rintro y h2 w2 ⟨rfl,rfl⟩;cases v:P x with
  |true=>
   refine Uy ?_
   grind
  |false=>
   refine Sk (aaa i NH) ?_;refine lgA NH ⟨i+1,rfl,a,rfl,rfl,?_⟩
   grind
 .have f : xs.length <= i := vp hf
  rw[yM f]at e;refine Uy ?_
  grind
theorem xN (b:LA) (lv:Value) (xs:RZ) (P:Int->Bool) (F:FuncId) {fn:Func} {c:Code} (a:Good Tryz.prog F fn c) (cap:List Value) (h:AHeap) (f:RL RP h lv xs) (g:xs.length<=100000)
  (hf:∀x∈xs,AC Tryz.prog b F (.int .i64 x::cap) h fun y h'=>y=.bool (P x)/\h'=h):
  AC Tryz.prog b 139 [lv,.func (.func F) #[] cap.toArray] h fun x h'=>x=.bool (xs.any P)/\h'=h:=by
 refine AC.vE ⟨Tryz.func139,rfl,WY⟩ Tryz.ntmps139 Tryz.results139 fun j=>?_;simp only[Br,Nat.reduceAdd];refine Uy ?_;refine TC.intro PJ ⟨Tryz.func168,rfl,WY⟩ (QQ b lv xs P F a cap h f g hf) ?_;rintro x h2 w2 ⟨⟨rfl,e⟩|⟨i,rfl,e⟩,rfl⟩
 .have d : decide ((-1 : Int) >= 0) = false := by decide
  refine Sk (XC d e) ?_
  grind
 .have d : decide ((i : Int) >= 0) = true := decide_eq_true NH
  refine Sk (XC d e) ?_
  grind
end Go.Fw
namespace Go.Fw
section
attribute [local instance] Classical.propDecidable
attribute [local irreducible] Kp MQ lU KO1 KO KN KX KE VK Kl ZJ TC aab
open Go.Proofs
variable {h:AHeap}
theorem out_any (l:LA) (B n f d e v:Nat) (bv m o j p:Value) (F:Cs) (h:AHeap) (hs:Sr h B n bv m o j p) (hi:RL (RL sJ) h j (F.map (eJ n))) (hf:f<F.length) (q:v<n)
  (r:h.own e=some (.cells [.pointer (some ⟨B,0,none⟩)])) (s:h.own d=some (.cells [.int .i64 (f:Int)])):
  AC Tryz.prog l 138 [.int .i64 (v:Int),.pointer (some ⟨e,0,none⟩),.pointer (some ⟨d,0,none⟩)] h fun x h'=>x=.bool (!decide (v∈F.getD f []))/\h'=h:=by
 refine AC.vE ⟨Tryz.func138,rfl,WY⟩ Tryz.ntmps138 Tryz.results138 fun t=>?_;simp only[Br,Nat.reduceAdd];have a:f<(F.map (eJ n)).length:=pw;have l3:aload Tryz.prog h 72 ⟨e,0,none⟩=some (.pointer (some ⟨B,0,none⟩)):=by rw[Fq Tryz.underlying72 rfl r];rfl
 have w:aload Tryz.prog h 3 ⟨d,0,none⟩=some (.int .i64 (f:Int)):=by rw[Fq Mb rfl s];rfl
 have ad:=hi.addr (P:=Tryz.prog) qS25 eY Ji (k:=.i64) f a;obtain⟨u,lu,g⟩:=hi.load (P:=Tryz.prog) eY rfl f a;have y:(F.map (eJ n))[f]=eJ n (F.getD f []):=pw;rw[y]at g;have b:v<(eJ n (F.getD f [])).length:=by grind [qc]
 have i:=g.LB (k:=.i64) v b;have c:=g.W7 v b;have z:(eJ n (F.getD f []))[v]=decide (v∈F.getD f []):=by
  have:=NN (F.getD f []) q
  grind
 rw[z]at c;refine Uy ?_;refine gh (tA [0,1,2,3,4,5,6,7,8,9,10,11] .done) ?_;simp only[HO,Nat.reduceLT,↓reduceIte,Nat.reduceEqDiff,reduceCtorEq,Nat.reduceBEq,Qg,l3,w,sf4,Ip,XJ,hs.l4,ad,lu,i,c]
 try exact⟨trivial,trivial⟩
theorem box72 (x:Value) (a:x.oneCell'=true) (b:x.cells=#[x]):zF h x=some (.pointer (some ⟨h.next,0,none⟩),h.alloc (.cells [x])):=by grind [zF,IF]
theorem allocI (h:AHeap):aAlloc Tryz.prog h 3=some (.pointer (some ⟨h.next,0,none⟩),h.alloc (.cells [.int .i64 0])):=rfl
theorem newI (hw:WF h) (x:Int):∃a h2,aAlloc Tryz.prog h 3=some (.pointer (some ⟨h.next,0,none⟩),a)/\aStore Tryz.prog a 3 (.pointer (some ⟨h.next,0,none⟩)) (.int .i64 x)=some h2/\Le h h2/\WF h2/\h2.own h.next=some (.cells [.int .i64 x]):=by
 obtain⟨a,c,l1,w1,b⟩:=Tt hw [.int .i64 0]
 have d:h.own h.next=none:=(Le.refl h).next hw (qL0 _)
 have st:=QB (P:=Tryz.prog) (t:=3) (x:=.int .i64 x) Mb Ji b (off:=0) Ma rfl rfl
 grind [allocI,Le.put,WF.put,WF.lt,AHeap.Y3]
theorem NR (p:LA) (B n:Nat) (bv M N q O o r:Value) (F:Cs) (Fm:RZ) (a:II) (h:AHeap) (hs:Sr h B n bv M N q O) (hi:RL (RL sJ) h q (F.map (eJ n)))
  (U:RL RP h o Fm) (ha:RL RP h r (kz a)) (s:∀x∈Fm,∃v:Nat,x=(v:Int)/\v<n) (t:∀f∈a,f<F.length) (V:Fm.length<=100000) (W:a.length<=100000):
  AC Tryz.prog p 97 [.pointer (some ⟨B,0,none⟩),o,r] h fun x h'=>GI h' x (kz (zh F Fm a))/\Le h h'/\Z2 h x:=by
 refine AC.vE ⟨ahp,rfl,WY⟩ Tryz.ntmps97 Tryz.results97 fun u=>?_;simp only[Br,Nat.reduceAdd];obtain⟨w,X,l1,w1,Y⟩:=Tt u [.pointer (some ⟨B,0,none⟩)];have P:=box72 (h:=h) (.pointer (some ⟨B,0,none⟩)) rfl rfl;rw[X]at P;have z:(kz a).length=a.length:=y6 a;have Q:=fun g=>ha.Uc g;rw[z]at Q
 generalize h.next=A at*
 refine Sk (XC P Q) ?_;refine lIn (fun k fr l=>∃(i:Nat) (m:Value),k=a.length-i/\i<=a.length/\fr=mkF [(1,o),(3,.pointer (some ⟨A,0,none⟩)),(7,m),(11,r),(12,.int .i64 (a.length:Nat)),(13,.int .i64 (i:Nat))]/\Le w l/\GI l m (kz (zh F Fm (a.take i)))/\Z2 w m) ⟨0,_,rfl,Og _,rfl,Le.refl _,GI.nil _,fun b hb=>by simp[blk]at hb⟩ ?_;rintro k fr l C ⟨i,m,rfl,Z,rfl,D,g,ap⟩;refine Uy ?_;refine Kl.intro (fun R=>?_) (fun hf=>?_)
 .have c : i < a.length := CC R
  clear R;have ad:=ha.TA i NH;have ld:=(ha.le Nn.RP (l1.trans D)).DH i NH;rw[sY c]at ld;have aa:a.take (i+1)=a.take i++[a[i]]:=Sb c;have E:=t a[i] (ZT c);generalize a[i]=f at*;obtain⟨h2,h3,e2,e3,l3,w3,S⟩:=newI C (f:Int);have e:=D.trans l3;have j:=l1.trans e
  have G:aload Tryz.prog h3 3 ⟨l.next,0,none⟩=some (.int .i64 (f:Int)):=by rw[Fq Mb rfl S];rfl
  have key:=xN p o Fm (fun x=>!decide (x.toNat∈F.getD f [])) 138 ⟨Tryz.func138,rfl,WY⟩ [.pointer (some ⟨A,0,none⟩),.pointer (some ⟨l.next,0,none⟩)] h3 (U.le Nn.RP j) V fun x H=>by
   obtain⟨v,rfl,hv⟩:=s x H
   have:=out_any p B n f l.next A v bv M N q O F h3 (hs.le j) (hi.le (Nn.RL Nn.sJ) j) E hv (e.own _ _ Y) S
   rw[HV];exact this
  simp only[HO,Nat.reduceLT,↓reduceIte,Nat.reduceEqDiff,reduceCtorEq,ad,ld,e2,e3];refine TC.intro PJ ⟨Tryz.func139,rfl,WY⟩ key ?_;rintro y h4 w4 ⟨rfl,rfl⟩
  have d:zh F Fm (a.take (i+1))=zh F Fm (a.take i)++if(Fm.any fun x=>!decide (x.toNat∈F.getD f []))=false then[f]else[]:=by grind [zh,fitsB]
  cases hb:(Fm.any fun x=>!decide (x.toNat∈F.getD f []))with
  |true=>
   rw[hb]at d;refine Sk (aaa i NH) ?_;refine lgA NH ⟨i+1,m,rfl,c,rfl,e,?_,ap⟩
   grind [GI.le]
  |false=>
   rw[hb,if_pos rfl]at d;have g3:=g.le l3;have I:(kz (zh F Fm (a.take i))).length<=100000:=by grind [y6,zh]
   obtain⟨J,h5,h6,e5,e6,T,w6,l5,K,-⟩:=g3.push w3 (f:Int) I;obtain⟨l6,a6⟩:=K w e ap;have e7:kz (zh F Fm (a.take i))++[(f:Int)]=kz (zh F Fm (a.take (i+1))):=by grind [kz]
   rw[e7]at T;refine Sk (xU G e5 e6 (aaa i NH)) ?_;exact lgA NH ⟨i+1,J,rfl,c,rfl,l6,T,a6⟩
 .have L : a.length <= i := vp hf
  rw[yM L]at g;refine Uy ?_;exact⟨g,l1.trans D,fun b hb=>l1.none (ap b hb)⟩
variable {a b:Int} {j m:Nat} {p:Pr} {pl:RZ} {α:Type}
theorem Qc {n:Nat} {way:II} (a:way.length<=1000):∀i,i<=way.length->∀(v:Nat) x,(KI n way i)[v]?=some x->-1<=x/\x<=1000
 |0,_,v,x,h=>by grind [KI.eq_1]
 |i+1,hi,v,x,h=>by
  rw[KI,fj]at h;split at h
  .grind
  .exact Qc a i NH v x h
theorem Zz (ha:pl.getD p.1.toNat 0=a) (hb:pl.getD p.2.toNat 0=b) (h:a<0\/b<0\/(a-b≠1/\b-a≠1)):aI pl p=true:=by grind [aI]
theorem Gh (ha:pl.getD p.1.toNat 0=a) (hb:pl.getD p.2.toNat 0=b) (c:¬a<0) (h2:¬b<0) (h3:a-b=1\/b-a=1):aI pl p=false:=by grind [aI]
def ID {x y:Int} (a:-1<=x/\x<=1000) (b:-1<=y/\y<=1000):awrap .i64 (x-y)=x-y:=ie _ NH NH
theorem fil_b {l:List α} (q:α->Bool) (h:l.length<=1000) (j:Nat):((l.take j).filter q).length+1<=100000:=pw
theorem QJ (h:m<=1000):m<=40000:=NH
def Lb (h:j<m) (h2:m<=40000):j<4611686018427387904:=NH
theorem Bs (W0:LA) (B n:Nat) (bv ov fv iv lv M Q:Value) (zp:List Pr) (way:II) (h:AHeap) (hs:Sr h B n bv ov fv iv lv) (R:PR h M zp) (hw:RL RP h Q (kz way))
  (hR:aV n zp) (S:∀x∈way,x<n) (hn:n<=300) (z:zp.length<=1000) (hl:way.length<=1000):
  AC Tryz.prog W0 103 [.pointer (some ⟨B,0,none⟩),M,Q] h fun x h'=>GP h' x (V8 n zp way)/\Le h h'/\Z2 h x:=by
 refine AC.vE ⟨Tryz.func103,rfl,WY⟩ Tryz.ntmps103 Tryz.results103 fun U=>?_;simp only[Br,Nat.reduceAdd];obtain⟨h1,e1,l1,w1,o1⟩:=Tt U [.int .i64 (-1)];have s1:=hs.le l1;refine Sk (bG @DQ e1 @sf0 @Ip.eq_1 @XJ s1.l0) ?_;refine TC.intro PJ ⟨NQ,rfl,WY⟩ (rN W0 _ n NH h1 (RL.Wh (RS.whole o1 rfl))) ?_;rintro x h2 w2 ⟨T,rfl,hT,o2,l2⟩
 have nT:h.own T=none:=l1.next w1 hT
 have A:=l1.trans l2;have oT:h2.own T=some (.cells (Bp (KI n way 0))):=by rw[o2];simp[Bp,KI]
 have hlen:(kz way).length=way.length:=y6 way;have ll:=fun g=>hw.Uc g;rw[hlen]at ll;have r:=fun(k:IntKind) j hj=>Kx T n k j hj;refine Sk ll ?_;refine lIn (fun k fr V=>∃i:Nat,k=way.length-i/\i<=way.length/\fr=mkF [(1,M),(7,.slice (some ⟨T,0,none⟩) n n),(21,Q),(22,.int .i64 (way.length:Nat)),(23,.int .i64 (i:Nat))]/\V.own T=some (.cells (Bp (KI n way i)))/\Le h V) ⟨0,rfl,Og _,rfl,oT,A⟩ ?_;clear oT o2 l2 w2 A;rintro k fr V W ⟨i,rfl,hi,rfl,oT,N⟩;refine Uy ?_;refine Kl.intro (fun C=>?_) (fun hf=>?_)
 .have e : i < way.length := CC C
  clear C;have ad:=hw.TA i NH;have ld:=(hw.le Nn.RP N).DH i NH;rw[sY e]at ld;have hx:=S way[i] (ZT e);have X:way.getD i 0=way[i]:=D4 e;have st:=stI oT (i:=way[i]) (by grind [Ou]) (i:Int);simp only[HO,Nat.reduceLT,↓reduceIte,Nat.reduceEqDiff,reduceCtorEq,ad,ld,r _ _ hx,st,aaa i (Lb e (QJ hl))];refine lgA (JS e) ⟨i+1,rfl,e,rfl,?_,N.put _ nT⟩;rw[AHeap.Y3,KI,X]
 have D:way.length<=i:=vp hf;obtain rfl:i=way.length:=NH;have rD:=Qc (n:=n) hl way.length (qL0 _);have aq:=Ou n way way.length;have Y:=fun g=>R.len g;unfold V8;generalize KI n way way.length=pl at*;refine Sk Y ?_;refine lIn (fun k fr l=>∃(j:Nat) (m:Value),k=zp.length-j/\j<=zp.length/\fr=mkF [(7,.slice (some ⟨T,0,none⟩) n n),(10,m),(33,M),(34,.int .i64 (zp.length:Nat)),(35,.int .i64 (j:Nat))]/\l.own T=some (.cells (Bp pl))/\Le h l/\GP l m ((zp.take j).filter (aI pl))/\Z2 h m/\blk m≠some T) ⟨0,_,rfl,Og _,rfl,oT,N,GP.nil _,fun b hb=>by simp[blk]at hb,by simp[blk]⟩ ?_;clear oT N W;rintro k fr l F ⟨j,m,rfl,hj,rfl,oT,lz,g,ap,nb⟩;refine Uy ?_;refine Kl.intro (fun C=>?_) (fun hf=>?_)
 rotate_left
 .have D : zp.length <= j := vp hf
  rw[yM D]at g;refine Uy ?_
  grind
 have c:j<zp.length:=CC C;clear C;have Z:=CA c;have ar:zp.take (j+1)=zp.take j++[zp[j]]:=Sb c;obtain⟨p1,p2,p3⟩:=hR zp[j] (ZT c);have ad:=R.addr (k:=.i64) j c;have ld:=(R.le lz).load Z;generalize zp[j]=p at*;obtain⟨h3,h4,e3,e4,l4,w4,o4⟩:=Ut F p
 have av:l.own l.next=none:=(Le.refl l).next F (qL0 _)
 have G:=lz.trans l4;have f:=l4.own _ _ oT;have g4:=g.le l4;have Lp:=uM o4;have L0:=lK o4;have L1:=HY o4
 generalize l.next=E at*
 obtain⟨a,ea⟩:∃a:Nat,p.1=(a:Int):=⟨p.1.toNat,NH⟩;obtain⟨b,eb⟩:∃b:Nat,p.2=(b:Int):=⟨p.2.toNat,NH⟩;have aa:a<n:=NH;have ae:b<n:=NH;rw[ea]at L0;rw[eb]at L1;have ag:a<pl.length:=pw;have aj:b<pl.length:=pw;have hA:=CA ag;have hB:=CA aj;have rA:=rD a _ hA;have rB:=rD b _ hB;have H:pl.getD p.1.toNat 0=pl[a]:=pw;have gB:pl.getD p.2.toNat 0=pl[b]:=pw;have lA:=XP f hA;have lB:=XP f hB;generalize pl[a]=x at*;generalize pl[b]=y at*;have s:=ID rA rB;have I:=ID rB rA;have aw:=aaa j (Lb c (QJ z));have al:=fil_b (aI pl) z j
 have yes:aI pl p=true->∃d u o,aBuildSlice Tryz.prog h4 22 1 [(0,UI p)]=some (.slice (some ⟨h4.next,0,none⟩) 1 1,u)/\aAppend Tryz.prog u 22 22 m (.slice (some ⟨h4.next,0,none⟩) 1 1)=some (d,o)/\o.own T=some (.cells (Bp pl))/\Le h o/\GP o d ((zp.take (j+1)).filter (aI pl))/\Z2 h d/\blk d≠some T:=fun q=>by
  obtain⟨d,u,o,v,w,g7,w7,l6,ay,az⟩:=g4.push w4 p al
  grind
 have no:aI pl p=false->(zp.take (j+1)).filter (aI pl)=(zp.take j).filter (aI pl):=fun q=>by grind
 simp only[HO,Nat.reduceLT,↓reduceIte,Nat.reduceEqDiff,reduceCtorEq,ad,ld,e3,e4];refine gh (tA [0,1,2,3,4,5,6,7,8,9,10,11] .done) ?_;simp only[HO,Nat.reduceLT,↓reduceIte,Nat.reduceEqDiff,reduceCtorEq,Nat.reduceBEq,Qg,Dh,Z0,Ip,XJ,L0,L1,r _ a aa,r _ b ae,lA,lB];by_cases c1:x<0
 .obtain ⟨d, u, o, v, w, r1, r2, J, K, L⟩ := yes (Zz H gB (.inl c1))
  simp only[HO,Nat.reduceLT,↓reduceIte,Nat.reduceEqDiff,reduceCtorEq,c1,Lp,v,w,aw];exact lgA (JS c) ⟨j+1,d,rfl,c,rfl,r1,r2,J,K,L⟩
 by_cases c2:y<0
 .obtain ⟨d, u, o, v, w, r1, r2, J, K, L⟩ := yes (Zz H gB (.inr (.inl c2)))
  simp only[HO,Nat.reduceLT,↓reduceIte,Nat.reduceEqDiff,reduceCtorEq,c1,c2,Lp,v,w,aw];exact lgA (JS c) ⟨j+1,d,rfl,c,rfl,r1,r2,J,K,L⟩
 by_cases O:x-y=1
 .have t := no (Gh H gB c1 c2 (.inl O))
  have d3:decide (x-y=1)=true:=decide_eq_true O;simp only[HO,Nat.reduceLT,↓reduceIte,Nat.reduceEqDiff,reduceCtorEq,c1,c2,s,bne,d3,aw];exact lgA (JS c) ⟨j+1,m,rfl,c,rfl,f,G,by rw[t];exact g4,ap,nb⟩
 have d3:decide (x-y=1)=false:=decide_eq_false O;by_cases P:y-x=1
 .have t := no (Gh H gB c1 c2 (.inr P))
  have d4:decide (y-x=1)=true:=decide_eq_true P;simp only[HO,Nat.reduceLT,↓reduceIte,Nat.reduceEqDiff,reduceCtorEq,c1,c2,s,I,bne,d3,d4,aw];exact lgA (JS c) ⟨j+1,m,rfl,c,rfl,f,G,by rw[t];exact g4,ap,nb⟩
 have d4:decide (y-x=1)=false:=decide_eq_false P;obtain⟨d,u,o,v,w,r1,r2,J,K,L⟩:=yes (Zz H gB (.inr (.inr ⟨O,P⟩)));simp only[HO,Nat.reduceLT,↓reduceIte,Nat.reduceEqDiff,reduceCtorEq,c1,c2,s,I,bne,d3,d4,Lp,v,w,aw];exact lgA (JS c) ⟨j+1,d,rfl,c,rfl,r1,r2,J,K,L⟩
end
end Go.Fw
namespace Go.Fw
open Go.Proofs
attribute [local irreducible] Kp MQ lU KO1 KO KN KX KE VK Kl ZJ TC aab
attribute [local instance] Classical.propDecidable
def Hj (h:AHeap):aAlloc Tryz.prog h 49=some (.pointer (some ⟨h.next,0,none⟩),h.alloc (.cells [.slice none 0 0])):=rfl
structure LL (b0 h:AHeap) (S5 T6 M7 T n start:Nat) (mv:Value) (st:RZ×II):Prop where
 oS:h.own S5=some (.cells [.int .i64 (start:Int)])
 o6:h.own T6=some (.cells [.slice (some ⟨T,0,none⟩) n n])
 oT:h.own T=some (.cells (Bp st.1))
 oM:h.own M7=some (.cells [mv])
 gm:GI h mv (kz st.2)
 nS:b0.own S5=none
 n6:b0.own T6=none
 nT:b0.own T=none
 nM:b0.own M7=none
 am:Z2 b0 mv
 d1:T≠T6
 d2:T≠M7
 d3:T≠S5
 d4:M7≠S5
 d5:M7≠T6
 m1:blk mv≠some S5
 m2:blk mv≠some T6
 m3:blk mv≠some T
 m4:blk mv≠some M7
 le:Le b0 h
section
variable {b0 h : AHeap} {S5 T6 M7 T n start : Nat} {mv : Value} {st : List Int × List Nat}
theorem LL.up {h':AHeap} (W:LL b0 h S5 T6 M7 T n start mv st) (e:Le h h'):LL b0 h' S5 T6 M7 T n start mv st:=
 {W with oS:=e.own _ _ W.oS,o6:=e.own _ _ W.o6,oT:=e.own _ _ W.oT,oM:=e.own _ _ W.oM,gm:=W.gm.le e,le:=W.le.trans e}
def LL.lS (W:LL b0 h S5 T6 M7 T n start mv st):aload Tryz.prog h 3 ⟨S5,0,none⟩=some (.int .i64 (start:Int)):=by rw[Fq Mb rfl W.oS];rfl
def LL.l6 (W:LL b0 h S5 T6 M7 T n start mv st):aload Tryz.prog h 49 ⟨T6,0,none⟩=some (.slice (some ⟨T,0,none⟩) n n):=by rw[Fq Ac rfl W.o6];rfl
def LL.lM (W:LL b0 h S5 T6 M7 T n start mv st):aload Tryz.prog h 49 ⟨M7,0,none⟩=some mv:=by rw[Fq Ac rfl W.oM];rfl
end
theorem meet_yes {start:Nat} {st:RZ×II} {v by_:Nat} (h:v≠start) (h2:st.1.getD v 0<0):dt start st v by_=(st.1.set v (by_:Int),st.2++[v]):=by grind [dt]
theorem RF {start:Nat} {st:RZ×II} {v by_:Nat} (h:v=start\/¬st.1.getD v 0<0):dt start st v by_=st:=by grind [dt]
theorem K8 (l:LA) {b0 h:AHeap} {S5 T6 M7 T n start:Nat} {mv:Value} {st:RZ×II} (W:LL b0 h S5 T6 M7 T n start mv st) (y:st.1.length=n) {v by_:Nat} (m:v<n) (z:st.2.length<=1000):
  AC Tryz.prog l 140 [.int .i64 (v:Int),.int .i64 (by_:Int),.pointer (some ⟨S5,0,none⟩),.pointer (some ⟨T6,0,none⟩),.pointer (some ⟨M7,0,none⟩)] h fun _ h'=>∃d,LL b0 h' S5 T6 M7 T n start d (dt start st v by_):=by
 refine AC.vE ⟨qS36,rfl,WY⟩ Tryz.ntmps140 Tryz.results140 fun e=>?_;simp only[Br,Nat.reduceAdd];have o:=CA (show v<st.1.length by omega);have gd:st.1.getD v 0=st.1[v]'(by omega):=D4 NH
 have k:=Kx T n .i64 v m;have ld:=XP W.oT o;generalize st.1[v]'(by omega)=x at*
 by_cases c1:v=start
 .have d1 : decide ((v : Int) = (start : Int)) = true := decide_eq_true NH
  refine Sk (Yb W.lS @bne.eq_1.{0} d1) ?_
  grind [RF]
 have d1:decide ((v:Int)=(start:Int))=false:=decide_eq_false NH;by_cases c2:x<0
 rotate_left
 .simp only [HO, Nat.reduceLT, ↓reduceIte, Nat.reduceEqDiff, reduceCtorEq, W.lS, bne, d1, W.l6, k, ld, c2]
  grind [RF]
 have st1:=stI W.oT (i:=v) NH (by_:Int);have b:LL b0 (h.put T (.cells (Bp (st.1.set v (by_:Int))))) S5 T6 M7 T n start mv (st.1.set v (by_:Int),st.2):=
  {W with
   oS:=by grind [AHeap.By,LL.d3,LL.oS]
   o6:=by grind [AHeap.By,LL.d1,LL.o6]
   oT:=AHeap.Y3 _ _ _
   oM:=by grind [AHeap.By,LL.d2,LL.oM]
   gm:=GS.put W.gm _ W.m3
   le:=W.le.put _ W.nT}
 have w1:WF (h.put T (.cells (Bp (st.1.set v (by_:Int))))):=e.put _ (e.lt W.oT);rw[meet_yes c1 pw];simp only[HO,Nat.reduceLT,↓reduceIte,Nat.reduceEqDiff,reduceCtorEq,W.lS,bne,d1,W.l6,k,ld,c2,st1];generalize h.put T (.cells (Bp (st.1.set v (by_:Int))))=A at*;obtain⟨d,h2,h3,p,e3,f,B,l2,hf,g⟩:=b.gm.push w1 (v:Int) (by grind [y6]);obtain⟨l3,q⟩:=hf b0 b.le b.am;obtain⟨r,m1⟩:=g _ _ b.oS b.m1;obtain⟨s,m2⟩:=g _ _ b.o6 b.m2;obtain⟨u,m3⟩:=g _ _ b.oT b.m3;obtain⟨j,m4⟩:=g _ _ b.oM b.m4;have stM:=QB (P:=Tryz.prog) (t:=49) (x:=d) Ac Ji j (off:=0) Ma (by obtain⟨a,c,rfl,_⟩:=f.rl.sl;rfl) f.rl.sl.one;simp only[HO,Nat.reduceLT,↓reduceIte,Nat.reduceEqDiff,reduceCtorEq,b.lM,p,e3,stM];have w:kz st.2++[(v:Int)]=kz (st.2++[v]):=by simp[kz]
 rw[w]at f;exact⟨d,{b with
   oS:=by grind [AHeap.By,LL.d4]
   o6:=by grind [AHeap.By,LL.d5]
   oT:=by grind [AHeap.By,LL.d2]
   oM:=AHeap.Y3 _ _ _
   gm:=GS.put f _ m4
   am:=q,m1:=m1,m2:=m2,m3:=m3,m4:=m4
   le:=l3.put _ W.nM}⟩
end Go.Fw
namespace Go.Fw
section
attribute [local instance] Classical.propDecidable
attribute [local irreducible] Kp MQ lU KO1 KO KN KX KE VK Kl ZJ TC aab
open Go.Proofs
variable {i n:Nat} {rows:AM}
def pf0 (a:Addr):aField Tryz.prog 125 (.pointer (some a)) 0=some (.pointer (some (Ip a 0))):=rfl
def pf1 (a:Addr):aField Tryz.prog 125 (.pointer (some a)) 1=some (.pointer (some (Ip a 1))):=rfl
def pf2 (a:Addr):aField Tryz.prog 125 (.pointer (some a)) 2=some (.pointer (some (Ip a 2))):=rfl
theorem way_at {on:List Bool} {p:wW} {start i:Nat} (h2:¬p.Fm.length<2) (a:(p.Fm.headD 0).toNat=start) (hi:i<n+1)
  (b:∀j,j<i->XG rows on start (SL n start p.zp) j=false) (hs:XG rows on start (SL n start p.zp) i=true):
  J6 n rows on p=match(bfsM rows start (SL n start p.zp) i).2[i]? with
   |some v=>traceM (bfsM rows start (SL n start p.zp) i).1 start n v
   |none=>[]:=by grind [List.find?_range_eq_some,J6]
theorem headI0:∀{l:RZ} (h:0<l.length),l.headD 0=l[0]
 |_::_,_=>rfl
def sub_lt1 (h:i<n):n+1-(i+1)<n+1-i:=NH
theorem TL (fr:RZ) (start:Nat):∀f,traceM fr start f start=[start]
 |0=>rfl
 |f+1=>by grind [traceM.eq_2]
abbrev TT1:Nat->Prop:=fun _=>True
abbrev TT2:Nat->Nat->Prop:=fun _ _=>True
def trc_k {k f:Nat} (h:k<f+1) (j:Nat) (a:j<k):j<f:=NH
theorem way_any (W0:LA) (B n:Nat) (bv ov fv iv lv ea fa ta:Value) (es:List Pr) (on:List Bool) (p:wW) (h:AHeap) (hs:Sr h B n bv ov fv iv lv) (hb:RL (RL RP) h bv (Zh n es)) (ho:RL sJ h ov on) (c4:on.length=n)
  (Q:PR h ea p.zp) (R:RL RP h fa p.Fm) (b2:ta.oneCell'=true) (hR:aV n es) (b3:aV n p.zp) (b4:∀x∈p.Fm,∃v:Nat,x=(v:Int)/\v<n) (hn:n<=300) (c5:es.length<=1000) (b5:p.zp.length<=1000) (c6:p.Fm.length<=1000):
  AC Tryz.prog W0 98 [.pointer (some ⟨B,0,none⟩),.agg #[ea,fa,ta]] h fun x h'=>GI h' x (kz (J6 n (Zh n es) on p))/\Le h h'/\Z2 h x:=by
 refine AC.vE ⟨Tryz.func98,rfl,WY⟩ Tryz.ntmps98 Tryz.results98 fun b6=>?_;simp only[Br,Nat.reduceAdd];obtain⟨S,e1,l1,w1,o1⟩:=Tt b6 [ea,fa,ta];have bx:=aBox3 (h:=h) (a:=ea) (b:=fa) (c:=ta) Q.sl.one R.one b2;rw[e1]at bx
 have P0:∀g,Le S g->aload Tryz.prog g 22 ⟨h.next,0,none⟩=some ea/\aload Tryz.prog g 49 ⟨h.next,1,none⟩=some fa:=fun g lg=>by
  have o:=lg.own _ _ o1;exact⟨by rw[Fq Uh rfl o];rfl,by rw[Fq Ac rfl o];rfl⟩
 generalize h.next=P at*
 have lf:=fun g=>R.Uc g;by_cases c2:p.Fm.length<2
 .have d2 : decide ((p.Fm.length : Int) < 2) = true := decide_eq_true NH
  refine Sk (rE bx @pf1 @Ip.eq_1 @XJ ((P0 S (Le.refl _)).2) lf @d2) ?_;have e:J6 n (Zh n es) on p=[]:=by grind [J6]
  rw[e];exact⟨GI.nil _,l1,fun b hb=>by grind [blk]⟩
 have d2:decide ((p.Fm.length:Int)<2)=false:=decide_eq_false NH;have f0:0<p.Fm.length:=NH;have aT:=R.TA 0 f0;have aW:=(R.le Nn.RP l1).DH 0 f0;obtain⟨start,b8,c9⟩:=b4 _ (ZT f0);have aX:(p.Fm.headD 0).toNat=start:=by grind [headI0]
 rw[b8]at aW;obtain⟨h2,h3,e2,e3,l3,w3,o3⟩:=newI w1 (start:Int);simp only[JR]at aT;refine Sk (rk bx @pf1 @Ip.eq_1 @XJ ((P0 S (Le.refl _)).2) lf @d2 aT aW e2 e3) ?_
 have a6:h.own S.next=none:=l1.next w1 (qL0 _)
 generalize S.next=m at*
 have ag:=l1.trans l3;obtain⟨h4,e4,l4,w4,o4⟩:=Tt w3 [.int .i64 (-1)];have s4:=hs.le (ag.trans l4);refine Sk (bG @DQ e4 @sf0 @Ip.eq_1 @XJ s4.l0) ?_;refine TC.intro PJ ⟨NQ,rfl,WY⟩ (rN W0 _ n NH h4 (RL.Wh (RS.whole o4 rfl))) ?_;rintro x C w5 ⟨T,rfl,hT,o5,l5⟩;have U:=l4.trans l5;have a7:=ag.trans U
 have nT:h.own T=none:=(ag.trans l4).next w4 hT
 have a8:C.own T=some (.cells (Bp (List.replicate n (-1)))):=by rw[o5];simp[Bp]
 have bb:=U.own _ _ o3;obtain⟨h6,e6,l6,w6,o6⟩:=Tt w5 [.slice none 0 0]
 have n6:h.own C.next=none:=a7.next w5 (qL0 _)
 have bg:T≠C.next:=fun e=>by have:=w5.lt a8;omega
 have b9:C.next≠m:=fun e=>by have:=w5.lt bb;omega
 have bh:=QB (P:=Tryz.prog) (t:=49) (x:=.slice (some ⟨T,0,none⟩) n n) Ac Ji o6 (off:=0) Ma rfl rfl;refine Sk (Yb @Hj e6 bh) ?_
 have aj:Le h (h6.put C.next (.cells (([.slice none 0 0]:List Value).set 0 (.slice (some ⟨T,0,none⟩) n n)))):=(a7.trans l6).put _ n6
 have w7:WF (h6.put C.next (.cells (([.slice none 0 0]:List Value).set 0 (.slice (some ⟨T,0,none⟩) n n)))):=w6.put _ (w6.lt o6)
 have al:(h6.put C.next (.cells (([.slice none 0 0]:List Value).set 0 (.slice (some ⟨T,0,none⟩) n n)))).own T=some (.cells (Bp (List.replicate n (-1)))):=by grind [AHeap.By,Le.own]
 have aq:(h6.put C.next (.cells (([.slice none 0 0]:List Value).set 0 (.slice (some ⟨T,0,none⟩) n n)))).own m=some (.cells [.int .i64 (start:Int)]):=by grind [AHeap.By,Le.own]
 have ar:(h6.put C.next (.cells (([.slice none 0 0]:List Value).set 0 (.slice (some ⟨T,0,none⟩) n n)))).own C.next=some (.cells [.slice (some ⟨T,0,none⟩) n n]):=AHeap.Y3 _ _ _
 have P7:Le S (h6.put C.next (.cells (([.slice none 0 0]:List Value).set 0 (.slice (some ⟨T,0,none⟩) n n)))):=((l3.trans U).trans l6).put _ ((l3.trans U).next w5 (qL0 _))
 have bk:T≠m:=fun e=>by
  have:=w4.lt (l4.own _ _ o3);omega
 generalize C.next=y at*
 generalize h6.put y (.cells (([.slice none 0 0]:List Value).set 0 (.slice (some ⟨T,0,none⟩) n n)))=h7 at*;obtain⟨h8,e8,l8,w8,o8⟩:=Tt w7 [.slice none 0 0]
 have n8:h.own h7.next=none:=aj.next w7 (qL0 _)
 have dM:∀{b o},h7.own b=some o->h7.next≠b:=fun{b o} ob e=>by have:=w7.lt ob;omega
 have cc:=fun g=>Q.len g;refine Sk (rE @Hj e8 @pf0 @Ip.eq_1 @XJ ((P0 h8 (P7.trans l8)).1) cc) ?_
 have W8:LL h h8 m y h7.next T n start (.slice none 0 0) (List.replicate n (-1),[]):=
  ⟨l8.own _ _ aq,l8.own _ _ ar,l8.own _ _ al,o8,GI.nil _,a6,n6,nT,n8,fun b hb=>by grind [blk],bg,fun e=>dM al e.symm,bk,dM aq,dM ar,by simp[blk],by simp[blk],by simp[blk],by simp[blk],aj.trans l8⟩
 generalize h7.next=M at*
 clear dM n8 o8 P7 ar aq al w7 aj bh b9 bg n6 o6 w6 l6 e6 bb a8 o5 e4 e8;clear bk nT a6 P0 hT;have bm:BF n start TT1 TT2 ((p.zp.take 0).foldl (wR start) (List.replicate n (-1),[])):=BF.zero;refine lIn (fun k fr hq=>∃(i:Nat) (r:Value),k=p.zp.length-i/\i<=p.zp.length/\fr=mkF [(0,.pointer (some ⟨B,0,none⟩)),(5,.pointer (some ⟨m,0,none⟩)),(6,.pointer (some ⟨y,0,none⟩)),(7,.pointer (some ⟨M,0,none⟩)),(8,.func (.func 140) #[] #[.pointer (some ⟨m,0,none⟩),.pointer (some ⟨y,0,none⟩),.pointer (some ⟨M,0,none⟩)]),(32,ea),(33,.int .i64 (p.zp.length:Nat)),(34,.int .i64 (i:Nat))]/\
   LL h hq m y M T n start r ((p.zp.take i).foldl (wR start) (List.replicate n (-1),[]))/\BF n start TT1 TT2 ((p.zp.take i).foldl (wR start) (List.replicate n (-1),[]))) ⟨0,_,rfl,Og _,rfl,W8,bm⟩ ?_
 clear bm W8 w8 l8;rintro k fr hq bo ⟨i,r,rfl,hi,rfl,W,F⟩;refine Uy ?_;refine Kl.intro (fun Z=>?_) (fun hf=>?_)
 .have d : i < p.zp.length := CC Z
  clear Z;have cd:=CA d;have cf:p.zp.take (i+1)=p.zp.take i++[p.zp[i]]:=Sb d;have cg:=ZT d;obtain⟨p1,p2,p3⟩:=b3 p.zp[i] cg;have ad:=Q.addr (k:=.i64) i d;have ld:=(Q.le W.le).load cd;have N:(p.zp.take (i+1)).foldl (wR start) (List.replicate n (-1),[])=wR start ((p.zp.take i).foldl (wR start) (List.replicate n (-1),[])) p.zp[i]:=pw;have F1:=(F.Vk [p.zp[i]] fun e he=>by grind [jB]).1;rw[show[p.zp[i]].foldl (wR start) ((p.zp.take i).foldl (wR start) (List.replicate n (-1),[]))=wR start ((p.zp.take i).foldl (wR start) (List.replicate n (-1),[])) p.zp[i]from rfl]at F1;rw[N.symm]at F1;have hm:=F.jI;have hlen:=F.len;generalize p.zp[i]=e at*;obtain⟨g3,g4,q3,q4,m4,v4,u4⟩:=Ut bo e;have W4:=W.up m4;have V:=lK u4;have X:=HY u4
  generalize hq.next=E at*
  have aw:=aaa i (Lb d (QJ b5));obtain⟨a,ha⟩:∃a:Nat,e.1=(a:Int):=⟨e.1.toNat,NH⟩;obtain⟨b,sZ⟩:∃b:Nat,e.2=(b:Int):=⟨e.2.toNat,NH⟩;have ck:a<n:=NH;have cm:b<n:=NH;rw[ha]at V;rw[sZ]at X;have Y:((p.zp.take i).foldl (wR start) (List.replicate n (-1),[])).2.length<=1000:=NH;by_cases c1:a=start
  .have d1 : decide ((a : Int) = (start : Int)) = true := decide_eq_true NH
   have eB:wR start ((p.zp.take i).foldl (wR start) (List.replicate n (-1),[])) e=dt start ((p.zp.take i).foldl (wR start) (List.replicate n (-1),[])) b start:=by grind [wR]
   rw[eB]at N;simp only[HO,Nat.reduceLT,↓reduceIte,Nat.reduceEqDiff,reduceCtorEq,ad,ld,q3,q4,Dh,Z0,Ip,XJ,V,X,W4.lS,lW,d1];refine TC.intro PJ ⟨qS36,rfl,WY⟩ (K8 W0 W4 hlen (v:=b) (by_:=start) cm Y) ?_;rintro x g5 v5 ⟨D,O⟩;simp only[HO,Nat.reduceLT,↓reduceIte,Nat.reduceEqDiff,reduceCtorEq,aw];exact lgA (JS d) ⟨i+1,D,rfl,d,rfl,by rw[N];exact O,F1⟩
  have d1:decide ((a:Int)=(start:Int))=false:=decide_eq_false NH;by_cases c3:b=start
  .have d3 : decide ((b : Int) = (start : Int)) = true := decide_eq_true NH
   have eB:wR start ((p.zp.take i).foldl (wR start) (List.replicate n (-1),[])) e=dt start ((p.zp.take i).foldl (wR start) (List.replicate n (-1),[])) a start:=by grind [wR]
   rw[eB]at N;simp only[HO,Nat.reduceLT,↓reduceIte,Nat.reduceEqDiff,reduceCtorEq,ad,ld,q3,q4,Dh,Z0,Ip,XJ,V,X,W4.lS,lW,d1,d3];refine TC.intro PJ ⟨qS36,rfl,WY⟩ (K8 W0 W4 hlen (v:=a) (by_:=start) ck Y) ?_;rintro x g5 v5 ⟨D,O⟩;simp only[HO,Nat.reduceLT,↓reduceIte,Nat.reduceEqDiff,reduceCtorEq,aw];exact lgA (JS d) ⟨i+1,D,rfl,d,rfl,by rw[N];exact O,F1⟩
  .have d3 : decide ((b : Int) = (start : Int)) = false := decide_eq_false NH
   have eB:wR start ((p.zp.take i).foldl (wR start) (List.replicate n (-1),[])) e=(p.zp.take i).foldl (wR start) (List.replicate n (-1),[]):=by grind [wR]
   rw[eB]at N;simp only[HO,Nat.reduceLT,↓reduceIte,Nat.reduceEqDiff,reduceCtorEq,ad,ld,q3,q4,Dh,Z0,Ip,XJ,V,X,W4.lS,lW,d1,d3,aw];exact lgA (JS d) ⟨i+1,r,rfl,d,rfl,by rw[N];exact W4,F1⟩
 have z:p.zp.length<=i:=vp hf;rw[yM z]at W F;have aa:p.zp.foldl (wR start) (List.replicate n (-1),[])=SL n start p.zp:=rfl;rw[aa]at W F;refine Uy ?_;have br:SL n start p.zp=bfsM (Zh n es) start (SL n start p.zp) 0:=rfl;rw[br]at W F;refine lIn (fun k fr hz=>∃(i:Nat) (r:Value),k=n+1-i/\fr=mkF [(0,.pointer (some ⟨B,0,none⟩)),(5,.pointer (some ⟨m,0,none⟩)),(6,.pointer (some ⟨y,0,none⟩)),(7,.pointer (some ⟨M,0,none⟩)),(8,.func (.func 140) #[] #[.pointer (some ⟨m,0,none⟩),.pointer (some ⟨y,0,none⟩),.pointer (some ⟨M,0,none⟩)]),(11,.int .i64 (i:Nat))]/\
   LL h hz m y M T n start r (bfsM (Zh n es) start (SL n start p.zp) i)/\BF n start TT1 TT2 (bfsM (Zh n es) start (SL n start p.zp) i)/\i<=(bfsM (Zh n es) start (SL n start p.zp) i).2.length/\∀j,j<i->XG (Zh n es) on start (SL n start p.zp) j=false) ⟨0,r,rfl,rfl,W,F,Og _,fun j hj=>absurd hj (ahM _)⟩ ?_
 clear bo W F z hf hi br aa i r;rintro k fr hz cp ⟨i,r,rfl,rfl,W,F,cq,cx⟩;have Y:=F.jI;have hlen:=F.len;have lm:=fun g=>W.gm.rl.Uc g;rw[y6]at lm;have av:=way_at (p:=p) (i:=i) (n:=n) (rows:=Zh n es) (on:=on) c2 aX NH cx;simp only[HO,Nat.reduceLT,↓reduceIte,Nat.reduceEqDiff,reduceCtorEq,W.lM,lm];refine Kl.intro (fun Z=>?_) (fun hf=>?_)
 rotate_left
 .have z : (bfsM (Zh n es) start (SL n start p.zp) i).2.length <= i := vp hf
  have ay:(bfsM (Zh n es) start (SL n start p.zp) i).2[i]?=none:=Ry z;have e:=av (by grind [XG]);simp only[ay]at e;rw[e];refine Uy ?_;exact⟨GI.nil _,W.le,fun b hb=>by grind [blk]⟩
 have d:i<(bfsM (Zh n es) start (SL n start p.zp) i).2.length:=CC Z;clear Z;have l:=CA d;have az:=W.gm.rl.TA i (by rw[y6];exact d);have G:=W.gm.rl.DH i (by rw[y6];exact d);rw[sY d]at G;have bB:=ZT d;have cz:=(F.lt _ bB).1;generalize (bfsM (Zh n es) start (SL n start p.zp) i).2[i]=v at l G bB cz;have sz:=hs.le W.le;have H:v<on.length:=pw;have aC:=ho.LB (k:=.i64) v H;have A:=(ho.le Nn.sJ W.le).W7 v H;have cC:Wg on v=on[v]:=D4 H;rw[<-cC]at A;have bF:i<n:=NH;cases aD:Wg on v with
 |true=>
  rw[aD]at A;have e:=av (by grind [XG]);simp only[l]at e;rw[e];refine Sk (aNd9 W.lM az G @sf2 @Ip.eq_1 @XJ sz.l2 aC A) ?_;have par:=F.par;clear e aD;generalize bfsM (Zh n es) start (SL n start p.zp) i=st at*;refine lIn (fun k fr hy=>∃(cur:Nat) (xv:Value) (L:II),fr=mkF [(5,.pointer (some ⟨m,0,none⟩)),(6,.pointer (some ⟨y,0,none⟩)),(12,.int .i64 (cur:Nat)),(13,xv)]/\LL h hy m y M T n start r st/\GI hy xv (kz L)/\Z2 hz xv/\Le hz hy/\
    traceM st.1 start k cur++L.reverse=traceM st.1 start n v/\(cur=start\/∃q,q<k/\st.2[q]?=some cur)/\L.length+k=n) ⟨v,_,[],rfl,W,GI.nil _,fun b hb=>by grind [blk],Le.refl _,Ma,.inr ⟨i,bF,l⟩,Ma⟩ ?_
  rintro k fr hy aF ⟨cur,xv,L,rfl,Wy,gx,ax,bH,aH,bI,da⟩;by_cases cs:cur=start
  .subst cs
   have ds:decide ((cur:Int)=(cur:Int))=true:=decide_eq_true rfl;obtain⟨aJ,g4,g5,q4,q5,I,v5,m4,aK,-⟩:=gx.push aF (cur:Int) (by grind [y6]);obtain⟨m5,a5⟩:=aK hz bH ax;have e6:kz L++[(cur:Int)]=kz (L++[cur]):=by simp[kz]
   rw[e6]at I;simp only[HO,Nat.reduceLT,↓reduceIte,Nat.reduceEqDiff,reduceCtorEq,Wy.lS,bne,ds,q4,q5];refine TC.intro PJ ⟨XX,rfl,WY⟩ (Wk W0 aJ _ g5 I (by rw[y6,j9,QD];omega)) ?_;rintro x g6 v6 ⟨bN,cE,-⟩;refine Uy ?_;have e7:(kz (L++[cur])).reverse=kz (traceM st.1 cur n v):=by rw[<-aH,TL];simp[kz]
   rw[e7]at bN;have l6:=cE hz m5 a5;exact⟨bN,W.le.trans l6,fun b hb=>W.le.none (a5 b hb)⟩
  .have ds : decide ((cur : Int) = (start : Int)) = false := decide_eq_false NH
   obtain⟨q,cK,bQ⟩:=bI.resolve_left cs;obtain⟨f,rfl⟩:∃f,k=f+1:=⟨k-1,NH⟩;have cM:=(F.lt cur (Gc bQ)).1;obtain⟨aJ,g4,g5,q4,q5,I,v5,m4,aK,db⟩:=gx.push aF (cur:Int) (by grind [y6]);obtain⟨m5,a5⟩:=aK hz bH ax;have O:=W.up m5;have e6:kz L++[(cur:Int)]=kz (L++[cur]):=by simp[kz]
   rw[e6]at I;have hL:=CA (show cur<st.1.length by grind);have ld:=XP O.oT hL;have gd:st.1.getD cur 0=st.1[cur]'(by grind):=D4 _
   rw[traceM,if_neg cs]at aH;have cN:∃J:Nat,st.1.getD cur 0=(J:Int)/\(J=start\/∃q,q<f/\st.2[q]?=some J):=by
    rcases par q cur bQ with⟨S,_⟩|⟨j,u,S,h2,h3,_⟩
    .grind
    .exact⟨u,h3,.inr ⟨j,trc_k cK j S,h2⟩⟩
   obtain⟨J,ae,bW⟩:=cN;rw[<-gd,ae]at ld;rw[ae,HV]at aH;simp only[HO,Nat.reduceLT,↓reduceIte,Nat.reduceEqDiff,reduceCtorEq,Wy.lS,bne,ds,q4,q5,O.l6,Kx T n .i64 cur cM,ld];refine lgA (mg _) ⟨J,aJ,L++[cur],rfl,O,I,a5,m5,?_,bW,?_⟩
   .grind
   grind
 |false=>
  rw[aD]at A;have cP:XG (Zh n es) on start (SL n start p.zp) i=false:=by grind [XG]
  have bY:bfsM (Zh n es) start (SL n start p.zp) (i+1)=abU start (bfsM (Zh n es) start (SL n start p.zp) i) v ((Zh n es).getD v []):=by rw[bfsM,l]
  have aP:v<(Zh n es).length:=by grind [Xq]
  have bZ:=hb.NS v aP;obtain⟨uv,cR,s⟩:=hb.Wm v aP;have b0:(Zh n es).getD v []=(Zh n es)[v]:=D4 aP;generalize (Zh n es)[v]=row at s b0;have lr:=fun g=>s.Uc g;have dc:row.length<=3000:=by
   have:=bV n es row pw;omega
  rw[b0]at bY;simp only[HO,Nat.reduceLT,↓reduceIte,Nat.reduceEqDiff,reduceCtorEq,W.lM,az,G,sf1,sf2,Ip,XJ,sz.l1,sz.l2,aC,A,bZ,cR hz W.le,lr];clear av lm az G sz aC A bZ;generalize bfsM (Zh n es) start (SL n start p.zp) i=st at*;refine lIn (fun k fr hy=>∃(q:Nat) (r:Value),k=row.length-q/\q<=row.length/\fr=mkF [(0,.pointer (some ⟨B,0,none⟩)),(5,.pointer (some ⟨m,0,none⟩)),(6,.pointer (some ⟨y,0,none⟩)),(7,.pointer (some ⟨M,0,none⟩)),(8,.func (.func 140) #[] #[.pointer (some ⟨m,0,none⟩),.pointer (some ⟨y,0,none⟩),.pointer (some ⟨M,0,none⟩)]),(11,.int .i64 (i:Nat)),(12,.int .i64 (v:Nat)),(98,uv),(99,.int .i64 (row.length:Nat)),(100,.int .i64 (q:Nat))]/\
    LL h hy m y M T n start r (abU start st v (row.take q))/\BF n start TT1 TT2 (abU start st v (row.take q))/\i<(abU start st v (row.take q)).2.length/\(abU start st v (row.take q)).2[i]?=some v) ⟨0,r,rfl,Og _,rfl,W,F,d,l⟩ ?_
  clear cp W F d l Y hlen cq;clear r;rintro k fr hy aF ⟨q,r,rfl,hq,rfl,W,F,d,l⟩;refine Uy ?_;refine Kl.intro (fun Z=>?_) (fun hf=>?_)
  .have K : q < row.length := CC Z
   clear Z;have cU:=s.TA q K;have cZ:=(s.le Nn.RP W.le).DH q K;have cf:row.take (q+1)=row.take q++[row[q]]:=Sb K;have c0:row[q]∈(Zh n es).getD v []:=pw;generalize row[q]=x at*;obtain⟨w,rfl,b1⟩:=Ru hR c0;have N:abU start st v (row.take (q+1))=dt start (abU start st v (row.take q)) w v:=by grind [abU]
   have hm:=F.jI;have hlen:=F.len;obtain⟨F1,⟨t,et⟩,-⟩:=F.meet (v:=w) (by_:=v) b1 (.inr ⟨i,l,trivial⟩);rw[<-N]at F1 et;have aw:=aaa q NH;refine Sk (XC cU cZ) ?_;refine TC.intro PJ ⟨qS36,rfl,WY⟩ (K8 W0 W hlen (v:=w) (by_:=v) b1 NH) ?_;rintro x g5 v5 ⟨D,O⟩;rw[<-N]at O;simp only[HO,Nat.reduceLT,↓reduceIte,Nat.reduceEqDiff,reduceCtorEq,aw];exact lgA (JS K) ⟨q+1,D,rfl,K,rfl,O,F1,pw,Z5 et l⟩
  .have z : row.length <= q := vp hf
   rw[yM z,<-bY]at W F d;have aw:=aaa i NH;simp only[HO,Nat.reduceLT,↓reduceIte,Nat.reduceEqDiff,reduceCtorEq,aw];refine lgA (sub_lt1 bF) ⟨i+1,r,rfl,rfl,W,F,d,fun j hj=>?_⟩
   grind
end
end Go.Fw
namespace Go.Fw
open Go.Proofs
attribute [local irreducible] Kp MQ lU KO1 KO KN KX KE VK Kl ZJ TC aab
attribute [local instance] Classical.propDecidable
structure wi (n:Nat) (L:RZ) (ρ d:Nat->Nat):Prop where
 len:L.length=n
 up:∀v,v<n->∃w,w<n/\L[v]?=some (w:Int)/\ρ w=ρ v/\((w=v/\ρ v=v)\/(w≠v/\d w<d v))
 rt:∀v,v<n->ρ v<n/\ρ (ρ v)=ρ v
section
variable {n : Nat} {L : List Int} {ρ d : Nat → Nat}
theorem wi.zero (n:Nat):wi n ((List.range n).map fun(v:Nat)=>(v:Int)) id (fun _=>0):=
 ⟨Ma,fun v a=>⟨v,a,by simp[a],rfl,.inl ⟨rfl,rfl⟩⟩,fun v a=>⟨a,rfl⟩⟩
theorem wi.halve (F:wi n L ρ d) {v w u:Nat} (f:v<n) (hw:L[v]?=some (w:Int)) (a:w≠v) (g:L[w]?=some (u:Int)):wi n (L.set v (u:Int)) ρ d/\d u<d v/\u<n/\ρ u=ρ v:=by
 obtain⟨w',h,h2,h3,c⟩:=F.up v f;rw[hw]at h2;injection h2 with h2;obtain rfl:w=w':=NH;have c:=c.resolve_left fun q=>a q.1;obtain⟨u',i,b,j,l⟩:=F.up w h;rw[g]at b;injection b with b;obtain rfl:u=u':=NH;have hd:d u<d v:=pw;refine⟨⟨by grind [wi.len],fun x k=>?_,F.rt⟩,hd,i,j.trans h3⟩;by_cases e:v=x
 .grind
 .rw[fj,if_neg e];exact F.up x k
noncomputable def mW (ρ:Nat->Nat) (a b:Nat):Nat->Nat:=fun x=>if ρ x=a then b else ρ x
noncomputable def cO (ρ d:Nat->Nat) (a b:Nat):Nat->Nat:=fun x=>if ρ x=a/\a≠b then d x+d b+1 else d x
theorem wi.join (F:wi n L ρ d) {a b:Nat} (ha:a<n) (hb:b<n) (ra:ρ a=a) (rb:ρ b=b):wi n (L.set a (b:Int)) (mW ρ a b) (cO ρ d a b):=by
 by_cases e:a=b
 .subst e
  have h:mW ρ a a=ρ:=by grind [mW]
  have i:cO ρ d a a=d:=by grind [cO]
  rw[h,i];refine⟨by grind [wi.len],fun x f=>?_,F.rt⟩;by_cases e:a=x
  .grind [wi.len]
  .rw[fj,if_neg e];exact F.up x f
 .have k : mW ρ a b b = b := by grind [mW]
  have g:∀x,x<n->mW ρ a b x<n:=fun x f=>by grind [mW,wi.rt]
  refine⟨by grind [wi.len],fun x f=>?_,fun x f=>⟨g x f,?_⟩⟩
  .by_cases ex : a = x
   .grind [wi.len,mW,cO]
   .rw [fj, if_neg ex]
    obtain⟨w,j,h2,h3,l⟩:=F.up x f;refine⟨w,j,h2,by grind [mW],?_⟩
    grind [mW,cO]
  .unfold mW
   by_cases c:ρ x=a
   all_goals grind [wi.rt]
end
theorem Y9 (K:LA) (i T n:Nat) (L:RZ) (ρ d:Nat->Nat) (v:Nat) (h:AHeap) (G:h.own i=some (.cells [.slice (some ⟨T,0,none⟩) n n])) (oT:h.own T=some (.cells (Bp L))) (j:T≠i) (F:wi n L ρ d) (M:v<n):
  AC Tryz.prog K 143 [.int .i64 (v:Int),.pointer (some ⟨i,0,none⟩)] h fun x h'=>x=.int .i64 (ρ v:Int)/\∃a,wi n a ρ d/\h'.own T=some (.cells (Bp a))/\(∀f,Le f h->f.own T=none->Le f h')/\∀b o,b≠T->h.own b=some o->h'.own b=some o:=by
 refine AC.vE ⟨KT,rfl,WY⟩ Tryz.ntmps143 Tryz.results143 fun N=>?_;simp only[Br,Nat.reduceAdd];refine Uy ?_;refine lIn (fun k fr g=>∃(c:Nat) (a:RZ),k=d c/\c<n/\fr=mkF [(0,.int .i64 (c:Nat)),(1,.pointer (some ⟨i,0,none⟩))]/\ρ c=ρ v/\wi n a ρ d/\g.own T=some (.cells (Bp a))/\(∀f,Le f h->f.own T=none->Le f g)/\∀b o,b≠T->h.own b=some o->g.own b=some o) ⟨v,L,rfl,M,rfl,rfl,F,oT,fun f s _=>s,fun b o _ H=>H⟩ ?_;clear oT F;rintro k fr g O ⟨c,a,rfl,l,rfl,P,F,oT,s,Q⟩;have t:=Q i _ (uV j) G;have l5:aload Tryz.prog g 49 ⟨i,0,none⟩=some (.slice (some ⟨T,0,none⟩) n n):=by rw[Fq Ac rfl t];rfl
 obtain⟨w,hw,I,R,y⟩:=F.up c l;have ld:=XP oT I;by_cases e:w=c
 .subst e
  have d1:decide ((w:Int)=(w:Int))=true:=decide_eq_true rfl;have S:ρ w=w:=pw;simp only[HO,Nat.reduceLT,↓reduceIte,Nat.reduceEqDiff,reduceCtorEq,l5,Kx T n .i64 w l,ld,bne,d1]
  grind
 .have d1 : decide ((w : Int) = (c : Int)) = false := decide_eq_false NH
  obtain⟨u,V,m,_,_⟩:=F.up w hw;have z:=XP oT m;obtain⟨U,hd,A,B⟩:=F.halve l I e m;have p:c<a.length:=pw;have st:=stI oT p (u:Int);have q:(g.put T (.cells (Bp (a.set c (u:Int))))).own T=some (.cells (Bp (a.set c (u:Int)))):=AHeap.Y3 _ _ _;have r:∀b o,b≠T->h.own b=some o->(g.put T (.cells (Bp (a.set c (u:Int))))).own b=some o:=fun b o hb H=>by grind [AHeap.By]
  have C:aload Tryz.prog (g.put T (.cells (Bp (a.set c (u:Int))))) 49 ⟨i,0,none⟩=some (.slice (some ⟨T,0,none⟩) n n):=by rw[Fq Ac rfl (r i _ (uV j) G)];rfl
  have D:aload Tryz.prog (g.put T (.cells (Bp (a.set c (u:Int))))) 3 ⟨T,c,none⟩=some (.int .i64 (u:Int)):=XP q (by rw[fj,if_pos rfl,if_pos p]);simp only[HO,Nat.reduceLT,↓reduceIte,Nat.reduceEqDiff,reduceCtorEq,l5,Kx T n .i64 c l,ld,bne,d1];refine gh (tA [0,1,2,3,4,5,6,7,8,9] (JQ 10 [0,1,2,3,4,5,6,7,8,9] .done)) ?_;simp only[HO,Nat.reduceLT,↓reduceIte,Nat.reduceEqDiff,reduceCtorEq,Nat.reduceBEq,Qg,l5,Kx T n .i64 c l,Kx T n .i64 w hw,ld,z,st,C,D];exact lgA hd ⟨u,_,rfl,A,rfl,B.trans P,U,q,fun f E J=>(s f E J).put _ J,r⟩
end Go.Fw
namespace Go.Fw
open Go.Proofs
attribute [local instance] Classical.propDecidable
structure Sep (b0 h:AHeap) (vs:List Value):Prop where
 TE:∀(i j:Nat) u w b,i≠j->vs[i]?=some u->vs[j]?=some w->blk u=some b->blk w≠some b
 own:∀(i:Nat) u b,vs[i]?=some u->blk u=some b->h.own b≠none
 ap:∀(i:Nat) u,vs[i]?=some u->Z2 b0 u
 le:Le b0 h
section
variable {b0 h h' : AHeap} {vs : List Value}
theorem Sep.kept (S:Sep b0 h vs) (l:Le b0 h') (c:∀b o,h.own b=some o->h'.own b≠none):Sep b0 h' vs:=
 ⟨S.TE,fun i u b a hb=>by
  obtain⟨o,d⟩:=Db.1 (S.own i u b a hb)
  grind,S.ap,l⟩
theorem Sep.up (S:Sep b0 h vs) (l:Le h h'):Sep b0 h' vs:=by grind [Sep.kept,Sep.le,Le.trans,Le.own]
theorem Sep.app (S:Sep b0 h vs) {i:Nat} {u u':Value} (c:vs[i]?=some u) (hf:∀f,Le f h->Z2 f u->Le f h'/\Z2 f u') (m:∀b o,h.own b=some o->blk u≠some b->h'.own b=some o/\blk u'≠some b) (d:∀b,blk u'=some b->h'.own b≠none):Sep b0 h' (vs.set i u'):=by
 have key:∀(j:Nat) w,(vs.set i u')[j]?=some w->(j=i/\w=u')\/(j≠i/\vs[j]?=some w):=pw;obtain⟨l1,a1⟩:=hf b0 S.le (S.ap i u c);have fresh:∀(j:Nat) w b,j≠i->vs[j]?=some w->blk w=some b->h'.own b≠none/\blk u'≠some b:=fun j w b n hw hb=>by
  obtain⟨o,d⟩:=Db.1 (S.own j w b hw hb)
  grind [Sep.TE]
 refine⟨fun j k a w b e ha hw hb q=>?_,fun j a b ha hb=>?_,fun j a ha=>?_,l1⟩
 .rcases key j a ha with ⟨g, rfl⟩ | ⟨g, p⟩
  .grind
  .rcases key k w hw with ⟨l, rfl⟩ | ⟨l, h2⟩
   .grind
   grind [Sep.TE]
 all_goals grind [Sep.ap]
theorem Sep.snoc (S:Sep b0 h vs) {v:Value} (e:blk v=none):Sep b0 h (vs++[v]):=by
 have key:∀(j:Nat) w,(vs++[v])[j]?=some w->vs[j]?=some w\/w=v:=pw;refine⟨fun i j u w b c a hw hb q=>?_,fun i u b a hb=>?_,fun i u a b hb=>?_,S.le⟩
 .grind [Sep.TE]
 .grind [Sep.own]
 .rcases key i u a with d | rfl
  .exact S.ap i u d b hb
  grind
end
abbrev rW:Value:=.slice none 0 0
def cellsO (vs:List Value):Nat->List Value
 |0=>[]
 |m+1=>cellsO vs m++[vs.getD (2*m) rW,vs.getD (2*m+1) rW,rW]
theorem Iy (vs:List Value):∀m,(cellsO vs m).length=m*3
 |0=>rfl
 |m+1=>by rw[cellsO,j9,Iy vs m];simp;omega
theorem aY (vs:List Value) {k:Nat}:∀m,k<m->(cellsO vs m)[k*3]?=some (vs.getD (2*k) rW)/\(cellsO vs m)[k*3+1]?=some (vs.getD (2*k+1) rW)/\(cellsO vs m)[k*3+2]?=some rW
 |0,h=>by grind
 |m+1,h=>by
  rw[cellsO];by_cases e:k=m
  .refine ⟨?_, ?_, ?_⟩
   .grind [Iy]
   .grind [Iy]
   grind [Iy]
  .obtain ⟨a, h2, h3⟩ := aY vs (k := k) m NH
   grind
theorem aA {vs ws:List Value}:∀m,(∀i,i<2*m->vs.getD i rW=ws.getD i rW)->cellsO vs m=cellsO ws m
 |0,_=>rfl
 |m+1,h=>by rw[cellsO,cellsO,aA m fun i hi=>h i NH,h (2*m) NH,h (2*m+1) NH]
theorem Yv {vs:List Value} {k r:Nat} (b:r<2) {a:Value}:∀m,k<m->2*m<=vs.length->cellsO (vs.set (2*k+r) a) m=(cellsO vs m).set (k*3+r) a
 |0,h,_=>by grind
 |m+1,h,c=>by
  rw[cellsO,cellsO];by_cases e:k=m
  .subst e
   rw[aA (ws:=vs) k pw]
   grind [Iy,Nat.add_sub_cancel_left]
  .rw [Yv b m NH NH, List.set_append_left _ _ (by grind [Iy])]
   grind
structure Wq (b0 h:AHeap) (xv:Value) (vs:List Value) (ps:List (List Pr×RZ)):Prop where
 sep:Sep b0 h (xv::vs)
 len:vs.length=2*ps.length
 sl:GS 3 h xv ps.length (cellsO vs ps.length)
 ge:∀(i:Nat) p,ps[i]?=some p->GP h (vs.getD (2*i) rW) p.1/\GI h (vs.getD (2*i+1) rW) p.2
 cu:cu xv
section
variable {b0 h h' : AHeap} {xv : Value} {vs : List Value} {ps : List (List Pr × List Int)}
theorem Wq.nil (b0:AHeap):Wq b0 b0 rW [] []:=by
 refine⟨⟨fun i j u w b d a hw hb=>?_,fun i u b a hb=>?_,fun i u a b hb=>?_,Le.refl _⟩,rfl,GS.nil 3 b0,pw,.inl rfl⟩
 all_goals
  have c:=Gc a;rw[jf]at c;subst c;cases hb
theorem Wq.kept (P:Wq b0 h xv vs ps) (l:Le b0 h') (g:∀b o,(∃u∈xv::vs,blk u=some b)->h.own b=some o->h'.own b=some o):Wq b0 h' xv vs ps:=by
 have a:∀i,i<vs.length->vs.getD i rW∈xv::vs:=pw;refine⟨⟨P.sep.TE,fun i u b d hb=>?_,P.sep.ap,l⟩,P.len,GS.kept P.sl pw,fun i p c=>?_,P.cu⟩
 .obtain ⟨o, j⟩ := Db.1 (P.sep.own i u b d hb)
  grind
 .have hi := (Ny.1 c).1
  have:=P.len;obtain⟨e,f⟩:=P.ge i p c;exact⟨GS.kept e pw,GS.kept f pw⟩
theorem Wq.up (P:Wq b0 h xv vs ps) (l:Le h h'):Wq b0 h' xv vs ps:=P.kept (P.sep.le.trans l) (by grind [Le.own])
theorem u6 (P:Wq b0 h xv vs ps) {i:Nat} (hi:i<vs.length):(xv::vs)[i+1]?=some (vs.getD i rW):=pw
theorem dD:UA Tryz.prog 125=3:=Ji
def bld0:aBuild Tryz.prog 125 []=some (.agg #[rW,rW,rW]):=Ji
def mkPc (h:AHeap):aBuildSlice Tryz.prog h 75 1 [(0,.agg #[rW,rW,rW])]=some (.slice (some ⟨h.next,0,none⟩) 1 1,h.alloc (.cells [rW,rW,rW])):=Ji
theorem one3 (vs:List Value) (a:∀u∈vs,u.oneCell'=true):∀m,(cellsO vs m).all (·.oneCell')=true
 |0=>rfl
 |m+1=>by
  have g:∀i,(vs.getD i rW).oneCell'=true:=fun i=>by
   by_cases c:i<vs.length
   .grind
   .rw[qH,Ry NH];rfl
  rw[cellsO,ahu,one3 vs a m,agV,agV,agV,g,g];rfl
theorem Wq.one (P:Wq b0 h xv vs ps):(cellsO vs ps.length).all (·.oneCell')=true:=by
 refine one3 vs (fun u a=>?_) _;obtain⟨i,hi,rfl⟩:=U9.1 a;have f:=P.len;have b:=BS (l:=ps) (i:=i / 2) NH;obtain⟨c,d⟩:=P.ge _ _ b;have:i=2*(i / 2)\/i=2*(i / 2)+1:=NH;rcases this with e|e
 .have := c.pr.sl.one
  grind
 .have := d.rl.one
  grind
theorem Wq.push (P:Wq b0 h xv vs ps) (l:WF h) (I:ps.length<=100000):
  ∃a g d,aBuildSlice Tryz.prog h 75 1 [(0,.agg #[rW,rW,rW])]=some (.slice (some ⟨h.next,0,none⟩) 1 1,g)/\aAppend Tryz.prog g 75 75 xv (.slice (some ⟨h.next,0,none⟩) 1 1)=some (a,d)/\
   Wq b0 d a (vs++[rW,rW]) (ps++[([],[])])/\WF d/\Le h g/\(∀f,Le f h->Z2 f xv->Le f d)/\∀b o,h.own b=some o->blk xv≠some b->d.own b=some o/\blk a≠some b:=by
 obtain⟨g,e4,l4,s,z⟩:=Tt l [rW,rW,rW]
 have hs:∀e,UA Tryz.prog e=3->srcCells Tryz.prog g e (.slice (some ⟨h.next,0,none⟩) 1 1)=some (1,[rW,rW,rW]):=fun e A=>
  CS.src A (CS.own (k:=3) (off:=0) (n:=1) (cap:=1) z Ma)
 obtain⟨a,d,m,J,q⟩:=GS.append (P:=Tryz.prog) (t:=75) (xt:=75) (k:=3) Ji (P.sl.le l4) hs P.one rfl rfl NH;have B:=xr s m;have w:∀b o,h.own b=some o->blk xv≠some b->d.own b=some o/\blk a≠some b:=fun b o C hb=>aG q s (l4.own _ _ C) hb;refine⟨a,g,d,by rw[mkPc,e4],m,?_,B,l4,(by grind [Le.trans]),w⟩;have D:=P.sep.app (h':=d) (i:=0) (u:=xv) (u':=a) rfl (by grind [Le.trans]) w (by grind [GS.Sy]);have E:Sep b0 d (a::(vs++[rW,rW])):=by
  have:=(Sep.snoc D (v:=rW) rfl).snoc (v:=rW) rfl
  grind
 have x:cellsO (vs++[rW,rW]) (ps++[([],[])]).length=cellsO vs ps.length++[rW,rW,rW]:=by
  rw[j9,QD,cellsO];congr 1
  .grind [aA]
  .rw[<-P.len,qH,qH,vZ (qL0 _),vZ NH];simp
 refine⟨E,by grind [Wq.len],pw,fun i p y=>?_,uZ m P.cu⟩;by_cases c:i<ps.length
 .rw [Eh c] at y
  have K:=P.len;obtain⟨F,G⟩:=P.ge i p y;have r:∀j,j<vs.length->(vs++[rW,rW]).getD j rW=vs.getD j rW:=pw;rw[r _ NH,r _ NH];have nb:∀j,j<vs.length->∀b,blk (vs.getD j rW)=some b->blk xv≠some b:=fun j H b hb=>P.sep.TE (j+1) 0 _ _ b NH (u6 P H) rfl hb;exact⟨GS.kept F pw,GS.kept G pw⟩
 .have L : (vs ++ [rW, rW]).getD (2 * ps.length) rW = rW := by grind [Wq.len]
  have r:(vs++[rW,rW]).getD (2*ps.length+1) rW=rW:=by rw[<-P.len,qH,vZ NH,adE];rfl
  grind [GP.nil,GI.nil]
end
end Go.Fw
namespace Go.Fw
open Go.Proofs
attribute [local instance] Classical.propDecidable
theorem GS.stor {P:Program} {h:AHeap} {k m:Nat} {v x:Value} {cs:List Value} {t:TypeId} {d:TypeDesc} (g:GS k h v m cs) (a:WF h) (q:P.underlying t=some d) (hs:UA P t=1) {i:Nat} (hi:i<m*k) (r:x.cells=#[x]) (s:x.oneCell'=true):
  ∃h',aStore P h t (.pointer (some (elemAddr v i))) x=some h'/\GS k h' v m (cs.set i x)/\WF h'/\(∀f,Le f h->Z2 f v->Le f h')/\∀b o,h.own b=some o->blk v≠some b->h'.own b=some o:=by
 obtain⟨u,⟨rfl,rfl⟩|⟨id,c,cap,rfl,j,w,l⟩⟩:=g
 .omega
 .refine ⟨h.put id (.cells (c.set i x)), ?_, ⟨pw, .inr ⟨id, c.set i x, cap, rfl, AHeap.Y3 _ _ _, ?_, l⟩⟩, a.put _ (a.lt j), fun f n af => n.put _ (af id rfl), fun b o hb p => ?_⟩
  .grind [fA,Ip.eq_1,QB]
  .grind [List.take_set]
  .rw[AHeap.By _ _ _ _ (fun e=>p (by rw[e];rfl))];exact hb
def xO.cell {v:Value} {n:Nat} (h:xO v n):v.cells=#[v]:=by obtain⟨_,_,rfl,_⟩:=h;rfl
def GS.ad3 {h:AHeap} {v:Value} {cs:List Value} {m:Nat} (g:GS 3 h v m cs) {k:Nat} (d:k<m):aIndexAddr Tryz.prog 75 v (.int .i64 (k:Int))=some (.pointer (some (elemAddr v (k*3)))):=by
 obtain⟨a,c,rfl,hs⟩:=g.cs.sl;obtain⟨a,rfl⟩:=LH.1 (hs NH);have b:(k:Int)<(m:Int):=NH;simp[aIndexAddr,afm,zj,b,dD,elemAddr]
theorem eA3 {h:AHeap} {v:Value} {cs:List Value} {m:Nat} (g:GS 3 h v m cs) {k r:Nat} (b:k<m):Ip (elemAddr v (k*3)) r=elemAddr v (k*3+r):=by
 obtain⟨a,c,rfl,hs⟩:=g.cs.sl
 grind [Option.isSome_iff_exists,fA,Ub]
section
variable {b0 h h2 : AHeap} {xv : Value} {vs : List Value} {ps : List (List Pr × List Int)}
def Wq.ldE (P:Wq b0 h xv vs ps) {k:Nat} (a:k<ps.length):aload Tryz.prog h 22 (elemAddr xv (k*3))=some (vs.getD (2*k) rW):=by rw[Bj Uh rfl];exact P.sl.cs.get _ _ (aY vs ps.length a).1
def Wq.ldF (P:Wq b0 h xv vs ps) {k:Nat} (a:k<ps.length):aload Tryz.prog h 49 (elemAddr xv (k*3+1))=some (vs.getD (2*k+1) rW):=by rw[Bj Ac rfl];exact P.sl.cs.get _ _ (aY vs ps.length a).2.1
def Wq.len_ (P:Wq b0 h xv vs ps) (g:AHeap):aLen Tryz.prog g 75 xv=some (.int .i64 (ps.length:Nat)):=by
 obtain⟨a,c,rfl,_⟩:=P.sl.cs.sl;exact Jg afm g
theorem Wq.setR (P:Wq b0 h xv vs ps) {t:TypeId} {d:TypeDesc} (G:Tryz.prog.underlying t=some d) (z:UA Tryz.prog t=1) {k r:Nat} (H:k<ps.length) (Q:r<2) {u':Value} {pk:List Pr×RZ} (A:WF h2)
  (hf:∀f,Le f h->Z2 f (vs.getD (2*k+r) rW)->Le f h2/\Z2 f u') (s:∀b o,h.own b=some o->blk (vs.getD (2*k+r) rW)≠some b->h2.own b=some o/\blk u'≠some b)
  (a:(r=0/\GP h2 u' pk.1/\∃l,ps[k]?=some (l,pk.2))\/(r=1/\GI h2 u' pk.2/\∃f,ps[k]?=some (pk.1,f))):
  ∃h3,aStore Tryz.prog h2 t (.pointer (some (elemAddr xv (k*3+r)))) u'=some h3/\Wq b0 h3 xv (vs.set (2*k+r) u') (ps.set k pk)/\WF h3/\(∀f,Le f h->Z2 f (vs.getD (2*k+r) rW)->Z2 f xv->Le f h3)/\∀b o,h.own b=some o->(∀u∈xv::vs,blk u≠some b)->h3.own b=some o:=by
 have R:=P.len;have n:2*k+r<vs.length:=NH
 have v:xO u' (if r=0 then pk.1.length else pk.2.length):=by
  rcases a with⟨e,g,_⟩|⟨e,g,_⟩
  .rw[if_pos e];exact g.pr.sl
  .rw[if_neg NH];exact g.rl.sl
 have I:∀b,blk u'=some b->h2.own b≠none:=fun b hb=>by
  rcases a with⟨_,g,_⟩|⟨_,g,_⟩
  .exact GS.Sy g hb
  .exact GS.Sy g hb
 have dx:∀b,blk xv=some b->blk (vs.getD (2*k+r) rW)≠some b:=fun b hb=>P.sep.TE 0 _ _ _ b NH rfl (u6 P n) hb;have B:GS 3 h2 xv ps.length (cellsO vs ps.length):=GS.kept P.sl pw;obtain⟨h3,e3,S,J,K,L⟩:=GS.stor B A (x:=u') G z (i:=k*3+r) NH v.cell v.one;have M:∀b,blk xv=some b->blk u'≠some b:=fun b hb=>by
  obtain⟨o,E⟩:=Db.1 (P.sep.own 0 xv b rfl hb)
  grind
 refine⟨h3,e3,?_,J,pw,pw⟩;have C:=P.sep.app (u6 P n) hf s I;have N:Sep b0 h3 (xv::vs.set (2*k+r) u'):=C.kept (K b0 C.le (C.ap 0 xv rfl)) (by grind [GS.Sy]);refine⟨N,pw,by grind [Yv],fun i p c=>?_,P.cu⟩;have keep:∀j,j<vs.length->j≠2*k+r->∀b o,blk (vs.getD j rW)=some b->h.own b=some o->h3.own b=some o:=fun j F O b o hb E=>
  L b o (s b o E (P.sep.TE (j+1) (2*k+r+1) _ _ b NH (u6 P F) (u6 P n) hb)).1 (P.sep.TE (j+1) 0 _ _ b NH (u6 P F) rfl hb)
 have same:∀j,j≠2*k+r->(vs.set (2*k+r) u').getD j rW=vs.getD j rW:=pw;have m:(vs.set (2*k+r) u').getD (2*k+r) rW=u':=pw;have D:∀b o,blk u'=some b->h2.own b=some o->h3.own b=some o:=pw;rw[fj]at c;by_cases e:k=i
 .subst e
  simp only[if_true,H]at c;injection c with c;subst c;rcases a with⟨e,g,l,q⟩|⟨e,g,l,q⟩
  .subst e
   obtain⟨w,y⟩:=P.ge k _ q;have n0:=m;rw[zx]at n0;rw[zx,n0];have s1:=same (2*k+1) NH;rw[zx]at s1;rw[s1];exact⟨GS.kept g pw,GS.kept y pw⟩
  .subst e
   obtain⟨w,y⟩:=P.ge k _ q;rw[m,same (2*k) NH];exact⟨GS.kept w pw,GS.kept g pw⟩
 .rw [if_neg e] at c
  have hi:=(Ny.1 c).1;obtain⟨w,y⟩:=P.ge i p c;rw[same (2*i) NH,same (2*i+1) NH];exact⟨GS.kept w pw,GS.kept y pw⟩
end
end Go.Fw
namespace Go.Fw
open Go.Proofs
attribute [local instance] Classical.propDecidable
def Cls (n:Nat) (on:Nat->Bool) (es:List Pr) (ρ:Nat->Nat):Prop:=∀u w,u<n->w<n->on u=false->on w=false->(ρ u=ρ w↔Cn on es u w)
section
variable {n : Nat} {on : Nat → Bool} {es : List Pr} {ρ d : Nat → Nat}
theorem Cn.mono {es b:List Pr} (h:∀e∈es,e∈b) {u w:Nat} (c:Cn on es u w):Cn on b u w:=by
 induction c with
 |refl o=>exact .refl o
 |step _ a o f=>exact .step f (a.imp (h _) (h _)) o
def cls_nil:Cls n on [] id:=fun u w _ _ b _=>by
 constructor
 .intro h;subst h;exact .refl b
 .intro h
  cases h with
  |refl=>rfl
  |step _ a _=>rcases a with a|a<;>cases a
theorem bD {p:Pr} (C:Cls n on es ρ) (hR:0<=p.1/\0<=p.2) (h:on p.1.toNat=true\/on p.2.toNat=true):Cls n on (es++[p]) ρ:=fun u w e hw f b=>by
 rw[C u w e hw f b];refine⟨by grind [Cn.mono],fun c=>?_⟩;clear hw b
 induction c with
 |refl o=>exact .refl o
 |@step x y c1 a o g=>
  refine .step g ?_ o;have ox:=c1.AB;rcases a with a|a
  .rcases qL7.1 a with a | a
   .exact .inl a
   grind
  .rcases qL7.1 a with a | a
   .exact .inr a
   grind
theorem cls_join {a b:Nat} (C:Cls n on es ρ) (hR:aV n (es++[((a:Int),(b:Int))])) (k:on a=false) (l:on b=false):Cls n on (es++[((a:Int),(b:Int))]) (mW ρ (ρ a) (ρ b)):=fun u w o hw p q=>by
 have r:=hR _ (BR _ (jf.2 rfl));have sub:∀{x y},Cn on es x y->Cn on (es++[((a:Int),(b:Int))]) x y:=by grind [Cn.mono]
 have m:Cn on (es++[((a:Int),(b:Int))]) a b:=.step (.refl k) (.inl (by grind [List.mem_singleton])) l;have up:∀x,x<n->on x=false->∀y,y<n->on y=false->ρ x=ρ y->Cn on (es++[((a:Int),(b:Int))]) x y:=fun x g ox y i f e=>sub ((C x y g i ox f).1 e);have j:∀x,x<n->on x=false->∃y,y<n/\on y=false/\Cn on (es++[((a:Int),(b:Int))]) x y/\mW ρ (ρ a) (ρ b) x=ρ y:=by grind [mW,Cn.trans]
 constructor
 .grind [Cn.trans,Cn.symm]
 .intro c
  have key:∀{x y},x<n->y<n->on x=false->on y=false->Jp (es++[((a:Int),(b:Int))]) x y->mW ρ (ρ a) (ρ b) x=mW ρ (ρ a) (ρ b) y:=fun{x y} g i ox f h=>by
   have qi:Jp es x y->mW ρ (ρ a) (ρ b) x=mW ρ (ρ a) (ρ b) y:=fun h=>by
    have:=(C x y g i ox f).2 (.step (.refl ox) h f);unfold mW;rw[this]
   have new:∀{x y:Nat},(((x:Int),(y:Int)):Pr)=((a:Int),(b:Int))->mW ρ (ρ a) (ρ b) x=mW ρ (ρ a) (ρ b) y:=fun{x y} e=>by
    injection e with s t;obtain rfl:x=a:=NH;obtain rfl:y=b:=NH;unfold mW;grind
   rcases h with h|h
   .rcases qL7.1 h with h | h
    .exact qi (.inl h)
    grind
   .rcases qL7.1 h with h | h
    .exact qi (.inr h)
    grind
  have lt:∀{x y},Jp (es++[((a:Int),(b:Int))]) x y->x<n/\y<n:=fun h=>h.lt hR
  induction c<;>grind [Cn.AB]
end
def hdL (n i:Nat):RZ:=(List.range n).map fun v=>if v<i then(v:Int)else 0
theorem hdL_len (n i:Nat):(hdL n i).length=n:=by simp[hdL]
theorem hdL_zero (n:Nat):hdL n 0=List.replicate n 0:=by
 apply V3
 grind [hdL]
theorem hdL_set {n i:Nat} (hi:i<n):(hdL n i).set i (i:Int)=hdL n (i+1):=by
 apply V3
 grind [hdL]
theorem hdL_all (n:Nat):hdL n n=(List.range n).map fun(v:Nat)=>(v:Int):=by grind [hdL,List.map_congr_left]
noncomputable abbrev Gu (n:Nat) (on:Nat->Bool) (es:List Pr) (v:Nat):Int:=(MF n on es).getD v 0
noncomputable abbrev frL (n:Nat) (on:Nat->Bool) (es:List Pr):Pr->Nat->Int:=Zo n on (MF n on es)
def qT (on:Nat->Bool) (gs:List Gr):List (List Pr×RZ):=gs.map fun g=>(g.2,kZ (BY on g.2))
structure fu (n:Nat) (on:Nat->Bool) (es:List Pr) (ρ:Nat->Nat) (gs:List Gr) (A:RZ):Prop where
 len:A.length=n
 val:∀v,v<n->on v=false->(∃(k:Nat) (l:List Pr),A[ρ v]?=some (k:Int)/\gs[k]?=some (Gu n on es v,l))\/(A[ρ v]?=some (-1)/\Gu n on es v∉Ea gs)
section
variable {n : Nat} {on : Nat → Bool} {es : List Pr} {ρ : Nat → Nat} {A : List Int}
theorem pH {v:Nat} (a:v<n) (b:on v=false):∃k:Nat,k<n/\Gu n on es v=(k:Int):=by grind [uY,wx.off]
theorem TB {u w:Nat} (a:u<n) (hw:w<n) (b:on u=false) (c:on w=false):Gu n on es u=Gu n on es w↔Cn on es u w:=M9 uY a hw b c
theorem fu.zero (F:∀v,v<n->ρ v<n):fu n on es ρ [] (List.replicate n (-1)):=
 ⟨Ma,(by grind [Ea])⟩
theorem fu.qi {gs:List Gr} (T:fu n on es ρ gs A) (b:(Ea gs).Nodup) {v k:Nat} {l:List Pr} (c:gs[k]?=some (Gu n on es v,l)) (p:Pr):addG gs (Gu n on es v) p=gs.set k (Gu n on es v,l++[p])/\fu n on es ρ (gs.set k (Gu n on es v,l++[p])) A:=by
 have e:addG gs (Gu n on es v) p=gs.set k (Gu n on es v,l++[p]):=by
  rcases Ga (Gu n on es v) gs (gs.map fun _=>rW) 0 Ma with⟨a,_⟩|⟨j,l',u,a,_,_,_,h⟩
  .exact absurd (Z6.2 ⟨_,Gc c,rfl⟩) a
  .have i:j=k:=by
    refine QN b (x:=Gu n on es v) ?_ ?_
    all_goals grind [Ea]
   grind
 refine⟨e,T.len,fun w hw f=>?_⟩;have g:Ea (gs.set k (Gu n on es v,l++[p]))=Ea gs:=by
  unfold Ea;apply V3
  grind
 rcases T.val w hw f with⟨j,l',a,h2⟩|⟨a,h2⟩
 .grind
 grind
def V4 {gs:List Gr} {f:Int} (h:f∉Ea gs) (p:Pr):addG gs f p=gs++[(f,[p])]:=by
 rcases Ga f gs (gs.map fun _=>rW) 0 Ma with⟨_,_,_,a⟩|⟨j,l',u,b,_⟩
 .exact a p
 .exact absurd (Z6.2 ⟨_,Gc b,rfl⟩) h
theorem fu.new {gs:List Gr} (C:Cls n on es ρ) (F:∀v,v<n->ρ v<n) (T:fu n on es ρ gs A) {v:Nat} (b:v<n) (e:on v=false) (h:Gu n on es v∉Ea gs) (p:Pr):fu n on es ρ (gs++[(Gu n on es v,[p])]) (A.set (ρ v) (gs.length:Int)):=by
 refine⟨by grind [fu.len],fun w hw a=>?_⟩;have hA:ρ v<A.length:=by grind [fu.len]
 by_cases c:ρ v=ρ w
 .have el : Gu n on es v = Gu n on es w := (TB b hw e a).2 ((C v w b hw e a).1 c)
  grind
 .rw [fj, if_neg c]
  rcases T.val w hw a with⟨j,l',f,h2⟩|⟨f,h2⟩
  .grind
  .refine .inr ⟨f, ?_⟩
   have:Ea (gs++[(Gu n on es v,[p])])=Ea gs++[Gu n on es v]:=by simp[Ea]
   rw[this,qL7,jf];rintro(q|q)
   .exact h2 q
   .exact c ((C v w b hw e a).2 (by grind [TB]))
theorem fu.lone {gs:List Gr} (T:fu n on es ρ gs A) {f:Int} (hf:(n:Int)<=f) (p:Pr):fu n on es ρ (gs++[(f,[p])]) A:=by
 refine⟨T.len,fun w hw a=>?_⟩;rcases T.val w hw a with⟨j,l',b,h2⟩|⟨b,h2⟩
 .grind
 .refine .inr ⟨b, ?_⟩
  have:Ea (gs++[(f,[p])])=Ea gs++[f]:=by simp[Ea]
  rw[this,qL7,jf];rintro(q|q)
  .exact h2 q
  .obtain ⟨k, c, e⟩ := pH (es := es) hw a
   omega
theorem lone_new (hR:aV n es) {i:Nat}:((n:Int)+i)∉Ea (grpsM (frL n on es) es [] i):=fun c=>by
 obtain⟨j,q,p,f,_,e⟩:=(keys_mem _ _ _ _ _).1 c;obtain⟨a,b,rfl,g,hb⟩:=jB hR (Gc f);unfold frL Zo at e;split at e
 .rename_i h
  obtain⟨k,l,m⟩:=pH (n:=n) (es:=es) pw h
  grind
 .split at e
  .rename_i o
   obtain⟨k,l,m⟩:=pH (n:=n) (es:=es) hb o
   grind
  .omega
def Xe (gs:List Gr) (f:Int) (p:Pr):qT on (gs++[(f,[p])])=qT on gs++[([p],kZ (ftP on p))]:=by simp[qT,BY]
def ps_old (gs:List Gr) (k:Nat) (f:Int) (l:List Pr):qT on (gs.set k (f,l))=(qT on gs).set k (l,kZ (BY on l)):=by simp[qT,ac9]
theorem KS (l:List Pr) (p:Pr):kZ (BY on (l++[p]))=(ftP on p).foldl Uo (kZ (BY on l)):=by grind [kZ,BY]
end
end Go.Fw
namespace Go.Fw
section
attribute [local instance] Classical.propDecidable
attribute [local irreducible] Kp MQ lU KO1 KO KN KX KE VK Kl ZJ TC aab
open Go.Proofs
variable {P:Program} {W0:LA} {h:AHeap} {i n:Nat} {on:Nat->Bool}
def NB (X:II) (vs:List Value):Prop:=∀u∈vs,∀b∈X,blk u≠some b
def ZJ.UJ {N:Nat} {ops:Array Oper} {ks:List Kt} {R:Exit->lC->AHeap->Prop} {fr:lC} (q:∀fr' h',fr'=fr->h'=h->ZJ P W0 N i ops ks R fr' h'):ZJ P W0 N i ops ks R fr h:=q fr h rfl rfl
theorem Qr {es l:List Pr} (hR:aV n es) (c:∀e∈l,e∈es):(kZ (BY on l)).length<=n:=by
 obtain⟨d,h2⟩:=VW (BY on l);have:=tf d (B:=kz (List.range n)) fun x f=>by
  obtain⟨_,e,g,h⟩:=zS.1 ((h2 x).1 f);obtain⟨a,b,rfl,i,hb⟩:=jB hR (c e g);refine Z6.2 ?_
  grind
 grind [kz]
theorem Xr (W0:LA) (B n:Nat) (bv ov fv iv lv ev:Value) (on:List Bool) (es:List Pr) (h:AHeap) (hs:Sr h B n bv ov fv iv lv) (ho:RL sJ h ov on) (ep:on.length=n) (he:PR h ev es) (hR:aV n es) (hn:n<=300) (dk:es.length<=1000):
  AC Tryz.prog W0 102 [.pointer (some ⟨B,0,none⟩),ev] h fun x h'=>∃vs,Wq h h' x vs (qT (Wg on) (grpsM (frL n (Wg on) es) es [] es.length)):=by
 refine AC.vE ⟨Tryz.func102,rfl,WY⟩ Tryz.ntmps102 Tryz.results102 fun dm=>?_;simp only[Br,Nat.reduceAdd];obtain⟨h1,e1,l1,w1,o1⟩:=Tt dm (List.replicate n (.int .i64 0));have mk:=mk35 h n NH;rw[e1]at mk
 have nT:h.own h.next=none:=(Le.refl h).next dm (qL0 _)
 obtain⟨h2,e2,l2,w2,o2⟩:=Tt w1 [rW]
 have n5:h.own h1.next=none:=by grind [Le.next]
 have d5:h.next≠h1.next:=fun e=>by have:=w1.lt o1;omega
 have dp:=QB (P:=Tryz.prog) (t:=49) (x:=.slice (some ⟨h.next,0,none⟩) n n) Ac Ji o2 (off:=0) Ma rfl rfl
 simp only[HO,Nat.reduceLT,↓reduceIte,Nat.reduceEqDiff,reduceCtorEq,sf0,Ip,XJ,hs.l0,mk,Hj,e2,dp]
 have l3:Le h (h2.put h1.next (.cells (([rW]:List Value).set 0 (.slice (some ⟨h.next,0,none⟩) n n)))):=(l1.trans l2).put _ n5
 have w3:WF (h2.put h1.next (.cells (([rW]:List Value).set 0 (.slice (some ⟨h.next,0,none⟩) n n)))):=w2.put _ (w2.lt o2)
 have cq:(h2.put h1.next (.cells (([rW]:List Value).set 0 (.slice (some ⟨h.next,0,none⟩) n n)))).own h1.next=some (.cells [.slice (some ⟨h.next,0,none⟩) n n]):=AHeap.Y3 _ _ _
 have dq:(h2.put h1.next (.cells (([rW]:List Value).set 0 (.slice (some ⟨h.next,0,none⟩) n n)))).own h.next=some (.cells (Bp (hdL n 0))):=by rw[AHeap.By _ _ _ _ d5,hdL_zero,l2.own _ _ o1];simp[Bp]
 generalize h2.put h1.next (.cells (([rW]:List Value).set 0 (.slice (some ⟨h.next,0,none⟩) n n)))=h3 at*
 generalize h1.next=s at*
 generalize h.next=T at*
 clear dp o2 w2 l2 e2 o1 w1 l1 e1 mk;have bm:∀g,g.own s=some (.cells [.slice (some ⟨T,0,none⟩) n n])->aload Tryz.prog g 49 ⟨s,0,none⟩=some (.slice (some ⟨T,0,none⟩) n n):=fun g o=>by rw[Fq Ac rfl o];rfl
 have ei:=fun g=>Jg (P:=Tryz.prog) (t:=49) (a:=some ⟨T,0,none⟩) (n:=n) (cap:=n) Ac g;refine Sk (XC (bm h3 cq) ei) ?_;refine aab.intro (fun k fr hq=>∃i:Nat,k=n-i/\i<=n/\fr=mkF [(0,.pointer (some ⟨B,0,none⟩)),(1,ev),(5,.pointer (some ⟨s,0,none⟩)),(24,.int .i64 (n:Nat)),(25,.int .i64 (i:Nat))]/\hq.own s=some (.cells [.slice (some ⟨T,0,none⟩) n n])/\hq.own T=some (.cells (Bp (hdL n i)))/\Le h hq)
  n [(0,.pointer (some ⟨B,0,none⟩)),(1,ev),(5,.pointer (some ⟨s,0,none⟩)),(24,.int .i64 (n:Nat)),(25,.int .i64 (0:Nat))] fD ⟨0,rfl,Og _,rfl,cq,dq,l3⟩ ?_
 clear cq dq l3 w3;rintro k fr hq cx ⟨i,rfl,hi,rfl,o5,oT,lq⟩;refine Uy ?_;refine Kl.intro (fun ht=>?_) (fun hf=>?_)
 .have b5 : i < n := CC ht
  clear ht;have st:=stI oT (i:=i) (by grind [hdL_len]) (i:Int);rw[hdL_set b5]at st;simp only[HO,Nat.reduceLT,↓reduceIte,Nat.reduceEqDiff,reduceCtorEq,bm hq o5,Kx T n .i64 i b5,st,aaa i NH];exact tn (n-(i+1)) [(0,.pointer (some ⟨B,0,none⟩)),(1,ev),(5,.pointer (some ⟨s,0,none⟩)),(24,.int .i64 (n:Nat)),(25,.int .i64 (i+1:Nat))] (JS b5) fD ⟨i+1,rfl,b5,rfl,by rw[AHeap.By _ _ _ _ (uV d5)];exact o5,AHeap.Y3 _ _ _,lq.put _ nT⟩
 have bH:n<=i:=vp hf;obtain rfl:i=n:=NH;rw[hdL_all]at oT;have dv:=fun g=>he.len g;have F0:=wi.zero i;refine Sk dv ?_;clear hf hi bH;generalize er:Wg on=m at*;have I:∀g,Le h g->∀v,v<i->aload Tryz.prog g 4 (elemAddr ov v)=some (.bool (m v)):=fun g lg v hv=>by grind [RL.le,Nn.sJ,RL.W7]
 have H:∀v,v<i->aIndexAddr Tryz.prog 59 ov (.int .i64 (v:Int))=some (.pointer (some (elemAddr ov v))):=fun v hv=>ho.LB v NH;refine aab.intro (fun k fr hz=>∃(j:Nat) (L:RZ) (ρ d:Nat->Nat),k=es.length-j/\j<=es.length/\fr=mkF [(0,.pointer (some ⟨B,0,none⟩)),(1,ev),(5,.pointer (some ⟨s,0,none⟩)),(7,.func (.func 143) #[] #[.pointer (some ⟨s,0,none⟩)]),(34,ev),(35,.int .i64 (es.length:Nat)),(36,.int .i64 (j:Nat))]/\
   hz.own s=some (.cells [.slice (some ⟨T,0,none⟩) i i])/\hz.own T=some (.cells (Bp L))/\Le h hz/\wi i L ρ d/\Cls i m (es.take j) ρ)
  es.length [(0,.pointer (some ⟨B,0,none⟩)),(1,ev),(5,.pointer (some ⟨s,0,none⟩)),(7,.func (.func 143) #[] #[.pointer (some ⟨s,0,none⟩)]),(34,ev),(35,.int .i64 (es.length:Nat)),(36,.int .i64 (0:Nat))] fD
  ⟨0,_,_,_,rfl,Og _,rfl,o5,oT,lq,F0,cls_nil⟩ ?_
 clear F0 oT o5 lq cx;rintro k fr hz aF ⟨j,L,ρ,d,rfl,hj,rfl,o5,oT,lz,F,C⟩;refine Uy ?_;refine Kl.intro (fun ht=>?_) (fun hf=>?_)
 .have K : j < es.length := CC ht
  clear ht;have b6:=CA K;have cz:es.take (j+1)=es.take j++[es[j]]:=Sb K;have dw:aV i (es.take (j+1)):=fun p hp=>hR p (dr hp);obtain⟨a,b,cC,ej,hb⟩:=jB hR (ZT K);have ad:=he.addr (k:=.i64) j K;have ld:=(he.le lz).load b6;generalize es[j]=p at*;subst cC;rw[cz]at dw;obtain⟨h4,h5,e4,e5,l5,w5,oE⟩:=Ut aF ((a:Int),(b:Int));have N:=lz.trans l5;have ag:=l5.own _ _ o5;have bg:=l5.own _ _ oT;have L0:=lK oE;have L1:=HY oE;simp only at L0 L1
  have nE:∀{x o},hz.own x=some o->x≠hz.next:=fun{x o} hx e=>by have:=aF.lt hx;omega
  have ar:=nE oT
  generalize hz.next=E at*
  have D:a<i:=NH;have s5:=hs.le N;have aw:=aaa j (Lb K (QJ dk));by_cases ca:m a=true
  .have C' : Cls i m (es.take (j + 1)) ρ := by rw [cz]; exact bD C pw (.inl (by simpa using ca))
   have lo:=I h5 N a D;rw[ca]at lo;simp only[HO,Nat.reduceLT,↓reduceIte,Nat.reduceEqDiff,reduceCtorEq,ad,ld,e4,e5];refine gh (tA [0,1,2,3,4,5,6,7,8,9,10,11,12,13,14,15,16,17,18,19] .done) ?_;simp only[HO,Nat.reduceLT,↓reduceIte,Nat.reduceEqDiff,reduceCtorEq,Nat.reduceBEq,Qg,sf2,Ip,XJ,s5.l2,Dh,L0,H a D,lo,aw];exact tn (es.length-(j+1)) [(0,.pointer (some ⟨B,0,none⟩)),(1,ev),(5,.pointer (some ⟨s,0,none⟩)),(7,.func (.func 143) #[] #[.pointer (some ⟨s,0,none⟩)]),(34,ev),(35,.int .i64 (es.length:Nat)),(36,.int .i64 (j+1:Nat))] (JS K) fD
    ⟨j+1,L,ρ,d,rfl,K,rfl,ag,bg,N,F,C'⟩
  rw[VX]at ca;have lo:=I h5 N a D;rw[ca]at lo;by_cases cb:m b=true
  .have C' : Cls i m (es.take (j + 1)) ρ := by grind [bD]
   have bI:=I h5 N b hb;rw[cb]at bI;simp only[HO,Nat.reduceLT,↓reduceIte,Nat.reduceEqDiff,reduceCtorEq,ad,ld,e4,e5];refine gh (tA [0,1,2,3,4,5,6,7,8,9,10,11,12,13,14,15,16,17,18,19] .done) ?_;simp only[HO,Nat.reduceLT,↓reduceIte,Nat.reduceEqDiff,reduceCtorEq,Nat.reduceBEq,Qg,sf2,Ip,XJ,s5.l2,Dh,Z0,L0,L1,H a D,H b hb,lo,bI,aw];exact tn (es.length-(j+1)) [(0,.pointer (some ⟨B,0,none⟩)),(1,ev),(5,.pointer (some ⟨s,0,none⟩)),(7,.func (.func 143) #[] #[.pointer (some ⟨s,0,none⟩)]),(34,ev),(35,.int .i64 (es.length:Nat)),(36,.int .i64 (j+1:Nat))] (JS K) fD
    ⟨j+1,L,ρ,d,rfl,K,rfl,ag,bg,N,F,C'⟩
  rw[VX]at cb;have bI:=I h5 N b hb;rw[cb]at bI;have C':=cls_join C dw ca cb;rw[<-cz]at C';simp only[HO,Nat.reduceLT,↓reduceIte,Nat.reduceEqDiff,reduceCtorEq,ad,ld,e4,e5];refine gh (tA [0,1,2,3,4,5,6,7,8,9,10,11,12,13,14,15,16,17,18,19] .done) ?_;simp only[HO,Nat.reduceLT,↓reduceIte,Nat.reduceEqDiff,reduceCtorEq,Nat.reduceBEq,Qg,sf2,Ip,XJ,s5.l2,Dh,Z0,L0,L1,H a D,H b hb,lo,bI];refine gh (tA [0,1,2,3,5,6,7] (JQ 4 [1,3] (JQ 8 [4,5,7] (tA [9] (JQ 10 [0,1,2,3,4,5,6,7,8,9] .done))))) ?_;refine CO (rE (bm h5 ag) @Ip.eq_1 @XJ @Dh @Z0 L0 L1) ?_;refine VA.intro PJ ⟨KT,rfl,WY⟩ (Y9 W0 s T i L ρ d a h5 ag bg d5 F D) ?_;rintro x h6 w6 ⟨rfl,L',F6,bh,bN,Z⟩;have aa:=Z s _ (uV d5) ag;have av:=Z E _ (uV ar) oE;have dy:=lK av;have dz:=HY av;simp only at dy dz;have ra:=F.rt a D;have rb:=F.rt b hb;refine CO (rE (bm h6 aa) @Ip.eq_1 @XJ @Dh @Z0 dy dz) ?_;refine VA.intro PJ ⟨KT,rfl,WY⟩ (Y9 W0 s T i L' ρ d b h6 aa bh d5 F6 hb) ?_;rintro x h7 w7 ⟨rfl,et,F7,O,bQ,ae⟩;have M:=ae s _ (uV d5) aa;have R:=ae E _ (uV ar) av;have dB:=lK R;have dE:=HY R;simp only at dB dE;have st:=stI O (i:=ρ a) (by grind [wi.len]) (ρ b:Int);simp only[HO,Nat.reduceLT,↓reduceIte,Nat.reduceEqDiff,reduceCtorEq,Nat.reduceBEq,Qg,bm h6 aa,bm h7 M,Ip,XJ,Dh,Z0,dB,dE,Kx T i .i64 (ρ a) ra.1,st,aw];exact tn (es.length-(j+1)) [(0,.pointer (some ⟨B,0,none⟩)),(1,ev),(5,.pointer (some ⟨s,0,none⟩)),(7,.func (.func 143) #[] #[.pointer (some ⟨s,0,none⟩)]),(34,ev),(35,.int .i64 (es.length:Nat)),(36,.int .i64 (j+1:Nat))] (JS K) fD
   ⟨j+1,_,_,_,rfl,K,rfl,by grind [AHeap.By],AHeap.Y3 _ _ _,(bQ h (bN h N nT) nT).put _ nT,F7.join ra.1 rb.1 ra.2 rb.2,C'⟩
 have bH:es.length<=j:=vp hf;rw[yM bH]at C;have Y:=fun v hv=>(F.rt v hv).1;clear bH hf hj;obtain⟨h4,e4,l4,w4,o4⟩:=Tt aF [.int .i64 (-1)];have s4:=hs.le (lz.trans l4);refine Sk (bG @DQ e4 @sf0 @Ip.eq_1 @XJ s4.l0) ?_;refine TC.intro PJ ⟨NQ,rfl,WY⟩ (rN W0 _ i NH h4 (RL.Wh (RS.whole o4 rfl))) ?_;rintro x h8 w8 ⟨A,rfl,hA,o8,l8⟩;have b8:=l4.trans l8;have aH:=lz.trans b8;have aJ:h8.own A=some (.cells (Bp (List.replicate i (-1)))):=by rw[o8];simp[Bp]
 have bo:=b8.own _ _ o5;have br:=b8.own _ _ oT
 have nA:h.own A=none:=(lz.trans l4).next w4 hA
 have dA:∀{b o},hz.own b=some o->A≠b:=fun{b o} ob e=>by have:=w4.lt (l4.own _ _ ob);omega
 have aK:=dA oT;have dF:=dA o5;have A0:fu i m es ρ (grpsM (frL i m es) es [] 0) (List.replicate i (-1)):=fu.zero Y;have P0:Wq h h8 rW [] (qT m (grpsM (frL i m es) es [] 0)):=(Wq.nil h).up aH;refine Sk dv ?_;refine aab.intro (fun k fr hz=>∃(j:Nat) (L at_:RZ) (J:Value) (vs:List Value),k=es.length-j/\j<=es.length/\fr=mkF [(0,.pointer (some ⟨B,0,none⟩)),(7,.func (.func 143) #[] #[.pointer (some ⟨s,0,none⟩)]),(10,J),(11,.slice (some ⟨A,0,none⟩) i i),(77,ev),(78,.int .i64 (es.length:Nat)),(79,.int .i64 (j:Nat))]/\
   hz.own s=some (.cells [.slice (some ⟨T,0,none⟩) i i])/\hz.own T=some (.cells (Bp L))/\hz.own A=some (.cells (Bp at_))/\wi i L ρ d/\fu i m es ρ (grpsM (frL i m es) es [] j) at_/\Wq h hz J vs (qT m (grpsM (frL i m es) es [] j))/\NB [T,s,A] (J::vs))
  es.length [(0,.pointer (some ⟨B,0,none⟩)),(7,.func (.func 143) #[] #[.pointer (some ⟨s,0,none⟩)]),(10,rW),(11,.slice (some ⟨A,0,none⟩) i i),(77,ev),(78,.int .i64 (es.length:Nat)),(79,.int .i64 (0:Nat))] fD
  ⟨0,L,_,rW,[],rfl,Og _,rfl,bo,br,aJ,F,A0,P0,fun u w b _ q=>by rw[jf.1 w]at q;cases q⟩ ?_
 clear A0 P0 br bo aJ o8 l8 w8 o4 e4 F oT o5 aF s4 lz aH b8 l4 w4 hA dA;clear h8 h4 hz L j;rintro k fr hz aF ⟨j,L,at_,J,vs,rfl,hj,rfl,o5,oT,oA,F,AT,P,nb⟩;have lz:=P.sep.le;refine Uy ?_;refine Kl.intro (fun ht=>?_) (fun hf=>?_)
 rotate_left
 .have bH : es.length <= j := vp hf
  obtain rfl:j=es.length:=NH;refine Uy ?_
  grind
 have K:j<es.length:=CC ht;clear ht;have b6:=CA K;obtain⟨a,b,cC,ej,hb⟩:=jB hR (ZT K);have ad:=he.addr (k:=.i64) j K;have ld:=(he.le lz).load b6;generalize es[j]=p at*;subst cC;have eG:=dh (fr:=frL i m es) b6 (show(((a:Int),(b:Int)):Pr)∉([]:List Pr) by simp);obtain⟨nk,-,dH,eu,ek⟩:=Pt (frL i m es) es [] j;obtain⟨h4,h5,e4,e5,l5,w5,oE⟩:=Ut aF ((a:Int),(b:Int));have N:=lz.trans l5;have ag:=l5.own _ _ o5;have bg:=l5.own _ _ oT;have cE:=l5.own _ _ oA;have P5:=P.up l5
 have nE:∀{x o},hz.own x=some o->x≠hz.next:=fun{x o} hx e=>by have:=aF.lt hx;omega
 have ar:=nE oT;have dI:=nE oA
 have ew:h.own hz.next=none:=by grind [Le.next]
 have aP:∀u∈J::vs,blk u≠some hz.next:=fun u w q=>by
  obtain⟨t,ht⟩:=IE.1 w;have:=P.sep.own t u _ ht q
  exact this ((Le.refl hz).next aF (qL0 _))
 generalize hz.next=E at*
 have D:a<i:=NH;have aw:=aaa j (Lb K (QJ dk));have cK:∀g,g.own E=some (.cells (xM ((a:Int),(b:Int))))->aload Tryz.prog g 3 ⟨E,0,none⟩=some (.int .i64 (a:Int)):=fun g o=>lK o;have dJ:∀g,g.own E=some (.cells (xM ((a:Int),(b:Int))))->aload Tryz.prog g 3 ⟨E,1,none⟩=some (.int .i64 (b:Int)):=fun g o=>HY o;have aT:=fun v hv=>Kx A i .i64 v hv;have S:(qT m (grpsM (frL i m es) es [] j)).length=(grpsM (frL i m es) es [] j).length:=by simp[qT]
 apply Ya (F:=fun(fr:lC) (h6:AHeap)=>∃(k:Nat) (L at_:RZ) (J:Value) (vs:List Value) (ps:List (List Pr×RZ)) (l:List Pr) (ft:RZ),Fj fr [(0,.pointer (some ⟨B,0,none⟩)),(7,.func (.func 143) #[] #[.pointer (some ⟨s,0,none⟩)]),(10,J),(11,.slice (some ⟨A,0,none⟩) i i),(13,.pointer (some ⟨E,0,none⟩)),(15,.int .i64 (k:Int)),(77,ev),(78,.int .i64 (es.length:Nat)),(79,.int .i64 (j:Nat))]/\
   WF h6/\h6.own s=some (.cells [.slice (some ⟨T,0,none⟩) i i])/\h6.own T=some (.cells (Bp L))/\h6.own A=some (.cells (Bp at_))/\h6.own E=some (.cells (xM ((a:Int),(b:Int))))/\wi i L ρ d/\fu i m es ρ (grpsM (frL i m es) es [] (j+1)) at_/\Wq h h6 J vs ps/\NB [T,s,A] (J::vs)/\(∀u∈J::vs,blk u≠some E)/\
   ps[k]?=some (l,ft)/\l.length<=j/\ft.length<=i/\qT m (grpsM (frL i m es) es [] (j+1))=ps.set k (l++[((a:Int),(b:Int))],(ftP m ((a:Int),(b:Int))).foldl Uo ft))
 .intro cont
  have s5:=hs.le N;have aW:∀{k:Nat} {f:Int} {l:List Pr},(grpsM (frL i m es) es [] j)[k]?=some (f,l)->∀e∈l,e∈es:=fun{k f l} hk e en=>ek _ (Gc hk) e en;cases ca:m a with
  |false=>
   have hf:frL i m es ((a:Int),(b:Int)) j=Gu i m es a:=by unfold frL Zo;simp only[HV];grind
   have bW:=I h5 N a D;rw[ca]at bW;rw[hf]at eG;simp only[HO,Nat.reduceLT,↓reduceIte,Nat.reduceEqDiff,reduceCtorEq,ad,ld,e4,e5,Dh,sf2,Ip,XJ,s5.l2,cK h5 oE,H a D,bW,P5.len_,H a D];refine TC.intro PJ ⟨KT,rfl,WY⟩ (Y9 W0 s T i L ρ d a h5 ag bg d5 F D) ?_;rintro y h6 w6 ⟨rfl,L6,F6,bh,bN,Z⟩;have ay:=bN h N nT;have s6:=hs.le ay;have cM:=I h6 ay a D;rw[ca]at cM;have aa:=Z s _ (uV d5) ag;have az:=Z A _ aK cE;have av:=Z E _ (uV ar) oE;have P6:=P5.kept ay fun c o G ho=>Z c o (fun e=>by obtain⟨u,w,hb⟩:=G;exact nb u w T Ma (by rw[<-e];exact hb)) ho;rcases AT.val a D ca with⟨k,l,aC,U⟩|⟨aC,U⟩
   .have bk := XP az aC
    have kp:decide ((k:Int)>=0)=true:=decide_eq_true NH;obtain⟨q1,q2⟩:=AT.qi nk U ((a:Int),(b:Int));refine Sk (Yb (aT (ρ a) (Y a D)) bk kp) ?_;refine TC.intro PJ ⟨KT,rfl,WY⟩ (Y9 W0 s T i L6 ρ d a h6 aa bh d5 F6 D) ?_;rintro y h7 w7 ⟨rfl,L7,F7,O,bQ,ae⟩;have M:=ae s _ (uV d5) aa;have Q:=ae A _ aK az;have R:=ae E _ (uV ar) av;have V:=bQ h ay nT;have P7:=P6.kept V fun c o G ho=>ae c o (fun e=>by obtain⟨u,w,hb⟩:=G;exact nb u w T Ma (by rw[<-e];exact hb)) ho;have bY:=XP Q aC;refine Sk (XC (aT (ρ a) (Y a D)) bY) ?_;refine ZJ.UJ fun fr' h' x y=>cont fr' h' ?_;subst x y;have cN:=dH _ (Gc U);refine⟨k,L7,at_,J,vs,_,l,kZ (BY m l),fD,w7,M,O,Q,R,F7,by rw[eG,q1];exact q2,P7,nb,aP,?_,cN,Qr hR (aW U),?_⟩
    .unfold qT;rw[Yq,U];rfl
    .rw[eG,q1,ps_old,KS]
   .have bk := XP az aC
    have kp:decide ((-1:Int)>=0)=false:=by decide
    have q1:=V4 U ((a:Int),(b:Int));have q2:=AT.new C Y D ca U ((a:Int),(b:Int));obtain⟨aj,g4,g5,q4,q5,P7,w7,dL,dM,W⟩:=P6.push w6 (by rw[S];omega);have al:∀c,c∈[T,s,A]->blk J≠some c:=fun c G=>nb J Ma c G;obtain⟨M,bZ⟩:=W s _ aa (al s Ma);obtain⟨O,b0⟩:=W T _ bh (al T Ma);obtain⟨Q,b1⟩:=W A _ az (al A Ma);obtain⟨R,aX⟩:=W E _ av (aP J Ma);have V:=P7.sep.le;have s7:=hs.le V;have a6:=I g5 V a D;rw[ca]at a6;have X:NB [T,s,A] (aj::(vs++[rW,rW])):=fun u w c G=>by
     simp only[EL,qL7,EP,or_false]at w;rcases w with rfl|w|rfl|rfl
     .simp only [EL, EP, or_false] at G
      rcases G with rfl|rfl|rfl
      .exact b0
      .exact bZ
      .exact b1
     .exact nb u (by simp[w]) c G
     .simp[blk]
     .simp[blk]
    have a7:∀u∈aj::(vs++[rW,rW]),blk u≠some E:=fun u w=>by
     simp only[EL,qL7,EP,or_false]at w;rcases w with rfl|w|rfl|rfl
     .exact aX
     .exact aP u (by simp[w])
     .simp[blk]
     .simp[blk]
    refine Sk (ahv (aT (ρ a) (Y a D)) bk kp @bld0 q4 q5 @sf2 @Ip.eq_1 @XJ s7.l2 (H a D) a6) ?_;refine TC.intro PJ ⟨KT,rfl,WY⟩ (Y9 W0 s T i L6 ρ d a g5 M O d5 F6 D) ?_;rintro y h8 w8 ⟨rfl,L8,F8,br,cP,aD⟩;have bo:=aD s _ (uV d5) M;have aJ:=aD A _ aK Q;have cR:=aD E _ (uV ar) R;have aH:=cP h V nT;have P8:=P7.kept aH fun c o G ho=>aD c o (fun e=>by obtain⟨u,w,hb⟩:=G;exact X u w T Ma (by rw[<-e];exact hb)) ho;have cU:=stI aJ (i:=ρ a) (by rw[AT.len];exact Y a D) ((grpsM (frL i m es) es [] j).length:Int);have cZ:=aH.put (.cells (Bp (at_.set (ρ a) ((grpsM (frL i m es) es [] j).length:Int)))) nA;have P9:=P8.kept cZ fun c o G ho=>by
     obtain⟨u,w,hb⟩:=G;rw[AHeap.By _ _ _ _ (fun e=>X u w A Ma (by rw[<-e];exact hb))];exact ho
    have a8:((qT m (grpsM (frL i m es) es [] j)).length:Int)=((grpsM (frL i m es) es [] j).length:Int):=by rw[S]
    refine Sk (Yb (aT (ρ a) (Y a D)) a8 cU) ?_;refine ZJ.UJ fun fr' h' x y=>cont fr' h' ?_;subst x y;refine⟨(grpsM (frL i m es) es [] j).length,L8,_,aj,_,_,[],[],fD,w8.put _ (w8.lt aJ),by rw[AHeap.By _ _ _ _ (uV dF)];exact bo,by rw[AHeap.By _ _ _ _ (uV aK)];exact br,AHeap.Y3 _ _ _,by rw[AHeap.By _ _ _ _ (uV dI)];exact cR,F8,by rw[eG,q1];exact q2,P9,X,a7,?_,Og _,Og _,?_⟩
    .rw[vZ (by rw[S];exact qL0 _),S,Q4];rfl
    .rw[eG,q1,Xe,<-S,iU _ _ (qL0 _),Q4];rfl
  |true=>
   have c0:=I h5 N a D;rw[ca]at c0;cases cb:m b with
   |false=>
    have hf:frL i m es ((a:Int),(b:Int)) j=Gu i m es b:=by unfold frL Zo;simp only[HV];rw[if_neg (by rw[ca];simp),if_pos cb]
    have bW:=I h5 N b hb;rw[cb]at bW;rw[hf]at eG;simp only[HO,Nat.reduceLT,↓reduceIte,Nat.reduceEqDiff,reduceCtorEq,ad,ld,e4,e5,Dh,Z0,sf2,Ip,XJ,s5.l2,cK h5 oE,dJ h5 oE,H a D,c0,bW,P5.len_,H b hb];refine TC.intro PJ ⟨KT,rfl,WY⟩ (Y9 W0 s T i L ρ d b h5 ag bg d5 F hb) ?_;rintro y h6 w6 ⟨rfl,L6,F6,bh,bN,Z⟩;have ay:=bN h N nT;have s6:=hs.le ay;have cM:=I h6 ay b hb;rw[cb]at cM;have aa:=Z s _ (uV d5) ag;have az:=Z A _ aK cE;have av:=Z E _ (uV ar) oE;have P6:=P5.kept ay fun c o G ho=>Z c o (fun e=>by obtain⟨u,w,hb⟩:=G;exact nb u w T Ma (by rw[<-e];exact hb)) ho;rcases AT.val b hb cb with⟨k,l,aC,U⟩|⟨aC,U⟩
    .have bk := XP az aC
     have kp:decide ((k:Int)>=0)=true:=decide_eq_true NH;obtain⟨q1,q2⟩:=AT.qi nk U ((a:Int),(b:Int));refine Sk (Yb (aT (ρ b) (Y b hb)) bk kp) ?_;refine TC.intro PJ ⟨KT,rfl,WY⟩ (Y9 W0 s T i L6 ρ d b h6 aa bh d5 F6 hb) ?_;rintro y h7 w7 ⟨rfl,L7,F7,O,bQ,ae⟩;have M:=ae s _ (uV d5) aa;have Q:=ae A _ aK az;have R:=ae E _ (uV ar) av;have V:=bQ h ay nT;have P7:=P6.kept V fun c o G ho=>ae c o (fun e=>by obtain⟨u,w,hb⟩:=G;exact nb u w T Ma (by rw[<-e];exact hb)) ho;have bY:=XP Q aC;refine Sk (XC (aT (ρ b) (Y b hb)) bY) ?_;refine ZJ.UJ fun fr' h' x y=>cont fr' h' ?_;subst x y;have cN:=dH _ (Gc U);refine⟨k,L7,at_,J,vs,_,l,kZ (BY m l),fD,w7,M,O,Q,R,F7,by rw[eG,q1];exact q2,P7,nb,aP,?_,cN,Qr hR (aW U),?_⟩
     .unfold qT;rw[Yq,U];rfl
     .rw[eG,q1,ps_old,KS]
    .have bk := XP az aC
     have kp:decide ((-1:Int)>=0)=false:=by decide
     have q1:=V4 U ((a:Int),(b:Int));have q2:=AT.new C Y hb cb U ((a:Int),(b:Int));obtain⟨aj,g4,g5,q4,q5,P7,w7,dL,dM,W⟩:=P6.push w6 (by rw[S];omega);have al:∀c,c∈[T,s,A]->blk J≠some c:=fun c G=>nb J Ma c G;obtain⟨M,bZ⟩:=W s _ aa (al s Ma);obtain⟨O,b0⟩:=W T _ bh (al T Ma);obtain⟨Q,b1⟩:=W A _ az (al A Ma);obtain⟨R,aX⟩:=W E _ av (aP J Ma);have V:=P7.sep.le;have s7:=hs.le V;have a6:=I g5 V b hb;rw[cb]at a6;have X:NB [T,s,A] (aj::(vs++[rW,rW])):=fun u w c G=>by
      simp only[EL,qL7,EP,or_false]at w;rcases w with rfl|w|rfl|rfl
      .simp only [EL, EP, or_false] at G
       rcases G with rfl|rfl|rfl
       .exact b0
       .exact bZ
       .exact b1
      .exact nb u (by simp[w]) c G
      .simp[blk]
      .simp[blk]
     have a7:∀u∈aj::(vs++[rW,rW]),blk u≠some E:=fun u w=>by
      simp only[EL,qL7,EP,or_false]at w;rcases w with rfl|w|rfl|rfl
      .exact aX
      .exact aP u (by simp[w])
      .simp[blk]
      .simp[blk]
     refine Sk (ahv (aT (ρ b) (Y b hb)) bk kp @bld0 q4 q5 @sf2 @Ip.eq_1 @XJ s7.l2 (H b hb) a6) ?_;refine TC.intro PJ ⟨KT,rfl,WY⟩ (Y9 W0 s T i L6 ρ d b g5 M O d5 F6 hb) ?_;rintro y h8 w8 ⟨rfl,L8,F8,br,cP,aD⟩;have bo:=aD s _ (uV d5) M;have aJ:=aD A _ aK Q;have cR:=aD E _ (uV ar) R;have aH:=cP h V nT;have P8:=P7.kept aH fun c o G ho=>aD c o (fun e=>by obtain⟨u,w,hb⟩:=G;exact X u w T Ma (by rw[<-e];exact hb)) ho;have cU:=stI aJ (i:=ρ b) (by rw[AT.len];exact Y b hb) ((grpsM (frL i m es) es [] j).length:Int);have cZ:=aH.put (.cells (Bp (at_.set (ρ b) ((grpsM (frL i m es) es [] j).length:Int)))) nA;have P9:=P8.kept cZ fun c o G ho=>by
      obtain⟨u,w,hb⟩:=G;rw[AHeap.By _ _ _ _ (fun e=>X u w A Ma (by rw[<-e];exact hb))];exact ho
     have a8:((qT m (grpsM (frL i m es) es [] j)).length:Int)=((grpsM (frL i m es) es [] j).length:Int):=by rw[S]
     refine Sk (Yb (aT (ρ b) (Y b hb)) a8 cU) ?_;refine ZJ.UJ fun fr' h' x y=>cont fr' h' ?_;subst x y;refine⟨(grpsM (frL i m es) es [] j).length,L8,_,aj,_,_,[],[],fD,w8.put _ (w8.lt aJ),by rw[AHeap.By _ _ _ _ (uV dF)];exact bo,by rw[AHeap.By _ _ _ _ (uV aK)];exact br,AHeap.Y3 _ _ _,by rw[AHeap.By _ _ _ _ (uV dI)];exact cR,F8,by rw[eG,q1];exact q2,P9,X,a7,?_,Og _,Og _,?_⟩
     .rw[vZ (by rw[S];exact qL0 _),S,Q4];rfl
     .rw[eG,q1,Xe,<-S,iU _ _ (qL0 _),Q4];rfl
   |true=>
    have hf:frL i m es ((a:Int),(b:Int)) j=(i:Int)+j:=by unfold frL Zo;simp only[HV];rw[if_neg (by rw[ca];simp),if_neg (by rw[cb];simp)]
    have dO:=I h5 N b hb;rw[cb]at dO;rw[hf]at eG;have q1:=V4 (lone_new (on:=m) hR (i:=j)) ((a:Int),(b:Int));have q2:=AT.lone (f:=(i:Int)+j) NH ((a:Int),(b:Int));obtain⟨aj,g4,g5,q4,q5,P7,w7,dL,dM,W⟩:=P5.push w5 (by rw[S];omega);have al:∀c,c∈[T,s,A]->blk J≠some c:=fun c G=>nb J Ma c G;obtain⟨M,bZ⟩:=W s _ ag (al s Ma);obtain⟨O,b0⟩:=W T _ bg (al T Ma);obtain⟨Q,b1⟩:=W A _ cE (al A Ma);obtain⟨R,aX⟩:=W E _ oE (aP J Ma);have V:=P7.sep.le;have s7:=hs.le V;have a6:=I g5 V b hb;rw[cb]at a6;have X:NB [T,s,A] (aj::(vs++[rW,rW])):=fun u w c G=>by
     simp only[EL,qL7,EP,or_false]at w;rcases w with rfl|w|rfl|rfl
     .simp only [EL, EP, or_false] at G
      rcases G with rfl|rfl|rfl
      .exact b0
      .exact bZ
      .exact b1
     .exact nb u (by simp[w]) c G
     .simp[blk]
     .simp[blk]
    have a7:∀u∈aj::(vs++[rW,rW]),blk u≠some E:=fun u w=>by
     simp only[EL,qL7,EP,or_false]at w;rcases w with rfl|w|rfl|rfl
     .exact aX
     .exact aP u (by simp[w])
     .simp[blk]
     .simp[blk]
    have a8:((qT m (grpsM (frL i m es) es [] j)).length:Int)=((grpsM (frL i m es) es [] j).length:Int):=by rw[S]
    simp only[HO,Nat.reduceLT,↓reduceIte,Nat.reduceEqDiff,reduceCtorEq,ad,ld,e4,e5,Dh,Z0,sf2,Ip,XJ,s5.l2,cK h5 oE,dJ h5 oE,H a D,c0,dO,P5.len_,H b hb,bld0,q4,q5,s7.l2,a6,a8];refine ZJ.UJ fun fr' h' x y=>cont fr' h' ?_;subst x y;refine⟨(grpsM (frL i m es) es [] j).length,L,at_,aj,_,_,[],[],fD,w7,M,O,Q,R,F,by rw[eG,q1];exact q2,P7,X,a7,?_,Og _,Og _,?_⟩
    .rw[vZ (by rw[S];exact qL0 _),S,Q4];rfl
    .rw[eG,q1,Xe,<-S,iU _ _ (qL0 _),Q4];rfl
 rintro fr h6 ⟨k,L,at_,J,vs,ps,l,ft,dQ,w6,o5,oT,oA,oE,F,AT,P,nb,aX,c3,ey,eA,dS⟩;simp only[Fj]at dQ;obtain⟨f0,f7,c4,c5,c6,c9,da,db,dc,-⟩:=dQ;have bx:=(Ny.1 c3).1;have vl:=P.len;have dd:2*k<vs.length:=NH;obtain⟨gE,gF⟩:=P.ge k _ c3;simp only at gE gF;have a3:=P.sl.ad3 bx;have r0:=eA3 P.sl bx (r:=0);rw[zx]at r0;have ldE:=P.ldE bx;obtain⟨u',g4,g5,q4,q5,dT,b9,m4,cc,bB⟩:=gE.push w6 ((a:Int),(b:Int)) NH;have Lp:=uM oE;obtain⟨h7,b2,P7,w7,dV,bF⟩:=P.setR (t:=22) (r:=0) (u':=u') (pk:=(l++[((a:Int),(b:Int))],ft)) Uh Ji bx NH b9 cc bB (.inl ⟨rfl,dT,l,c3⟩);rw[zx]at b2;have b3:∀c,(∀u∈J::vs,blk u≠some c)->∀o,h6.own c=some o->h7.own c=some o:=fun c G o ho=>bF c o ho G;have aq:∀c∈[T,s,A],∀u∈J::vs,blk u≠some c:=fun c G u w=>nb u w c G;have M:=b3 s (aq s Ma) _ o5;have O:=b3 T (aq T Ma) _ oT;have Q:=b3 A (aq A Ma) _ oA;have R:=b3 E aX _ oE;have u0:vs.getD (2*k) rW∈J::vs:=by rw[D4 dd];exact Gw _ (ZT dd)
 have bb:∀c∈[T,s,A],∀o,h6.own c=some o->blk u'≠some c:=fun c G o ho=>(bB c o ho (aq c G _ u0)).2;have X:NB [T,s,A] (J::vs.set (2*k) u'):=fun u w c G=>by
  rcases EL.1 w with rfl|w
  .exact nb u Ma c G
  .rcases xP w with w | rfl
   .exact nb u (by simp[w]) c G
   .simp only [EL, EP, or_false] at G
    rcases G with rfl|rfl|rfl
    .exact bb _ Ma _ oT
    .exact bb _ Ma _ o5
    .exact bb _ Ma _ oA
 rw[zx]at P7;have ec:=uM R;have de:Le h6 g4:=m4;have ed:=uM (de.own _ _ oE);have cg:aload Tryz.prog g4 22 (elemAddr J (k*3))=some (vs.getD (2*k) rW):=(P.up de).ldE bx;refine gh (tA [0,1,2,3,4,5,6,7] (JQ 8 [7] (JQ 9 [6,8] (tA [10,11] (JQ 12 [0,1,2,3,4,5,6,7,8,9,11] .done))))) ?_;simp only[HO,Nat.reduceLT,↓reduceIte,Nat.reduceEqDiff,reduceCtorEq,Nat.reduceBEq,Qg,f0,f7,c4,c5,c6,c9,da,db,dc,a3,pf0,r0,ldE,cg,Lp,ed,q4,q5,b2,ec];have ee:Wq h h7 J (vs.set (2*k) u') (ps.set k (l++[((a:Int),(b:Int))],(YB m ((a:Int),(b:Int)) 0).foldl Uo ft)):=by
  have:YB m ((a:Int),(b:Int)) 0=[]:=by simp[YB]
  rw[this];exact P7
 refine aab.intro (fun kk fr hq=>∃(q:Nat) (vs:List Value),kk=2-q/\q<=2/\fr=mkF [(0,.pointer (some ⟨B,0,none⟩)),(7,.func (.func 143) #[] #[.pointer (some ⟨s,0,none⟩)]),(10,J),(11,.slice (some ⟨A,0,none⟩) i i),(15,.int .i64 (k:Int)),(77,ev),(78,.int .i64 (es.length:Nat)),(79,.int .i64 (j:Nat)),(149,UI ((a:Int),(b:Int))),(150,.int .i64 (q:Nat))]/\
   hq.own s=some (.cells [.slice (some ⟨T,0,none⟩) i i])/\hq.own T=some (.cells (Bp L))/\hq.own A=some (.cells (Bp at_))/\Wq h hq J vs (ps.set k (l++[((a:Int),(b:Int))],(YB m ((a:Int),(b:Int)) q).foldl Uo ft))/\NB [T,s,A] (J::vs))
  2 [(0,.pointer (some ⟨B,0,none⟩)),(7,.func (.func 143) #[] #[.pointer (some ⟨s,0,none⟩)]),(10,J),(11,.slice (some ⟨A,0,none⟩) i i),(15,.int .i64 (k:Int)),(77,ev),(78,.int .i64 (es.length:Nat)),(79,.int .i64 (j:Nat)),(149,UI ((a:Int),(b:Int))),(150,.int .i64 (0:Nat))] (by simp only[Fj,HO,Nat.reduceLT,↓reduceIte,Nat.reduceEqDiff,reduceCtorEq,f0,f7,c4,c5,c6,c9,da,db,dc];simp)
  ⟨0,_,rfl,Og _,rfl,M,O,Q,ee,X⟩ ?_
 clear ee cg ed de ec X bb u0 R Q O M aq b3 P7 b2 bF dV w7 Lp bB cc m4 b9 dT q5 q4 ldE r0 a3 gE gF vl dd aX nb P oE oA oT o5 w6 f0 f7 c4 c5 c6 c9 da db dc;rintro kk fr hq cx ⟨q,vs,rfl,eB,rfl,o5,oT,oA,P,nb⟩;have lq:=P.sep.le;by_cases c:q<2
 rotate_left
 .have z : ((q : Int) < 2) = False := pw
  obtain rfl:q=2:=NH;have e2:YB m ((a:Int),(b:Int)) 2=ftP m ((a:Int),(b:Int)):=by simp[YB,ftP]
  rw[e2,<-dS]at P;simp only[HO,Nat.reduceLT,↓reduceIte,Nat.reduceEqDiff,reduceCtorEq,z,aw];exact tn (es.length-(j+1)) [(0,.pointer (some ⟨B,0,none⟩)),(7,.func (.func 143) #[] #[.pointer (some ⟨s,0,none⟩)]),(10,J),(11,.slice (some ⟨A,0,none⟩) i i),(77,ev),(78,.int .i64 (es.length:Nat)),(79,.int .i64 (j+1:Nat))] (JS K) fD ⟨j+1,L,at_,J,vs,rfl,K,rfl,o5,oT,oA,F,AT,P,nb⟩
 have z:((q:Int)<2)=True:=eq_true NH;have ix:=ix42 ((a:Int),(b:Int)) q c;have b4:=BM m ((a:Int),(b:Int)) q c;have ef:∃v:Nat,zR ((a:Int),(b:Int)) q=(v:Int)/\v<i:=by
  unfold zR;split
  all_goals grind
 obtain⟨v,hv,dg⟩:=ef;rw[hv]at ix b4;rw[HV]at b4;have sq:=hs.le lq;have cd:=I hq lq v dg;have eg:aField Tryz.prog 77 (.pointer (some ⟨B,0,none⟩)) 2=some (.pointer (some ⟨B,2,none⟩)):=rfl;have dj:=aaa q NH;have cf:k<(ps.set k (l++[((a:Int),(b:Int))],(YB m ((a:Int),(b:Int)) q).foldl Uo ft)).length:=pw;have ck:(ps.set k (l++[((a:Int),(b:Int))],(YB m ((a:Int),(b:Int)) q).foldl Uo ft))[k]?=some (l++[((a:Int),(b:Int))],(YB m ((a:Int),(b:Int)) q).foldl Uo ft):=by rw[fj,if_pos rfl,if_pos bx]
 cases co:m v with
 |false=>
  rw[co]at cd b4;have e2:YB m ((a:Int),(b:Int)) q=YB m ((a:Int),(b:Int)) (q+1):=pw;rw[e2]at P;refine Sk (rE z ix eg sq.l2 (H v dg) cd dj) ?_;exact tn (2-(q+1)) [(0,.pointer (some ⟨B,0,none⟩)),(7,.func (.func 143) #[] #[.pointer (some ⟨s,0,none⟩)]),(10,J),(11,.slice (some ⟨A,0,none⟩) i i),(15,.int .i64 (k:Int)),(77,ev),(78,.int .i64 (es.length:Nat)),(79,.int .i64 (j:Nat)),(149,UI ((a:Int),(b:Int))),(150,.int .i64 (q+1:Nat))] (JS c) fD ⟨q+1,vs,rfl,c,rfl,o5,oT,oA,P,nb⟩
 |true=>
  rw[co,if_pos rfl]at b4;rw[co]at cd;have eF:(YB m ((a:Int),(b:Int)) (q+1)).foldl Uo ft=Uo ((YB m ((a:Int),(b:Int)) q).foldl Uo ft) (v:Int):=by rw[b4,gS];rfl
  have cp:((YB m ((a:Int),(b:Int)) q).foldl Uo ft).length<=100000:=by
   have h1:∀(xs acc:RZ),(xs.foldl Uo acc).length<=acc.length+xs.length:=fun xs=>by
    induction xs with
    |nil=>grind
    |cons x xs ih=>
     intro acc;have:=ih (Uo acc x);have h2:(Uo acc x).length<=acc.length+1:=by unfold Uo;split<;>simp
     rw[u3,Uz];omega
   have h2:(YB m ((a:Int),(b:Int)) q).length<=2:=Hs (OM _ _) (by rw[PN];exact Nat.min_le_right _ _);have:=h1 (YB m ((a:Int),(b:Int)) q) ft;omega
  generalize (YB m ((a:Int),(b:Int)) q).foldl Uo ft=fq at*;have vl:=P.len;have eh:2*k+1<vs.length:=pw;obtain⟨gE,gF⟩:=P.ge k _ ck;simp only at gE gF;have a3:=P.sl.ad3 cf;have r1:=eA3 P.sl cf (r:=1);have ldF:=P.ldF cf;simp only[HO,Nat.reduceLT,↓reduceIte,Nat.reduceEqDiff,reduceCtorEq,z,ix,eg,sq.l2,H v dg,cd,a3,pf1,r1,ldF];refine TC.intro PJ ⟨qS35,rfl,WY⟩ (W3 W0 _ fq (v:Int) hq gF.rl cp) ?_;rintro y h9 w9 ⟨rfl,rfl⟩;by_cases cm:(v:Int)∈fq
  .have e3 : Uo fq (v : Int) = fq := by unfold Uo; grind
   rw[e3]at eF;rw[<-eF]at P;simp only[HO,Nat.reduceLT,↓reduceIte,Nat.reduceEqDiff,reduceCtorEq,decide_eq_true cm,dj];exact tn (2-(q+1)) [(0,.pointer (some ⟨B,0,none⟩)),(7,.func (.func 143) #[] #[.pointer (some ⟨s,0,none⟩)]),(10,J),(11,.slice (some ⟨A,0,none⟩) i i),(15,.int .i64 (k:Int)),(77,ev),(78,.int .i64 (es.length:Nat)),(79,.int .i64 (j:Nat)),(149,UI ((a:Int),(b:Int))),(150,.int .i64 (q+1:Nat))] (JS c) fD ⟨q+1,vs,rfl,c,rfl,o5,oT,oA,P,nb⟩
  .have e3 : Uo fq (v : Int) = fq ++ [(v : Int)] := by unfold Uo; grind
   rw[e3]at eF;obtain⟨u',g4,g5,q4,q5,eo,b9,m4,cc,bB⟩:=gF.push cx (v:Int) cp;obtain⟨h7,b2,P7,w7,dV,bF⟩:=P.setR (t:=49) (r:=1) (u':=u') (pk:=(l++[((a:Int),(b:Int))],fq++[(v:Int)])) Ac Ji cf NH b9 cc bB (.inr ⟨rfl,eo,fq,ck⟩);rw[List.set_set,<-eF]at P7;have aq:∀c∈[T,s,A],∀u∈J::vs,blk u≠some c:=fun c G u w=>nb u w c G;have M:=bF s _ o5 (aq s Ma);have O:=bF T _ oT (aq T Ma);have Q:=bF A _ oA (aq A Ma);have u0:vs.getD (2*k+1) rW∈J::vs:=by rw[D4 eh];exact Gw _ (ZT eh)
   have bb:∀c∈[T,s,A],∀o,h9.own c=some o->blk u'≠some c:=fun c G o ho=>(bB c o ho (aq c G _ u0)).2;have X:NB [T,s,A] (J::vs.set (2*k+1) u'):=fun u w c G=>by
    rcases EL.1 w with rfl|w
    .exact nb u Ma c G
    .rcases xP w with w | rfl
     .exact nb u (by simp[w]) c G
     .simp only [EL, EP, or_false] at G
      rcases G with rfl|rfl|rfl
      .exact bb _ Ma _ oT
      .exact bb _ Ma _ o5
      .exact bb _ Ma _ oA
   simp only[HO,Nat.reduceLT,↓reduceIte,Nat.reduceEqDiff,reduceCtorEq,decide_eq_false cm,a3,pf1,r1,ldF,q4,q5,b2,dj];exact tn (2-(q+1)) [(0,.pointer (some ⟨B,0,none⟩)),(7,.func (.func 143) #[] #[.pointer (some ⟨s,0,none⟩)]),(10,J),(11,.slice (some ⟨A,0,none⟩) i i),(15,.int .i64 (k:Int)),(77,ev),(78,.int .i64 (es.length:Nat)),(79,.int .i64 (j:Nat)),(149,UI ((a:Int),(b:Int))),(150,.int .i64 (q+1:Nat))] (JS c) fD ⟨q+1,_,rfl,c,rfl,M,O,Q,P7,X⟩
end
end Go.Fw
