/- A text. -/
import Derived.Test.YtkccdnmaaelbiaaGreatFwLF29
set_option linter.all false
set_option maxRecDepth 99999
set_option maxHeartbeats 9999999
namespace Go.Fw
open Go.Proofs
attribute [local irreducible] Kp MQ lU rS KO KN KX KE VK Kl ZJ TC aat
def sf0 (a:Addr):aField Tryz.prog 77 (.pointer (some a)) 0=some (.pointer (some (Ip a 0))):=rfl
def sf1 (a:Addr):aField Tryz.prog 77 (.pointer (some a)) 1=some (.pointer (some (Ip a 1))):=rfl
def QL (a:Addr):aField Tryz.prog 77 (.pointer (some a)) 2=some (.pointer (some (Ip a 2))):=rfl
def sf4 (a:Addr):aField Tryz.prog 77 (.pointer (some a)) 4=some (.pointer (some (Ip a 4))):=rfl
structure Sr (h:AHeap) (B:Nat) (n:Nat) (bv ov fv iv lv:Value):Prop where
 o:h.own B=some (.cells [.int .i64 n,bv,ov,fv,iv,lv])
section
variable {h : AHeap} {B n : Nat} {bv ov fv iv lv : Value}
theorem Sr.le {h':AHeap} (s:Sr h B n bv ov fv iv lv) (e:Le h h'):Sr h' B n bv ov fv iv lv:=⟨e.own _ _ s.o⟩
def Sr.l0 (s:Sr h B n bv ov fv iv lv):aload Tryz.prog h 3 ⟨B,0,none⟩=some (.int .i64 n):=by rw[Fq Mb rfl s.o];rfl
def Sr.l1 (s:Sr h B n bv ov fv iv lv):aload Tryz.prog h 27 ⟨B,1,none⟩=some bv:=by rw[Fq qS5 rfl s.o];rfl
def Sr.l2 (s:Sr h B n bv ov fv iv lv):aload Tryz.prog h 59 ⟨B,2,none⟩=some ov:=by rw[Fq eY rfl s.o];rfl
def Sr.l3 (s:Sr h B n bv ov fv iv lv):aload Tryz.prog h 27 ⟨B,3,none⟩=some fv:=by rw[Fq qS5 rfl s.o];rfl
def Sr.l4 (s:Sr h B n bv ov fv iv lv):aload Tryz.prog h 74 ⟨B,4,none⟩=some iv:=by rw[Fq qS24 rfl s.o];rfl
def Sr.l5 (s:Sr h B n bv ov fv iv lv):aload Tryz.prog h 75 ⟨B,5,none⟩=some lv:=by rw[Fq yo rfl s.o];rfl
end
theorem qc (n:Nat) (f:II):(eJ n f).length=n:=by simp[eJ]
theorem NN {n v:Nat} (f:II) (a:v<n):(eJ n f)[v]?=some (decide (v∈f)):=by grind [eJ]
theorem MT (n:Nat):eJ n []=List.replicate n false:=by
 apply mJ
 grind [NN,qc]
theorem ae {n v:Nat} (f:II) (a:v<n):eJ n (f++[v])=(eJ n f).set v true:=by
 apply mJ
 grind [NN,qc]
theorem bJ (q:LA) (B n:Nat) (bv ov fv iv lv v:Value) (f:II) (h:AHeap) (hs:Sr h B n bv ov fv iv lv) (e:RL RP h v (aab f)) (hf:∀x∈f,x<n) (r:n<=1000) (C:f.length<=1000):
  AC Tryz.prog q 133 [.pointer (some ⟨B,0,none⟩),v] h fun x h'=>GS 1 h' x n (Bo (eJ n f))/\Le h h'/\Z2 h x:=by
 refine AC.vE ⟨Tryz.func133,rfl,WY⟩ Tryz.ntmps133 Tryz.results133 fun c=>?_;simp only[Br,Nat.reduceAdd];obtain⟨s,u,l1,w1,w⟩:=Tt c (List.replicate n (.bool false));have mk:=PO h n r;rw[u]at mk;have hlen:(aab f).length=f.length:=y6 f;have o:=fun g=>e.DH g;rw[hlen]at o;simp only[HO,Nat.reduceLT,↓reduceIte,Nat.reduceEqDiff,reduceCtorEq,sf0,Ip,BS,hs.l0,mk,o]
 have nT:h.own h.next=none:=(Le.refl h).next c (qL0 _)
 generalize h.next=T at*
 have y:s.own T=some (.cells (Bo (eJ n (f.take 0)))):=by rw[w,sD,MT];simp[Bo]
 refine aat.intro (fun k fr d=>∃i:Nat,k=f.length-i/\i<=f.length/\fr=mkF [(5,.slice (some ⟨T,0,none⟩) n n),(13,v),(14,.int .i64 (f.length:Nat)),(15,.int .i64 (i:Nat))]/\d.own T=some (.cells (Bo (eJ n (f.take i))))/\Le h d)
  f.length [(5,.slice (some ⟨T,0,none⟩) n n),(13,v),(14,.int .i64 (f.length:Nat)),(15,.int .i64 (0:Nat))] fD ⟨0,rfl,Og _,rfl,y,l1⟩ ?_
 rintro k fr d z ⟨i,rfl,hi,rfl,oT,leq⟩;refine Uy ?_;refine Kl.intro (fun p=>?_) (fun hf=>?_)
 .have a : i < f.length := CC p
  clear p;have ad:=e.TA i NH;have ld:=(e.le Nn.RP leq).Uc i NH;rw[sY a]at ld;have j:f.take (i+1)=f.take i++[f[i]]:=EL a;have l:=hf f[i] (Gw a);generalize f[i]=x at*;have A:aIndexAddr Tryz.prog 59 (.slice (some ⟨T,0,none⟩) n n) (.int .i64 (x:Int))=some (.pointer (some ⟨T,x,none⟩)):=by rw[Wc eY AV Ji x l];simp[Ip]
  have st:aStore Tryz.prog d 4 (.pointer (some ⟨T,x,none⟩)) (.bool true)=some (d.put T (.cells (Bo (eJ n (f.take (i+1)))))):=by rw[QB (P:=Tryz.prog) (t:=4) (x:=.bool true) AV Ji oT (off:=x) (by rw[O2,qc];exact l) rfl rfl,Tr,j,ae _ l]
  simp only[HO,Nat.reduceLT,↓reduceIte,Nat.reduceEqDiff,reduceCtorEq,ad,ld,A,st,Tw i NH];exact tn (f.length-(i+1)) [(5,.slice (some ⟨T,0,none⟩) n n),(13,v),(14,.int .i64 (f.length:Nat)),(15,.int .i64 (i+1:Nat))] NH fD ⟨i+1,rfl,a,rfl,AHeap.Y3 _ _ _,leq.put _ nT⟩
 .have m : f.length <= i := vp hf
  rw[HV m]at oT;refine Uy ?_;refine⟨GS.full oT (by grind [O2,qc]) NH,leq,fun b hb=>by grind [blk]⟩
theorem QQ (j:LA) (lv:Value) (xs:RZ) (P:Int->Bool) (F:FuncId) {fn:Func} {c:Code} (b:Good Tryz.prog F fn c) (cap:List Value) (h:AHeap) (d:RL RP h lv xs) (u:xs.length<=100000)
  (hf:∀x∈xs,AC Tryz.prog j F (.int .i64 x::cap) h fun y h'=>y=.bool (P x)/\h'=h):
  AC Tryz.prog j 168 [lv,.func (.func F) #[] cap.toArray] h fun x h'=>((x=.int .i64 (-1)/\xs.any P=false)\/∃i:Nat,x=.int .i64 (i:Nat)/\xs.any P=true)/\h'=h:=by
 refine AC.vE ⟨Tryz.func168,rfl,WY⟩ Tryz.ntmps168 Tryz.results168 fun o=>?_;simp only[Br,Nat.reduceAdd];have p:=fun g=>d.DH g;refine Sk p ?_;refine aat.intro (fun k fr l=>∃i:Nat,k=xs.length-i/\i<=xs.length/\fr=mkF [(0,lv),(1,.func (.func F) #[] cap.toArray),(7,.int .i64 (xs.length:Nat)),(8,.int .i64 (i:Nat))]/\l=h/\(xs.take i).any P=false)
  xs.length [(0,lv),(1,.func (.func F) #[] cap.toArray),(7,.int .i64 (xs.length:Nat)),(8,.int .i64 (0:Nat))] fD ⟨0,rfl,Og _,rfl,rfl,rfl⟩ ?_
 rintro k fr l q ⟨i,rfl,hi,rfl,rfl,e⟩;refine Uy ?_;refine Kl.intro (fun m=>?_) (fun hf=>?_)
 .have a : i < xs.length := CC m
  clear m;have ad:=d.TA i a;have ld:=d.Uc i a;have r:xs.take (i+1)=xs.take i++[xs[i]]:=EL a;have s:=Gw a;have t:=hf xs[i] s;generalize xs[i]=x at*;simp only[HO,Nat.reduceLT,↓reduceIte,Nat.reduceEqDiff,reduceCtorEq,ad,ld];refine TC.intro PJ b (by simpa using t) ?_;rintro y h2 w2 ⟨rfl,rfl⟩;cases v:P x with
  |true=>
   refine Uy ?_
   grind
  |false=>
   refine Sk (Tw i NH) ?_;refine tn (xs.length-(i+1)) [(0,lv),(1,.func (.func F) #[] cap.toArray),(7,.int .i64 (xs.length:Nat)),(8,.int .i64 (i+1:Nat))] NH fD ⟨i+1,rfl,a,rfl,rfl,?_⟩
   grind
 .have f : xs.length <= i := vp hf
  rw[HV f]at e;refine Uy ?_
  grind
theorem xN (b:LA) (lv:Value) (xs:RZ) (P:Int->Bool) (F:FuncId) {fn:Func} {c:Code} (a:Good Tryz.prog F fn c) (cap:List Value) (h:AHeap) (f:RL RP h lv xs) (g:xs.length<=100000)
  (hf:∀x∈xs,AC Tryz.prog b F (.int .i64 x::cap) h fun y h'=>y=.bool (P x)/\h'=h):
  AC Tryz.prog b 139 [lv,.func (.func F) #[] cap.toArray] h fun x h'=>x=.bool (xs.any P)/\h'=h:=by
 refine AC.vE ⟨Tryz.func139,rfl,WY⟩ Tryz.ntmps139 Tryz.results139 fun j=>?_;simp only[Br,Nat.reduceAdd];refine Uy ?_;refine TC.intro PJ ⟨Tryz.func168,rfl,WY⟩ (QQ b lv xs P F a cap h f g hf) ?_;rintro x h2 w2 ⟨⟨rfl,e⟩|⟨i,rfl,e⟩,rfl⟩
 .have d : decide ((-1 : Int) >= 0) = false := by decide
  refine Sk (XC d e) ?_
  grind
 .have d : decide ((i : Int) >= 0) = true := decide_eq_true NH
  refine Sk (XC d e) ?_
  grind
end Go.Fw
namespace Go.Fw
section
attribute [local instance] Classical.propDecidable
attribute [local irreducible] Kp MQ lU rS KO KN KX KE VK Kl ZJ TC aat
open Go.Proofs
variable {h:AHeap}
theorem out_any (l:LA) (B n f d e v:Nat) (bv m o j p:Value) (F:Cs) (h:AHeap) (hs:Sr h B n bv m o j p) (hi:RL (RL sJ) h j (F.map (eJ n))) (hf:f<F.length) (q:v<n)
  (r:h.own e=some (.cells [.pointer (some ⟨B,0,none⟩)])) (s:h.own d=some (.cells [.int .i64 (f:Int)])):
  AC Tryz.prog l 138 [.int .i64 (v:Int),.pointer (some ⟨e,0,none⟩),.pointer (some ⟨d,0,none⟩)] h fun x h'=>x=.bool (!decide (v∈F.getD f []))/\h'=h:=by
 refine AC.vE ⟨Tryz.func138,rfl,WY⟩ Tryz.ntmps138 Tryz.results138 fun t=>?_;simp only[Br,Nat.reduceAdd];have a:f<(F.map (eJ n)).length:=pw;have l3:aload Tryz.prog h 72 ⟨e,0,none⟩=some (.pointer (some ⟨B,0,none⟩)):=by rw[Fq Tryz.underlying72 rfl r];rfl
 have w:aload Tryz.prog h 3 ⟨d,0,none⟩=some (.int .i64 (f:Int)):=by rw[Fq Mb rfl s];rfl
 have ad:=hi.addr (P:=Tryz.prog) qS24 eY Ji (k:=.i64) f a;obtain⟨u,lu,g⟩:=hi.load (P:=Tryz.prog) eY rfl f a;have y:(F.map (eJ n))[f]=eJ n (F.getD f []):=pw;rw[y]at g;have b:v<(eJ n (F.getD f [])).length:=by grind [qc]
 have i:=g.LB (k:=.i64) v b;have c:=g.W7 v b;have z:(eJ n (F.getD f []))[v]=decide (v∈F.getD f []):=by
  have:=NN (F.getD f []) q
  grind
 rw[z]at c;refine Uy ?_;refine gh (tA [0,1,2,3,4,5,6,7,8,9,10,11] .done) ?_;simp only[HO,Nat.reduceLT,↓reduceIte,Nat.reduceEqDiff,reduceCtorEq,Nat.reduceBEq,Qg,l3,w,sf4,Ip,BS,hs.l4,ad,lu,i,c]
 try exact⟨trivial,trivial⟩
theorem box72 (x:Value) (a:x.oneCell'=true) (b:x.cells=#[x]):zF h x=some (.pointer (some ⟨h.next,0,none⟩),h.alloc (.cells [x])):=by grind [zF,IF]
theorem allocI (h:AHeap):aAlloc Tryz.prog h 3=some (.pointer (some ⟨h.next,0,none⟩),h.alloc (.cells [.int .i64 0])):=rfl
theorem newI (hw:WF h) (x:Int):∃a h2,aAlloc Tryz.prog h 3=some (.pointer (some ⟨h.next,0,none⟩),a)/\aStore Tryz.prog a 3 (.pointer (some ⟨h.next,0,none⟩)) (.int .i64 x)=some h2/\Le h h2/\WF h2/\h2.own h.next=some (.cells [.int .i64 x]):=by
 obtain⟨a,c,l1,w1,b⟩:=Tt hw [.int .i64 0]
 have d:h.own h.next=none:=(Le.refl h).next hw (qL0 _)
 have st:=QB (P:=Tryz.prog) (t:=3) (x:=.int .i64 x) Mb Ji b (off:=0) Ma rfl rfl
 grind [allocI,Le.put,WF.put,WF.lt,AHeap.Y3]
theorem NR (s:LA) (B n:Nat) (bv M N t O j m:Value) (F:Cs) (Fm:RZ) (a:II) (h:AHeap) (hs:Sr h B n bv M N t O) (hi:RL (RL sJ) h t (F.map (eJ n)))
  (U:RL RP h j Fm) (ha:RL RP h m (aab a)) (u:∀x∈Fm,∃v:Nat,x=(v:Int)/\v<n) (w:∀f∈a,f<F.length) (V:Fm.length<=100000) (W:a.length<=100000):
  AC Tryz.prog s 97 [.pointer (some ⟨B,0,none⟩),j,m] h fun x h'=>GI h' x (aab (zh F Fm a))/\Le h h'/\Z2 h x:=by
 refine AC.vE ⟨afK,rfl,WY⟩ Tryz.ntmps97 Tryz.results97 fun z=>?_;simp only[Br,Nat.reduceAdd];obtain⟨A,X,l1,w1,Y⟩:=Tt z [.pointer (some ⟨B,0,none⟩)];have P:=box72 (h:=h) (.pointer (some ⟨B,0,none⟩)) rfl rfl;rw[X]at P;have C:(aab a).length=a.length:=y6 a;have Q:=fun g=>ha.DH g;rw[C]at Q
 generalize h.next=o at*
 refine Sk (XC P Q) ?_;refine aat.intro (fun k fr p=>∃(i:Nat) (q:Value),k=a.length-i/\i<=a.length/\fr=mkF [(1,j),(3,.pointer (some ⟨o,0,none⟩)),(7,q),(11,m),(12,.int .i64 (a.length:Nat)),(13,.int .i64 (i:Nat))]/\Le A p/\GI p q (aab (zh F Fm (a.take i)))/\Z2 A q)
  a.length [(1,j),(3,.pointer (some ⟨o,0,none⟩)),(7,.slice none 0 0),(11,m),(12,.int .i64 (a.length:Nat)),(13,.int .i64 (0:Nat))] fD ⟨0,_,rfl,Og _,rfl,Le.refl _,GI.nil _,fun b hb=>by simp[blk]at hb⟩ ?_
 rintro k fr p D ⟨i,q,rfl,Z,rfl,E,g,ap⟩;refine Uy ?_;refine Kl.intro (fun R=>?_) (fun hf=>?_)
 .have c : i < a.length := CC R
  clear R;have ad:=ha.TA i NH;have ld:=(ha.le Nn.RP (l1.trans E)).Uc i NH;rw[sY c]at ld;have ag:a.take (i+1)=a.take i++[a[i]]:=EL c;have G:=w a[i] (Gw c);generalize a[i]=f at*;obtain⟨h2,h3,e2,e3,l3,w3,S⟩:=newI D (f:Int);have e:=E.trans l3;have l:=l1.trans e
  have H:aload Tryz.prog h3 3 ⟨p.next,0,none⟩=some (.int .i64 (f:Int)):=by rw[Fq Mb rfl S];rfl
  have key:=xN s j Fm (fun x=>!decide (x.toNat∈F.getD f [])) 138 ⟨Tryz.func138,rfl,WY⟩ [.pointer (some ⟨o,0,none⟩),.pointer (some ⟨p.next,0,none⟩)] h3 (U.le Nn.RP l) V fun x I=>by
   obtain⟨v,rfl,hv⟩:=u x I
   have:=out_any s B n f p.next o v bv M N t O F h3 (hs.le l) (hi.le (Nn.RL Nn.sJ) l) G hv (e.own _ _ Y) S
   rw[Sb];exact this
  simp only[HO,Nat.reduceLT,↓reduceIte,Nat.reduceEqDiff,reduceCtorEq,ad,ld,e2,e3];refine TC.intro PJ ⟨Tryz.func139,rfl,WY⟩ key ?_;rintro y h4 w4 ⟨rfl,rfl⟩
  have d:zh F Fm (a.take (i+1))=zh F Fm (a.take i)++if(Fm.any fun x=>!decide (x.toNat∈F.getD f []))=false then[f]else[]:=by grind [zh,lD]
  cases hb:(Fm.any fun x=>!decide (x.toNat∈F.getD f []))with
  |true=>
   rw[hb]at d;refine Sk (Tw i NH) ?_;refine tn (a.length-(i+1)) [(1,j),(3,.pointer (some ⟨o,0,none⟩)),(7,q),(11,m),(12,.int .i64 (a.length:Nat)),(13,.int .i64 (i+1:Nat))] NH fD ⟨i+1,q,rfl,c,rfl,e,?_,ap⟩
   grind [GI.le]
  |false=>
   rw[hb,if_pos rfl]at d;have g3:=g.le l3;have J:(aab (zh F Fm (a.take i))).length<=100000:=by grind [y6,zh]
   obtain⟨r,h5,h6,e5,e6,T,w6,l5,K,-⟩:=g3.push w3 (f:Int) J;obtain⟨l6,a6⟩:=K A e ap;have e7:aab (zh F Fm (a.take i))++[(f:Int)]=aab (zh F Fm (a.take (i+1))):=by grind [aab]
   rw[e7]at T;refine Sk (xU H e5 e6 (Tw i NH)) ?_;exact tn (a.length-(i+1)) [(1,j),(3,.pointer (some ⟨o,0,none⟩)),(7,r),(11,m),(12,.int .i64 (a.length:Nat)),(13,.int .i64 (i+1:Nat))] NH fD ⟨i+1,r,rfl,c,rfl,l6,T,a6⟩
 .have L : a.length <= i := vp hf
  rw[HV L]at g;refine Uy ?_;exact⟨g,l1.trans E,fun b hb=>l1.none (ap b hb)⟩
variable {a b:Int} {j m:Nat} {p:Pr} {pl:RZ} {α:Type}
theorem Qc {n:Nat} {way:II} (a:way.length<=1000):∀i,i<=way.length->∀(v:Nat) x,(KI n way i)[v]?=some x->-1<=x/\x<=1000
 |0,_,v,x,h=>by grind [KI.eq_1]
 |i+1,hi,v,x,h=>by
  rw[KI,LH]at h;split at h
  .grind
  .exact Qc a i NH v x h
theorem Zz (ha:pl.getD p.1.toNat 0=a) (hb:pl.getD p.2.toNat 0=b) (h:a<0\/b<0\/(a-b≠1/\b-a≠1)):aI pl p=true:=by grind [aI]
theorem Gh (ha:pl.getD p.1.toNat 0=a) (hb:pl.getD p.2.toNat 0=b) (c:¬a<0) (h2:¬b<0) (h3:a-b=1\/b-a=1):aI pl p=false:=by grind [aI]
def ID {x y:Int} (a:-1<=x/\x<=1000) (b:-1<=y/\y<=1000):awrap .i64 (x-y)=x-y:=ie _ NH NH
theorem fil_b {l:List α} (q:α->Bool) (h:l.length<=1000) (j:Nat):((l.take j).filter q).length+1<=100000:=pw
def QJ (h:m<=1000):m<=40000:=NH
def Lb (h:j<m) (h2:m<=40000):j<4611686018427387904:=NH
theorem Bs (W0:LA) (B n:Nat) (bv ov fv iv lv ev z:Value) (zp:List Pr) (way:II) (h:AHeap) (hs:Sr h B n bv ov fv iv lv) (Q:PR h ev zp) (hw:RL RP h z (aab way))
  (hR:aV n zp) (R:∀x∈way,x<n) (hn:n<=300) (A:zp.length<=1000) (hl:way.length<=1000):
  AC Tryz.prog W0 103 [.pointer (some ⟨B,0,none⟩),ev,z] h fun x h'=>GP h' x (V8 n zp way)/\Le h h'/\Z2 h x:=by
 refine AC.vE ⟨Tryz.func103,rfl,WY⟩ Tryz.ntmps103 Tryz.results103 fun S=>?_;simp only[Br,Nat.reduceAdd];obtain⟨h1,e1,l1,w1,o1⟩:=Tt S [.int .i64 (-1)];have s1:=hs.le l1;refine Sk (bG @DQ e1 @sf0 @Ip.eq_1 @BS s1.l0) ?_;refine TC.intro PJ ⟨NQ,rfl,WY⟩ (rN W0 _ n NH h1 (RL.Wh (RS.whole o1 rfl))) ?_;rintro x h2 w2 ⟨T,rfl,hT,o2,l2⟩
 have nT:h.own T=none:=l1.next w1 hT
 have C:=l1.trans l2;have oT:h2.own T=some (.cells (Bp (KI n way 0))):=by rw[o2];simp[Bp,KI]
 have hlen:(aab way).length=way.length:=y6 way;have ll:=fun g=>hw.DH g;rw[hlen]at ll;have r:=fun(k:IntKind) j hj=>Kx T n k j hj;refine Sk ll ?_;refine aat.intro (fun k fr U=>∃i:Nat,k=way.length-i/\i<=way.length/\fr=mkF [(1,ev),(7,.slice (some ⟨T,0,none⟩) n n),(21,z),(22,.int .i64 (way.length:Nat)),(23,.int .i64 (i:Nat))]/\U.own T=some (.cells (Bp (KI n way i)))/\Le h U)
  way.length [(1,ev),(7,.slice (some ⟨T,0,none⟩) n n),(21,z),(22,.int .i64 (way.length:Nat)),(23,.int .i64 (0:Nat))] fD ⟨0,rfl,Og _,rfl,oT,C⟩ ?_
 clear oT o2 l2 w2 C;rintro k fr U V ⟨i,rfl,hi,rfl,oT,N⟩;refine Uy ?_;refine Kl.intro (fun D=>?_) (fun hf=>?_)
 .have e : i < way.length := CC D
  clear D;have ad:=hw.TA i NH;have ld:=(hw.le Nn.RP N).Uc i NH;rw[sY e]at ld;have hx:=R way[i] (Gw e);have W:way.getD i 0=way[i]:=D4 e;have st:=stI oT (i:=way[i]) (by grind [Ou]) (i:Int);simp only[HO,Nat.reduceLT,↓reduceIte,Nat.reduceEqDiff,reduceCtorEq,ad,ld,r _ _ hx,st,Tw i (Lb e (QJ hl))];refine tn (way.length-(i+1)) [(1,ev),(7,.slice (some ⟨T,0,none⟩) n n),(21,z),(22,.int .i64 (way.length:Nat)),(23,.int .i64 (i+1:Nat))] (JS e) fD ⟨i+1,rfl,e,rfl,?_,N.put _ nT⟩;rw[AHeap.Y3,KI,W]
 have F:way.length<=i:=vp hf;obtain rfl:i=way.length:=NH;have rD:=Qc (n:=n) hl way.length (qL0 _);have av:=Ou n way way.length;have X:=fun g=>Q.len g;unfold V8;generalize KI n way way.length=pl at*;refine Sk X ?_;refine aat.intro (fun k fr m=>∃(j:Nat) (f:Value),k=zp.length-j/\j<=zp.length/\fr=mkF [(7,.slice (some ⟨T,0,none⟩) n n),(10,f),(33,ev),(34,.int .i64 (zp.length:Nat)),(35,.int .i64 (j:Nat))]/\m.own T=some (.cells (Bp pl))/\Le h m/\GP m f ((zp.take j).filter (aI pl))/\Z2 h f/\blk f≠some T)
  zp.length [(7,.slice (some ⟨T,0,none⟩) n n),(10,.slice none 0 0),(33,ev),(34,.int .i64 (zp.length:Nat)),(35,.int .i64 (0:Nat))] fD ⟨0,_,rfl,Og _,rfl,oT,N,GP.nil _,fun b hb=>by simp[blk]at hb,by simp[blk]⟩ ?_
 clear oT N V;rintro k fr m G ⟨j,f,rfl,hj,rfl,oT,lz,g,ap,nb⟩;refine Uy ?_;refine Kl.intro (fun D=>?_) (fun hf=>?_)
 rotate_left
 .have F : zp.length <= j := vp hf
  rw[HV F]at g;refine Uy ?_
  grind
 have c:j<zp.length:=CC D;clear D;have Y:=CA c;have ay:zp.take (j+1)=zp.take j++[zp[j]]:=EL c;obtain⟨p1,p2,p3⟩:=hR zp[j] (Gw c);have ad:=Q.addr (k:=.i64) j c;have ld:=(Q.le lz).load Y;generalize zp[j]=p at*;obtain⟨h3,Z,e3,e4,l4,w4,o4⟩:=Ut G p
 have az:m.own m.next=none:=(Le.refl m).next G (qL0 _)
 have H:=lz.trans l4;have l:=l4.own _ _ oT;have g4:=g.le l4;have Lp:=uM o4;have L0:=lK o4;have L1:=HY o4
 generalize m.next=E at*
 obtain⟨a,ea⟩:∃a:Nat,p.1=(a:Int):=⟨p.1.toNat,NH⟩;obtain⟨b,eb⟩:∃b:Nat,p.2=(b:Int):=⟨p.2.toNat,NH⟩;have ag:a<n:=NH;have aj:b<n:=NH;rw[ea]at L0;rw[eb]at L1;have al:a<pl.length:=pw;have aq:b<pl.length:=pw;have hA:=CA al;have hB:=CA aq;have rA:=rD a _ hA;have rB:=rD b _ hB;have I:pl.getD p.1.toNat 0=pl[a]:=pw;have gB:pl.getD p.2.toNat 0=pl[b]:=pw;have lA:=XP l hA;have lB:=XP l hB;generalize pl[a]=x at*;generalize pl[b]=y at*;have s:=ID rA rB;have J:=ID rB rA;have aw:=Tw j (Lb c (QJ A));have ar:=fil_b (aI pl) A j
 have yes:aI pl p=true->∃d u o,aBuildSlice Tryz.prog Z 22 1 [(0,UI p)]=some (.slice (some ⟨Z.next,0,none⟩) 1 1,u)/\aAppend Tryz.prog u 22 22 f (.slice (some ⟨Z.next,0,none⟩) 1 1)=some (d,o)/\o.own T=some (.cells (Bp pl))/\Le h o/\GP o d ((zp.take (j+1)).filter (aI pl))/\Z2 h d/\blk d≠some T:=fun q=>by
  obtain⟨d,u,o,v,w,g7,w7,l6,aC,aD⟩:=g4.push w4 p ar
  grind
 have no:aI pl p=false->(zp.take (j+1)).filter (aI pl)=(zp.take j).filter (aI pl):=fun q=>by grind
 simp only[HO,Nat.reduceLT,↓reduceIte,Nat.reduceEqDiff,reduceCtorEq,ad,ld,e3,e4];refine gh (tA [0,1,2,3,4,5,6,7,8,9,10,11] .done) ?_;simp only[HO,Nat.reduceLT,↓reduceIte,Nat.reduceEqDiff,reduceCtorEq,Nat.reduceBEq,Qg,Dh,Z0,Ip,BS,L0,L1,r _ a ag,r _ b aj,lA,lB];by_cases c1:x<0
 .obtain ⟨d, u, o, v, w, r1, r2, K, L, M⟩ := yes (Zz I gB (.inl c1))
  simp only[HO,Nat.reduceLT,↓reduceIte,Nat.reduceEqDiff,reduceCtorEq,c1,Lp,v,w,aw];exact tn (zp.length-(j+1)) [(7,.slice (some ⟨T,0,none⟩) n n),(10,d),(33,ev),(34,.int .i64 (zp.length:Nat)),(35,.int .i64 (j+1:Nat))] (JS c) fD ⟨j+1,d,rfl,c,rfl,r1,r2,K,L,M⟩
 by_cases c2:y<0
 .obtain ⟨d, u, o, v, w, r1, r2, K, L, M⟩ := yes (Zz I gB (.inr (.inl c2)))
  simp only[HO,Nat.reduceLT,↓reduceIte,Nat.reduceEqDiff,reduceCtorEq,c1,c2,Lp,v,w,aw];exact tn (zp.length-(j+1)) [(7,.slice (some ⟨T,0,none⟩) n n),(10,d),(33,ev),(34,.int .i64 (zp.length:Nat)),(35,.int .i64 (j+1:Nat))] (JS c) fD ⟨j+1,d,rfl,c,rfl,r1,r2,K,L,M⟩
 by_cases O:x-y=1
 .have t := no (Gh I gB c1 c2 (.inl O))
  have d3:decide (x-y=1)=true:=decide_eq_true O;simp only[HO,Nat.reduceLT,↓reduceIte,Nat.reduceEqDiff,reduceCtorEq,c1,c2,s,bne,d3,aw];exact tn (zp.length-(j+1)) [(7,.slice (some ⟨T,0,none⟩) n n),(10,f),(33,ev),(34,.int .i64 (zp.length:Nat)),(35,.int .i64 (j+1:Nat))] (JS c) fD ⟨j+1,f,rfl,c,rfl,l,H,by rw[t];exact g4,ap,nb⟩
 have d3:decide (x-y=1)=false:=decide_eq_false O;by_cases P:y-x=1
 .have t := no (Gh I gB c1 c2 (.inr P))
  have d4:decide (y-x=1)=true:=decide_eq_true P;simp only[HO,Nat.reduceLT,↓reduceIte,Nat.reduceEqDiff,reduceCtorEq,c1,c2,s,J,bne,d3,d4,aw];exact tn (zp.length-(j+1)) [(7,.slice (some ⟨T,0,none⟩) n n),(10,f),(33,ev),(34,.int .i64 (zp.length:Nat)),(35,.int .i64 (j+1:Nat))] (JS c) fD ⟨j+1,f,rfl,c,rfl,l,H,by rw[t];exact g4,ap,nb⟩
 have d4:decide (y-x=1)=false:=decide_eq_false P;obtain⟨d,u,o,v,w,r1,r2,K,L,M⟩:=yes (Zz I gB (.inr (.inr ⟨O,P⟩)));simp only[HO,Nat.reduceLT,↓reduceIte,Nat.reduceEqDiff,reduceCtorEq,c1,c2,s,J,bne,d3,d4,Lp,v,w,aw];exact tn (zp.length-(j+1)) [(7,.slice (some ⟨T,0,none⟩) n n),(10,d),(33,ev),(34,.int .i64 (zp.length:Nat)),(35,.int .i64 (j+1:Nat))] (JS c) fD ⟨j+1,d,rfl,c,rfl,r1,r2,K,L,M⟩
end
end Go.Fw
namespace Go.Fw
open Go.Proofs
attribute [local irreducible] Kp MQ lU rS KO KN KX KE VK Kl ZJ TC aat
attribute [local instance] Classical.propDecidable
def Hj (h:AHeap):aAlloc Tryz.prog h 49=some (.pointer (some ⟨h.next,0,none⟩),h.alloc (.cells [.slice none 0 0])):=rfl
structure LL (b0 h:AHeap) (S5 T6 M7 T n start:Nat) (mv:Value) (st:RZ×II):Prop where
 oS:h.own S5=some (.cells [.int .i64 (start:Int)])
 o6:h.own T6=some (.cells [.slice (some ⟨T,0,none⟩) n n])
 oT:h.own T=some (.cells (Bp st.1))
 oM:h.own M7=some (.cells [mv])
 gm:GI h mv (aab st.2)
 nS:b0.own S5=none
 n6:b0.own T6=none
 nT:b0.own T=none
 nM:b0.own M7=none
 am:Z2 b0 mv
 d1:T≠T6
 d2:T≠M7
 d3:T≠S5
 d4:M7≠S5
 d5:M7≠T6
 m1:blk mv≠some S5
 m2:blk mv≠some T6
 m3:blk mv≠some T
 m4:blk mv≠some M7
 le:Le b0 h
section
variable {b0 h : AHeap} {S5 T6 M7 T n start : Nat} {mv : Value} {st : List Int × List Nat}
theorem LL.up {h':AHeap} (W:LL b0 h S5 T6 M7 T n start mv st) (e:Le h h'):LL b0 h' S5 T6 M7 T n start mv st:=
 {W with oS:=e.own _ _ W.oS,o6:=e.own _ _ W.o6,oT:=e.own _ _ W.oT,oM:=e.own _ _ W.oM,gm:=W.gm.le e,le:=W.le.trans e}
def LL.lS (W:LL b0 h S5 T6 M7 T n start mv st):aload Tryz.prog h 3 ⟨S5,0,none⟩=some (.int .i64 (start:Int)):=by rw[Fq Mb rfl W.oS];rfl
def LL.l6 (W:LL b0 h S5 T6 M7 T n start mv st):aload Tryz.prog h 49 ⟨T6,0,none⟩=some (.slice (some ⟨T,0,none⟩) n n):=by rw[Fq Ac rfl W.o6];rfl
def LL.lM (W:LL b0 h S5 T6 M7 T n start mv st):aload Tryz.prog h 49 ⟨M7,0,none⟩=some mv:=by rw[Fq Ac rfl W.oM];rfl
end
theorem Hu {start:Nat} {st:RZ×II} {v by_:Nat} (h:v≠start) (h2:st.1.getD v 0<0):dt start st v by_=(st.1.set v (by_:Int),st.2++[v]):=by grind [dt]
theorem RF {start:Nat} {st:RZ×II} {v by_:Nat} (h:v=start\/¬st.1.getD v 0<0):dt start st v by_=st:=by grind [dt]
theorem K8 (l:LA) {b0 h:AHeap} {S5 T6 M7 T n start:Nat} {mv:Value} {st:RZ×II} (W:LL b0 h S5 T6 M7 T n start mv st) (y:st.1.length=n) {v by_:Nat} (m:v<n) (z:st.2.length<=1000):
  AC Tryz.prog l 140 [.int .i64 (v:Int),.int .i64 (by_:Int),.pointer (some ⟨S5,0,none⟩),.pointer (some ⟨T6,0,none⟩),.pointer (some ⟨M7,0,none⟩)] h fun _ h'=>∃d,LL b0 h' S5 T6 M7 T n start d (dt start st v by_):=by
 refine AC.vE ⟨qS35,rfl,WY⟩ Tryz.ntmps140 Tryz.results140 fun e=>?_;simp only[Br,Nat.reduceAdd];have o:=CA (show v<st.1.length by omega);have gd:st.1.getD v 0=st.1[v]'(by omega):=D4 NH
 have k:=Kx T n .i64 v m;have ld:=XP W.oT o;generalize st.1[v]'(by omega)=x at*
 by_cases c1:v=start
 .have d1 : decide ((v : Int) = (start : Int)) = true := decide_eq_true NH
  refine Sk (Yb W.lS @bne.eq_1.{0} d1) ?_
  grind [RF]
 have d1:decide ((v:Int)=(start:Int))=false:=decide_eq_false NH;by_cases c2:x<0
 rotate_left
 .simp only [HO, Nat.reduceLT, ↓reduceIte, Nat.reduceEqDiff, reduceCtorEq, W.lS, bne, d1, W.l6, k, ld, c2]
  grind [RF]
 have st1:=stI W.oT (i:=v) NH (by_:Int);have b:LL b0 (h.put T (.cells (Bp (st.1.set v (by_:Int))))) S5 T6 M7 T n start mv (st.1.set v (by_:Int),st.2):=
  {W with
   oS:=by grind [AHeap.By,LL.d3,LL.oS]
   o6:=by grind [AHeap.By,LL.d1,LL.o6]
   oT:=AHeap.Y3 _ _ _
   oM:=by grind [AHeap.By,LL.d2,LL.oM]
   gm:=GS.put W.gm _ W.m3
   le:=W.le.put _ W.nT}
 have w1:WF (h.put T (.cells (Bp (st.1.set v (by_:Int))))):=e.put _ (e.lt W.oT);rw[Hu c1 pw];simp only[HO,Nat.reduceLT,↓reduceIte,Nat.reduceEqDiff,reduceCtorEq,W.lS,bne,d1,W.l6,k,ld,c2,st1];generalize h.put T (.cells (Bp (st.1.set v (by_:Int))))=A at*;obtain⟨d,h2,h3,p,e3,f,B,l2,hf,g⟩:=b.gm.push w1 (v:Int) (by grind [y6]);obtain⟨l3,q⟩:=hf b0 b.le b.am;obtain⟨r,m1⟩:=g _ _ b.oS b.m1;obtain⟨s,m2⟩:=g _ _ b.o6 b.m2;obtain⟨u,m3⟩:=g _ _ b.oT b.m3;obtain⟨j,m4⟩:=g _ _ b.oM b.m4;have stM:=QB (P:=Tryz.prog) (t:=49) (x:=d) Ac Ji j (off:=0) Ma (by obtain⟨a,c,rfl,_⟩:=f.rl.sl;rfl) f.rl.sl.one;simp only[HO,Nat.reduceLT,↓reduceIte,Nat.reduceEqDiff,reduceCtorEq,b.lM,p,e3,stM];have w:aab st.2++[(v:Int)]=aab (st.2++[v]):=by simp[aab]
 rw[w]at f;exact⟨d,{b with
   oS:=by grind [AHeap.By,LL.d4]
   o6:=by grind [AHeap.By,LL.d5]
   oT:=by grind [AHeap.By,LL.d2]
   oM:=AHeap.Y3 _ _ _
   gm:=GS.put f _ m4
   am:=q,m1:=m1,m2:=m2,m3:=m3,m4:=m4
   le:=l3.put _ W.nM}⟩
end Go.Fw
