/- A text. -/
import Derived.Test.YtkccdnmaaelbiaaGreatFwLJ23
set_option linter.all false
set_option maxRecDepth 99999
set_option maxHeartbeats 9999999
namespace Go.Fw
section
attribute [local irreducible] Kp MQ lU rS KO KN KX KE VK Kl ZJ TC aat
attribute [local irreducible] Jz JL vq cQ
open Go.Proofs
variable {h:AHeap} {i n:Nat} {ps:List Pr} {v:Value}
theorem aee (M:LA) (id n i cap:Nat) (c:List Value) (h:AHeap) (A:h.own id=some (.cells c)) (hl:n*2<=c.length) (G:(c.take (n*2)).all (·.oneCell')=true) (hi:i<n) (hn:n<=100000) (B:n<=cap) (H:cap<RA):
  AC Tryz.prog M 73 [.slice (some ⟨id,0,none⟩) n cap,.int .i64 (i:Int),.int .i64 ((i+1:Nat):Int)] h fun x h'=>
   ∃n',n'<=cap/\x=.slice (some ⟨id,0,none⟩) n' cap/\n'=n-1/\∃c',(h'.own id=some (.cells c')/\(∀f,Le f h->f.own id=none->Le f h')/\∀b o,b≠id->h.own b=some o->h'.own b=some o)/\c'.take ((n-1)*2)=c.take (i*2)++((c.drop ((i+1)*2)).take ((n-(i+1))*2)):=by
 have k:¬RA<=cap:=iu.2 H;have d:=Uh;have j:=pE;have N:(0:Int)<=(i:Int):=NH;have O:(i:Int)<=((i+1:Nat):Int):=NH;have e3:((i+1:Nat):Int)<=(n:Int):=NH;have e4:(0:Int)<=((i+1:Nat):Int):=NH;have I:(0:Int)<=(n:Int):=NH;have J:(n:Int)<=(cap:Int):=NH;have e7:(i:Int)<=(cap:Int):=NH;have C:∃v,aSlice Tryz.prog 22 (.slice (some ⟨id,0,none⟩) n cap) (some (.int .i64 (i:Int))) (some (.int .i64 ((i+1:Nat):Int))) (some (.int .i64 (n:Int)))=some v:=by
  refine⟨Value.slice (if n=i then some ⟨id,0,none⟩else some ⟨id,i*2,none⟩) (i+1-i) (n-i),?_⟩
  .simp only[aSlice,d,k,if_false,B,j,Ua,and_self,if_true,aBounds,aBound,N,O,e3,e4,I,J,Sb,uu,Ip,WE,BS]
 obtain⟨v1,C⟩:=C;have Q:aSlice Tryz.prog 22 (.slice (some ⟨id,0,none⟩) n cap) none (some (.int .i64 (i:Int))) none=some (.slice (some ⟨id,0,none⟩) i cap):=pn d j i NH B H
 have R:aSlice Tryz.prog 22 (.slice (some ⟨id,0,none⟩) n cap) (some (.int .i64 ((i+1:Nat):Int))) none none=some (.slice (if cap=i+1 then some ⟨id,0,none⟩else some ⟨id,(i+1)*2,none⟩) (n-(i+1)) (cap-(i+1))):=by
  have S:((i+1:Nat):Int)<=(n:Int):=e3;simp only[aSlice,d,k,if_false,B,j,Ua,and_self,if_true,aBounds,aBound,e4,S,Sb,uu,Ip,WE,BS]
 have rd:∀e,UA Tryz.prog e=2->srcCells Tryz.prog h e (.slice (if cap=i+1 then some ⟨id,0,none⟩else some ⟨id,(i+1)*2,none⟩) (n-(i+1)) (cap-(i+1)))=some (n-(i+1),(c.drop ((i+1)*2)).take ((n-(i+1))*2)):=fun e he=>by
  by_cases q:cap=i+1
  .have z : n - (i + 1) = 0 := NH
   rw[if_pos q,z];simp[srcCells,readN]
  grind [qF,srcCells]
 have nl:((c.drop ((i+1)*2)).take ((n-(i+1))*2)).length=(n-(i+1))*2:=pw;have n1:((c.drop ((i+1)*2)).take ((n-(i+1))*2)).all (·.oneCell')=true:=by
  rw[uV]at G ⊢;intro x T;refine G x ?_;obtain⟨q,w⟩:=vZ.1 T;rw[Dj]at w;split at w
  .rw [DF] at w
   refine Gc (i:=(i+1)*2+q) ?_
   grind
  .cases w
 have app:∃c1 l,(l.own id=some (.cells c1)/\(∀f,Le f h->f.own id=none->Le f l)/\∀b o,b≠id->h.own b=some o->l.own b=some o)/\aAppend Tryz.prog h 22 22 (.slice (some ⟨id,0,none⟩) i cap) (.slice (if cap=i+1 then some ⟨id,0,none⟩else some ⟨id,(i+1)*2,none⟩) (n-(i+1)) (cap-(i+1)))=some (.slice (some ⟨id,0,none⟩) (n-1) cap,l)/\c1.length=c.length/\
   c1.take ((n-1)*2)=c.take (i*2)++((c.drop ((i+1)*2)).take ((n-(i+1))*2)):=by
  have y:azero Tryz.prog 38=some (.agg #[Value.int .i64 0,Value.int .i64 0]):=Ji;have K:(Value.agg #[Value.int .i64 0,Value.int .i64 0]).cells.size=UA Tryz.prog 38/\(Value.agg #[Value.int .i64 0,Value.int .i64 0]).cells.toList.all (·.oneCell')=true:=⟨by kernel_rfl,by kernel_rfl⟩;have hs:=rd 38 WE;have U:Tryz.prog.bytesOf 38<=1000:=by decide
  have V:(i+(n-(i+1)))*Tryz.prog.bytesOf 38<=140737488355328:=EP (To (show i+(n-(i+1))<=100000 by omega) U) WY;have W:i+(n-(i+1))<=140737488355328:=NH;have L:(Value.agg #[Value.int .i64 0,Value.int .i64 0]).cells.size=UA Tryz.prog 38/\(Value.agg #[Value.int .i64 0,Value.int .i64 0]).cells.toList.all (·.oneCell')/\(Tryz.prog.underlying 38).isSome/\notIntD (.slice 38)/\((c.drop ((i+1)*2)).take ((n-(i+1))*2)).all (·.oneCell')/\(i+(n-(i+1)))*Tryz.prog.bytesOf 38<=140737488355328/\i+(n-(i+1))<=140737488355328/\((c.drop ((i+1)*2)).take ((n-(i+1))*2)).length=(n-(i+1))*UA Tryz.prog 38:=
   ⟨K.1,K.2,by rw[j];rfl,rfl,n1,V,W,by grind [WE]⟩
  have es:i+(n-(i+1))=n-1:=NH;by_cases X:n-(i+1)=0
  .refine ⟨c, h, ⟨A, fun f s _ => s, fun b o _ hb => hb⟩, ?_, rfl, ?_⟩
   .simp only [aAppend, d, y, hs]
    grind
   .rw [X]
    grind
  .have room : i * 2 + ((c.drop ((i + 1) * 2)).take ((n - (i + 1)) * 2)).length <= c.length := pw
   refine⟨putCells c (i*2) ((c.drop ((i+1)*2)).take ((n-(i+1))*2)),_,⟨AHeap.Y3 _ _ _,fun f s hf=>s.put _ hf,fun b o hb A=>by grind [AHeap.By]⟩,?_,O7 _ _ _,?_⟩
   .simp only [aAppend, d, y, hs]
    grind [WE]
   .rw[IW _ _ _ room,dU pw,HV pw]
 obtain⟨c1,l,⟨Y,D,Z⟩,app,ag,E⟩:=app;have S4:aSlice Tryz.prog 22 (.slice (some ⟨id,0,none⟩) (n-1) cap) (some (.int .i64 ((n-1:Nat):Int))) (some (.int .i64 (n:Int))) none=some (.slice (some ⟨id,(n-1)*2,none⟩) 1 (cap-(n-1))):=by
  have a1:((n-1:Nat):Int)<=(n:Int):=NH;have a2:(0:Int)<=((n-1:Nat):Int):=NH;have a3:n-1<=cap:=NH;have a4:¬cap=n-1:=NH;have a5:n-(n-1)=1:=NH;simp only[aSlice,d,k,if_false,a3,j,Ua,and_self,if_true,aBounds,aBound,I,J,a1,a2,Sb,a4,a5,uu,Ip,WE,BS]
 have p:∃c2,aClear Tryz.prog l 22 (.slice (some ⟨id,(n-1)*2,none⟩) 1 (cap-(n-1)))=some (.tuple #[],l.put id (.cells c2))/\c2.take ((n-1)*2)=c1.take ((n-1)*2):=by
  have y:azero Tryz.prog 38=some (.agg #[Value.int .i64 0,Value.int .i64 0]):=Ji;have room:(n-1)*2+[Value.int .i64 0,Value.int .i64 0].length<=c1.length:=pw;have aj:(Value.agg #[Value.int .i64 0,Value.int .i64 0]).cells=#[Value.int .i64 0,Value.int .i64 0]:=Ji;have zr:zrow (Value.agg #[Value.int .i64 0,Value.int .i64 0]).cells.toList 1=[Value.int .i64 0,Value.int .i64 0]:=Ji;refine⟨putCells c1 ((n-1)*2) [Value.int .i64 0,Value.int .i64 0],?_,?_⟩
  .have r : (n - 1) * 2 + 1 * (Value.agg #[Value.int .i64 0, Value.int .i64 0]).cells.size <= c1.length := pw
   have fl:(Value.agg #[Value.int .i64 0,Value.int .i64 0]).cells.toList.all flat=true:=Ji;simp only[aClear,d,y,Y,fl,r,decide_true,Bool.and_self,cond_true,zr];rfl
  grind [IW]
 obtain⟨c2,p,F⟩:=p;refine AC.vE ⟨Tryz.func73,rfl,WY⟩ Tryz.ntmps73 Tryz.results73 fun al=>?_;simp only[Br,Nat.reduceAdd];have u:=fun m g=>Jg (P:=Tryz.prog) (t:=22) (a:=some ⟨id,0,none⟩) (n:=m) (cap:=cap) d g;have d1:decide ((i:Int)=((i+1:Nat):Int))=false:=decide_eq_false NH;refine Sk (xU u C @lW d1) ?_;refine gh (tA [0,1,2,3,4,5] (JQ 6 [2,5] (JQ 7 [0,1,2,3,4,5,6] .done))) ?_;simp only[HO,Nat.reduceLT,↓reduceIte,Nat.reduceEqDiff,reduceCtorEq,Nat.reduceBEq,Qg,Q,R,app,u,S4,p];exact⟨n-1,NH,rfl,rfl,c2,⟨AHeap.Y3 _ _ _,fun f s hf=>(D f s hf).put _ hf,fun b o hb A=>by grind [AHeap.By]⟩,by rw[F,E]⟩
def aef:∀(l:List Pr) (i:Nat),i<l.length->(Iu l).take (i*2)++((Iu l).drop ((i+1)*2)).take ((l.length-(i+1))*2)=Iu (l.eraseIdx i):=fun l i hi=>by
 have a:(Iu l).take (i*2)=Iu (l.take i):=by rw[aez]
 have h2:(Iu l).drop ((i+1)*2)=Iu (l.drop (i+1)):=by rw[za]
 have h3:(Iu (l.drop (i+1))).take ((l.length-(i+1))*2)=Iu (l.drop (i+1)):=by rw[HV];rw[Ta,xj];exact qL0 _
 rw[a,h2,h3,<-mZ,qL176]
def aeg (q:LA) (g:GP h v ps) (hi:i<ps.length) (s:ps.length<=100000):
  AC Tryz.prog q 73 [v,.int .i64 (i:Int),.int .i64 ((i+1:Nat):Int)] h fun x h'=>PR h' x (ps.eraseIdx i)/\Ct x (ps.eraseIdx i).length/\∀f,Le f h->Z2 f v->Le f h':=by
 have a:(ps.eraseIdx i).length=ps.length-1:=by rw[afq,if_pos hi]
 have w:=aef ps i hi;have d:=WI ps;obtain⟨y,⟨rfl,D⟩|⟨id,c,cap,rfl,t,p,z⟩⟩:=g
 .omega
 have e:ps.length*2<=c.length:=by
  have:=congrArg List.length p;rw[BR,y]at this;omega
 have A:c.take (i*2)=(Iu ps).take (i*2):=by rw[<-p,List.take_take];congr 1;omega
 have B:(c.drop ((i+1)*2)).take ((ps.length-(i+1))*2)=((Iu ps).drop ((i+1)*2)).take ((ps.length-(i+1))*2):=by rw[<-p,qL215,List.take_take];congr 1;omega
 have u:(c.take (ps.length*2)).all (·.oneCell')=true:=by rw[p];exact d
 have fin:∀(cap':Nat) (h':AHeap) (c':List Value),h'.own id=some (.cells c')->c'.take ((ps.length-1)*2)=c.take (i*2)++((c.drop ((i+1)*2)).take ((ps.length-(i+1))*2))->PR h' (.slice (some ⟨id,0,none⟩) (ps.length-1) cap') (ps.eraseIdx i):=fun cap' h' c' j ct=>by
  rw[A,B,w]at ct;have l:(ps.eraseIdx i).length=ps.length-1:=by rw[afq,if_pos hi]
  have hlen:(ps.length-1)*2<=c'.length:=by
   have:=congrArg List.length ct;rw[BR,Ta,l]at this;omega
  have:=CS.own (k:=2) (off:=0) (n:=ps.length-1) (cap:=cap') j NH;rw[LN,ct]at this;unfold PR;rw[l];exact this
 rcases z with rfl|⟨rfl,m⟩
 .refine (AC.exact (Q := fun n' h' => n' = ps.length - 1 /\ ∃ c', (h'.own id = some (.cells c') /\ (∀ f, Le f h -> f.own id = none -> Le f h') /\ ∀ b o, b ≠ id -> h.own b = some o -> h'.own b = some o) /\ c'.take ((ps.length - 1) * 2) = c.take (i * 2) ++ ((c.drop ((i + 1) * 2)).take ((ps.length - (i + 1)) * 2))) NH fun cap h2 h3 => aee q id ps.length i cap c h t e u hi s h2 h3).mono ?_
  rintro x h' ⟨n',rfl,rfl,c',⟨j,fr,C⟩,ct⟩;exact⟨fin _ h' c' j ct,by rw[a];exact⟨_,_,rfl,.inr ⟨rfl,rfl⟩⟩,fun f r af=>fr f r (af id rfl)⟩
 .refine (aee q id ps.length i ps.length c h t e u hi s (qL0 _) (Nat.lt_trans m WY)).mono ?_
  rintro x h' ⟨n',-,rfl,rfl,c',⟨j,fr,C⟩,ct⟩;exact⟨fin _ h' c' j ct,by rw[a];exact⟨_,_,rfl,.inl ⟨Nat.lt_trans m WY,NH⟩⟩,fun f r af=>fr f r (af id rfl)⟩
def afh (d:LA) (a b:Int) (h:AHeap):AC Tryz.prog d 164 [.int .i64 a,.int .i64 b] h fun x h'=>x=.bool (decide (a<b))/\h'=h:=by
 refine AC.vE ⟨Tryz.func164,rfl,WY⟩ Tryz.ntmps164 Tryz.results164 fun e=>?_;simp only[Br,Nat.reduceAdd];refine Uy ?_;refine TC.intro PJ ⟨qS23,rfl,WY⟩ (Pd d a h) ?_;rintro x f w1 ⟨rfl,rfl⟩;by_cases c:a<b
 .simp only[HO,Nat.reduceLT,↓reduceIte,Nat.reduceEqDiff,reduceCtorEq,c];exact⟨Ma,trivial⟩
 .simp only[HO,Nat.reduceLT,↓reduceIte,Nat.reduceEqDiff,reduceCtorEq,c];exact⟨Ma,trivial⟩
theorem acS (w:LA) (v:Value) (xs:RZ) (x:Int) (h:AHeap) (n:RL RP h v xs) (N:xs.length<=1000) (ha:xs.Pairwise (·<·)) (B:x∈xs):
  AC Tryz.prog w 123 [v,.int .i64 x] h fun y h'=>(∃i:Nat,y=.tuple #[.int .i64 i,.bool true]/\xs[i]?=some x)/\h'=h:=by
 have lt:∀(i j:Nat) a b,i<j->xs[i]?=some a->xs[j]?=some b->a<b:=fun i j a b p hi C=>by
  obtain⟨D,rfl⟩:=Ny.1 hi;obtain⟨h2,rfl⟩:=Ny.1 C;exact qH.1 ha i j D h2 p
 obtain⟨q,d⟩:=vZ.1 B;have o:=(Ny.1 d).1;refine AC.vE ⟨Tryz.func123,rfl,WY⟩ Tryz.ntmps123 Tryz.results123 fun E=>?_;simp only[Br,Nat.reduceAdd];have F:=fun g=>n.DH g;refine Sk F ?_;refine aat.intro (fun k fr hh=>∃lo hi:Nat,k=hi-lo/\lo<=q/\q<=hi/\hi<=xs.length/\fr=mkF [(0,v),(1,.int .i64 x),(6,.int .i64 xs.length),(7,.int .i64 lo),(8,.int .i64 hi)]/\hh=h)
  xs.length [(0,v),(1,.int .i64 x),(6,.int .i64 xs.length),(7,.int .i64 (0:Nat)),(8,.int .i64 xs.length)] fD
  ⟨0,xs.length,rfl,Og _,NH,qL0 _,rfl,rfl⟩ ?_
 rintro k fr hh G ⟨lo,hi,rfl,s,t,u,rfl,rfl⟩;refine Uy ?_;refine Kl.intro (fun A=>?_) (fun hf=>?_)
 .have H : lo < hi := CC A
  clear A;have a1:awrap .i64 ((lo:Int)+(hi:Int))=((lo+hi:Nat):Int):=by grind [cT]
  have a2:=afM (lo+hi) NH;have I:=aeV (lo+hi) NH;have J:awrap .i64 (((lo+hi) / 2:Nat):Int)=(((lo+hi) / 2:Nat):Int):=cT _ NH NH;have O:(lo+hi) / 2<hi:=NH;have K:lo<=(lo+hi) / 2:=NH;refine Sk (bG a1 @cv3u a2 I @cvu3 J) ?_;generalize (lo+hi) / 2=m at*;have e:m<xs.length:=NH;have ad:=n.TA m e;have ld:=n.Uc m e;have f:=CA e;generalize xs[m]=y at*;simp only[HO,Nat.reduceLT,↓reduceIte,Nat.reduceEqDiff,reduceCtorEq,ad,ld];refine TC.intro PJ ⟨Tryz.func164,rfl,WY⟩ (afh w y x hh) ?_;rintro z h3 P ⟨rfl,rfl⟩;by_cases c:y<x
  .have dc : decide (y < x) = true := decide_eq_true c
   have l:m<q:=by
    rcases KV m q with r|r|r
    .exact r
    .subst r;rw[f]at d;injection d with d;omega
    .have:=lt q m x y r d f;omega
   refine Sk (XC dc (Tw m NH)) ?_;exact tn (hi-(m+1)) [(0,v),(1,.int .i64 x),(6,.int .i64 xs.length),(7,.int .i64 (m+1:Nat)),(8,.int .i64 hi)] NH fD ⟨m+1,hi,rfl,l,t,u,rfl,rfl⟩
  .have dc : decide (y < x) = false := decide_eq_false c
   have l:q<=m:=by
    rcases qk m q with r|r
    .exact absurd (lt m q y x r f d) c
    .exact r
   refine Sk dc ?_;exact tn (m-lo) [(0,v),(1,.int .i64 x),(6,.int .i64 xs.length),(7,.int .i64 lo),(8,.int .i64 m)] NH fD ⟨lo,m,rfl,s,l,NH,rfl,rfl⟩
 have L:hi<=lo:=vp hf;obtain rfl:lo=q:=NH;have dl:decide ((lo:Int)<(xs.length:Int))=true:=decide_eq_true NH;have ad:=n.TA lo o;have ld:=n.Uc lo o;rw[(Ny.1 d).2]at ld;have dx:decide (x=x)=true:=decide_eq_true rfl;have M:((lo:Int)<(xs.length:Int))=True:=eq_true NH;simp only[HO,Nat.reduceLT,↓reduceIte,Nat.reduceEqDiff,reduceCtorEq,M,dl,ad,ld,dx];exact⟨⟨lo,rfl,d⟩,trivial⟩
def idx_eq {b:List Pr} {x:Int} (h:(aab (aaR n b))[i]?=some x):i=acf n b x:=by
 have f:(aaR n b).Pairwise (·<·):=zx.filter _;unfold acf;generalize aaR n b=l at*;clear b
 induction l generalizing i with
 |nil=>simp[aab]at h
 |cons a l g=>
  obtain⟨d,h2⟩:=y5.1 f;cases i with
  |zero=>
   have e:x=(a:Int):=by simpa[aab]using h.symm
   subst e;rw[qL157.2];intro v j;rcases aaW.1 j with rfl|q
   .simp
   .have:=d v q;simp;omega
  |succ i=>
   have h':(aab l)[i]?=some x:=by simpa[aab]using h
   have hi:=g h' h2;obtain⟨w,hw,e⟩:=yM.1 (Gc h');have c:(a:Int)<x:=by have:=d w hw;omega
   rw[aaS,if_pos (by simpa using c),<-hi]
def mkKI2 (h:AHeap) (a b:Int):aBuildSlice Tryz.prog h 49 2 [(0,.int .i64 a),(1,.int .i64 b)]=some (.slice (some ⟨h.next,0,none⟩) 2 2,h.alloc (.cells [.int .i64 a,.int .i64 b])):=Ji
def afi (l:List Pr) (p:Pr):ade (l++[p])=ade l++[p.1,p.2]:=by simp[ade]
def ac4 (l:List Pr):(ade l).length=2*l.length:=by
 induction l with
 |nil=>rfl
 |cons p l a=>simp only[ade,IK,Eh,U9,adg]at*;omega
def afY (m:LA) (bv:Value) (n:Nat) (b:List Pr) (h:AHeap) (r:PR h bv b) (hR:aV n b) (hn:n<=200) (hl:b.length<=594):
  AC Tryz.prog m 75 [bv] h fun x h'=>RR (abP n b) x/\Le h h':=by
 have D:=fun g=>r.len g;refine AC.vE ⟨Tryz.func75,rfl,WY⟩ Tryz.ntmps75 Tryz.results75 fun ag=>?_;simp only[Br,Nat.reduceAdd];by_cases Y:b.length<9
 .have E : decide ((b.length : Int) < 9) = true := decide_eq_true NH
  refine Sk (XC D E) ?_;exact⟨⟨true,rfl,fun _=>.inl Y,fun _=>rfl⟩,Le.refl _⟩
 have E:decide ((b.length:Int)<9)=false:=decide_eq_false NH;refine Sk (XC D E) ?_;refine aat.intro (fun k fr o=>∃(i:Nat) (A:Value),k=b.length-i/\i<=b.length/\fr=mkF [(0,bv),(3,A),(18,bv),(19,.int .i64 b.length),(20,.int .i64 i)]/\GI o A (ade (b.take i))/\Le h o/\Z2 h A)
  b.length [(0,bv),(3,.slice none 0 0),(18,bv),(19,.int .i64 b.length),(20,.int .i64 (0:Nat))] fD
  ⟨0,_,rfl,Og _,rfl,GI.nil h,Le.refl _,fun b hb=>by simp[blk]at hb⟩ ?_
 rintro k fr o F ⟨i,A,rfl,hi,rfl,g,H,ap⟩;refine Uy ?_;refine Kl.intro (fun s=>?_) (fun hf=>?_)
 .have d : i < b.length := CC s
  clear s;have f:=CA d;have l:b.take (i+1)=b.take i++[b[i]]:=EL d;have hle:(ade (b.take i)).length<=2000:=by rw[ac4,BR];omega
  generalize b[i]=p at f l;have ad:=r.addr (k:=.i64) i d;have ld:=(r.le H).load f;obtain⟨al,h3,e2,e3,j,J,Z⟩:=Ut F p;have m0:=lK Z;have m1:=HY Z;have l3:=H.trans j;obtain⟨B,e4,l4,w4,o4⟩:=Tt J [.int .i64 p.1,.int .i64 p.2];have bs:=mkKI2 h3 p.1 p.2;rw[e4]at bs
  have r4:RL RP B (.slice (some ⟨h3.next,0,none⟩) 2 2) [p.1,p.2]:=RL.Wh (RS.whole o4 rfl)
  obtain⟨jv,h6,K,L,w6,f6,-⟩:=GI.join ((g.le j).le l4) w4 r4 (by simp;omega);obtain⟨l6,aj⟩:=f6 h (l3.trans l4) ap;rw[<-afi,<-l]at L;simp only[HO,Nat.reduceLT,↓reduceIte,Nat.reduceEqDiff,reduceCtorEq,ad,ld,e2,e3,Dh,Z0,Ip,BS,m0,m1,bs,K,Tw i NH];exact tn (b.length-(i+1)) [(0,bv),(3,jv),(18,bv),(19,.int .i64 b.length),(20,.int .i64 (i+1:Nat))] (JS d) fD ⟨i+1,jv,rfl,d,rfl,L,l6,aj⟩
 have t:b.length<=i:=vp hf;rw[HV t]at g;refine Uy ?_;refine TC.intro PJ ⟨qS31,rfl,WY⟩ (VQ m g (by rw[ac4];omega)) ?_;rintro x h2 w2 ⟨rfl,g2,k2⟩;have M:=k2 h H ap;refine Uy ?_;refine TC.intro PJ ⟨Tryz.func122,rfl,WY⟩ (VY m g2 (by rw[OX,ac4];omega)) ?_;rintro u h3 w3 ⟨N,-,k3⟩;have j:=k3 h M ap;rw[ads hR]at N;have lv:=fun g=>N.DH g;rw[y6]at lv;obtain⟨B,h5,e4,e5,l5,w5,nX,G0⟩:=GX.new w3 ((aaR n b).length:Int);refine Sk (IX lv @Zp e4 e5 D) ?_;have aq:(aaR n b).length<=200:=EP (im _ _) (by simp;omega);have v:(aab (aaR n b)).Pairwise (·<·):=by
  unfold aab;rw[j3];exact(zx.filter _).imp fun h=>by omega
 have O:h3.own h3.next=none:=(Le.refl h3).next w3 (qL0 _)
 generalize h3.next=X at*
 refine aat.intro (fun k fr o=>∃(i:Nat) (ev:Value),k=b.length-i/\i<=b.length/\fr=mkF [(3,u),(6,.pointer (some ⟨X,0,none⟩)),(39,bv),(40,.int .i64 b.length),(41,.int .i64 i)]/\GX o X (aaR n b).length ev (abF n b|>.take i)/\Le h3 o/\Z2 h3 ev)
  b.length [(3,u),(6,.pointer (some ⟨X,0,none⟩)),(39,bv),(40,.int .i64 b.length),(41,.int .i64 (0:Nat))] fD
  ⟨0,_,rfl,Og _,rfl,G0,l5,fun b hb=>by simp[blk]at hb⟩ ?_
 clear G0 w5 l5 e5 e4;rintro k fr hz P ⟨i,ev,rfl,hi,rfl,G,C,az⟩;refine Uy ?_;refine Kl.intro (fun s=>?_) (fun hf=>?_)
 .have d : i < b.length := CC s
  clear s;have f:=CA d;have Q:(abF n b)[i]?=some ((acf n b b[i].1:Int),(acf n b b[i].2:Int)):=by rw[abF,Yq,f];rfl
  have l:(abF n b).take (i+1)=(abF n b).take i++[((acf n b b[i].1:Int),(acf n b b[i].2:Int))]:=by rw[qQ,Q];rfl
  have w:((abF n b).take i).length+1<=100000:=by rw[BR];omega
  have R:=Gc f;have hm:∀x,aO b[i] x=true->x∈aab (aaR n b):=fun x hx=>by rw[<-ads hR,jn,Wv,aeb];exact⟨_,R,hx⟩
  have S:=hm b[i].1 (by simp[aO]);have T:=hm b[i].2 (by simp[aO]);generalize b[i]=p at*;have ad:=r.addr (k:=.i64) i d;have ld:=(r.le (j.trans C)).load f;obtain⟨ar,h6,K,s6,l6,w6,o6⟩:=Ut P p;have m0:=lK o6;have m1:=HY o6;have r6:=N.le Nn.RP (C.trans l6);have aw:=Tw i NH;simp only[HO,Nat.reduceLT,↓reduceIte,Nat.reduceEqDiff,reduceCtorEq,ad,ld,K,s6,Dh,Z0,Ip,BS,m0];refine TC.intro PJ ⟨Tryz.func123,rfl,WY⟩ (acS m u _ p.1 h6 r6 (by rw[y6];omega) v S) ?_;rintro y h7 w7 ⟨⟨a,rfl,ha⟩,rfl⟩;refine Sk (IX @Dh @Z0 @Ip.eq_1 @BS m1) ?_;refine TC.intro PJ ⟨Tryz.func123,rfl,WY⟩ (acS m u _ p.2 h7 r6 (by rw[y6];omega) v T) ?_;rintro y h8 w8 ⟨⟨c,rfl,hc⟩,rfl⟩;obtain rfl:=idx_eq ha;obtain rfl:=idx_eq hc;have G6:=G.le l6;obtain⟨v',g4,g5,L,q4,q5,q6,G7,av,l7,f7,-⟩:=G6.push' w8 ((acf n b p.1:Int),(acf n b p.2:Int)) w;obtain⟨U,a7⟩:=f7 h3 (C.trans l6) O az;rw[<-l]at G7;have V:=xe (acf n b p.1:Int) (acf n b p.2:Int);simp only[HO,Nat.reduceLT,↓reduceIte,Nat.reduceEqDiff,reduceCtorEq,Di,Ip,BS,G6.ld.2.2,V,q4,q5,q6,aw];exact tn (b.length-(i+1)) [(3,u),(6,.pointer (some ⟨X,0,none⟩)),(39,bv),(40,.int .i64 b.length),(41,.int .i64 (i+1:Nat))] (JS d) fD ⟨i+1,v',rfl,d,rfl,G7,U,a7⟩
 have t:b.length<=i:=vp hf;have w:(abF n b).length=b.length:=by simp[abF]
 rw[HV NH]at G;refine Sk G.ld.1 ?_;refine TC.intro PJ ⟨Tryz.func19,rfl,WY⟩ (Im m _ ⟨((aaR n b).length:Int),abF n b⟩ hz ⟨ev,rfl,G.gp.pr,GS.okc G.gp⟩) ?_;rintro x h9 w9 ⟨l9,rv,e,rfl,I⟩;have W:=(j.trans C).trans l9;have key:decide (e=0)=true↔abP n b:=by
  rw[decide_eq_true_eq];constructor
  .intro he
   rcases I with⟨-,q,-⟩|⟨-,-,q,-⟩|⟨-,-,-,-,q,-⟩|⟨z,h2,rs,-,h3,B,-⟩
   .omega
   .omega
   .omega
   .exact .inr ⟨z,h2,Vg z.GD z.q9 h3 B⟩
  .rintro (q | ⟨z, h2, h3⟩)
   .exact absurd q Y
   .obtain ⟨rs, -, -, -, q, -⟩ := I.XK z h2 h3
    exact q
 refine Uy ?_;exact⟨⟨_,rfl,key⟩,W⟩
def fkM_len (key:Pr->Int) (es:List Pr):(CY key es).length<=es.length:=by
 have:∀(es:List Pr) (ks:RZ),(es.foldl (fkS key) ks).length<=ks.length+es.length:=by
  intro es
  induction es with
  |nil=>simp
  |cons p es a=>
   intro ks;have:=a (fkS key ks p);have h2:(fkS key ks p).length<=ks.length+1:=by unfold fkS;split<;>simp
   simp only[pM,U9];omega
 have:=this es [];rw[adg,BS]at this;exact this
def aeG (n:Nat) (es:List Pr):(vq n es).length<=es.length:=by rw[aai,jz];exact fkM_len _ _
def abJ (o:LA) (v:Value) (G:GM) (h:AHeap) (hg:GR h v G):
  AC Tryz.prog o 37 [v] h fun x h'=>RR (bX G/\abE G.n.toNat G.es) x/\Le h h':=by
 have m:=hg;obtain⟨H,es⟩:=G
 obtain⟨ev,rfl,I⟩:=hg.open
 refine AC.vE ⟨zL,rfl,WY⟩ Tryz.ntmps37 Tryz.results37 fun J=>?_;simp only[Br,Nat.reduceAdd];obtain⟨R,W,r,X,-,S⟩:=r8 (n:=H) J I
 generalize h.next=B at*
 have K:=S R (Le.refl _);refine Sk (XC W K.1) ?_;refine TC.intro PJ ⟨Tryz.func46,rfl,WY⟩ (Cw o _ ⟨H,es⟩ R (m.le r)) ?_;rintro x h2 w2 ⟨l2,Y⟩;have s:=S h2 l2;have j:=r.trans l2;rcases Y with⟨T,rfl⟩|⟨l,L,rfl,E⟩
 .refine Sk s.1 ?_
  refine TC.intro PJ ⟨qS8,rfl,WY⟩ (ak o _ _ h2 (m.le j)) ?_;rintro x h3 Z ⟨⟨t,rfl,a⟩,l3⟩;cases t with
  |true=>exact absurd (a.1 rfl) T
  |false=>
   refine Uy ?_;exact⟨RR.f fun q=>T q.1,j.trans l3⟩
 refine Sk s.1 ?_;refine TC.intro PJ ⟨qS8,rfl,WY⟩ (ak o _ _ h2 (m.le j)) ?_;rintro x h3 Z ⟨⟨t,rfl,a⟩,l3⟩;obtain rfl:t=true:=a.2 l;clear a;have w:=j.trans l3;have h0:0<=H:=l.n0;obtain⟨n,rfl⟩:=yY h0;simp only[Sb]at E ⊢;have lk:=fun g=>E.len (P:=Tryz.prog) zC g;have y:abE n es↔∀b∈vq n es,abP n b:=⟨fun q=>q.2,fun q=>⟨l,q⟩⟩;have z:∀b∈vq n es,b.Sublist es:=fun b hb=>by
  obtain⟨i,hi⟩:=vZ.1 hb;obtain⟨k,-,rfl⟩:=Jh hi;exact fR
 have ag:(vq n es).length<=100000:=by
  have:=aeG n es;have:es.length<=594:=l.len;omega
 generalize vq n es=bs at*;have d0:decide ((0:Int)=0)=true:=by decide
 refine Sk (Yb @bne.eq_1.{0} d0 lk) ?_
 refine aat.intro (fun k fr F=>∃i:Nat,k=bs.length-i/\i<=bs.length/\fr=mkF [(19,L),(20,.int .i64 bs.length),(21,.int .i64 i)]/\Le h3 F/\∀b∈bs.take i,abP n b)
  bs.length [(19,L),(20,.int .i64 bs.length),(21,.int .i64 (0:Nat))] fD ⟨0,rfl,Og _,rfl,Le.refl _,fun b hb=>by simp at hb⟩ ?_
 rintro k fr F aj ⟨i,rfl,hi,rfl,A,e⟩;refine Uy ?_;refine Kl.intro (fun U=>?_) (fun hf=>?_)
 rotate_left
 .have M : bs.length <= i := vp hf
  rw[HV M]at e;refine Uy ?_;exact⟨⟨true,rfl,fun _=>⟨l,y.2 e⟩,fun _=>rfl⟩,w.trans A⟩
 have d:i<bs.length:=CC U;clear U;have N:bs.take (i+1)=bs.take i++[bs[i]]:=EL d;have C:=Gw d;have O:=E.addr (P:=Tryz.prog) zC Uh Ji (k:=.i64) i d;obtain⟨u,Q,hu⟩:=E.load' (P:=Tryz.prog) Uh rfl i d;have lu:=Q F (l3.trans A);generalize bs[i]=b at*;have hs:=z b C;have D:b.length<=594:=EP hs.length_le l.len;simp only[HO,Nat.reduceLT,↓reduceIte,Nat.reduceEqDiff,reduceCtorEq,O,lu];refine TC.intro PJ ⟨Tryz.func75,rfl,WY⟩ (afY o u n b F (hu.le (l3.trans A)) (fun p I=>l.GD p (hs.subset I)) (by have:(n:Int)<=200:=l.n1;omega) D) ?_;rintro x h5 w5 ⟨⟨t,rfl,a⟩,l5⟩;cases t with
 |false=>
  refine Uy ?_;exact⟨RR.f (fun q=>by have:=a.2 (y.1 q.2 b C);cases this),(w.trans A).trans l5⟩
 |true=>
  refine Sk (Tw i NH) ?_;exact tn (bs.length-(i+1)) [(19,L),(20,.int .i64 bs.length),(21,.int .i64 (i+1:Nat))] (JS d) fD ⟨i+1,rfl,d,rfl,A.trans l5,fun c V=>by
   rw[N]at V;rcases WA.1 V with q|q
   .exact e c q
   .rw[jf.1 q];exact a.1 rfl⟩
attribute [local instance] Classical.propDecidable in
theorem aco (e:LA) (v:Value) (G:GM) (h:AHeap) (hg:GR h v G):
  AC Tryz.prog e 35 [v] h fun x h'=>Le h h'/\((¬bX G/\x=.tuple #[.slice none 0 0,.int .i64 20])\/(bX G/\∃b,x=.tuple #[b,.int .i64 0]/\PR h' b (aeC G)/\Ct b (aeC G).length)):=by
 have r:=hg;obtain⟨U,es⟩:=G
 obtain⟨ev,rfl,V⟩:=hg.open
 refine AC.vE ⟨abr,rfl,WY⟩ Tryz.ntmps35 Tryz.results35 fun D=>?_;simp only[Br,Nat.reduceAdd];obtain⟨E,Y,f,Z,-,C⟩:=r8 (n:=U) D V
 generalize h.next=B at*
 have s:=C E (Le.refl _);refine Sk (XC Y s.1) ?_;refine TC.intro PJ ⟨qS8,rfl,WY⟩ (ak e _ _ E (r.le f)) ?_;rintro x h2 w2 ⟨⟨t,rfl,a⟩,l2⟩;have u:=C h2 l2;have j:=f.trans l2;cases t with
 |false=>
  refine Uy ?_;exact⟨j,.inl ⟨(fun q=>by cases a.2 q),trivial⟩⟩
 |true=>
 have p:=a.1 rfl;clear a;have h0:0<=U:=p.n0;obtain⟨n,rfl⟩:=yY h0;refine Sk u.1 ?_;refine TC.intro PJ ⟨zL,rfl,WY⟩ (abJ e _ ⟨(n:Int),es⟩ h2 (r.le j)) ?_;rintro x h3 w3 ⟨⟨t,rfl,a⟩,l3⟩;simp only[Sb]at a;have m:=j.trans l3
 have hf:∀F,F=aeC ⟨(n:Int),es⟩->F=if abE n es then[]else findM n es.length 0 es:=fun F d=>d
 cases t with
 |true=>
  have:=hf _ rfl;rw[if_pos (a.1 rfl).2]at this;refine Uy ?_;exact⟨m,.inr ⟨p,_,rfl,by rw[this];exact⟨(GP.nil _).pr,(GP.nil h3).ct⟩⟩⟩
 |false=>
 have d:=hf _ rfl;rw[if_neg (fun q=>by cases a.2 ⟨p,q⟩)]at d;generalize aeC ⟨(n:Int),es⟩=F at*;clear hf a;have w:es.length<=594:=p.len;refine Sk (xU @Di @Ip.eq_1 @BS ((C h3 (l2.trans l3)).2.2)) ?_;refine TC.intro PJ ⟨afL,rfl,WY⟩ (DA e ev es h3 (V.le m) NH) ?_;rintro b h4 w4 ⟨H,l4,-⟩;have I:=m.trans l4;refine Uy ?_;refine aat.intro (fun k fr y=>∃(i:Nat) (l:List Pr) (b:Value),k=l.length-i/\i<=l.length/\fr=mkF [(1,.pointer (some ⟨B,0,none⟩)),(4,b),(5,.int .i64 i)]/\PR y b l/\Ct b l.length/\Le E y/\findM n (l.length-i) i l=F/\l.Sublist es)
  es.length [(1,.pointer (some ⟨B,0,none⟩)),(4,b),(5,.int .i64 (0:Nat))] fD
  ⟨0,es,b,rfl,Og _,rfl,H.pr,H.ct,(l2.trans l3).trans l4,d.symm,afu _⟩ ?_
 clear H w4 l4 I d s u;clear b;rintro k fr y ag ⟨i,l,b,rfl,hi,rfl,pl,cl,J,d,hs⟩;have W:=fun g=>pl.len g;have aj:l.length<=594:=EP hs.length_le w;have K:=f.trans J;by_cases c:i<l.length
 rotate_left
 .have dc : decide ((i : Int) < (l.length : Int)) = false := decide_eq_false NH
  have L:((i:Int)<(l.length:Int))=False:=eq_false NH;have M:l.length-i=0:=NH;rw[M]at d;have d:l=F:=d;refine Sk (Yb W dc L) ?_;exact⟨K,.inr ⟨p,b,rfl,by rw[<-d];exact⟨pl,cl⟩⟩⟩
 have dc:decide ((i:Int)<(l.length:Int))=true:=decide_eq_true NH;have L:((i:Int)<(l.length:Int))=True:=eq_true NH;have hk:l.length-i=(l.length-(i+1))+1:=NH;rw[hk,findM,if_pos c]at d;have aw:=Tw i NH;refine Sk (Yb W dc L) ?_;refine TC.intro PJ ⟨afL,rfl,WY⟩ (DA e b l y pl NH) ?_;rintro cv h5 w5 ⟨g5,l5,a5⟩;simp only[HO,Nat.reduceLT,↓reduceIte,Nat.reduceEqDiff,reduceCtorEq,aw];refine TC.intro PJ ⟨Tryz.func73,rfl,WY⟩ (aeg e g5 c NH) ?_;rintro N X w6 ⟨O,c6,k6⟩;have o:=k6 y l5 a5;have P:=C X (J.trans o);have Q:=Wj (n:=(n:Int)) O.sl;refine Sk (IX @Ii @Ip.eq_1 @BS P.2.1 Q) ?_;refine TC.intro PJ ⟨zL,rfl,WY⟩ (abJ e _ ⟨(n:Int),l.eraseIdx i⟩ X ⟨N,rfl,O⟩) ?_;rintro x h7 w7 ⟨⟨t,rfl,a⟩,R⟩;simp only[Sb]at a;have z:=(abk l i).trans hs;have S:bX ⟨(n:Int),l.eraseIdx i⟩:=p.sub z;have T:(l.eraseIdx i).length=l.length-1:=by rw[afq,if_pos c]
 have A:=J.trans (o.trans R);cases t with
 |true=>
  rw[if_pos (a.1 rfl).2]at d;simp only[HO,Nat.reduceLT,↓reduceIte,Nat.reduceEqDiff,reduceCtorEq,aw];exact tn (l.length-(i+1)) [(1,.pointer (some ⟨B,0,none⟩)),(4,b),(5,.int .i64 (i+1:Nat))] NH fD
   ⟨i+1,l,b,rfl,c,rfl,pl.le (o.trans R),cl,A,d,hs⟩
 |false=>
  rw[if_neg (fun q=>by cases a.2 ⟨S,q⟩)]at d;refine Uy ?_;exact tn ((l.eraseIdx i).length-i) [(1,.pointer (some ⟨B,0,none⟩)),(4,N),(5,.int .i64 i)] NH fD
   ⟨i,l.eraseIdx i,N,rfl,NH,rfl,O.le R,c6,A,by rw[T,show l.length-1-i=l.length-(i+1) by omega];exact d,z⟩
end
end Go.Fw
