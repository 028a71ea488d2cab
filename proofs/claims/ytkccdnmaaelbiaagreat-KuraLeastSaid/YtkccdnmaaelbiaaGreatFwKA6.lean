/- A text. -/
import Derived.Test.YtkccdnmaaelbiaaGreatFwKA5
set_option linter.all false
set_option maxRecDepth 99999
set_option maxHeartbeats 9999999
namespace Go.Fw
section
attribute [local irreducible] Kp MQ lU rS KO KN KX KE VK Kl ZJ TC aaa
attribute [local irreducible] Jz JL vq cQ
open Go.Proofs
variable {h:AHeap} {i n:Nat} {ps:List Pr} {v:Value} {x:Int}
theorem acX (N:LA) (id n i cap:Nat) (c:List Value) (h:AHeap) (A:h.own id=some (.cells c)) (hl:n*2<=c.length) (H:(c.take (n*2)).all (·.oneCell')=true) (hi:i<n) (hn:n<=100000) (B:n<=cap) (I:cap<RA):
  AC Tryz.prog N 73 [.slice (some ⟨id,0,none⟩) n cap,.int .i64 (i:Int),.int .i64 ((i+1:Nat):Int)] h fun x h'=>
   ∃C,C<=cap/\x=.slice (some ⟨id,0,none⟩) C cap/\C=n-1/\∃c',(h'.own id=some (.cells c')/\(∀f,Le f h->f.own id=none->Le f h')/\∀b o,b≠id->h.own b=some o->h'.own b=some o)/\c'.take ((n-1)*2)=c.take (i*2)++((c.drop ((i+1)*2)).take ((n-(i+1))*2)):=by
 have k:¬RA<=cap:=Dl.2 I;have d:=AV;have j:=yU;have O:(0:Int)<=(i:Int):=NH;have Q:(i:Int)<=((i+1:Nat):Int):=NH;have e3:((i+1:Nat):Int)<=(n:Int):=NH;have e4:(0:Int)<=((i+1:Nat):Int):=NH;have J:(0:Int)<=(n:Int):=NH;have K:(n:Int)<=(cap:Int):=NH;have e7:(i:Int)<=(cap:Int):=NH;have D:∃v,aSlice Tryz.prog 22 (.slice (some ⟨id,0,none⟩) n cap) (some (.int .i64 (i:Int))) (some (.int .i64 ((i+1:Nat):Int))) (some (.int .i64 (n:Int)))=some v:=by
  refine⟨Value.slice (if n=i then some ⟨id,0,none⟩else some ⟨id,i*2,none⟩) (i+1-i) (n-i),?_⟩
  .simp only[aSlice,d,k,if_false,B,j,dU,and_self,if_true,aBounds,aBound,O,Q,e3,e4,J,K,yY,BR,Ip,WE,BS]
 obtain⟨v1,D⟩:=D;have R:aSlice Tryz.prog 22 (.slice (some ⟨id,0,none⟩) n cap) none (some (.int .i64 (i:Int))) none=some (.slice (some ⟨id,0,none⟩) i cap):=pn d j i NH B I
 have S:aSlice Tryz.prog 22 (.slice (some ⟨id,0,none⟩) n cap) (some (.int .i64 ((i+1:Nat):Int))) none none=some (.slice (if cap=i+1 then some ⟨id,0,none⟩else some ⟨id,(i+1)*2,none⟩) (n-(i+1)) (cap-(i+1))):=by
  have T:((i+1:Nat):Int)<=(n:Int):=e3;simp only[aSlice,d,k,if_false,B,j,dU,and_self,if_true,aBounds,aBound,e4,T,yY,BR,Ip,WE,BS]
 have rd:∀e,UA Tryz.prog e=2->srcCells Tryz.prog h e (.slice (if cap=i+1 then some ⟨id,0,none⟩else some ⟨id,(i+1)*2,none⟩) (n-(i+1)) (cap-(i+1)))=some (n-(i+1),(c.drop ((i+1)*2)).take ((n-(i+1))*2)):=fun e he=>by
  by_cases q:cap=i+1
  .have z : n - (i + 1) = 0 := NH
   rw[if_pos q,z];simp[srcCells,readN]
  grind [qF,srcCells]
 have nl:((c.drop ((i+1)*2)).take ((n-(i+1))*2)).length=(n-(i+1))*2:=pw;have n1:((c.drop ((i+1)*2)).take ((n-(i+1))*2)).all (·.oneCell')=true:=by
  rw[uV]at H ⊢;intro x U;refine H x ?_;obtain⟨q,w⟩:=Og.1 U;rw[V9]at w;split at w
  .rw [DF] at w
   refine Gc (i:=(i+1)*2+q) ?_
   grind
  .cases w
 have app:∃c1 l,(l.own id=some (.cells c1)/\(∀f,Le f h->f.own id=none->Le f l)/\∀b o,b≠id->h.own b=some o->l.own b=some o)/\aAppend Tryz.prog h 22 22 (.slice (some ⟨id,0,none⟩) i cap) (.slice (if cap=i+1 then some ⟨id,0,none⟩else some ⟨id,(i+1)*2,none⟩) (n-(i+1)) (cap-(i+1)))=some (.slice (some ⟨id,0,none⟩) (n-1) cap,l)/\c1.length=c.length/\
   c1.take ((n-1)*2)=c.take (i*2)++((c.drop ((i+1)*2)).take ((n-(i+1))*2)):=by
  have y:azero Tryz.prog 38=some (.agg #[Value.int .i64 0,Value.int .i64 0]):=Ji;have L:(Value.agg #[Value.int .i64 0,Value.int .i64 0]).cells.size=UA Tryz.prog 38/\(Value.agg #[Value.int .i64 0,Value.int .i64 0]).cells.toList.all (·.oneCell')=true:=⟨by kernel_rfl,by kernel_rfl⟩;have hs:=rd 38 WE;have V:Tryz.prog.bytesOf 38<=1000:=by decide
  have W:(i+(n-(i+1)))*Tryz.prog.bytesOf 38<=140737488355328:=VU (KV (show i+(n-(i+1))<=100000 by omega) V) WY;have X:i+(n-(i+1))<=140737488355328:=NH;have M:(Value.agg #[Value.int .i64 0,Value.int .i64 0]).cells.size=UA Tryz.prog 38/\(Value.agg #[Value.int .i64 0,Value.int .i64 0]).cells.toList.all (·.oneCell')/\(Tryz.prog.underlying 38).isSome/\notIntD (.slice 38)/\((c.drop ((i+1)*2)).take ((n-(i+1))*2)).all (·.oneCell')/\(i+(n-(i+1)))*Tryz.prog.bytesOf 38<=140737488355328/\i+(n-(i+1))<=140737488355328/\((c.drop ((i+1)*2)).take ((n-(i+1))*2)).length=(n-(i+1))*UA Tryz.prog 38:=
   ⟨L.1,L.2,by rw[j];rfl,rfl,n1,W,X,by grind [WE]⟩
  have es:i+(n-(i+1))=n-1:=NH;by_cases Y:n-(i+1)=0
  .refine ⟨c, h, ⟨A, fun f s _ => s, fun b o _ hb => hb⟩, ?_, rfl, ?_⟩
   .simp only [aAppend, d, y, hs]
    grind
   .rw [Y]
    grind
  .have room : i * 2 + ((c.drop ((i + 1) * 2)).take ((n - (i + 1)) * 2)).length <= c.length := pw
   refine⟨putCells c (i*2) ((c.drop ((i+1)*2)).take ((n-(i+1))*2)),_,⟨AHeap.Y3 _ _ _,fun f s hf=>s.put _ hf,fun b o hb A=>by grind [AHeap.By]⟩,?_,O7 _ _ _,?_⟩
   .simp only [aAppend, d, y, hs]
    grind [WE]
   .rw[IW _ _ _ room,gX pw,vZ pw]
 obtain⟨c1,l,⟨Z,E,ae⟩,app,ag,F⟩:=app;have S4:aSlice Tryz.prog 22 (.slice (some ⟨id,0,none⟩) (n-1) cap) (some (.int .i64 ((n-1:Nat):Int))) (some (.int .i64 (n:Int))) none=some (.slice (some ⟨id,(n-1)*2,none⟩) 1 (cap-(n-1))):=by
  have a1:((n-1:Nat):Int)<=(n:Int):=NH;have a2:(0:Int)<=((n-1:Nat):Int):=NH;have a3:n-1<=cap:=NH;have a4:¬cap=n-1:=NH;have a5:n-(n-1)=1:=NH;simp only[aSlice,d,k,if_false,a3,j,dU,and_self,if_true,aBounds,aBound,J,K,a1,a2,yY,a4,a5,BR,Ip,WE,BS]
 have p:∃c2,aClear Tryz.prog l 22 (.slice (some ⟨id,(n-1)*2,none⟩) 1 (cap-(n-1)))=some (.tuple #[],l.put id (.cells c2))/\c2.take ((n-1)*2)=c1.take ((n-1)*2):=by
  have y:azero Tryz.prog 38=some (.agg #[Value.int .i64 0,Value.int .i64 0]):=Ji;have room:(n-1)*2+[Value.int .i64 0,Value.int .i64 0].length<=c1.length:=pw;have aj:(Value.agg #[Value.int .i64 0,Value.int .i64 0]).cells=#[Value.int .i64 0,Value.int .i64 0]:=Ji;have zr:zrow (Value.agg #[Value.int .i64 0,Value.int .i64 0]).cells.toList 1=[Value.int .i64 0,Value.int .i64 0]:=Ji;refine⟨putCells c1 ((n-1)*2) [Value.int .i64 0,Value.int .i64 0],?_,?_⟩
  .have r : (n - 1) * 2 + 1 * (Value.agg #[Value.int .i64 0, Value.int .i64 0]).cells.size <= c1.length := pw
   have fl:(Value.agg #[Value.int .i64 0,Value.int .i64 0]).cells.toList.all flat=true:=Ji;simp only[aClear,d,y,Z,fl,r,decide_true,Bool.and_self,cond_true,zr];rfl
  grind [IW]
 obtain⟨c2,p,G⟩:=p;refine AC.vE ⟨Tryz.func73,rfl,WY⟩ Tryz.ntmps73 Tryz.results73 fun al=>?_;simp only[Br,Nat.reduceAdd];have u:=fun m g=>Jg (P:=Tryz.prog) (t:=22) (a:=some ⟨id,0,none⟩) (n:=m) (cap:=cap) d g;have d1:decide ((i:Int)=((i+1:Nat):Int))=false:=decide_eq_false NH;refine Sk (xU u D @lW d1) ?_;refine gh (tA [0,1,2,3,4,5] (JQ 6 [2,5] (JQ 7 [0,1,2,3,4,5,6] .done))) ?_;simp only[HO,Nat.reduceLT,↓reduceIte,Nat.reduceEqDiff,reduceCtorEq,Nat.reduceBEq,Qg,R,S,app,u,S4,p];exact⟨n-1,NH,rfl,rfl,c2,⟨AHeap.Y3 _ _ _,fun f s hf=>(E f s hf).put _ hf,fun b o hb A=>by grind [AHeap.By]⟩,by rw[G,F]⟩
def acY:∀(l:List Pr) (i:Nat),i<l.length->(Iu l).take (i*2)++((Iu l).drop ((i+1)*2)).take ((l.length-(i+1))*2)=Iu (l.eraseIdx i):=fun l i hi=>by
 have a:(Iu l).take (i*2)=Iu (l.take i):=by rw[abr]
 have h2:(Iu l).drop ((i+1)*2)=Iu (l.drop (i+1)):=by rw[za]
 have h3:(Iu (l.drop (i+1))).take ((l.length-(i+1))*2)=Iu (l.drop (i+1)):=by rw[vZ];rw[Ta,iB];exact Ny _
 rw[a,h2,h3,<-mZ,fE]
def acZ (q:LA) (g:GP h v ps) (hi:i<ps.length) (t:ps.length<=100000):
  AC Tryz.prog q 73 [v,.int .i64 (i:Int),.int .i64 ((i+1:Nat):Int)] h fun x h'=>PR h' x (ps.eraseIdx i)/\Ct x (ps.eraseIdx i).length/\∀f,Le f h->Z2 f v->Le f h':=by
 have a:(ps.eraseIdx i).length=ps.length-1:=by rw[WL,if_pos hi]
 have y:=acY ps i hi;have d:=WI ps;obtain⟨z,⟨rfl,E⟩|⟨id,c,cap,rfl,u,p,A⟩⟩:=g
 .omega
 have e:ps.length*2<=c.length:=by
  have:=congrArg List.length p;rw[Bn,z]at this;omega
 have B:c.take (i*2)=(Iu ps).take (i*2):=by rw[<-p,aeT];congr 1;omega
 have C:(c.drop ((i+1)*2)).take ((ps.length-(i+1))*2)=((Iu ps).drop ((i+1)*2)).take ((ps.length-(i+1))*2):=by rw[<-p,qL223,aeT];congr 1;omega
 have w:(c.take (ps.length*2)).all (·.oneCell')=true:=by rw[p];exact d
 have fin:∀(cap':Nat) (h':AHeap) (c':List Value),h'.own id=some (.cells c')->c'.take ((ps.length-1)*2)=c.take (i*2)++((c.drop ((i+1)*2)).take ((ps.length-(i+1))*2))->PR h' (.slice (some ⟨id,0,none⟩) (ps.length-1) cap') (ps.eraseIdx i):=fun cap' h' c' j ct=>by
  rw[B,C,y]at ct;have l:(ps.eraseIdx i).length=ps.length-1:=by rw[WL,if_pos hi]
  have hlen:(ps.length-1)*2<=c'.length:=by
   have:=congrArg List.length ct;rw[Bn,Ta,l]at this;omega
  have:=CS.own (k:=2) (off:=0) (n:=ps.length-1) (cap:=cap') j NH;rw[yI,ct]at this;unfold PR;rw[l];exact this
 rcases A with rfl|⟨rfl,m⟩
 .refine (AC.exact (Q := fun r h' => r = ps.length - 1 /\ ∃ c', (h'.own id = some (.cells c') /\ (∀ f, Le f h -> f.own id = none -> Le f h') /\ ∀ b o, b ≠ id -> h.own b = some o -> h'.own b = some o) /\ c'.take ((ps.length - 1) * 2) = c.take (i * 2) ++ ((c.drop ((i + 1) * 2)).take ((ps.length - (i + 1)) * 2))) NH fun cap h2 h3 => acX q id ps.length i cap c h u e w hi t h2 h3).mono ?_
  rintro x h' ⟨r,rfl,rfl,c',⟨j,fr,D⟩,ct⟩;exact⟨fin _ h' c' j ct,by rw[a];exact⟨_,_,rfl,.inr ⟨rfl,rfl⟩⟩,fun f s af=>fr f s (af id rfl)⟩
 .refine (acX q id ps.length i ps.length c h u e w hi t (Ny _) (Nat.lt_trans m WY)).mono ?_
  rintro x h' ⟨r,-,rfl,rfl,c',⟨j,fr,D⟩,ct⟩;exact⟨fin _ h' c' j ct,by rw[a];exact⟨_,_,rfl,.inl ⟨Nat.lt_trans m WY,NH⟩⟩,fun f s af=>fr f s (af id rfl)⟩
def aes (d:LA) (a b:Int) (h:AHeap):AC Tryz.prog d 164 [.int .i64 a,.int .i64 b] h fun x h'=>x=.bool (decide (a<b))/\h'=h:=by
 refine AC.vE ⟨Tryz.func164,rfl,WY⟩ Tryz.ntmps164 Tryz.results164 fun e=>?_;simp only[Br,Nat.reduceAdd];refine Uy ?_;refine TC.intro PJ ⟨qS24,rfl,WY⟩ (Pd d a h) ?_;rintro x f w1 ⟨rfl,rfl⟩;by_cases c:a<b
 .simp only[HO,Nat.reduceLT,↓reduceIte,Nat.reduceEqDiff,reduceCtorEq,c];exact⟨Ma,trivial⟩
 .simp only[HO,Nat.reduceLT,↓reduceIte,Nat.reduceEqDiff,reduceCtorEq,c];exact⟨Ma,trivial⟩
theorem abR (w:LA) (v:Value) (xs:RZ) (x:Int) (h:AHeap) (n:RL RP h v xs) (N:xs.length<=1000) (ha:xs.Pairwise (·<·)) (B:x∈xs):
  AC Tryz.prog w 123 [v,.int .i64 x] h fun y h'=>(∃i:Nat,y=.tuple #[.int .i64 i,.bool true]/\xs[i]?=some x)/\h'=h:=by
 have lt:∀(i j:Nat) a b,i<j->xs[i]?=some a->xs[j]?=some b->a<b:=fun i j a b p hi C=>by
  obtain⟨D,rfl⟩:=qL0.1 hi;obtain⟨h2,rfl⟩:=qL0.1 C;exact vY.1 ha i j D h2 p
 obtain⟨q,d⟩:=Og.1 B;have o:=(qL0.1 d).1;refine AC.vE ⟨Tryz.func123,rfl,WY⟩ Tryz.ntmps123 Tryz.results123 fun E=>?_;simp only[Br,Nat.reduceAdd];have F:=fun g=>n.Uc g;refine Sk F ?_;refine aaa.intro (fun k fr hh=>∃lo hi:Nat,k=hi-lo/\lo<=q/\q<=hi/\hi<=xs.length/\fr=mkF [(0,v),(1,.int .i64 x),(6,.int .i64 xs.length),(7,.int .i64 lo),(8,.int .i64 hi)]/\hh=h)
  xs.length [(0,v),(1,.int .i64 x),(6,.int .i64 xs.length),(7,.int .i64 (0:Nat)),(8,.int .i64 xs.length)] fD
  ⟨0,xs.length,rfl,AE _,NH,Ny _,rfl,rfl⟩ ?_
 rintro k fr hh G ⟨lo,hi,rfl,s,t,u,rfl,rfl⟩;refine Uy ?_;refine Kl.intro (fun A=>?_) (fun hf=>?_)
 .have H : lo < hi := CC A
  clear A;have a1:awrap .i64 ((lo:Int)+(hi:Int))=((lo+hi:Nat):Int):=by grind [cT]
  have a2:=ae2 (lo+hi) NH;have I:=Tq (lo+hi) NH;have J:awrap .i64 (((lo+hi) / 2:Nat):Int)=(((lo+hi) / 2:Nat):Int):=cT _ NH NH;have O:(lo+hi) / 2<hi:=NH;have K:lo<=(lo+hi) / 2:=NH;refine Sk (bG a1 @cv3u a2 I @cvu3 J) ?_;generalize (lo+hi) / 2=m at*;have e:m<xs.length:=NH;have ad:=n.TA m e;have ld:=n.DH m e;have f:=CA e;generalize xs[m]=y at*;simp only[HO,Nat.reduceLT,↓reduceIte,Nat.reduceEqDiff,reduceCtorEq,ad,ld];refine TC.intro PJ ⟨Tryz.func164,rfl,WY⟩ (aes w y x hh) ?_;rintro z h3 P ⟨rfl,rfl⟩;by_cases c:y<x
  .have dc : decide (y < x) = true := decide_eq_true c
   have l:m<q:=by
    rcases Gq m q with r|r|r
    .exact r
    .subst r;rw[f]at d;injection d with d;omega
    .have:=lt q m x y r d f;omega
   refine Sk (XC dc (Tw m NH)) ?_;exact tn (hi-(m+1)) [(0,v),(1,.int .i64 x),(6,.int .i64 xs.length),(7,.int .i64 (m+1:Nat)),(8,.int .i64 hi)] NH fD ⟨m+1,hi,rfl,l,t,u,rfl,rfl⟩
  .have dc : decide (y < x) = false := decide_eq_false c
   have l:q<=m:=by
    rcases C2 m q with r|r
    .exact absurd (lt m q y x r f d) c
    .exact r
   refine Sk dc ?_;exact tn (m-lo) [(0,v),(1,.int .i64 x),(6,.int .i64 xs.length),(7,.int .i64 lo),(8,.int .i64 m)] NH fD ⟨lo,m,rfl,s,l,NH,rfl,rfl⟩
 have L:hi<=lo:=vp hf;obtain rfl:lo=q:=NH;have dl:decide ((lo:Int)<(xs.length:Int))=true:=decide_eq_true NH;have ad:=n.TA lo o;have ld:=n.DH lo o;rw[(qL0.1 d).2]at ld;have dx:decide (x=x)=true:=decide_eq_true rfl;have M:((lo:Int)<(xs.length:Int))=True:=eq_true NH;simp only[HO,Nat.reduceLT,↓reduceIte,Nat.reduceEqDiff,reduceCtorEq,M,dl,ad,ld,dx];exact⟨⟨lo,rfl,d⟩,trivial⟩
def idx_eq {b:List Pr} (h:(kz (aad n b))[i]?=some x):i=aa6 n b x:=by
 have f:(aad n b).Pairwise (·<·):=Bx.filter _;unfold aa6;generalize aad n b=l at*;clear b
 induction l generalizing i with
 |nil=>simp[kz]at h
 |cons a l g=>
  obtain⟨d,h2⟩:=y5.1 f;cases i with
  |zero=>
   have e:x=(a:Int):=by simpa[kz]using h.symm
   subst e;rw[qL160.2];intro v j;rcases Z6.1 j with rfl|q
   .simp
   .have:=d v q;simp;omega
  |succ i=>
   have h':(kz l)[i]?=some x:=by simpa[kz]using h
   have hi:=g h' h2;obtain⟨w,hw,e⟩:=aae.1 (Gc h');have c:(a:Int)<x:=by have:=d w hw;omega
   rw[adP,if_pos (by simpa using c),<-hi]
def mkKI2 (h:AHeap) (a b:Int):aBuildSlice Tryz.prog h 49 2 [(0,.int .i64 a),(1,.int .i64 b)]=some (.slice (some ⟨h.next,0,none⟩) 2 2,h.alloc (.cells [.int .i64 a,.int .i64 b])):=Ji
def aet (l:List Pr) (p:Pr):acn (l++[p])=acn l++[p.1,p.2]:=by simp[acn]
def aca (l:List Pr):(acn l).length=2*l.length:=by
 induction l with
 |nil=>rfl
 |cons p l a=>simp only[acn,Dk,kc,Uz,Zw]at*;omega
def afe (m:LA) (bv:Value) (n:Nat) (b:List Pr) (h:AHeap) (r:PR h bv b) (hR:aV n b) (hn:n<=200) (hl:b.length<=594):
  AC Tryz.prog m 75 [bv] h fun x h'=>RR (aaB n b) x/\Le h h':=by
 have D:=fun g=>r.len g;refine AC.vE ⟨Tryz.func75,rfl,WY⟩ Tryz.ntmps75 Tryz.results75 fun ae=>?_;simp only[Br,Nat.reduceAdd];by_cases Y:b.length<9
 .have E : decide ((b.length : Int) < 9) = true := decide_eq_true NH
  refine Sk (XC D E) ?_;exact⟨⟨true,rfl,fun _=>.inl Y,fun _=>rfl⟩,Le.refl _⟩
 have E:decide ((b.length:Int)<9)=false:=decide_eq_false NH;refine Sk (XC D E) ?_;refine aaa.intro (fun k fr o=>∃(i:Nat) (A:Value),k=b.length-i/\i<=b.length/\fr=mkF [(0,bv),(3,A),(18,bv),(19,.int .i64 b.length),(20,.int .i64 i)]/\GI o A (acn (b.take i))/\Le h o/\Z2 h A)
  b.length [(0,bv),(3,.slice none 0 0),(18,bv),(19,.int .i64 b.length),(20,.int .i64 (0:Nat))] fD
  ⟨0,_,rfl,AE _,rfl,GI.nil h,Le.refl _,fun b hb=>by simp[blk]at hb⟩ ?_
 rintro k fr o F ⟨i,A,rfl,hi,rfl,g,H,ap⟩;refine Uy ?_;refine Kl.intro (fun s=>?_) (fun hf=>?_)
 .have d : i < b.length := CC s
  clear s;have f:=CA d;have l:b.take (i+1)=b.take i++[b[i]]:=EL d;have hle:(acn (b.take i)).length<=2000:=by rw[aca,Bn];omega
  generalize b[i]=p at f l;have ad:=r.addr (k:=.i64) i d;have ld:=(r.le H).load f;obtain⟨ag,h3,e2,e3,j,J,Z⟩:=Ut F p;have m0:=lK Z;have m1:=HY Z;have l3:=H.trans j;obtain⟨B,e4,l4,w4,o4⟩:=Tt J [.int .i64 p.1,.int .i64 p.2];have bs:=mkKI2 h3 p.1 p.2;rw[e4]at bs
  have r4:RL RP B (.slice (some ⟨h3.next,0,none⟩) 2 2) [p.1,p.2]:=RL.Wh (RS.whole o4 rfl)
  obtain⟨jv,h6,K,L,w6,f6,-⟩:=GI.join ((g.le j).le l4) w4 r4 (by simp;omega);obtain⟨l6,aj⟩:=f6 h (l3.trans l4) ap;rw[<-aet,<-l]at L;simp only[HO,Nat.reduceLT,↓reduceIte,Nat.reduceEqDiff,reduceCtorEq,ad,ld,e2,e3,Dh,Z0,Ip,BS,m0,m1,bs,K,Tw i NH];exact tn (b.length-(i+1)) [(0,bv),(3,jv),(18,bv),(19,.int .i64 b.length),(20,.int .i64 (i+1:Nat))] (JS d) fD ⟨i+1,jv,rfl,d,rfl,L,l6,aj⟩
 have t:b.length<=i:=vp hf;rw[vZ t]at g;refine Uy ?_;refine TC.intro PJ ⟨qS33,rfl,WY⟩ (VQ m g (by rw[aca];omega)) ?_;rintro x h2 w2 ⟨rfl,g2,k2⟩;have M:=k2 h H ap;refine Uy ?_;refine TC.intro PJ ⟨Tryz.func122,rfl,WY⟩ (VY m g2 (by rw[OX,aca];omega)) ?_;rintro u h3 w3 ⟨N,-,k3⟩;have j:=k3 h M ap;rw[acr hR]at N;have lv:=fun g=>N.Uc g;rw[y6]at lv;obtain⟨B,h5,e4,e5,l5,w5,nX,G0⟩:=GX.new w3 ((aad n b).length:Int);refine Sk (IX lv @Zp e4 e5 D) ?_;have al:(aad n b).length<=200:=VU (KG _ _) (by simp;omega);have v:(kz (aad n b)).Pairwise (·<·):=by
  unfold kz;rw[vg];exact(Bx.filter _).imp fun h=>by omega
 have O:h3.own h3.next=none:=(Le.refl h3).next w3 (Ny _)
 generalize h3.next=X at*
 refine aaa.intro (fun k fr o=>∃(i:Nat) (ev:Value),k=b.length-i/\i<=b.length/\fr=mkF [(3,u),(6,.pointer (some ⟨X,0,none⟩)),(39,bv),(40,.int .i64 b.length),(41,.int .i64 i)]/\GX o X (aad n b).length ev (aam n b|>.take i)/\Le h3 o/\Z2 h3 ev)
  b.length [(3,u),(6,.pointer (some ⟨X,0,none⟩)),(39,bv),(40,.int .i64 b.length),(41,.int .i64 (0:Nat))] fD
  ⟨0,_,rfl,AE _,rfl,G0,l5,fun b hb=>by simp[blk]at hb⟩ ?_
 clear G0 w5 l5 e5 e4;rintro k fr hz P ⟨i,ev,rfl,hi,rfl,G,C,az⟩;refine Uy ?_;refine Kl.intro (fun s=>?_) (fun hf=>?_)
 .have d : i < b.length := CC s
  clear s;have f:=CA d;have Q:(aam n b)[i]?=some ((aa6 n b b[i].1:Int),(aa6 n b b[i].2:Int)):=by rw[aam,dZ,f];rfl
  have l:(aam n b).take (i+1)=(aam n b).take i++[((aa6 n b b[i].1:Int),(aa6 n b b[i].2:Int))]:=by rw[iu,Q];rfl
  have w:((aam n b).take i).length+1<=100000:=by rw[Bn];omega
  have R:=Gc f;have hm:∀x,aO b[i] x=true->x∈kz (aad n b):=fun x hx=>by rw[<-acr hR,jn,Wv,acU];exact⟨_,R,hx⟩
  have S:=hm b[i].1 (by simp[aO]);have T:=hm b[i].2 (by simp[aO]);generalize b[i]=p at*;have ad:=r.addr (k:=.i64) i d;have ld:=(r.le (j.trans C)).load f;obtain⟨aq,h6,K,s6,l6,w6,o6⟩:=Ut P p;have m0:=lK o6;have m1:=HY o6;have r6:=N.le Nn.RP (C.trans l6);have aw:=Tw i NH;simp only[HO,Nat.reduceLT,↓reduceIte,Nat.reduceEqDiff,reduceCtorEq,ad,ld,K,s6,Dh,Z0,Ip,BS,m0];refine TC.intro PJ ⟨Tryz.func123,rfl,WY⟩ (abR m u _ p.1 h6 r6 (by rw[y6];omega) v S) ?_;rintro y h7 w7 ⟨⟨a,rfl,ha⟩,rfl⟩;refine Sk (IX @Dh @Z0 @Ip.eq_1 @BS m1) ?_;refine TC.intro PJ ⟨Tryz.func123,rfl,WY⟩ (abR m u _ p.2 h7 r6 (by rw[y6];omega) v T) ?_;rintro y h8 w8 ⟨⟨c,rfl,hc⟩,rfl⟩;obtain rfl:=idx_eq ha;obtain rfl:=idx_eq hc;have G6:=G.le l6;obtain⟨v',g4,g5,L,q4,q5,q6,G7,ar,l7,f7,-⟩:=G6.push' w8 ((aa6 n b p.1:Int),(aa6 n b p.2:Int)) w;obtain⟨U,a7⟩:=f7 h3 (C.trans l6) O az;rw[<-l]at G7;have V:=xe (aa6 n b p.1:Int) (aa6 n b p.2:Int);simp only[HO,Nat.reduceLT,↓reduceIte,Nat.reduceEqDiff,reduceCtorEq,Di,Ip,BS,G6.ld.2.2,V,q4,q5,q6,aw];exact tn (b.length-(i+1)) [(3,u),(6,.pointer (some ⟨X,0,none⟩)),(39,bv),(40,.int .i64 b.length),(41,.int .i64 (i+1:Nat))] (JS d) fD ⟨i+1,v',rfl,d,rfl,G7,U,a7⟩
 have t:b.length<=i:=vp hf;have w:(aam n b).length=b.length:=by simp[aam]
 rw[vZ NH]at G;refine Sk G.ld.1 ?_;refine TC.intro PJ ⟨Tryz.func19,rfl,WY⟩ (Im m _ ⟨((aad n b).length:Int),aam n b⟩ hz ⟨ev,rfl,G.gp.pr,GS.okc G.gp⟩) ?_;rintro x h9 w9 ⟨l9,rv,e,rfl,I⟩;have W:=(j.trans C).trans l9;have key:decide (e=0)=true↔aaB n b:=by
  rw[decide_eq_true_eq];constructor
  .intro he
   rcases I with⟨-,q,-⟩|⟨-,-,q,-⟩|⟨-,-,-,-,q,-⟩|⟨z,h2,rs,-,h3,B,-⟩
   .omega
   .omega
   .omega
   .exact .inr ⟨z,h2,Vg z.GD z.q9 h3 B⟩
  .rintro (q | ⟨z, h2, h3⟩)
   .exact absurd q Y
   .obtain ⟨rs, -, -, -, q, -⟩ := I.XK z h2 h3
    exact q
 refine Uy ?_;exact⟨⟨_,rfl,key⟩,W⟩
def fkM_len (key:Pr->Int) (es:List Pr):(CY key es).length<=es.length:=by
 have:∀(es:List Pr) (ks:RZ),(es.foldl (fkS key) ks).length<=ks.length+es.length:=by
  intro es
  induction es with
  |nil=>simp
  |cons p es a=>
   intro ks;have:=a (fkS key ks p);have h2:(fkS key ks p).length<=ks.length+1:=by unfold fkS;split<;>simp
   simp only[C4,Uz];omega
 have:=this es [];rw[Zw,BS]at this;exact this
def ads (n:Nat) (es:List Pr):(vq n es).length<=es.length:=by rw[aaq,LH];exact fkM_len _ _
def aar (o:LA) (v:Value) (G:GM) (h:AHeap) (hg:GR h v G):
  AC Tryz.prog o 37 [v] h fun x h'=>RR (bX G/\aaf G.n.toNat G.es) x/\Le h h':=by
 have m:=hg;obtain⟨H,es⟩:=G
 obtain⟨ev,rfl,I⟩:=hg.open
 refine AC.vE ⟨YW,rfl,WY⟩ Tryz.ntmps37 Tryz.results37 fun J=>?_;simp only[Br,Nat.reduceAdd];obtain⟨R,W,r,X,-,S⟩:=r8 (n:=H) J I
 generalize h.next=B at*
 have K:=S R (Le.refl _);refine Sk (XC W K.1) ?_;refine TC.intro PJ ⟨Tryz.func46,rfl,WY⟩ (Cw o _ ⟨H,es⟩ R (m.le r)) ?_;rintro x h2 w2 ⟨l2,Y⟩;have s:=S h2 l2;have j:=r.trans l2;rcases Y with⟨T,rfl⟩|⟨l,L,rfl,E⟩
 .refine Sk s.1 ?_
  refine TC.intro PJ ⟨qS9,rfl,WY⟩ (ak o _ _ h2 (m.le j)) ?_;rintro x h3 Z ⟨⟨t,rfl,a⟩,l3⟩;cases t with
  |true=>exact absurd (a.1 rfl) T
  |false=>
   refine Uy ?_;exact⟨RR.f fun q=>T q.1,j.trans l3⟩
 refine Sk s.1 ?_;refine TC.intro PJ ⟨qS9,rfl,WY⟩ (ak o _ _ h2 (m.le j)) ?_;rintro x h3 Z ⟨⟨t,rfl,a⟩,l3⟩;obtain rfl:t=true:=a.2 l;clear a;have w:=j.trans l3;have h0:0<=H:=l.n0;obtain⟨n,rfl⟩:=HV h0;simp only[yY]at E ⊢;have lk:=fun g=>E.len (P:=Tryz.prog) iZ g;have y:aaf n es↔∀b∈vq n es,aaB n b:=⟨fun q=>q.2,fun q=>⟨l,q⟩⟩;have z:∀b∈vq n es,b.Sublist es:=fun b hb=>by
  obtain⟨i,hi⟩:=Og.1 hb;obtain⟨k,-,rfl⟩:=Jh hi;exact jf
 have ae:(vq n es).length<=100000:=by
  have:=ads n es;have:es.length<=594:=l.len;omega
 generalize vq n es=bs at*;have d0:decide ((0:Int)=0)=true:=by decide
 refine Sk (Yb @bne.eq_1.{0} d0 lk) ?_
 refine aaa.intro (fun k fr F=>∃i:Nat,k=bs.length-i/\i<=bs.length/\fr=mkF [(19,L),(20,.int .i64 bs.length),(21,.int .i64 i)]/\Le h3 F/\∀b∈bs.take i,aaB n b)
  bs.length [(19,L),(20,.int .i64 bs.length),(21,.int .i64 (0:Nat))] fD ⟨0,rfl,AE _,rfl,Le.refl _,fun b hb=>by simp at hb⟩ ?_
 rintro k fr F ag ⟨i,rfl,hi,rfl,A,e⟩;refine Uy ?_;refine Kl.intro (fun U=>?_) (fun hf=>?_)
 rotate_left
 .have M : bs.length <= i := vp hf
  rw[vZ M]at e;refine Uy ?_;exact⟨⟨true,rfl,fun _=>⟨l,y.2 e⟩,fun _=>rfl⟩,w.trans A⟩
 have d:i<bs.length:=CC U;clear U;have N:bs.take (i+1)=bs.take i++[bs[i]]:=EL d;have C:=Gw d;have O:=E.addr (P:=Tryz.prog) iZ AV Ji (k:=.i64) i d;obtain⟨u,Q,hu⟩:=E.load' (P:=Tryz.prog) AV rfl i d;have lu:=Q F (l3.trans A);generalize bs[i]=b at*;have hs:=z b C;have D:b.length<=594:=VU hs.length_le l.len;simp only[HO,Nat.reduceLT,↓reduceIte,Nat.reduceEqDiff,reduceCtorEq,O,lu];refine TC.intro PJ ⟨Tryz.func75,rfl,WY⟩ (afe o u n b F (hu.le (l3.trans A)) (fun p I=>l.GD p (hs.subset I)) (by have:(n:Int)<=200:=l.n1;omega) D) ?_;rintro x h5 w5 ⟨⟨t,rfl,a⟩,l5⟩;cases t with
 |false=>
  refine Uy ?_;exact⟨RR.f (fun q=>by have:=a.2 (y.1 q.2 b C);cases this),(w.trans A).trans l5⟩
 |true=>
  refine Sk (Tw i NH) ?_;exact tn (bs.length-(i+1)) [(19,L),(20,.int .i64 bs.length),(21,.int .i64 (i+1:Nat))] (JS d) fD ⟨i+1,rfl,d,rfl,A.trans l5,fun c V=>by
   rw[N]at V;rcases WA.1 V with q|q
   .exact e c q
   .rw[Eh.1 q];exact a.1 rfl⟩
attribute [local instance] Classical.propDecidable in
theorem aaJ (e:LA) (v:Value) (G:GM) (h:AHeap) (hg:GR h v G):
  AC Tryz.prog e 35 [v] h fun x h'=>Le h h'/\((¬bX G/\x=.tuple #[.slice none 0 0,.int .i64 20])\/(bX G/\∃b,x=.tuple #[b,.int .i64 0]/\PR h' b (aaU G)/\Ct b (aaU G).length)):=by
 have r:=hg;obtain⟨U,es⟩:=G
 obtain⟨ev,rfl,V⟩:=hg.open
 refine AC.vE ⟨Gs,rfl,WY⟩ Tryz.ntmps35 Tryz.results35 fun D=>?_;simp only[Br,Nat.reduceAdd];obtain⟨E,Y,f,Z,-,C⟩:=r8 (n:=U) D V
 generalize h.next=B at*
 have s:=C E (Le.refl _);refine Sk (XC Y s.1) ?_;refine TC.intro PJ ⟨qS9,rfl,WY⟩ (ak e _ _ E (r.le f)) ?_;rintro x h2 w2 ⟨⟨t,rfl,a⟩,l2⟩;have u:=C h2 l2;have j:=f.trans l2;cases t with
 |false=>
  refine Uy ?_;exact⟨j,.inl ⟨(fun q=>by cases a.2 q),trivial⟩⟩
 |true=>
 have p:=a.1 rfl;clear a;have h0:0<=U:=p.n0;obtain⟨n,rfl⟩:=HV h0;refine Sk u.1 ?_;refine TC.intro PJ ⟨YW,rfl,WY⟩ (aar e _ ⟨(n:Int),es⟩ h2 (r.le j)) ?_;rintro x h3 w3 ⟨⟨t,rfl,a⟩,l3⟩;simp only[yY]at a;have m:=j.trans l3
 have hf:∀F,F=aaU ⟨(n:Int),es⟩->F=if aaf n es then[]else findM n es.length 0 es:=fun F d=>d
 cases t with
 |true=>
  have:=hf _ rfl;rw[if_pos (a.1 rfl).2]at this;refine Uy ?_;exact⟨m,.inr ⟨p,_,rfl,by rw[this];exact⟨(GP.nil _).pr,(GP.nil h3).ct⟩⟩⟩
 |false=>
 have d:=hf _ rfl;rw[if_neg (fun q=>by cases a.2 ⟨p,q⟩)]at d;generalize aaU ⟨(n:Int),es⟩=F at*;clear hf a;have w:es.length<=594:=p.len;refine Sk (xU @Di @Ip.eq_1 @BS ((C h3 (l2.trans l3)).2.2)) ?_;refine TC.intro PJ ⟨XV,rfl,WY⟩ (DA e ev es h3 (V.le m) NH) ?_;rintro b h4 w4 ⟨H,l4,-⟩;have I:=m.trans l4;refine Uy ?_;refine aaa.intro (fun k fr y=>∃(i:Nat) (l:List Pr) (b:Value),k=l.length-i/\i<=l.length/\fr=mkF [(1,.pointer (some ⟨B,0,none⟩)),(4,b),(5,.int .i64 i)]/\PR y b l/\Ct b l.length/\Le E y/\findM n (l.length-i) i l=F/\l.Sublist es)
  es.length [(1,.pointer (some ⟨B,0,none⟩)),(4,b),(5,.int .i64 (0:Nat))] fD
  ⟨0,es,b,rfl,AE _,rfl,H.pr,H.ct,(l2.trans l3).trans l4,d.symm,dr _⟩ ?_
 clear H w4 l4 I d s u;clear b;rintro k fr y ae ⟨i,l,b,rfl,hi,rfl,pl,cl,J,d,hs⟩;have W:=fun g=>pl.len g;have ag:l.length<=594:=VU hs.length_le w;have K:=f.trans J;by_cases c:i<l.length
 rotate_left
 .have dc : decide ((i : Int) < (l.length : Int)) = false := decide_eq_false NH
  have L:((i:Int)<(l.length:Int))=False:=eq_false NH;have M:l.length-i=0:=NH;rw[M]at d;have d:l=F:=d;refine Sk (Yb W dc L) ?_;exact⟨K,.inr ⟨p,b,rfl,by rw[<-d];exact⟨pl,cl⟩⟩⟩
 have dc:decide ((i:Int)<(l.length:Int))=true:=decide_eq_true NH;have L:((i:Int)<(l.length:Int))=True:=eq_true NH;have hk:l.length-i=(l.length-(i+1))+1:=NH;rw[hk,findM,if_pos c]at d;have aw:=Tw i NH;refine Sk (Yb W dc L) ?_;refine TC.intro PJ ⟨XV,rfl,WY⟩ (DA e b l y pl NH) ?_;rintro cv h5 w5 ⟨g5,l5,a5⟩;simp only[HO,Nat.reduceLT,↓reduceIte,Nat.reduceEqDiff,reduceCtorEq,aw];refine TC.intro PJ ⟨Tryz.func73,rfl,WY⟩ (acZ e g5 c NH) ?_;rintro N X w6 ⟨O,c6,k6⟩;have o:=k6 y l5 a5;have P:=C X (J.trans o);have Q:=Wj (n:=(n:Int)) O.sl;refine Sk (IX @Ii @Ip.eq_1 @BS P.2.1 Q) ?_;refine TC.intro PJ ⟨YW,rfl,WY⟩ (aar e _ ⟨(n:Int),l.eraseIdx i⟩ X ⟨N,rfl,O⟩) ?_;rintro x h7 w7 ⟨⟨t,rfl,a⟩,R⟩;simp only[yY]at a;have z:=(Ah l i).trans hs;have S:bX ⟨(n:Int),l.eraseIdx i⟩:=p.sub z;have T:(l.eraseIdx i).length=l.length-1:=by rw[WL,if_pos c]
 have A:=J.trans (o.trans R);cases t with
 |true=>
  rw[if_pos (a.1 rfl).2]at d;simp only[HO,Nat.reduceLT,↓reduceIte,Nat.reduceEqDiff,reduceCtorEq,aw];exact tn (l.length-(i+1)) [(1,.pointer (some ⟨B,0,none⟩)),(4,b),(5,.int .i64 (i+1:Nat))] NH fD
   ⟨i+1,l,b,rfl,c,rfl,pl.le (o.trans R),cl,A,d,hs⟩
 |false=>
  rw[if_neg (fun q=>by cases a.2 ⟨S,q⟩)]at d;refine Uy ?_;exact tn ((l.eraseIdx i).length-i) [(1,.pointer (some ⟨B,0,none⟩)),(4,N),(5,.int .i64 i)] NH fD
   ⟨i,l.eraseIdx i,N,rfl,NH,rfl,O.le R,c6,A,by rw[T,show l.length-1-i=l.length-(i+1) by omega];exact d,z⟩
variable {a j:Nat}
def abS (a j:Nat):List Pr:=(List.range (j-(a+1))).map fun t=>((a:Int),((a+1+t:Nat):Int))
def eachF (f n:Nat):Nat->List Pr
 |0=>[]
 |k+1=>eachF f n k++abS (f+k) n
def ady (h:a+1<=j):abS a (j+1)=abS a j++[((a:Int),(j:Int))]:=by
 unfold abS;rw[show j+1-(a+1)=(j-(a+1))+1 by omega,rY,U9];simp;omega
def acv (a j:Nat):(abS a j).length<=j:=by simp[abS]
def acw (f n:Nat):∀k,(eachF f n k).length<=n*k
 |0=>Ny _
 |k+1=>by
  have:=acw f n k;have:=acv (f+k) n;rw[eachF,kc,Nat.mul_add];omega
def ac0 (f n:Nat):List Pr:=eachF f n (n-f)
def abu (y:LA) (f n:Nat) (h:AHeap) (u:n<=100) (hf:f<=n):AC Tryz.prog y 44 [.int .i64 (f:Int),.int .i64 (n:Int)] h fun x h'=>GP h' x (ac0 f n)/\Le h h'/\Z2 h x:=by
 refine AC.vE ⟨Tryz.func44,rfl,WY⟩ Tryz.ntmps44 Tryz.results44 fun z=>?_;simp only[Br,Nat.reduceAdd];have m:∀k,k<=n->(eachF f n k).length<=10000:=fun k A=>VU (acw f n k) (KV u (VU A u));refine Uy ?_;refine aaa.intro (fun k fr l=>∃(i:Nat) (v:Value),k=n-f-i/\f+i<=n/\fr=mkF [(1,.int .i64 (n:Nat)),(5,v),(6,.int .i64 (f+i:Nat))]/\GP l v (eachF f n i)/\Le h l/\Z2 h v)
  (n-f) [(1,.int .i64 (n:Nat)),(5,.slice none 0 0),(6,.int .i64 (f:Nat))] fD ⟨0,_,rfl,hf,rfl,GP.nil h,Le.refl _,fun b hb=>by simp[blk]at hb⟩ ?_
 rintro k fr l o ⟨i,v,rfl,hi,rfl,g,d,ap⟩;by_cases c:f+i<n
 rotate_left
 .have dc : decide (((f + i : Nat) : Int) < (n : Int)) = false := decide_eq_false NH
  have a:(((f+i:Nat):Int)<(n:Int))=False:=eq_false NH;have e:n-f=i:=NH;refine Sk (XC dc a) ?_;exact⟨by rw[ac0,e];exact g,d,ap⟩
 have dc:decide (((f+i:Nat):Int)<(n:Int))=true:=decide_eq_true NH;have a:(((f+i:Nat):Int)<(n:Int))=True:=eq_true NH;have aw:=Tw (f+i) NH;have B:=m i NH;simp only[HO,Nat.reduceLT,↓reduceIte,Nat.reduceEqDiff,reduceCtorEq,dc,a,aw];refine aaa.intro (fun k fr p=>∃(j:Nat) (v:Value),k=n-j/\f+i+1<=j/\j<=n/\fr=mkF [(1,.int .i64 (n:Nat)),(5,v),(6,.int .i64 (f+i:Nat)),(7,.int .i64 (j:Nat))]/\GP p v (eachF f n i++abS (f+i) j)/\Le h p/\Z2 h v)
  (n-(f+i+1)) [(1,.int .i64 (n:Nat)),(5,v),(6,.int .i64 (f+i:Nat)),(7,.int .i64 (f+i+1:Nat))] fD ⟨f+i+1,v,rfl,Ny _,NH,rfl,by simpa[abS]using g,d,ap⟩ ?_
 clear g d ap o;clear l v;rintro k fr p q ⟨j,v,rfl,C,D,rfl,g,d,ap⟩;by_cases c2:j<n
 rotate_left
 .have dc : decide (((j : Nat) : Int) < (n : Int)) = false := decide_eq_false NH
  have a:(((j:Nat):Int)<(n:Int))=False:=eq_false NH;obtain rfl:j=n:=NH;simp only[HO,Nat.reduceLT,↓reduceIte,Nat.reduceEqDiff,reduceCtorEq,dc,a,aw];exact tn (j-f-(i+1)) [(1,.int .i64 (j:Nat)),(5,v),(6,.int .i64 (f+i+1:Nat))] NH fD ⟨i+1,v,rfl,NH,rfl,g,d,ap⟩
 have dc:decide (((j:Nat):Int)<(n:Int))=true:=decide_eq_true NH;have a:(((j:Nat):Int)<(n:Int))=True:=eq_true NH;have r:=Tw j NH;have E:=acv (f+i) j;obtain⟨v',H,I,e4,F,w,J,l4,s,-⟩:=g.push q (((f+i:Nat):Int),(j:Int)) (by rw[kc];omega);obtain⟨l5,G⟩:=s h d ap;rw[Cg,<-ady C]at w;have t:=xe ((f+i:Nat):Int) (j:Int);refine Sk (bG dc a t e4 F r) ?_;exact tn (n-(j+1)) [(1,.int .i64 (n:Nat)),(5,v'),(6,.int .i64 (f+i:Nat)),(7,.int .i64 (j+1:Nat))] NH fD ⟨j+1,v',rfl,NH,NH,rfl,w,l5,G⟩
def mkP9 (h:AHeap) (a b c d e f g i j:Pr):aBuildSlice Tryz.prog h 22 9 [(0,UI a),(1,UI b),(2,UI c),(3,UI d),(4,UI e),(5,UI f),(6,UI g),(7,UI i),(8,UI j)]=some (.slice (some ⟨h.next,0,none⟩) 9 9,h.alloc (.cells (Iu [a,b,c,d,e,f,g,i,j]))):=Ji
def abT (c:LA) (h:AHeap):AC Tryz.prog c 71 [] h fun x h'=>GP h' x E9/\Le h h'/\Z2 h x:=by
 refine AC.vE ⟨Tryz.func71,rfl,WY⟩ Tryz.ntmps71 Tryz.results71 fun a=>?_;simp only[Br,Nat.reduceAdd];obtain⟨i,d,l1,w1,e⟩:=Tt a (Iu E9);have m:=mkP9 h (0,3) (0,4) (0,5) (1,3) (1,4) (1,5) (2,3) (2,4) (2,5);have f:Iu [(0,3),(0,4),(0,5),(1,3),(1,4),(1,5),(2,3),(2,4),(2,5)]=Iu E9:=rfl;rw[f,d]at m
 have g:h.own h.next=none:=(Le.refl h).next a (Ny _)
 refine Sk (XC @xe m) ?_;exact⟨GS.full e rfl WY,l1,fun b hb=>by injection hb with hb;subst hb;exact g⟩
def abU (a:LA) (h:AHeap):AC Tryz.prog a 34 [] h fun x h'=>x=.bool true/\Le h h':=by
 refine AC.vE ⟨Tryz.func34,rfl,WY⟩ Tryz.ntmps34 Tryz.results34 fun aX=>?_;simp only[Br,Nat.reduceAdd];have P:decide ((0:Int)=0)=true:=by decide
 have d5:decide ((5:Int)=5)=true:=by decide
 have S:decide ((33:Int)=33)=true:=by decide
 have T:awrap .i64 (0+0)=0:=by decide
 have E5:ac0 0 5=k5L:=by decide
 have E6:ac0 0 6=k6L:=by decide
 have EU:ac0 1 6=k5U:=by decide
 refine Uy ?_;refine TC.intro PJ ⟨Tryz.func44,rfl,WY⟩ (abu a 0 5 h WY WY) ?_;rintro U h1 w1 ⟨Q,l1,-⟩;rw[E5]at Q;refine Uy ?_;refine TC.intro PJ ⟨Tryz.func44,rfl,WY⟩ (abu a 0 6 h1 WY WY) ?_;rintro v6 h2 w2 ⟨V,l2,-⟩;rw[E6]at V;have j:=Q.le l2;have y:=Wj (n:=5) Q.pr.sl;refine Sk y ?_;refine TC.intro PJ ⟨Gs,rfl,WY⟩ (aaJ a _ ⟨((5:Nat):Int),k5L⟩ h2 ⟨U,rfl,j.pr⟩) ?_;rintro x h3 w3 ⟨l3,⟨k,-⟩|⟨-,a5,rfl,f5,-⟩⟩
 .exact absurd k5R k
 rw[fnd_k5]at f5;have W:=Wj (n:=6) V.pr.sl;refine Sk W ?_;refine TC.intro PJ ⟨Gs,rfl,WY⟩ (aaJ a _ ⟨((6:Nat):Int),k6L⟩ h3 ⟨v6,rfl,(V.le l3).pr⟩) ?_;rintro x h4 w4 ⟨l4,⟨k,-⟩|⟨-,a6,rfl,f6,-⟩⟩
 .exact absurd k6R k
 rw[fnd_k6]at f6;refine Uy ?_;refine TC.intro PJ ⟨Tryz.func71,rfl,WY⟩ (abT a h4) ?_;rintro v3 h5 w5 ⟨g3,l5,-⟩;have X:=Wj (n:=6) g3.pr.sl;refine Sk X ?_;refine TC.intro PJ ⟨Gs,rfl,WY⟩ (aaJ a _ ⟨((6:Nat):Int),E9⟩ h5 ⟨v3,rfl,g3.pr⟩) ?_;rintro x Y w6 ⟨l6,⟨k,-⟩|⟨-,a3,rfl,Z,-⟩⟩
 .exact absurd k33R k
 rw[fnd_k33]at Z;obtain⟨h7,e7,R,w7,o7⟩:=Tt w6 (Iu c4E);have m7:=mkP4 Y (0,1) (0,3) (1,2) (2,3);have ae:Iu [(0,1),(0,3),(1,2),(2,3)]=Iu c4E:=rfl;rw[ae,e7]at m7
 have p7:PR h7 (.slice (some ⟨Y.next,0,none⟩) 4 4) c4E:=PR.made o7 rfl
 obtain⟨h8,h9,a8,s8,z,w9,lG⟩:=newG (n:=4) w7 p7;have ag:=Wj (n:=4) p7.sl;refine Sk (bG @xe m7 ag a8 s8 ((lG h9 (Le.refl _)).1)) ?_
 generalize Y.next=R4 at*
 generalize h7.next=G4 at*
 have p9:=p7.le z;refine TC.intro PJ ⟨Gs,rfl,WY⟩ (aaJ a _ ⟨((4:Nat):Int),c4E⟩ h9 ⟨_,rfl,p9⟩) ?_;rintro x A a7 ⟨b,⟨k,-⟩|⟨-,a4,rfl,f4,-⟩⟩
 .exact absurd c4R k
 rw[fnd_c4]at f4;have m:=l3.trans (l4.trans (l5.trans (l6.trans (R.trans (z.trans b)))));refine Sk (XC T P) ?_;refine TC.intro PJ ⟨Tryz.func39,rfl,WY⟩ (aaT a a5 U k5L k5L A (f5.le (l4.trans (l5.trans (l6.trans (R.trans (z.trans b)))))) (j.pr.le m) WY) ?_;rintro x B bg ⟨rfl,aj⟩;have o:Le A B:=by rw[aj];exact Le.refl _
 have sp:∀l:List Pr,decide (l=l)=true:=fun l=>decide_eq_true rfl;simp only[HO,Nat.reduceLT,↓reduceIte,Nat.reduceEqDiff,reduceCtorEq,sp];refine TC.intro PJ ⟨Tryz.func44,rfl,WY⟩ (abu a 1 6 B WY WY) ?_;rintro vU C bh ⟨gU,p,-⟩;rw[EU]at gU;refine Uy ?_;have D:=f6.le (l5.trans (l6.trans (R.trans (z.trans (b.trans (o.trans p))))));refine TC.intro PJ ⟨Tryz.func39,rfl,WY⟩ (aaT a a6 vU k5U k5U C D gU.pr WY) ?_;rintro x E bk ⟨rfl,al⟩;have q:Le C E:=by rw[al];exact Le.refl _
 simp only[HO,Nat.reduceLT,↓reduceIte,Nat.reduceEqDiff,reduceCtorEq,sp];refine TC.intro PJ ⟨Tryz.func71,rfl,WY⟩ (abT a E) ?_;rintro vT F bm ⟨gT,r,-⟩;refine Uy ?_;have G:=R.trans (z.trans (b.trans (o.trans (p.trans (q.trans r)))));refine TC.intro PJ ⟨Tryz.func39,rfl,WY⟩ (aaT a a3 vT E9 E9 F (Z.le G) gT.pr WY) ?_;rintro x H bo ⟨rfl,aq⟩;have s:Le F H:=by rw[aq];exact Le.refl _
 have c:=o.trans (p.trans (q.trans (r.trans s)));have ar:=fun g=>f4.len g;have t:=j.pr.le (m.trans c);simp only[HO,Nat.reduceLT,↓reduceIte,Nat.reduceEqDiff,reduceCtorEq,sp,ar,Zw,sL,P];refine TC.intro PJ ⟨zj,rfl,WY⟩ (aaY a U k5L H t) ?_;rintro x av br ⟨rfl,u⟩;obtain⟨cv,cut,pc,cc⟩:=t.cut (GS.okc Q) (i:=1) WY;simp only[aeP]at cut;simp only[HO,Nat.reduceLT,↓reduceIte,Nat.reduceEqDiff,reduceCtorEq,kind_k5,d5,cut];refine TC.intro PJ ⟨zj,rfl,WY⟩ (aaY a cv m5E av (pc.le u)) ?_;rintro x ay bx ⟨rfl,I⟩;refine Sk (XC @kind_m5 P) ?_;refine TC.intro PJ ⟨zj,rfl,WY⟩ (aaY a a6 k5U ay ((D.le (q.trans (r.trans s))).le (u.trans I))) ?_;rintro x az bB ⟨rfl,aD⟩;have d:=u.trans (I.trans aD);refine Sk (XC @afb d5) ?_;refine TC.intro PJ ⟨zj,rfl,WY⟩ (aaY a a3 E9 az ((Z.le (G.trans s)).le d)) ?_;rintro x J bF ⟨rfl,K⟩;have f:=b.trans (c.trans (d.trans K));refine Sk (bG @afc S @Di @Ip.eq_1 @BS ((lG J f).2.2)) ?_;refine TC.intro PJ ⟨zj,rfl,WY⟩ (aaY a _ c4E J (p9.le f)) ?_;rintro x L bH ⟨rfl,v⟩;refine Sk (Yb @kind_c4 P ((lG L (f.trans v)).1)) ?_;refine TC.intro PJ ⟨YW,rfl,WY⟩ (aar a _ ⟨((4:Nat):Int),c4E⟩ L ⟨_,rfl,p9.le (f.trans v)⟩) ?_;rintro x aF bI ⟨⟨w,rfl,aH⟩,aJ⟩;obtain rfl:w=true:=aH.2 ⟨c4R,aeb⟩;have e:=d.trans (K.trans (v.trans aJ));have aK:=Wj (n:=5) pc.sl;simp only[HO,Nat.reduceLT,↓reduceIte,Nat.reduceEqDiff,reduceCtorEq,cut,aK];refine TC.intro PJ ⟨YW,rfl,WY⟩ (aar a _ ⟨((5:Nat):Int),m5E⟩ aF ⟨_,rfl,pc.le e⟩) ?_;rintro x aP bN ⟨⟨w,rfl,M⟩,N⟩;obtain rfl:w=true:=M.2 ⟨m5R,m5_plan⟩;refine Sk y ?_;refine TC.intro PJ ⟨YW,rfl,WY⟩ (aar a _ ⟨((5:Nat):Int),k5L⟩ aP ⟨_,rfl,t.le (e.trans N)⟩) ?_;rintro x bQ bW ⟨⟨w,rfl,O⟩,aT⟩;have aW:w=false:=by
  cases w with
  |false=>rfl
  |true=>exact absurd (O.1 rfl).2 k5_np
 subst aW;refine Uy ?_;exact⟨trivial,(l1.trans (l2.trans (m.trans c))).trans (e.trans (N.trans aT))⟩
end
end Go.Fw
namespace Go.Fw
open Go.Proofs
attribute [local irreducible] Jz JL vq cQ
attribute [local instance] Classical.propDecidable
def aee {on on':Nat->Bool} (b:∀u,on u=false->on' u=false) {es:List Pr} {u w:Nat} (h:Cn on es u w):Cn on' es u w:=by
 induction h with
 |refl h=>exact .refl (b _ h)
 |step _ a o c=>exact .step c a (b _ o)
def aeu {on:Nat->Bool} {es:List Pr} {S:Nat->Prop} {x0 c:Nat} (h:Cn on es x0 c) (e:S x0) (b:¬S c):∃x y,S x/\¬S y/\Jp es x y/\Cn (fun u=>on u||decide (S u)) es y c:=by
 induction h with
 |refl _=>exact absurd e b
 |@step w x h a o f=>
  have d:(on x||decide (S x))=false:=by rw[o,decide_eq_false b];rfl
  by_cases hw:S w
  .exact⟨w,x,hw,b,a,.refl d⟩
  .obtain ⟨p, q, g, h2, h3, i⟩ := f hw
   exact⟨p,q,g,h2,h3,.step i a d⟩
def aff {on:Nat->Bool} {es:List Pr} {t a w:Nat} (ne:a≠t) (h:Cn on es a w):Cn (fun u=>on u||decide (u=t)) es a w\/∃z,Jp es z t/\Cn (fun u=>on u||decide (u=t)) es a z:=by
 induction h with
 |refl h=>exact .inl (.refl (by rw[h,decide_eq_false ne];rfl))
 |@step w x h a o b=>
  rcases b with q|q
  .by_cases e : x = t
   .subst e;exact .inr ⟨w,a,q⟩
   .exact .inl (.step q a (by rw[o,decide_eq_false e];rfl))
  .exact .inr q
def aaK (n:Nat) (es:List Pr) (k:Int):List Pr:=es.filter fun p=>decide (cQ n es p=k)
section
variable {n : Nat} {es : List Pr} (hr : aV n es)
def aan {k:Int} {p:Pr}:p∈aaK n es k↔p∈es/\cQ n es p=k:=by simp[aaK]
def afg (k:Int):(aaK n es k).Sublist es:=jf
include hr
def aef (k:Int):aV n (aaK n es k):=fun p a=>hr p (aan.1 a).1
def abC {k:Int} {u w:Nat}:Jp (aaK n es k) u w↔Jp es u w/\cQ n es (GW u w)=k:=by
 constructor
 .intro h
  have a:=aan.1 (H4 (aef hr k) h);exact⟨h.imp (fun q=>(aan.1 q).1) (fun q=>(aan.1 q).1),a.2⟩
 .rintro ⟨a, h2⟩
  have b:=aan.2 ⟨H4 hr a,h2⟩;have ne:u≠w:=fun e=>by subst e;exact Xa hr a
  rcases oZ ne with c|c
  .left;rwa[GW,aeM NH,aeK NH]at b
  .right;rwa[GW,Int.min_eq_right NH,Int.max_eq_left NH]at b
def afh {v a c:Nat} (ha:Jp es v a) (r:Jp es v c) (h:Cn (wo v) es a c):Cn (wo v) (aaK n es (cQ n es (GW v a))) a c:=by
 generalize s:cQ n es (GW v a)=K;have nva:a≠v:=fun e=>by subst e;exact Xa hr ha
 refine IE fun t=>?_;have i:Cn (wo v) (aaK n es K) a a:=.refl (iO nva);obtain⟨x,y,g,w,b,f⟩:=aeu (S:=fun u=>Cn (wo v) (aaK n es K) a u) h i t;have j:y≠v:=fun e=>by have:=f.off1;rw[e]at this;simp[wo]at this
 have key:cQ n es (GW x y)=K:=by
  have off:∀u,(wo v u||decide (Cn (wo v) (aaK n es K) a u))=false->wo x u=false:=fun u d=>by
   rw[qL231]at d;exact iO fun e=>by rw[e]at d;exact of_decide_eq_false d.2 g
  have k:v≠x:=fun e=>by have:=g.AB;rw[<-e]at this;simp[wo]at this
  have o:Cn (wo x) es y v:=.step (aee off f) r.symm (iO k);by_cases e:x=a
  .subst e
   rw[(dR hr b ha.symm).2 o,so];exact s
  .rcases aff (Hs e) g with q | ⟨z, A, q⟩
   .have:=q.AB;simp at this
   .obtain ⟨l, m⟩ := (abC hr).1 A
    have B:Cn (wo x) es a z:=by
     have:Cn (wo x) (aaK n es K) a z:=aee (fun u d=>iO fun e=>by rw[e]at d;simp at d) q;exact this.mono fun p C=>(aan.1 C).1
    have ya:Cn (wo x) es y z:=(Cn.step o ha (iO (Hs e))).trans B;rw[(dR hr b l.symm).2 ya,so];exact m
 exact w (.step g ((abC hr).2 ⟨b,key⟩) (iO j))
def blk_one {k:Int} {p q:Pr} (d:p∈aaK n es k) (f:q∈aaK n es k):cQ n (aaK n es k) p=cQ n (aaK n es k) q:=by
 have hb:=aef hr k
 have:=ab8 hr (fun r=>if r∈aaK n es k then cQ n (aaK n es k) r else-1) (fun v a c ha b h=>?_) (aan.1 d).1 (aan.1 f).1 ((aan.1 d).2.trans (aan.1 f).2.symm)
 .rw[if_pos d,if_pos f]at this;exact this
 have e:=(dR hr ha b).2 h;have m1:GW v a∈aaK n es k↔cQ n es (GW v a)=k:=by rw[aan];exact⟨fun q=>q.2,fun q=>⟨H4 hr ha,q⟩⟩
 have m2:GW v c∈aaK n es k↔cQ n es (GW v c)=k:=by rw[aan];exact⟨fun q=>q.2,fun q=>⟨H4 hr b,q⟩⟩
 by_cases c1:cQ n es (GW v a)=k
 .have c2 : cQ n es (GW v c) = k := e ▸ c1
  rw[if_pos (m1.2 c1),if_pos (m2.2 c2)];refine(dR hb ((abC hr).2 ⟨ha,c1⟩) ((abC hr).2 ⟨b,c2⟩)).2 ?_;have:=afh hr ha b h;rwa[c1]at this
 .rw[if_neg (fun q=>c1 (m1.1 q)),if_neg (fun q=>c1 (by rw[e];exact m2.1 q))]
def afi {c:List Pr} (hs:∀p∈c,p∈es) {d:Nat} (e:aV d c) {p q:Pr} (f:p∈c) (g:q∈c) (h:cQ d c p=cQ d c q):cQ n es p=cQ n es q:=
 ab8 e (fun r=>cQ n es r) (fun v a b ha hb i=>(dR hr (ha.imp (hs _) (hs _)) (hb.imp (hs _) (hs _))).2 (i.mono hs)) f g h
end
def aay {n:Nat} {es b:List Pr}:b∈vq n es↔∃p∈es,b=aaK n es (cQ n es p):=by
 rw[aaq,aae];constructor
 .rintro ⟨k, c, rfl⟩
  obtain⟨p,a,rfl⟩:=((lQ (cQ n es) _ es rfl).2 k).1 c;exact⟨p,a,rfl⟩
 .rintro ⟨p, a, rfl⟩
  exact⟨cQ n es p,((lQ (cQ n es) _ es rfl).2 _).2 ⟨p,a,rfl⟩,rfl⟩
def ac1 {n:Nat} {es:List Pr} (h:∀p∈es,∀q∈es,cQ n es p=cQ n es q) {b:List Pr} (hb:b∈vq n es):b=es:=by
 obtain⟨p,a,rfl⟩:=aay.1 hb;exact b7.2 fun q c=>decide_eq_true (h q c p a)
def aev {n:Nat} {es:List Pr} (h:∀p∈es,∀q∈es,cQ n es p=cQ n es q) (a:es≠[]):es∈vq n es:=by
 obtain⟨p,l,rfl⟩:=EP a;exact aay.2 ⟨p,Ma,(b7.2 fun q b=>decide_eq_true (h q b p Ma)).symm⟩
def acG (n:Nat) (b:List Pr):Prop:=bX ⟨(n:Int),b⟩/\b≠[]/\∀p∈b,∀q∈b,cQ n b p=cQ n b q
def aaG {n:Nat} {es b:List Pr} (hr:bX ⟨(n:Int),es⟩) (hb:b∈vq n es):acG n b:=by
 obtain⟨p,d,rfl⟩:=aay.1 hb;exact⟨hr.sub (afg _),List.ne_nil_of_mem (aan.2 ⟨d,rfl⟩),fun a ha c e=>blk_one hr.GD ha e⟩
def aa4 {n:Nat} {b:List Pr} (h:acG n b):aaf n b↔aaB n b:=
 ⟨fun q=>q.2 b (aev h.2.2 h.2.1),fun q=>⟨h.1,fun c a=>by rw[ac1 h.2.2 a];exact q⟩⟩
def acH {n:Nat} {es:List Pr} (hr:bX ⟨(n:Int),es⟩):aaf n es↔∀b∈vq n es,aaf n b:=
 ⟨fun q b hb=>(aa4 (aaG hr hb)).2 (q.2 b hb),fun q=>⟨hr,fun b hb=>(aa4 (aaG hr hb)).1 (q b hb)⟩⟩
end Go.Fw
