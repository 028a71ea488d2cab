/- A text. -/
import Derived.Test.YtkccdnmaaelbiaaGreatFwLJ23
import Derived.Test.YtkccdnmaaelbiaaGreatFwKA4
set_option linter.all false
set_option maxRecDepth 99999
set_option maxHeartbeats 9999999
namespace Go.Fw
section
attribute [local irreducible] Kp MQ lU rS KO KN KX KE VK Kl ZJ TC aab
attribute [local irreducible] Jz JL vq cQ
open Go.Proofs
variable {h:AHeap} {i n:Nat} {ps:List Pr} {v:Value}
theorem ad6 (J:LA) (id n i cap:Nat) (c:List Value) (h:AHeap) (K:h.own id=some (.cells c)) (hl:n*2<=c.length) (D:(c.take (n*2)).all (·.oneCell')=true) (hi:i<n) (hn:n<=100000) (w:n<=cap) (E:cap<UNK):
  AC Tryz.prog J 73 [.slice (some ⟨id,0,none⟩) n cap,.int .i64 (i:Int),.int .i64 ((i+1:Nat):Int)] h fun x h'=>
   ∃n',n'<=cap/\x=.slice (some ⟨id,0,none⟩) n' cap/\n'=n-1/\∃c',(h'.own id=some (.cells c')/\(∀f,Le f h->f.own id=none->Le f h')/\∀b o,b≠id->h.own b=some o->h'.own b=some o)/\c'.take ((n-1)*2)=c.take (i*2)++((c.drop ((i+1)*2)).take ((n-(i+1))*2)):=by
 have k:¬UNK<=cap:=iu.2 E;have d:=eY;have j:=yU;have L:(0:Int)<=(i:Int):=NH;have M:(i:Int)<=((i+1:Nat):Int):=NH;have e3:((i+1:Nat):Int)<=(n:Int):=NH;have e4:(0:Int)<=((i+1:Nat):Int):=NH;have F:(0:Int)<=(n:Int):=NH;have G:(n:Int)<=(cap:Int):=NH;have e7:(i:Int)<=(cap:Int):=NH;have y:∃v,aSlice Tryz.prog 22 (.slice (some ⟨id,0,none⟩) n cap) (some (.int .i64 (i:Int))) (some (.int .i64 ((i+1:Nat):Int))) (some (.int .i64 (n:Int)))=some v:=by
  refine⟨Value.slice (if n=i then some ⟨id,0,none⟩else some ⟨id,i*2,none⟩) (i+1-i) (n-i),?_⟩
  .simp only[aSlice,d,k,if_false,w,j,Cj,and_self,if_true,aBounds,aBound,L,M,e3,e4,F,G,Z6,FD,Ip,WE,BS]
 obtain⟨v1,y⟩:=y;have N:aSlice Tryz.prog 22 (.slice (some ⟨id,0,none⟩) n cap) none (some (.int .i64 (i:Int))) none=some (.slice (some ⟨id,0,none⟩) i cap):=pn d j i NH w E
 have O:aSlice Tryz.prog 22 (.slice (some ⟨id,0,none⟩) n cap) (some (.int .i64 ((i+1:Nat):Int))) none none=some (.slice (if cap=i+1 then some ⟨id,0,none⟩else some ⟨id,(i+1)*2,none⟩) (n-(i+1)) (cap-(i+1))):=by
  have Q:((i+1:Nat):Int)<=(n:Int):=e3;simp only[aSlice,d,k,if_false,w,j,Cj,and_self,if_true,aBounds,aBound,e4,Q,Z6,FD,Ip,WE,BS]
 have rd:∀e,UA Tryz.prog e=2->srcCells Tryz.prog h e (.slice (if cap=i+1 then some ⟨id,0,none⟩else some ⟨id,(i+1)*2,none⟩) (n-(i+1)) (cap-(i+1)))=some (n-(i+1),(c.drop ((i+1)*2)).take ((n-(i+1))*2)):=fun e he=>by
  by_cases q:cap=i+1
  .have z : n - (i + 1) = 0 := NH
   rw[if_pos q,z];simp[srcCells,readN]
  grind [qF,srcCells]
 have nl:((c.drop ((i+1)*2)).take ((n-(i+1))*2)).length=(n-(i+1))*2:=pw;have n1:((c.drop ((i+1)*2)).take ((n-(i+1))*2)).all (·.oneCell')=true:=by
  rw[LH]at D ⊢;intro x R;refine D x ?_;obtain⟨q,A⟩:=yM.1 R;rw[adH]at A;split at A
  .refine Gc (i := (i + 1) * 2 + q) ?_
   grind
  .cases A
 have app:∃c1 l,(l.own id=some (.cells c1)/\(∀f,Le f h->f.own id=none->Le f l)/\∀b o,b≠id->h.own b=some o->l.own b=some o)/\aAppend Tryz.prog h 22 22 (.slice (some ⟨id,0,none⟩) i cap) (.slice (if cap=i+1 then some ⟨id,0,none⟩else some ⟨id,(i+1)*2,none⟩) (n-(i+1)) (cap-(i+1)))=some (.slice (some ⟨id,0,none⟩) (n-1) cap,l)/\c1.length=c.length/\
   c1.take ((n-1)*2)=c.take (i*2)++((c.drop ((i+1)*2)).take ((n-(i+1))*2)):=by
  have u:azero Tryz.prog 38=some (.agg #[Value.int .i64 0,Value.int .i64 0]):=Ji;have H:(Value.agg #[Value.int .i64 0,Value.int .i64 0]).cells.size=UA Tryz.prog 38/\(Value.agg #[Value.int .i64 0,Value.int .i64 0]).cells.toList.all (·.oneCell')=true:=⟨by kernel_rfl,by kernel_rfl⟩;have hs:=rd 38 WE;have S:Tryz.prog.bytesOf 38<=1000:=by decide
  have T:(i+(n-(i+1)))*Tryz.prog.bytesOf 38<=140737488355328:=jz (kS (show i+(n-(i+1))<=100000 by omega) S) WY;have U:i+(n-(i+1))<=140737488355328:=NH;have I:(Value.agg #[Value.int .i64 0,Value.int .i64 0]).cells.size=UA Tryz.prog 38/\(Value.agg #[Value.int .i64 0,Value.int .i64 0]).cells.toList.all (·.oneCell')/\(Tryz.prog.underlying 38).isSome/\notIntD (.slice 38)/\((c.drop ((i+1)*2)).take ((n-(i+1))*2)).all (·.oneCell')/\(i+(n-(i+1)))*Tryz.prog.bytesOf 38<=140737488355328/\i+(n-(i+1))<=140737488355328/\((c.drop ((i+1)*2)).take ((n-(i+1))*2)).length=(n-(i+1))*UA Tryz.prog 38:=
   ⟨H.1,H.2,by rfl,rfl,n1,T,U,by grind [WE]⟩
  by_cases V:n-(i+1)=0
  .refine ⟨c, h, pw, ?_, rfl, ?_⟩
   .simp only [aAppend, d, u, hs]
    grind
   .rw [V]
    grind
  .have room : i * 2 + ((c.drop ((i + 1) * 2)).take ((n - (i + 1)) * 2)).length <= c.length := pw
   refine⟨putCells c (i*2) ((c.drop ((i+1)*2)).take ((n-(i+1))*2)),_,⟨AHeap.Y3 _ _ _,fun f W hf=>W.put _ hf,fun b o hb K=>by grind [AHeap.By]⟩,?_,O7 _ _ _,?_⟩
   .simp only [aAppend, d, u, hs]
    grind [WE]
   .rw[IW _ _ _ room,C2 pw,IE pw]
 obtain⟨c1,l,⟨X,Y,Z⟩,app,ae,B⟩:=app;have S4:aSlice Tryz.prog 22 (.slice (some ⟨id,0,none⟩) (n-1) cap) (some (.int .i64 ((n-1:Nat):Int))) (some (.int .i64 (n:Int))) none=some (.slice (some ⟨id,(n-1)*2,none⟩) 1 (cap-(n-1))):=by
  have a1:((n-1:Nat):Int)<=(n:Int):=NH;have a2:(0:Int)<=((n-1:Nat):Int):=NH;have a3:n-1<=cap:=NH;have a4:¬cap=n-1:=NH;have a5:n-(n-1)=1:=NH;simp only[aSlice,d,k,if_false,a3,j,Cj,and_self,if_true,aBounds,aBound,F,G,a1,a2,Z6,a4,a5,FD,Ip,WE,BS]
 have p:∃c2,aClear Tryz.prog l 22 (.slice (some ⟨id,(n-1)*2,none⟩) 1 (cap-(n-1)))=some (.tuple #[],l.put id (.cells c2))/\c2.take ((n-1)*2)=c1.take ((n-1)*2):=by
  have u:azero Tryz.prog 38=some (.agg #[Value.int .i64 0,Value.int .i64 0]):=Ji;have ag:(Value.agg #[Value.int .i64 0,Value.int .i64 0]).cells=#[Value.int .i64 0,Value.int .i64 0]:=Ji;have zr:zrow (Value.agg #[Value.int .i64 0,Value.int .i64 0]).cells.toList 1=[Value.int .i64 0,Value.int .i64 0]:=Ji;refine⟨putCells c1 ((n-1)*2) [Value.int .i64 0,Value.int .i64 0],?_,?_⟩
  .have r : (n - 1) * 2 + 1 * (Value.agg #[Value.int .i64 0, Value.int .i64 0]).cells.size <= c1.length := pw
   have fl:(Value.agg #[Value.int .i64 0,Value.int .i64 0]).cells.toList.all flat=true:=Ji;simp only[aClear,d,u,X,fl,r,decide_true,Bool.and_self,cond_true,zr];rfl
  grind [IW]
 obtain⟨c2,p,C⟩:=p;refine AC.vE ⟨Tryz.func73,rfl,WY⟩ Tryz.ntmps73 Tryz.results73 fun aj=>?_;simp only[Br,Nat.reduceAdd];have s:=fun m g=>Jg (P:=Tryz.prog) (t:=22) (a:=some ⟨id,0,none⟩) (n:=m) (cap:=cap) d g;have d1:decide ((i:Int)=((i+1:Nat):Int))=false:=decide_eq_false NH;refine Sk (xU s y @lW d1) ?_;refine gh (tA [0,1,2,3,4,5] (JQ 6 [2,5] (JQ 7 [0,1,2,3,4,5,6] .done))) ?_;simp only[HO,Nat.reduceLT,↓reduceIte,Nat.reduceEqDiff,reduceCtorEq,Nat.reduceBEq,Qg,N,O,app,s,S4,p];exact⟨n-1,NH,rfl,rfl,c2,(by grind [AHeap.Y3,Le.put,AHeap.By]),by rw[C,B]⟩
theorem ad7:∀(l:List Pr) (i:Nat),i<l.length->(Iu l).take (i*2)++((Iu l).drop ((i+1)*2)).take ((l.length-(i+1))*2)=Iu (l.eraseIdx i):=by grind [acB,za,Ta,mZ,List.eraseIdx_eq_take_drop_succ]
theorem ad8 (q:LA) (g:GP h v ps) (hi:i<ps.length) (s:ps.length<=100000):
  AC Tryz.prog q 73 [v,.int .i64 (i:Int),.int .i64 ((i+1:Nat):Int)] h fun x h'=>PR h' x (ps.eraseIdx i)/\Ct x (ps.eraseIdx i).length/\∀f,Le f h->Z2 f v->Le f h':=by
 have a:(ps.eraseIdx i).length=ps.length-1:=by rw[VX,if_pos hi]
 have w:=ad7 ps i hi;have d:=WI ps;obtain⟨y,⟨rfl,D⟩|⟨id,c,cap,rfl,t,p,z⟩⟩:=g
 .omega
 have e:ps.length*2<=c.length:=by
  have:=congrArg List.length p;rw[Cg,y]at this;omega
 have A:c.take (i*2)=(Iu ps).take (i*2):=by rw[<-p,List.take_take];congr 1;omega
 have B:(c.drop ((i+1)*2)).take ((ps.length-(i+1))*2)=((Iu ps).drop ((i+1)*2)).take ((ps.length-(i+1))*2):=by rw[<-p,qL225,List.take_take];congr 1;omega
 have u:(c.take (ps.length*2)).all (·.oneCell')=true:=by rw[p];exact d
 have fin:∀(cap':Nat) (h':AHeap) (c':List Value),h'.own id=some (.cells c')->c'.take ((ps.length-1)*2)=c.take (i*2)++((c.drop ((i+1)*2)).take ((ps.length-(i+1))*2))->PR h' (.slice (some ⟨id,0,none⟩) (ps.length-1) cap') (ps.eraseIdx i):=fun cap' h' c' j ct=>by
  rw[A,B,w]at ct;have l:(ps.eraseIdx i).length=ps.length-1:=by rw[VX,if_pos hi]
  have hlen:(ps.length-1)*2<=c'.length:=by
   have:=congrArg List.length ct;rw[Cg,Ta,l]at this;omega
  have:=CS.own (k:=2) (off:=0) (n:=ps.length-1) (cap:=cap') j NH;rw[agi,ct]at this;unfold PR;rw[l];exact this
 rcases z with rfl|⟨rfl,m⟩
 .refine (AC.exact (Q := fun n' h' => n' = ps.length - 1 /\ ∃ c', (h'.own id = some (.cells c') /\ (∀ f, Le f h -> f.own id = none -> Le f h') /\ ∀ b o, b ≠ id -> h.own b = some o -> h'.own b = some o) /\ c'.take ((ps.length - 1) * 2) = c.take (i * 2) ++ ((c.drop ((i + 1) * 2)).take ((ps.length - (i + 1)) * 2))) NH fun cap h2 h3 => ad6 q id ps.length i cap c h t e u hi s h2 h3).mono ?_
  rintro x h' ⟨n',rfl,rfl,c',⟨j,fr,C⟩,ct⟩;exact⟨fin _ h' c' j ct,by rw[a];exact⟨_,_,rfl,pw⟩,fun f r af=>fr f r (af id rfl)⟩
 .refine (ad6 q id ps.length i ps.length c h t e u hi s (qL0 _) (Nat.lt_trans m WY)).mono ?_
  rintro x h' ⟨n',-,rfl,rfl,c',⟨j,fr,C⟩,ct⟩;exact⟨fin _ h' c' j ct,by rw[a];exact⟨_,_,rfl,.inl ⟨Nat.lt_trans m WY,NH⟩⟩,fun f r af=>fr f r (af id rfl)⟩
def afh (d:LA) (a b:Int) (h:AHeap):AC Tryz.prog d 164 [.int .i64 a,.int .i64 b] h fun x h'=>x=.bool (decide (a<b))/\h'=h:=by
 refine AC.vE ⟨Tryz.func164,rfl,WY⟩ Tryz.ntmps164 Tryz.results164 fun e=>?_;simp only[Br,Nat.reduceAdd];refine Uy ?_;refine TC.intro PJ ⟨qS25,rfl,WY⟩ (Pd d a h) ?_;rintro x f w1 ⟨rfl,rfl⟩;by_cases c:a<b
 .simp only[HO,Nat.reduceLT,↓reduceIte,Nat.reduceEqDiff,reduceCtorEq,c];exact⟨Ma,trivial⟩
 .simp only[HO,Nat.reduceLT,↓reduceIte,Nat.reduceEqDiff,reduceCtorEq,c];exact⟨Ma,trivial⟩
theorem acm (u:LA) (v:Value) (xs:RZ) (x:Int) (h:AHeap) (l:RL RP h v xs) (M:xs.length<=1000) (ha:xs.Pairwise (·<·)) (A:x∈xs):
  AC Tryz.prog u 123 [v,.int .i64 x] h fun y h'=>(∃i:Nat,y=.tuple #[.int .i64 i,.bool true]/\xs[i]?=some x)/\h'=h:=by
 have lt:∀(i j:Nat) a b,i<j->xs[i]?=some a->xs[j]?=some b->a<b:=fun i j a b B hi C=>by
  obtain⟨N,rfl⟩:=Ny.1 hi;obtain⟨h2,rfl⟩:=Ny.1 C;exact(by grind [List.pairwise_iff_getElem])
 obtain⟨q,f⟩:=yM.1 A;have n:=(Ny.1 f).1;refine AC.vE ⟨Tryz.func123,rfl,WY⟩ Tryz.ntmps123 Tryz.results123 fun D=>?_;simp only[Br,Nat.reduceAdd];have E:=fun g=>l.Uc g;refine Sk E ?_;refine lIn (fun k fr hh=>∃lo hi:Nat,k=hi-lo/\lo<=q/\q<=hi/\hi<=xs.length/\fr=mkF [(0,v),(1,.int .i64 x),(6,.int .i64 xs.length),(7,.int .i64 lo),(8,.int .i64 hi)]/\hh=h) ⟨0,xs.length,rfl,aal _,NH,qL0 _,rfl,rfl⟩ ?_;rintro k fr hh F ⟨lo,hi,rfl,p,s,t,rfl,rfl⟩;refine Uy ?_;refine Kl.intro (fun w=>?_) (fun hf=>?_)
 .have G : lo < hi := CC w
  clear w;have a1:awrap .i64 ((lo:Int)+(hi:Int))=((lo+hi:Nat):Int):=by grind [cT]
  have a2:=afX (lo+hi) NH;have H:=Tq (lo+hi) NH;have I:awrap .i64 (((lo+hi) / 2:Nat):Int)=(((lo+hi) / 2:Nat):Int):=cT _ NH NH;have O:(lo+hi) / 2<hi:=NH;have J:lo<=(lo+hi) / 2:=NH;refine Sk (bG a1 @cv3u a2 H @cvu3 I) ?_;generalize (lo+hi) / 2=m at*;have d:m<xs.length:=NH;have ad:=l.TA m d;have ld:=l.DH m d;have o:=CA d;generalize xs[m]=y at*;simp only[HO,Nat.reduceLT,↓reduceIte,Nat.reduceEqDiff,reduceCtorEq,ad,ld];refine TC.intro PJ ⟨Tryz.func164,rfl,WY⟩ (afh u y x hh) ?_;rintro z h3 P ⟨rfl,rfl⟩;by_cases c:y<x
  .have dc : decide (y < x) = true := decide_eq_true c
   have e:m<q:=by
    rcases Tj m q with r|r|r
    .exact r
    .subst r;rw[o]at f;injection f with f;omega
    .have:=lt q m x y r f o;omega
   refine Sk (XC dc (Tw m NH)) ?_;exact lgA NH ⟨m+1,hi,rfl,e,s,t,rfl,rfl⟩
  .have dc : decide (y < x) = false := decide_eq_false c
   have e:q<=m:=by
    rcases fE m q with r|r
    .exact pw
    .exact r
   refine Sk dc ?_;exact lgA NH ⟨lo,m,rfl,p,e,NH,rfl,rfl⟩
 have K:hi<=lo:=vp hf;obtain rfl:lo=q:=NH;have dl:decide ((lo:Int)<(xs.length:Int))=true:=decide_eq_true NH;have ad:=l.TA lo n;have ld:=l.DH lo n;rw[(Ny.1 f).2]at ld;have dx:decide (x=x)=true:=decide_eq_true rfl;have L:((lo:Int)<(xs.length:Int))=True:=pw;simp only[HO,Nat.reduceLT,↓reduceIte,Nat.reduceEqDiff,reduceCtorEq,L,dl,ad,ld,dx];exact pw
def idx_eq {b:List Pr} {x:Int} (h:(aaa (aah n b))[i]?=some x):i=abw n b x:=by
 have f:(aah n b).Pairwise (·<·):=pz.filter _;unfold abw;generalize aah n b=l at*
 induction l generalizing i with
 |nil=>simp[aaa]at h
 |cons a l g=>
  obtain⟨d,h2⟩:=Ry.1 f;cases i with
  |zero=>
   have e:x=(a:Int):=by simpa[aaa]using h.symm
   subst e;rw[qL156.2];intro v j;rcases WA.1 j with rfl|q
   .simp
   .have:=d v q;simp;omega
  |succ i=>
   have h':(aaa l)[i]?=some x:=by simpa[aaa]using h
   have hi:=g h' h2;obtain⟨w,hw,e⟩:=HV.1 (Gc h');have c:(a:Int)<x:=by have:=d w hw;omega
   rw[aeB,if_pos (by simpa using c),<-hi]
def mkKI2 (h:AHeap) (a b:Int):aBuildSlice Tryz.prog h 49 2 [(0,.int .i64 a),(1,.int .i64 b)]=some (.slice (some ⟨h.next,0,none⟩) 2 2,h.alloc (.cells [.int .i64 a,.int .i64 b])):=Ji
def afi (l:List Pr) (p:Pr):acM (l++[p])=acM l++[p.1,p.2]:=by simp[acM]
def acE (l:List Pr):(acM l).length=2*l.length:=by
 induction l with
 |nil=>rfl
 |cons p l a=>simp only[acM,acw,vZ,vg,vu]at*;omega
theorem flat_any (m:LA) (bv:Value) (n:Nat) (b:List Pr) (h:AHeap) (r:PR h bv b) (hR:aV n b) (hn:n<=200) (hl:b.length<=594):
  AC Tryz.prog m 75 [bv] h fun x h'=>RR (aaQ n b) x/\Le h h':=by
 have C:=fun g=>r.len g;refine AC.vE ⟨Tryz.func75,rfl,WY⟩ Tryz.ntmps75 Tryz.results75 fun ae=>?_;simp only[Br,Nat.reduceAdd];by_cases W:b.length<9
 .have D : decide ((b.length : Int) < 9) = true := decide_eq_true NH
  refine Sk (XC C D) ?_;exact⟨⟨true,rfl,fun _=>.inl W,fun _=>rfl⟩,Le.refl _⟩
 have D:decide ((b.length:Int)<9)=false:=decide_eq_false NH;refine Sk (XC C D) ?_;refine lIn (fun k fr o=>∃(i:Nat) (z:Value),k=b.length-i/\i<=b.length/\fr=mkF [(0,bv),(3,z),(18,bv),(19,.int .i64 b.length),(20,.int .i64 i)]/\GI o z (acM (b.take i))/\Le h o/\Z2 h z) ⟨0,_,rfl,aal _,rfl,GI.nil h,Le.refl _,fun b hb=>by simp[blk]at hb⟩ ?_;rintro k fr o E ⟨i,z,rfl,hi,rfl,g,F,ap⟩;refine Uy ?_;refine Kl.intro (fun s=>?_) (fun hf=>?_)
 .have d : i < b.length := CC s
  clear s;have f:=CA d;have l:b.take (i+1)=b.take i++[b[i]]:=EL d;have hle:(acM (b.take i)).length<=2000:=by rw[acE,Cg];omega
  generalize b[i]=p at f l;have ad:=r.addr (k:=.i64) i d;have ld:=(r.le F).load f;obtain⟨ag,h3,e2,e3,j,H,Y⟩:=Ut E p;have m0:=lK Y;have m1:=HY Y;have l3:=F.trans j;obtain⟨A,e4,l4,w4,o4⟩:=Tt H [.int .i64 p.1,.int .i64 p.2];have bs:=mkKI2 h3 p.1 p.2;rw[e4]at bs
  have r4:RL RP A (.slice (some ⟨h3.next,0,none⟩) 2 2) [p.1,p.2]:=RL.Wh (RS.whole o4 rfl)
  obtain⟨jv,Z,J,K,w6,f6,-⟩:=GI.join ((g.le j).le l4) w4 r4 (by simp;omega);obtain⟨l6,aj⟩:=f6 h (l3.trans l4) ap;rw[<-afi,<-l]at K;simp only[HO,Nat.reduceLT,↓reduceIte,Nat.reduceEqDiff,reduceCtorEq,ad,ld,e2,e3,Dh,Z0,Ip,BS,m0,m1,bs,J,Tw i NH];exact lgA (JS d) ⟨i+1,jv,rfl,d,rfl,K,l6,aj⟩
 have t:b.length<=i:=vp hf;rw[IE t]at g;refine Uy ?_;refine TC.intro PJ ⟨qS36,rfl,WY⟩ (VQ m g (by rw[acE];omega)) ?_;rintro x h2 w2 ⟨rfl,g2,k2⟩;have L:=k2 h F ap;refine Uy ?_;refine TC.intro PJ ⟨Tryz.func122,rfl,WY⟩ (VY m g2 (by rw[OX,acE];omega)) ?_;rintro M h3 w3 ⟨N,-,k3⟩;have j:=k3 h L ap;rw[acT hR]at N;have lv:=fun g=>N.Uc g;rw[y6]at lv;obtain⟨A,h5,e4,e5,l5,w5,nX,G0⟩:=GX.new w3 ((aah n b).length:Int);refine Sk (IX lv @Zp e4 e5 C) ?_;have al:(aah n b).length<=200:=jz (zx _ _) (by simp;omega);have u:(aaa (aah n b)).Pairwise (·<·):=by
  unfold aaa;rw[Hs];exact(pz.filter _).imp fun h=>by omega
 have O:h3.own h3.next=none:=by grind [Le.next]
 generalize h3.next=X at*
 refine lIn (fun k fr o=>∃(i:Nat) (ev:Value),k=b.length-i/\i<=b.length/\fr=mkF [(3,M),(6,.pointer (some ⟨X,0,none⟩)),(39,bv),(40,.int .i64 b.length),(41,.int .i64 i)]/\GX o X (aah n b).length ev (aao n b|>.take i)/\Le h3 o/\Z2 h3 ev) ⟨0,_,rfl,aal _,rfl,G0,l5,fun b hb=>by simp[blk]at hb⟩ ?_;clear G0 w5 l5 e5 e4;rintro k fr hz P ⟨i,ev,rfl,hi,rfl,G,B,az⟩;refine Uy ?_;refine Kl.intro (fun s=>?_) (fun hf=>?_)
 .have d : i < b.length := CC s
  clear s;have f:=CA d;have Q:(aao n b)[i]?=some ((abw n b b[i].1:Int),(abw n b b[i].2:Int)):=by rw[aao,PN,f];rfl
  have l:(aao n b).take (i+1)=(aao n b).take i++[((abw n b b[i].1:Int),(abw n b b[i].2:Int))]:=by rw[iB,Q];rfl
  have v:((aao n b).take i).length+1<=100000:=by rw[Cg];omega
  have aq:=Gc f;have hm:∀x,aO b[i] x=true->x∈aaa (aah n b):=by grind [acT,jn,Wv,adY]
  have R:=hm b[i].1 (by simp[aO]);have S:=hm b[i].2 (by simp[aO]);generalize b[i]=p at*;have ad:=r.addr (k:=.i64) i d;have ld:=(r.le (j.trans B)).load f;obtain⟨ar,Z,J,s6,l6,w6,o6⟩:=Ut P p;have m0:=lK o6;have m1:=HY o6;have r6:=N.le Nn.RP (B.trans l6);have aw:=Tw i NH;simp only[HO,Nat.reduceLT,↓reduceIte,Nat.reduceEqDiff,reduceCtorEq,ad,ld,J,s6,Dh,Z0,Ip,BS,m0];refine TC.intro PJ ⟨Tryz.func123,rfl,WY⟩ (acm m M _ p.1 Z r6 (by rw[y6];omega) u R) ?_;rintro y h7 w7 ⟨⟨a,rfl,ha⟩,rfl⟩;refine Sk (IX @Dh @Z0 @Ip.eq_1 @BS m1) ?_;refine TC.intro PJ ⟨Tryz.func123,rfl,WY⟩ (acm m M _ p.2 h7 r6 (by rw[y6];omega) u S) ?_;rintro y h8 w8 ⟨⟨c,rfl,hc⟩,rfl⟩;obtain rfl:=idx_eq ha;obtain rfl:=idx_eq hc;have G6:=G.le l6;obtain⟨v',g4,g5,K,q4,q5,q6,G7,av,l7,f7,-⟩:=G6.push' w8 ((abw n b p.1:Int),(abw n b p.2:Int)) v;obtain⟨T,a7⟩:=f7 h3 (B.trans l6) O az;rw[<-l]at G7;have U:=xe (abw n b p.1:Int) (abw n b p.2:Int);simp only[HO,Nat.reduceLT,↓reduceIte,Nat.reduceEqDiff,reduceCtorEq,Di,Ip,BS,G6.ld.2.2,U,q4,q5,q6,aw];exact lgA (JS d) ⟨i+1,v',rfl,d,rfl,G7,T,a7⟩
 have t:b.length<=i:=vp hf;have v:(aao n b).length=b.length:=by simp[aao]
 rw[IE NH]at G;refine Sk G.ld.1 ?_;refine TC.intro PJ ⟨Tryz.func19,rfl,WY⟩ (Im m _ ⟨((aah n b).length:Int),aao n b⟩ hz ⟨ev,rfl,G.gp.pr,GS.okc G.gp⟩) ?_;rintro x h9 w9 ⟨l9,rv,e,rfl,I⟩;have V:=(j.trans B).trans l9;have key:decide (e=0)=true↔aaQ n b:=by
  rw[decide_eq_true_eq];constructor
  .intro he
   rcases I with⟨-,q,-⟩|⟨-,-,q,-⟩|⟨-,-,-,-,q,-⟩|⟨w,h2,rs,-,h3,A,-⟩
   .omega
   .omega
   .omega
   .exact .inr ⟨w,h2,Vg w.GD w.q9 h3 A⟩
  .rintro (q | ⟨w, h2, h3⟩)
   .exact absurd q W
   .obtain ⟨rs, -, -, -, q, -⟩ := I.XK w h2 h3
    exact q
 refine Uy ?_;exact⟨⟨_,rfl,key⟩,V⟩
def fkM_len (key:Pr->Int) (es:List Pr):(CY key es).length<=es.length:=by
 have:∀(es:List Pr) (ks:RZ),(es.foldl (fkS key) ks).length<=ks.length+es.length:=by
  intro es
  induction es with
  |nil=>simp
  |cons p es a=>
   intro ks;have:=a (fkS key ks p);have h2:(fkS key ks p).length<=ks.length+1:=by unfold fkS;split<;>simp
   simp only[V9,vg];omega
 have:=this es [];rw[vu,BS]at this;exact this
def aeq (n:Nat) (es:List Pr):(vq n es).length<=es.length:=by rw[aay,eR];exact fkM_len _ _
theorem aaX (o:LA) (v:Value) (G:GM) (h:AHeap) (hg:GR h v G):
  AC Tryz.prog o 37 [v] h fun x h'=>RR (bX G/\aar G.n.toNat G.es) x/\Le h h':=by
 have j:=hg;obtain⟨D,es⟩:=G
 obtain⟨ev,rfl,E⟩:=hg.open
 refine AC.vE ⟨SV,rfl,WY⟩ Tryz.ntmps37 Tryz.results37 fun F=>?_;simp only[Br,Nat.reduceAdd];obtain⟨O,T,r,U,-,Q⟩:=r8 (n:=D) F E
 generalize h.next=B at*
 have H:=Q O (Le.refl _);refine Sk (XC T H.1) ?_;refine TC.intro PJ ⟨Tryz.func46,rfl,WY⟩ (Cw o _ ⟨D,es⟩ O (j.le r)) ?_;rintro x h2 w2 ⟨l2,V⟩;have s:=Q h2 l2;have l:=r.trans l2;rcases V with⟨W,rfl⟩|⟨m,X,rfl,z⟩
 .refine Sk s.1 ?_
  refine TC.intro PJ ⟨qv,rfl,WY⟩ (ak o _ _ h2 (j.le l)) ?_;rintro x h3 Y ⟨⟨t,rfl,a⟩,l3⟩;cases t with
  |true=>exact absurd (a.1 rfl) W
  |false=>
   refine Uy ?_;exact(by grind [RR.f,Le.trans])
 refine Sk s.1 ?_;refine TC.intro PJ ⟨qv,rfl,WY⟩ (ak o _ _ h2 (j.le l)) ?_;rintro x h3 Y ⟨⟨t,rfl,a⟩,l3⟩;obtain rfl:t=true:=a.2 m;clear a;have I:=l.trans l3;have Z:0<=D:=m.n0;obtain⟨n,rfl⟩:=yY Z;simp only[Z6]at z ⊢;have lk:=fun g=>z.len (P:=Tryz.prog) Gs g;have ae:aar n es↔∀b∈vq n es,aaQ n b:=⟨fun q=>q.2,fun q=>⟨m,q⟩⟩;have w:∀b∈vq n es,b.Sublist es:=by grind [List.mem_iff_getElem?,Jh,List.filter_sublist]
 have ag:(vq n es).length<=100000:=by
  have:=aeq n es;have:es.length<=594:=m.len;omega
 generalize vq n es=bs at*;have d0:decide ((0:Int)=0)=true:=by decide
 refine Sk (Yb @bne.eq_1.{0} d0 lk) ?_
 refine lIn (fun k fr A=>∃i:Nat,k=bs.length-i/\i<=bs.length/\fr=mkF [(19,X),(20,.int .i64 bs.length),(21,.int .i64 i)]/\Le h3 A/\∀b∈bs.take i,aaQ n b) ⟨0,rfl,aal _,rfl,Le.refl _,fun b hb=>by simp at hb⟩ ?_;rintro k fr A aj ⟨i,rfl,hi,rfl,C,e⟩;refine Uy ?_;refine Kl.intro (fun R=>?_) (fun hf=>?_)
 rotate_left
 .have J : bs.length <= i := vp hf
  rw[IE J]at e;refine Uy ?_;exact⟨⟨true,rfl,pw,fun _=>rfl⟩,I.trans C⟩
 have d:i<bs.length:=CC R;clear R;have K:bs.take (i+1)=bs.take i++[bs[i]]:=EL d;have L:=Og d;have M:=z.addr (P:=Tryz.prog) Gs eY Ji (k:=.i64) i d;obtain⟨u,N,hu⟩:=z.load' (P:=Tryz.prog) eY rfl i d;have lu:=N A (l3.trans C);generalize bs[i]=b at*;have hs:=w b L;have y:b.length<=594:=jz hs.length_le m.len;simp only[HO,Nat.reduceLT,↓reduceIte,Nat.reduceEqDiff,reduceCtorEq,M,lu];refine TC.intro PJ ⟨Tryz.func75,rfl,WY⟩ (flat_any o u n b A (hu.le (l3.trans C)) (fun p E=>m.GD p (hs.subset E)) (by have:(n:Int)<=200:=m.n1;omega) y) ?_;rintro x h5 w5 ⟨⟨t,rfl,a⟩,l5⟩;cases t with
 |false=>
  refine Uy ?_;exact(by grind [RR.f,Le.trans])
 |true=>
  refine Sk (Tw i NH) ?_;exact lgA (JS d) ⟨i+1,rfl,d,rfl,C.trans l5,fun c S=>by
   rw[K]at S;rcases Sb.1 S with q|q
   .exact e c q
   .rw[jf.1 q];exact a.1 rfl⟩
attribute [local instance] Classical.propDecidable in
theorem abn (e:LA) (v:Value) (G:GM) (h:AHeap) (hg:GR h v G):
  AC Tryz.prog e 35 [v] h fun x h'=>Le h h'/\((¬bX G/\x=.tuple #[.slice none 0 0,.int .i64 20])\/(bX G/\∃d,x=.tuple #[d,.int .i64 0]/\PR h' d (adh G)/\Ct d (adh G).length)):=by
 have m:=hg;obtain⟨Q,es⟩:=G
 obtain⟨ev,rfl,R⟩:=hg.open
 refine AC.vE ⟨qL,rfl,WY⟩ Tryz.ntmps35 Tryz.results35 fun A=>?_;simp only[Br,Nat.reduceAdd];obtain⟨C,V,f,W,-,z⟩:=r8 (n:=Q) A R
 generalize h.next=B at*
 have o:=z C (Le.refl _);refine Sk (XC V o.1) ?_;refine TC.intro PJ ⟨qv,rfl,WY⟩ (ak e _ _ C (m.le f)) ?_;rintro x h2 w2 ⟨⟨p,rfl,a⟩,l2⟩;have q:=z h2 l2;have r:=f.trans l2;cases p with
 |false=>
  refine Uy ?_;exact pw
 |true=>
 have D:=a.1 rfl;clear a;have X:0<=Q:=D.n0;obtain⟨n,rfl⟩:=yY X;refine Sk q.1 ?_;refine TC.intro PJ ⟨SV,rfl,WY⟩ (aaX e _ ⟨(n:Int),es⟩ h2 (m.le r)) ?_;rintro x h3 w3 ⟨⟨p,rfl,a⟩,l3⟩;simp only[Z6]at a;have s:=r.trans l3
 have hf:∀F,F=adh ⟨(n:Int),es⟩->F=if aar n es then[]else findM n es.length 0 es:=fun F b=>b
 cases p with
 |true=>
  have:=hf _ rfl;rw[if_pos (a.1 rfl).2]at this;refine Uy ?_;exact(by grind [GP.nil,GP.pr,GP.ct])
 |false=>
 have b:=hf _ rfl;rw[if_neg pw]at b;generalize adh ⟨(n:Int),es⟩=F at*;clear hf a;have t:es.length<=594:=D.len;refine Sk (xU @Di @Ip.eq_1 @BS ((z h3 (l2.trans l3)).2.2)) ?_;refine TC.intro PJ ⟨aF,rfl,WY⟩ (DA e ev es h3 (R.le s) NH) ?_;rintro d h4 Y ⟨E,l4,-⟩;have H:=s.trans l4;refine Uy ?_;refine lIn (fun k fr u=>∃(i:Nat) (l:List Pr) (d:Value),k=l.length-i/\i<=l.length/\fr=mkF [(1,.pointer (some ⟨B,0,none⟩)),(4,d),(5,.int .i64 i)]/\PR u d l/\Ct d l.length/\Le C u/\findM n (l.length-i) i l=F/\l.Sublist es) ⟨0,es,d,rfl,aal _,rfl,E.pr,E.ct,(by grind [Le.trans]),b.symm,List.Sublist.refl _⟩ ?_;clear E Y l4 H b o q;clear d;rintro k fr u Z ⟨i,l,d,rfl,hi,rfl,pl,cl,I,b,hs⟩;have S:=fun g=>pl.len g;have ae:l.length<=594:=jz hs.length_le t;have ag:=f.trans I;by_cases c:i<l.length
 rotate_left
 .have dc : decide ((i : Int) < (l.length : Int)) = false := decide_eq_false NH
  have J:((i:Int)<(l.length:Int))=False:=pw;have K:l.length-i=0:=NH;rw[K]at b;have b:l=F:=b;refine Sk (Yb S dc J) ?_;exact pw
 have dc:decide ((i:Int)<(l.length:Int))=true:=decide_eq_true NH;have J:((i:Int)<(l.length:Int))=True:=pw;have hk:l.length-i=(l.length-(i+1))+1:=NH;rw[hk,findM,if_pos c]at b;have aw:=Tw i NH;refine Sk (Yb S dc J) ?_;refine TC.intro PJ ⟨aF,rfl,WY⟩ (DA e d l u pl NH) ?_;rintro cv h5 w5 ⟨g5,l5,a5⟩;simp only[HO,Nat.reduceLT,↓reduceIte,Nat.reduceEqDiff,reduceCtorEq,aw];refine TC.intro PJ ⟨Tryz.func73,rfl,WY⟩ (ad8 e g5 c NH) ?_;rintro T U w6 ⟨L,c6,k6⟩;have j:=k6 u l5 a5;have M:=z U (I.trans j);have N:=Wj (n:=(n:Int)) L.sl;refine Sk (IX @Ii @Ip.eq_1 @BS M.2.1 N) ?_;refine TC.intro PJ ⟨SV,rfl,WY⟩ (aaX e _ ⟨(n:Int),l.eraseIdx i⟩ U ⟨T,rfl,L⟩) ?_;rintro x h7 w7 ⟨⟨p,rfl,a⟩,O⟩;simp only[Z6]at a;have w:=(qQ l i).trans hs;have aj:bX ⟨(n:Int),l.eraseIdx i⟩:=D.sub w;have P:(l.eraseIdx i).length=l.length-1:=by rw[VX,if_pos c]
 have y:=I.trans (j.trans O);cases p with
 |true=>
  rw[if_pos (a.1 rfl).2]at b;simp only[HO,Nat.reduceLT,↓reduceIte,Nat.reduceEqDiff,reduceCtorEq,aw];exact lgA NH ⟨i+1,l,d,rfl,c,rfl,pl.le (j.trans O),cl,y,b,hs⟩
 |false=>
  rw[if_neg pw]at b;refine Uy ?_;exact lgA NH ⟨i,l.eraseIdx i,T,rfl,NH,rfl,L.le O,c6,y,by rw[P,show l.length-1-i=l.length-(i+1) by omega];exact b,w⟩
variable {a j:Nat}
def acn (a j:Nat):List Pr:=(List.range (j-(a+1))).map fun t=>((a:Int),((a+1+t:Nat):Int))
def eachF (f n:Nat):Nat->List Pr
 |0=>[]
 |k+1=>eachF f n k++acn (f+k) n
def aer (h:a+1<=j):acn a (j+1)=acn a j++[((a:Int),(j:Int))]:=by
 unfold acn;rw[show j+1-(a+1)=(j-(a+1))+1 by omega,Bx,j3];simp;omega
def acW (a j:Nat):(acn a j).length<=j:=by simp[acn]
def acX (f n:Nat):∀k,(eachF f n k).length<=n*k
 |0=>qL0 _
 |k+1=>by
  have:=acX f n k;have:=acW (f+k) n;rw[eachF,vZ,Nat.mul_add];omega
def acY (f n:Nat):List Pr:=eachF f n (n-f)
def abq (y:LA) (f n:Nat) (h:AHeap) (u:n<=100) (hf:f<=n):AC Tryz.prog y 44 [.int .i64 (f:Int),.int .i64 (n:Int)] h fun x h'=>GP h' x (acY f n)/\Le h h'/\Z2 h x:=by
 refine AC.vE ⟨afV,rfl,WY⟩ Tryz.ntmps44 Tryz.results44 fun z=>?_;simp only[Br,Nat.reduceAdd];have m:∀k,k<=n->(eachF f n k).length<=10000:=fun k A=>jz (acX f n k) (kS u (jz A u));refine Uy ?_;refine aab.intro (fun k fr l=>∃(i:Nat) (v:Value),k=n-f-i/\f+i<=n/\fr=mkF [(1,.int .i64 (n:Nat)),(5,v),(6,.int .i64 (f+i:Nat))]/\GP l v (eachF f n i)/\Le h l/\Z2 h v)
  (n-f) [(1,.int .i64 (n:Nat)),(5,.slice none 0 0),(6,.int .i64 (f:Nat))] fD ⟨0,_,rfl,hf,rfl,GP.nil h,Le.refl _,fun b hb=>by simp[blk]at hb⟩ ?_
 rintro k fr l o ⟨i,v,rfl,hi,rfl,g,d,ap⟩;by_cases c:f+i<n
 rotate_left
 .have dc : decide (((f + i : Nat) : Int) < (n : Int)) = false := decide_eq_false NH
  have a:(((f+i:Nat):Int)<(n:Int))=False:=eq_false NH;have e:n-f=i:=NH;refine Sk (XC dc a) ?_;exact⟨by rw[acY,e];exact g,d,ap⟩
 have dc:decide (((f+i:Nat):Int)<(n:Int))=true:=decide_eq_true NH;have a:(((f+i:Nat):Int)<(n:Int))=True:=eq_true NH;have aw:=Tw (f+i) NH;have B:=m i NH;simp only[HO,Nat.reduceLT,↓reduceIte,Nat.reduceEqDiff,reduceCtorEq,dc,a,aw];refine aab.intro (fun k fr p=>∃(j:Nat) (v:Value),k=n-j/\f+i+1<=j/\j<=n/\fr=mkF [(1,.int .i64 (n:Nat)),(5,v),(6,.int .i64 (f+i:Nat)),(7,.int .i64 (j:Nat))]/\GP p v (eachF f n i++acn (f+i) j)/\Le h p/\Z2 h v)
  (n-(f+i+1)) [(1,.int .i64 (n:Nat)),(5,v),(6,.int .i64 (f+i:Nat)),(7,.int .i64 (f+i+1:Nat))] fD ⟨f+i+1,v,rfl,qL0 _,NH,rfl,by simpa[acn]using g,d,ap⟩ ?_
 clear g d ap o;clear l v;rintro k fr p q ⟨j,v,rfl,C,D,rfl,g,d,ap⟩;by_cases c2:j<n
 rotate_left
 .have dc : decide (((j : Nat) : Int) < (n : Int)) = false := decide_eq_false NH
  have a:(((j:Nat):Int)<(n:Int))=False:=eq_false NH;obtain rfl:j=n:=NH;simp only[HO,Nat.reduceLT,↓reduceIte,Nat.reduceEqDiff,reduceCtorEq,dc,a,aw];exact tn (j-f-(i+1)) [(1,.int .i64 (j:Nat)),(5,v),(6,.int .i64 (f+i+1:Nat))] NH fD ⟨i+1,v,rfl,NH,rfl,g,d,ap⟩
 have dc:decide (((j:Nat):Int)<(n:Int))=true:=decide_eq_true NH;have a:(((j:Nat):Int)<(n:Int))=True:=eq_true NH;have r:=Tw j NH;have E:=acW (f+i) j;obtain⟨v',H,I,e4,F,w,J,l4,s,-⟩:=g.push q (((f+i:Nat):Int),(j:Int)) (by rw[vZ];omega);obtain⟨l5,G⟩:=s h d ap;rw[rY,<-aer C]at w;have t:=xe ((f+i:Nat):Int) (j:Int);refine Sk (bG dc a t e4 F r) ?_;exact tn (n-(j+1)) [(1,.int .i64 (n:Nat)),(5,v'),(6,.int .i64 (f+i:Nat)),(7,.int .i64 (j+1:Nat))] NH fD ⟨j+1,v',rfl,NH,NH,rfl,w,l5,G⟩
def mkP9 (h:AHeap) (a b c d e f g i j:Pr):aBuildSlice Tryz.prog h 22 9 [(0,UI a),(1,UI b),(2,UI c),(3,UI d),(4,UI e),(5,UI f),(6,UI g),(7,UI i),(8,UI j)]=some (.slice (some ⟨h.next,0,none⟩) 9 9,h.alloc (.cells (Iu [a,b,c,d,e,f,g,i,j]))):=Ji
def abD (c:LA) (h:AHeap):AC Tryz.prog c 71 [] h fun x h'=>GP h' x E9/\Le h h'/\Z2 h x:=by
 refine AC.vE ⟨Tryz.func71,rfl,WY⟩ Tryz.ntmps71 Tryz.results71 fun a=>?_;simp only[Br,Nat.reduceAdd];obtain⟨i,d,l1,w1,e⟩:=Tt a (Iu E9);have m:=mkP9 h (0,3) (0,4) (0,5) (1,3) (1,4) (1,5) (2,3) (2,4) (2,5);have f:Iu [(0,3),(0,4),(0,5),(1,3),(1,4),(1,5),(2,3),(2,4),(2,5)]=Iu E9:=rfl;rw[f,d]at m
 have g:h.own h.next=none:=(Le.refl h).next a (qL0 _)
 refine Sk (XC @xe m) ?_;exact⟨GS.full e rfl WY,l1,fun b hb=>by injection hb with hb;subst hb;exact g⟩
def abd (a:LA) (h:AHeap):AC Tryz.prog a 34 [] h fun x h'=>x=.bool true/\Le h h':=by
 refine AC.vE ⟨afW,rfl,WY⟩ Tryz.ntmps34 Tryz.results34 fun aX=>?_;simp only[Br,Nat.reduceAdd];have P:decide ((0:Int)=0)=true:=by decide
 have d5:decide ((5:Int)=5)=true:=by decide
 have S:decide ((33:Int)=33)=true:=by decide
 have T:awrap .i64 (0+0)=0:=by decide
 have E5:acY 0 5=k5L:=by decide
 have E6:acY 0 6=k6L:=by decide
 have EU:acY 1 6=k5U:=by decide
 refine Uy ?_;refine TC.intro PJ ⟨afV,rfl,WY⟩ (abq a 0 5 h WY WY) ?_;rintro U h1 w1 ⟨Q,l1,-⟩;rw[E5]at Q;refine Uy ?_;refine TC.intro PJ ⟨afV,rfl,WY⟩ (abq a 0 6 h1 WY WY) ?_;rintro v6 h2 w2 ⟨V,l2,-⟩;rw[E6]at V;have j:=Q.le l2;have y:=Wj (n:=5) Q.pr.sl;refine Sk y ?_;refine TC.intro PJ ⟨qL,rfl,WY⟩ (abn a _ ⟨((5:Nat):Int),k5L⟩ h2 ⟨U,rfl,j.pr⟩) ?_;rintro x h3 w3 ⟨l3,⟨k,-⟩|⟨-,a5,rfl,f5,-⟩⟩
 .exact absurd k5R k
 rw[fnd_k5]at f5;have W:=Wj (n:=6) V.pr.sl;refine Sk W ?_;refine TC.intro PJ ⟨qL,rfl,WY⟩ (abn a _ ⟨((6:Nat):Int),k6L⟩ h3 ⟨v6,rfl,(V.le l3).pr⟩) ?_;rintro x h4 w4 ⟨l4,⟨k,-⟩|⟨-,a6,rfl,f6,-⟩⟩
 .exact absurd k6R k
 rw[fnd_k6]at f6;refine Uy ?_;refine TC.intro PJ ⟨Tryz.func71,rfl,WY⟩ (abD a h4) ?_;rintro v3 h5 w5 ⟨g3,l5,-⟩;have X:=Wj (n:=6) g3.pr.sl;refine Sk X ?_;refine TC.intro PJ ⟨qL,rfl,WY⟩ (abn a _ ⟨((6:Nat):Int),E9⟩ h5 ⟨v3,rfl,g3.pr⟩) ?_;rintro x Y w6 ⟨l6,⟨k,-⟩|⟨-,a3,rfl,Z,-⟩⟩
 .exact absurd k33R k
 rw[fnd_k33]at Z;obtain⟨h7,e7,R,w7,o7⟩:=Tt w6 (Iu c4E);have m7:=mkP4 Y (0,1) (0,3) (1,2) (2,3);have ae:Iu [(0,1),(0,3),(1,2),(2,3)]=Iu c4E:=rfl;rw[ae,e7]at m7
 have p7:PR h7 (.slice (some ⟨Y.next,0,none⟩) 4 4) c4E:=PR.made o7 rfl
 obtain⟨h8,h9,a8,s8,z,w9,lG⟩:=As (n:=4) w7 p7;have ag:=Wj (n:=4) p7.sl;refine Sk (bG @xe m7 ag a8 s8 ((lG h9 (Le.refl _)).1)) ?_
 generalize Y.next=R4 at*
 generalize h7.next=G4 at*
 have p9:=p7.le z;refine TC.intro PJ ⟨qL,rfl,WY⟩ (abn a _ ⟨((4:Nat):Int),c4E⟩ h9 ⟨_,rfl,p9⟩) ?_;rintro x A a7 ⟨b,⟨k,-⟩|⟨-,a4,rfl,f4,-⟩⟩
 .exact absurd c4R k
 rw[fnd_c4]at f4;have m:=l3.trans (l4.trans (l5.trans (l6.trans (R.trans (z.trans b)))));refine Sk (XC T P) ?_;refine TC.intro PJ ⟨afT,rfl,WY⟩ (aaU a a5 U k5L k5L A (f5.le (l4.trans (l5.trans (l6.trans (R.trans (z.trans b)))))) (j.pr.le m) WY) ?_;rintro x B bg ⟨rfl,aj⟩;have o:Le A B:=by rw[aj];exact Le.refl _
 have sp:∀l:List Pr,decide (l=l)=true:=fun l=>decide_eq_true rfl;simp only[HO,Nat.reduceLT,↓reduceIte,Nat.reduceEqDiff,reduceCtorEq,sp];refine TC.intro PJ ⟨afV,rfl,WY⟩ (abq a 1 6 B WY WY) ?_;rintro vU C bh ⟨gU,p,-⟩;rw[EU]at gU;refine Uy ?_;have D:=f6.le (l5.trans (l6.trans (R.trans (z.trans (b.trans (o.trans p))))));refine TC.intro PJ ⟨afT,rfl,WY⟩ (aaU a a6 vU k5U k5U C D gU.pr WY) ?_;rintro x E bk ⟨rfl,al⟩;have q:Le C E:=by rw[al];exact Le.refl _
 simp only[HO,Nat.reduceLT,↓reduceIte,Nat.reduceEqDiff,reduceCtorEq,sp];refine TC.intro PJ ⟨Tryz.func71,rfl,WY⟩ (abD a E) ?_;rintro vT F bm ⟨gT,r,-⟩;refine Uy ?_;have G:=R.trans (z.trans (b.trans (o.trans (p.trans (q.trans r)))));refine TC.intro PJ ⟨afT,rfl,WY⟩ (aaU a a3 vT E9 E9 F (Z.le G) gT.pr WY) ?_;rintro x H bo ⟨rfl,aq⟩;have s:Le F H:=by rw[aq];exact Le.refl _
 have c:=o.trans (p.trans (q.trans (r.trans s)));have ar:=fun g=>f4.len g;have t:=j.pr.le (m.trans c);simp only[HO,Nat.reduceLT,↓reduceIte,Nat.reduceEqDiff,reduceCtorEq,sp,ar,vu,acP,P];refine TC.intro PJ ⟨KT,rfl,WY⟩ (aaS a U k5L H t) ?_;rintro x av br ⟨rfl,u⟩;obtain⟨cv,cut,pc,cc⟩:=t.cut (GS.okc Q) (i:=1) WY;simp only[afE]at cut;simp only[HO,Nat.reduceLT,↓reduceIte,Nat.reduceEqDiff,reduceCtorEq,aeY,d5,cut];refine TC.intro PJ ⟨KT,rfl,WY⟩ (aaS a cv m5E av (pc.le u)) ?_;rintro x ay bx ⟨rfl,I⟩;refine Sk (XC @kind_m5 P) ?_;refine TC.intro PJ ⟨KT,rfl,WY⟩ (aaS a a6 k5U ay ((D.le (q.trans (r.trans s))).le (u.trans I))) ?_;rintro x az bB ⟨rfl,aC⟩;have d:=u.trans (I.trans aC);refine Sk (XC @kind_k5U d5) ?_;refine TC.intro PJ ⟨KT,rfl,WY⟩ (aaS a a3 E9 az ((Z.le (G.trans s)).le d)) ?_;rintro x J bF ⟨rfl,K⟩;have f:=b.trans (c.trans (d.trans K));refine Sk (bG @ad4 S @Di @Ip.eq_1 @BS ((lG J f).2.2)) ?_;refine TC.intro PJ ⟨KT,rfl,WY⟩ (aaS a _ c4E J (p9.le f)) ?_;rintro x L bH ⟨rfl,v⟩;refine Sk (Yb @kind_c4 P ((lG L (f.trans v)).1)) ?_;refine TC.intro PJ ⟨SV,rfl,WY⟩ (aaX a _ ⟨((4:Nat):Int),c4E⟩ L ⟨_,rfl,p9.le (f.trans v)⟩) ?_;rintro x aD bI ⟨⟨w,rfl,aH⟩,aJ⟩;obtain rfl:w=true:=aH.2 ⟨c4R,aeX⟩;have e:=d.trans (K.trans (v.trans aJ));have aK:=Wj (n:=5) pc.sl;simp only[HO,Nat.reduceLT,↓reduceIte,Nat.reduceEqDiff,reduceCtorEq,cut,aK];refine TC.intro PJ ⟨SV,rfl,WY⟩ (aaX a _ ⟨((5:Nat):Int),m5E⟩ aD ⟨_,rfl,pc.le e⟩) ?_;rintro x aP bN ⟨⟨w,rfl,M⟩,N⟩;obtain rfl:w=true:=M.2 ⟨m5R,m5_plan⟩;refine Sk y ?_;refine TC.intro PJ ⟨SV,rfl,WY⟩ (aaX a _ ⟨((5:Nat):Int),k5L⟩ aP ⟨_,rfl,t.le (e.trans N)⟩) ?_;rintro x bQ bW ⟨⟨w,rfl,O⟩,aT⟩;have aW:w=false:=by
  cases w with
  |false=>rfl
  |true=>exact absurd (O.1 rfl).2 k5_np
 subst aW;refine Uy ?_;exact⟨trivial,(l1.trans (l2.trans (m.trans c))).trans (e.trans (N.trans aT))⟩
end
end Go.Fw
namespace Go.Fw
open Go.Proofs
attribute [local irreducible] Jz JL vq cQ
attribute [local instance] Classical.propDecidable
theorem ae1 {on on':Nat->Bool} (b:∀u,on u=false->on' u=false) {es:List Pr} {u w:Nat} (h:Cn on es u w):Cn on' es u w:=by
 induction h with
 |refl h=>exact .refl (b _ h)
 |step _ a o c=>exact .step c a (b _ o)
def afj {on:Nat->Bool} {es:List Pr} {S:Nat->Prop} {x0 c:Nat} (h:Cn on es x0 c) (e:S x0) (b:¬S c):∃x y,S x/\¬S y/\Jp es x y/\Cn (fun u=>on u||decide (S u)) es y c:=by
 induction h with
 |refl _=>exact absurd e b
 |@step w x h a o f=>
  have d:(on x||decide (S x))=false:=by rw[o,decide_eq_false b];rfl
  by_cases hw:S w
  .exact⟨w,x,hw,b,a,.refl d⟩
  .obtain ⟨p, q, g, h2, h3, i⟩ := f hw
   exact⟨p,q,g,h2,h3,.step i a d⟩
theorem first_in {on:Nat->Bool} {es:List Pr} {t a w:Nat} (ne:a≠t) (h:Cn on es a w):Cn (fun u=>on u||decide (u=t)) es a w\/∃z,Jp es z t/\Cn (fun u=>on u||decide (u=t)) es a z:=by
 induction h with
 |refl h=>exact .inl (.refl (by rw[h,decide_eq_false ne];rfl))
 |@step w x h a o b=>
  rcases b with q|q
  .by_cases e : x = t
   .subst e;exact pw
   .exact .inl (.step q a (by rw[o,decide_eq_false e];rfl))
  .exact .inr q
def abr (n:Nat) (es:List Pr) (k:Int):List Pr:=es.filter fun p=>decide (cQ n es p=k)
section
variable {n : Nat} {es : List Pr} (hr : aV n es)
theorem aas {k:Int} {p:Pr}:p∈abr n es k↔p∈es/\cQ n es p=k:=by simp[abr]
def blkE_sub (k:Int):(abr n es k).Sublist es:=xD
include hr
def ae2 (k:Int):aV n (abr n es k):=fun p a=>hr p (aas.1 a).1
theorem abE {k:Int} {u w:Nat}:Jp (abr n es k) u w↔Jp es u w/\cQ n es (GW u w)=k:=by
 constructor
 .intro h
  have a:=aas.1 (H4 (ae2 hr k) h);exact⟨h.imp (by grind [aas]) (by grind [aas]),a.2⟩
 .rintro ⟨a, h2⟩
  have b:=aas.2 ⟨H4 hr a,h2⟩;have ne:u≠w:=fun e=>by subst e;exact Xa hr a
  rcases GK ne with c|c
  .left;rwa[GW,age NH,agd NH]at b
  .right;rwa[GW,Int.min_eq_right NH,Int.max_eq_left NH]at b
theorem blk_path {v a c:Nat} (ha:Jp es v a) (o:Jp es v c) (h:Cn (wo v) es a c):Cn (wo v) (abr n es (cQ n es (GW v a))) a c:=by
 generalize p:cQ n es (GW v a)=K;have nva:a≠v:=by grind [Xa]
 refine Eh fun r=>?_;have d:Cn (wo v) (abr n es K) a a:=.refl (iO nva);obtain⟨x,y,l,s,b,f⟩:=afj (S:=fun u=>Cn (wo v) (abr n es K) a u) h d r;have g:y≠v:=by grind [Cn.off1]
 have key:cQ n es (GW x y)=K:=by
  have off:∀u,(wo v u||decide (Cn (wo v) (abr n es K) a u))=false->wo x u=false:=by grind [of_decide_eq_false]
  have i:v≠x:=by grind [Cn.AB]
  have m:Cn (wo x) es y v:=.step (ae1 off f) o.symm (iO i);by_cases e:x=a
  .subst e
   rw[(dR hr b ha.symm).2 m,aag];exact p
  .rcases first_in (fj e) l with q | ⟨z, t, q⟩
   .have:=q.AB;simp at this
   .obtain ⟨j, k⟩ := (abE hr).1 t
    have w:Cn (wo x) es a z:=by
     have:Cn (wo x) (abr n es K) a z:=by grind [ae1]
     exact(by grind [Cn.mono,aas])
    have ya:Cn (wo x) es y z:=(Cn.step m ha pw).trans w;rw[(dR hr b j.symm).2 ya,aag];exact k
 exact s (.step l (by grind [abE]) (iO g))
theorem blk_one {k:Int} {p q:Pr} (b:p∈abr n es k) (d:q∈abr n es k):cQ n (abr n es k) p=cQ n (abr n es k) q:=by
 have hb:=ae2 hr k
 have:=adV hr (fun r=>if r∈abr n es k then cQ n (abr n es k) r else-1) (fun v a c ha f h=>?_) (aas.1 b).1 (aas.1 d).1 (by grind [aas])
 .rw[if_pos b,if_pos d]at this;exact this
 have e:=(dR hr ha f).2 h;have m1:GW v a∈abr n es k↔cQ n es (GW v a)=k:=by rw[aas];exact(by grind [H4])
 have m2:GW v c∈abr n es k↔cQ n es (GW v c)=k:=by rw[aas];exact(by grind [H4])
 by_cases c1:cQ n es (GW v a)=k
 .have c2 : cQ n es (GW v c) = k := e ▸ c1
  rw[if_pos (m1.2 c1),if_pos (m2.2 c2)];refine(dR hb (by grind [abE]) (by grind [abE])).2 ?_;have:=blk_path hr ha f h;rwa[c1]at this
 .rw[if_neg (fun q=>c1 (m1.1 q)),if_neg (fun q=>c1 (by rw[e];exact m2.1 q))]
end
def abe {n:Nat} {es b:List Pr}:b∈vq n es↔∃p∈es,b=abr n es (cQ n es p):=by
 rw[aay,HV];constructor
 .rintro ⟨k, c, rfl⟩
  obtain⟨p,a,rfl⟩:=((lQ (cQ n es) _ es rfl).2 k).1 c;exact⟨p,a,rfl⟩
 .rintro ⟨p, a, rfl⟩
  exact⟨cQ n es p,((lQ (cQ n es) _ es rfl).2 _).2 ⟨p,a,rfl⟩,rfl⟩
theorem ad9 {n:Nat} {es:List Pr} (h:∀p∈es,∀q∈es,cQ n es p=cQ n es q) {b:List Pr} (hb:b∈vq n es):b=es:=by
 obtain⟨p,a,rfl⟩:=abe.1 hb;exact aa3.2 (by grind [decide_eq_true])
theorem afk {n:Nat} {es:List Pr} (h:∀p∈es,∀q∈es,cQ n es p=cQ n es q) (a:es≠[]):es∈vq n es:=by
 obtain⟨p,l,rfl⟩:=iy a;exact abe.2 ⟨p,Ma,(aa3.2 (by grind [decide_eq_true])).symm⟩
def adn (n:Nat) (b:List Pr):Prop:=bX ⟨(n:Int),b⟩/\b≠[]/\∀p∈b,∀q∈b,cQ n b p=cQ n b q
theorem abF {n:Nat} {es b:List Pr} (hr:bX ⟨(n:Int),es⟩) (hb:b∈vq n es):adn n b:=by
 obtain⟨p,d,rfl⟩:=abe.1 hb;exact⟨hr.sub (blkE_sub _),List.ne_nil_of_mem (aas.2 ⟨d,rfl⟩),fun a ha c e=>blk_one hr.GD ha e⟩
theorem abt {n:Nat} {b:List Pr} (h:adn n b):aar n b↔aaQ n b:=
 ⟨fun q=>q.2 b (afk h.2.2 h.2.1),fun q=>⟨h.1,fun c a=>by rw[ad9 h.2.2 a];exact q⟩⟩
theorem ads {n:Nat} {es:List Pr} (hr:bX ⟨(n:Int),es⟩):aar n es↔∀b∈vq n es,aar n b:=
 ⟨fun q b hb=>(abt (abF hr hb)).2 (q.2 b hb),fun q=>⟨hr,(by grind [abt,abF])⟩⟩
end Go.Fw
