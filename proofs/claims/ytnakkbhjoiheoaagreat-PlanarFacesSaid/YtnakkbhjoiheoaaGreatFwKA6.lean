/- A text. -/
import Derived.Test.YtnakkbhjoiheoaaGreatFwLJ22
set_option linter.all false
set_option maxRecDepth 99999
set_option maxHeartbeats 9999999
open Go.Proofs
open Option renaming some→Z,none→Y
open Bool renaming true→tT,false→fF
open Go.Value renaming slice→sL,pointer→pT
open Go renaming Value→vV
open Go.Proofs.Tryz renaming prog→pG
open Go.Proofs.Tryz
namespace Go.Fw
section
attribute [local irreducible] Kp MQ lU KO1 KO KN KX KE VK Kl ZJ TC aab
attribute [local irreducible] Jz JL vq cQ
variable {h:aai} {i n:Nat} {ps:List Pr} {v:Value}
theorem aeW(J:LA)(id n i cap:Nat)(c:xLV)(h:aai)(K:h.own id=Z (.cells c))(hl:n*2<=c.length)(D:(c.take (n*2)).all (·.oneCell')=tT)(hi:i<n)(hn:n<=100000)(w:n<=cap)(E:cap<UNK):
  AC pG J 62 [sL (Z ⟨id,0,Y⟩) n cap,.int .i64 (i:Int),.int .i64 ((i+1:Nat):Int)] h fun x h'=>
   ∃n',n'<=cap/\x=sL (Z ⟨id,0,Y⟩) n' cap/\n'=n-1/\∃c',(h'.own id=Z (.cells c')/\(∀f,Le f h->f.own id=Y->Le f h')/\∀b o,b≠id->h.own b=Z o->h'.own b=Z o)/\c'.take ((n-1)*2)=c.take (i*2)++((c.drop ((i+1)*2)).take ((n-(i+1))*2)):=by
 have k:¬UNK<=cap:=aiM.2 E;have d:=eY;have j:=qS6;have L:(0:Int)<=(i:Int):=NH;have M:(i:Int)<=((i+1:Nat):Int):=NH;have e3:((i+1:Nat):Int)<=(n:Int):=NH;have e4:(0:Int)<=((i+1:Nat):Int):=NH;have F:(0:Int)<=(n:Int):=NH;have G:(n:Int)<=(cap:Int):=NH;have e7:(i:Int)<=(cap:Int):=NH;have y:∃v,abf pG 22 (sL (Z ⟨id,0,Y⟩) n cap) (Z (.int .i64 (i:Int))) (Z (.int .i64 ((i+1:Nat):Int))) (Z (.int .i64 (n:Int)))=Z v:=by
  refine⟨vV.slice (if n=i then Z ⟨id,0,Y⟩else Z ⟨id,i*2,Y⟩) (i+1-i) (n-i),?_⟩
  .simp only[abf,d,k,if_false,w,j,Q9,and_self,if_true,abm,abL,L,M,e3,e4,F,G,IE,uu,Ip,WE,EL]
 obtain⟨v1,y⟩:=y;have N:abf pG 22 (sL (Z ⟨id,0,Y⟩) n cap) Y (Z (.int .i64 (i:Int))) Y=Z (sL (Z ⟨id,0,Y⟩) i cap):=pn d j i NH w E
 have O:abf pG 22 (sL (Z ⟨id,0,Y⟩) n cap) (Z (.int .i64 ((i+1:Nat):Int))) Y Y=Z (.slice (if cap=i+1 then Z ⟨id,0,Y⟩else Z ⟨id,(i+1)*2,Y⟩) (n-(i+1)) (cap-(i+1))):=by have Q:((i+1:Nat):Int)<=(n:Int):=e3;simp only[abf,d,k,if_false,w,j,Q9,and_self,if_true,abm,abL,e4,Q,IE,uu,Ip,WE,EL]
 have rd:∀e,UA pG e=2->aby pG h e (.slice (if cap=i+1 then Z ⟨id,0,Y⟩else Z ⟨id,(i+1)*2,Y⟩) (n-(i+1)) (cap-(i+1)))=Z (n-(i+1),(c.drop ((i+1)*2)).take ((n-(i+1))*2)):=fun e he=>by
  by_cases q:cap=i+1
  .have z:n-(i+1)=0:=NH;rw[Z6 q,z];simp[aby,abN]
  grind[qF,aby]
 have nl:((c.drop ((i+1)*2)).take ((n-(i+1))*2)).length=(n-(i+1))*2:=pw;have n1:((c.drop ((i+1)*2)).take ((n-(i+1))*2)).all (·.oneCell')=tT:=by
  rw[Yi]at D ⊢;intro x R;refine D x ?_;obtain⟨q,A⟩:=yM.1 R;rw[aeC]at A;split at A
  .refine Gc (i:=(i+1)*2+q) ?_;grind
  .cases A
 have app:∃c1 l,(l.own id=Z (.cells c1)/\(∀f,Le f h->f.own id=Y->Le f l)/\∀b o,b≠id->h.own b=Z o->l.own b=Z o)/\aaR pG h 22 22 (sL (Z ⟨id,0,Y⟩) i cap) (.slice (if cap=i+1 then Z ⟨id,0,Y⟩else Z ⟨id,(i+1)*2,Y⟩) (n-(i+1)) (cap-(i+1)))=Z (sL (Z ⟨id,0,Y⟩) (n-1) cap,l)/\c1.length=c.length/\
   c1.take ((n-1)*2)=c.take (i*2)++((c.drop ((i+1)*2)).take ((n-(i+1))*2)):=by
  have u:acd pG 49=Z (.agg #[vV.int .i64 0,vV.int .i64 0]):=Ji;have H:(vV.agg #[vV.int .i64 0,vV.int .i64 0]).cells.size=UA pG 49/\(vV.agg #[vV.int .i64 0,vV.int .i64 0]).cells.toList.all (·.oneCell')=tT:=⟨by kernel_rfl,by kernel_rfl⟩;have hs:=rd 49 WE;have S:pG.bytesOf 49<=1000:=by decide
  have T:(i+(n-(i+1)))*pG.bytesOf 49<=140737488355328:=VU (Gg (show i+(n-(i+1))<=100000 by omega) S) WY;have U:i+(n-(i+1))<=140737488355328:=NH;have I:(vV.agg #[vV.int .i64 0,vV.int .i64 0]).cells.size=UA pG 49/\(vV.agg #[vV.int .i64 0,vV.int .i64 0]).cells.toList.all (·.oneCell')/\(pG.underlying 49).isSome/\acL (.slice 49)/\((c.drop ((i+1)*2)).take ((n-(i+1))*2)).all (·.oneCell')/\(i+(n-(i+1)))*pG.bytesOf 49<=140737488355328/\i+(n-(i+1))<=140737488355328/\((c.drop ((i+1)*2)).take ((n-(i+1))*2)).length=(n-(i+1))*UA pG 49:=⟨H.1,H.2,by rfl,rfl,n1,T,U,by grind[WE]⟩;by_cases V:n-(i+1)=0
  .refine⟨c,h,pw,?_,rfl,?_⟩
   .simp only[aaR,d,u,hs];grind
   .rw[V];grind
  .have room:i*2+((c.drop ((i+1)*2)).take ((n-(i+1))*2)).length<=c.length:=pw;refine⟨putCells c (i*2) ((c.drop ((i+1)*2)).take ((n-(i+1))*2)),_,⟨aai.Y3 _ _ _,fun f W hf=>W.put _ hf,fun b o hb K=>by grind[aai.By]⟩,?_,O7 _ _ _,?_⟩
   .simp only[aaR,d,u,hs];grind[WE]
   .rw[IW _ _ _ room,gX pw,HV pw]
 obtain⟨c1,l,⟨X,aa,ae⟩,app,ag,B⟩:=app;have S4:abf pG 22 (sL (Z ⟨id,0,Y⟩) (n-1) cap) (Z (.int .i64 ((n-1:Nat):Int))) (Z (.int .i64 (n:Int))) Y=Z (sL (Z ⟨id,(n-1)*2,Y⟩) 1 (cap-(n-1))):=by have a1:((n-1:Nat):Int)<=(n:Int):=NH;have a2:(0:Int)<=((n-1:Nat):Int):=NH;have a3:n-1<=cap:=NH;have a4:¬cap=n-1:=NH;have a5:n-(n-1)=1:=NH;simp only[abf,d,k,if_false,a3,j,Q9,and_self,if_true,abm,abL,F,G,a1,a2,IE,a4,a5,uu,Ip,WE,EL]
 have p:∃c2,ae9 pG l 22 (sL (Z ⟨id,(n-1)*2,Y⟩) 1 (cap-(n-1)))=Z (.tuple #[],l.put id (.cells c2))/\c2.take ((n-1)*2)=c1.take ((n-1)*2):=by
  have u:acd pG 49=Z (.agg #[vV.int .i64 0,vV.int .i64 0]):=Ji;have ai:(vV.agg #[vV.int .i64 0,vV.int .i64 0]).cells=#[vV.int .i64 0,vV.int .i64 0]:=Ji;have zr:acY (vV.agg #[vV.int .i64 0,vV.int .i64 0]).cells.toList 1=[vV.int .i64 0,vV.int .i64 0]:=Ji;refine⟨putCells c1 ((n-1)*2) [vV.int .i64 0,vV.int .i64 0],?_,?_⟩
  .have r:(n-1)*2+1*(vV.agg #[vV.int .i64 0,vV.int .i64 0]).cells.size<=c1.length:=pw;have fl:(vV.agg #[vV.int .i64 0,vV.int .i64 0]).cells.toList.all flat=tT:=Ji;simp only[ae9,d,u,X,fl,r,decide_true,Bool.and_self,cond_true,zr];rfl
  grind[IW]
 obtain⟨c2,p,C⟩:=p;refine AC.vE ⟨func62,rfl,WY⟩ ntmps62 results62 fun aj=>?_;simp only[Br,seval];have s:=fun m g=>Jg (P:=pG) (t:=22) (a:=Z ⟨id,0,Y⟩) (n:=m) (cap:=cap) d g;have d1:decide ((i:Int)=((i+1:Nat):Int))=fF:=WA NH;refine Sk (xU s y @ag6 d1) ?_;refine gh (tA [0,1,2,3,4,5] (JQ 6 [2,5] (JQ 7 [0,1,2,3,4,5,6] .done))) ?_;simp only[HO,seval,Qg,N,O,app,s,S4,p];exact⟨n-1,NH,rfl,rfl,c2,(by grind[aai.Y3,Le.put,aai.By]),by rw[C,B]⟩
theorem aeX:∀(l:xLP)(i:Nat),i<l.length->(Iu l).take (i*2)++((Iu l).drop ((i+1)*2)).take ((l.length-(i+1))*2)=Iu (l.eraseIdx i):=by grind[afq,za,Ta,mZ,List.eraseIdx_eq_take_drop_succ]
theorem aeY(q:LA)(g:GP h v ps)(hi:i<ps.length)(s:ps.length<=100000):
  AC pG q 62 [v,i,((i+1:Nat):Int)] h fun x h'=>PR h' x (ps.eraseIdx i)/\Ct x (ps.eraseIdx i).length/\∀f,Le f h->Z2 f v->Le f h':=by
 have a:(ps.eraseIdx i).length=ps.length-1:=by rw[TN,Z6 hi]
 have hP:=aeX ps i hi;have d:=WI ps;obtain⟨w,⟨rfl,C⟩|⟨id,c,cap,rfl,t,p,y⟩⟩:=g
 .omega
 have e:ps.length*2<=c.length:=by have:=congrArg List.length p;rw[Bn,w]at this;omega
 have z:c.take (i*2)=(Iu ps).take (i*2):=by rw[<-p,List.take_take];congr 1;omega
 have A:(c.drop ((i+1)*2)).take ((ps.length-(i+1))*2)=((Iu ps).drop ((i+1)*2)).take ((ps.length-(i+1))*2):=by rw[<-p,qL227,List.take_take];congr 1;omega
 have u:(c.take (ps.length*2)).all (·.oneCell')=tT:=by rw[p];exact d
 have fin:∀(cap':Nat)(h':aai)(c':xLV),h'.own id=Z (.cells c')->c'.take ((ps.length-1)*2)=c.take (i*2)++((c.drop ((i+1)*2)).take ((ps.length-(i+1))*2))->PR h' (sL (Z id) (ps.length-1) cap') (ps.eraseIdx i):=fun cap' h' c' j ct=>by
  rw[z,A,hP]at ct;have l:(ps.eraseIdx i).length=ps.length-1:=by rw[TN,Z6 hi]
  have hlen:(ps.length-1)*2<=c'.length:=by have:=congrArg List.length ct;rw[Bn,Ta,l]at this;omega
  have:=CS.own (k:=2) (off:=0) (n:=ps.length-1) (cap:=cap') j NH;rw[ai8,ct]at this;unfold PR;rw[l];exact this
 rcases y with rfl|⟨rfl,m⟩
 .refine(AC.exact (Q:=fun n' h'=>n'=ps.length-1/\∃c',(h'.own id=Z (.cells c')/\(∀f,Le f h->f.own id=Y->Le f h')/\∀b o,b≠id->h.own b=Z o->h'.own b=Z o)/\c'.take ((ps.length-1)*2)=c.take (i*2)++((c.drop ((i+1)*2)).take ((ps.length-(i+1))*2))) NH fun cap h2 h3=>aeW q id ps.length i cap c h t e u hi s h2 h3).mono ?_;rintro x h' ⟨n',rfl,rfl,c',⟨j,fr,B⟩,ct⟩;exact⟨fin _ h' c' j ct,by rw[a];exact⟨_,_,rfl,pw⟩,fun f r af=>fr f r (af id rfl)⟩
 .refine(aeW q id ps.length i ps.length c h t e u hi s (qL0 _) (Nat.lt_trans m WY)).mono ?_;rintro x h' ⟨n',-,rfl,rfl,c',⟨j,fr,B⟩,ct⟩;exact⟨fin _ h' c' j ct,by rw[a];exact⟨_,_,rfl,.inl ⟨Nat.lt_trans m WY,NH⟩⟩,fun f r af=>fr f r (af id rfl)⟩
def ahr(d:LA)(a b:Int)(h:aai):AC pG d 120 [a,b] h fun x h'=>x=.bool (decide (a<b))/\h'=h:=by
 refine AC.vE ⟨func120,rfl,WY⟩ ntmps120 results120 fun e=>?_;simp only[Br,seval];refine Uy ?_;refine kCi qS24 (Pd d a h) ?_;rintro x f w1 ⟨rfl,rfl⟩;by_cases c:a<b
 .simp only[HO,seval,c];exact⟨Ma,trivial⟩
 .simp only[HO,seval,c];exact⟨Ma,trivial⟩
theorem acI(u:LA)(v:vV)(xs:RZ)(x:Int)(h:aai)(l:RL RP h v xs)(M:xs.length<=1000)(ha:xs.Pairwise (·<·))(A:x∈xs):
  AC pG u 137 [v,x] h fun y h'=>(∃i:Nat,y=.tuple #[.int .i64 i,.bool tT]/\xs[i]?=Z x)/\h'=h:=by
 have lt:∀(i j:Nat) a b,i<j->xs[i]?=Z a->xs[j]?=Z b->a<b:=fun i j a b B hi C=>by obtain⟨N,rfl⟩:=Ny.1 hi;obtain⟨h2,rfl⟩:=Ny.1 C;exact(by grind[List.pairwise_iff_getElem])
 obtain⟨q,f⟩:=yM.1 A;have n:=(Ny.1 f).1;refine AC.vE ⟨func137,rfl,WY⟩ ntmps137 results137 fun D=>?_;simp only[Br,seval];have E:=fun g=>l.Uc g;refine Sk E ?_;refine lIn (fun k fr hh=>∃lo hi:Nat,k=hi-lo/\lo<=q/\q<=hi/\hi<=xs.length/\fr=mkF [(0,v),(1,x),(6,xs.length),(7,lo),(8,.int .i64 hi)]/\hh=h) ⟨0,xs.length,rfl,vZ _,NH,qL0 _,rfl,rfl⟩ ?_;rintro k fr hh F ⟨lo,hi,rfl,p,s,t,rfl,rfl⟩;refine Uy ?_;refine Kl.intro (fun w=>?_) (fun hf=>?_)
 .have G:lo<hi:=CC w;clear w;have a1:aaY .i64 ((lo:Int)+(hi:Int))=((lo+hi:Nat):Int):=by grind[cT]
  have a2:=aw_u64 (lo+hi) NH;have H:=Tq (lo+hi) NH;have I:aaY .i64 (((lo+hi) / 2:Nat):Int)=(((lo+hi) / 2:Nat):Int):=cT _ NH NH;have O:(lo+hi) / 2<hi:=NH;have J:lo<=(lo+hi) / 2:=NH;refine Sk (bG a1 @cv3u a2 H @cvu3 I) ?_;generalize (lo+hi) / 2=m at*;have d:m<xs.length:=NH;have ad:=l.TA m d;have ld:=l.DH m d;have o:=CA d;generalize xs[m]=y at*;simp only[HO,seval,ad,ld];refine kCi func120 (ahr u y x hh) ?_;rintro z h3 P ⟨rfl,rfl⟩;by_cases c:y<x
  .have dc:decide (y<x)=tT:=qL7 c;have e:m<q:=by
    rcases oZ m q with r|r|r
    .exact r
    .subst r;rw[o]at f;injection f with f;omega
    .have:=lt q m x y r f o;omega
   refine Sk (XC dc (aaa m NH)) ?_;exact lgA NH ⟨m+1,hi,rfl,e,s,t,rfl,rfl⟩
  .have dc:decide (y<x)=fF:=WA c;have e:q<=m:=by
    rcases abz m q with r|r
    .exact pw
    .exact r
   refine Sk dc ?_;exact lgA NH ⟨lo,m,rfl,p,e,NH,rfl,rfl⟩
 have K:hi<=lo:=vp hf;obtain rfl:lo=q:=NH;have dl:decide ((lo:Int)<(xs.length:Int))=tT:=qL7 NH;have ad:=l.TA lo n;have ld:=l.DH lo n;rw[(Ny.1 f).2]at ld;have dx:decide (x=x)=tT:=qL7 rfl;have L:((lo:Int)<(xs.length:Int))=True:=pw;simp only[HO,seval,L,dl,ad,ld,dx];exact pw
def idx_eq{b:xLP}{x:Int}(h:(kz (aag n b))[i]?=Z x):i=abD n b x:=by
 have f:(aag n b).Pairwise (·<·):=U9.filter _;unfold abD;generalize aag n b=l at*
 induction l generalizing i with
 |nil=>simp[kz]at h
 |cons a l g=>
  obtain⟨d,h2⟩:=ail.1 f;cases i with
  |zero=>
   have e:x=(a:Int):=by simpa[kz]using h.symm
   subst e;rw[qL162.2];intro v j;rcases Og.1 j with rfl|q
   .simp
   .have:=d v q;simp;omega
  |succ i=>
   have h':(kz l)[i]?=Z x:=by simpa[kz]using h
   have hi:=g h' h2;obtain⟨w,hw,e⟩:=Gw.1 (Gc h');have c:(a:Int)<x:=by have:=d w hw;omega
   rw[ai9,Z6 (by simpa using c),<-hi]
def mkKI2(h:aai)(a b:Int):aas pG h 28 2 [(0,a),(1,b)]=Z (sL (Z h.next) 2 2,h.alloc (.cells [a,b])):=Ji
def agH(l:xLP)(p:Pr):adJ (l++[p])=adJ l++[p.1,p.2]:=by simp[adJ]
def adi(l:xLP):(adJ l).length=2*l.length:=by
 induction l with
 |nil=>rfl
 |cons p l a=>simp only[adJ,oK,ZT,Yq,ahM]at*;omega
theorem flat_any(m:LA)(bv:vV)(n:Nat)(b:xLP)(h:aai)(r:PR h bv b)(hR:aV n b)(hn:n<=200)(hl:b.length<=594):
  AC pG m 90 [bv] h fun x h'=>RR (aaV n b) x/\Le h h':=by
 have C:=fun g=>r.len g;refine AC.vE ⟨func90,rfl,WY⟩ ntmps90 results90 fun aa=>?_;simp only[Br,seval];by_cases W:b.length<9
 .have D:decide ((b.length:Int)<9)=tT:=qL7 NH;refine Sk (XC C D) ?_;exact⟨⟨tT,rfl,fun _=>.inl W,fun _=>rfl⟩,Le.refl _⟩
 have D:decide ((b.length:Int)<9)=fF:=WA NH;refine Sk (XC C D) ?_;refine lIn (fun k fr o=>∃(i:Nat)(z:vV),k=b.length-i/\i<=b.length/\fr=mkF [(0,bv),(3,z),(18,bv),(19,.int .i64 b.length),(20,i)]/\GI o z (adJ (b.take i))/\Le h o/\Z2 h z) ⟨0,_,rfl,vZ _,rfl,GI.nil h,Le.refl _,fun b hb=>by simp[blk]at hb⟩ ?_;rintro k fr o E ⟨i,z,rfl,hi,rfl,g,F,ap⟩;refine Uy ?_;refine Kl.intro (fun s=>?_) (fun hf=>?_)
 .have d:i<b.length:=CC s;clear s;have f:=CA d;have l:b.take (i+1)=b.take i++[b[i]]:=XJ d;have hle:(adJ (b.take i)).length<=2000:=by rw[adi,Bn];omega
  generalize b[i]=p at f l;have ad:=r.addr (k:=.i64) i d;have ld:=(r.le F).load f;obtain⟨ae,h3,e2,e3,j,H,o3⟩:=Ut E p;have m0:=lK o3;have m1:=HY o3;have l3:=F.trans j;obtain⟨A,e4,l4,w4,o4⟩:=Tt H [p.1,p.2];have bs:=mkKI2 h3 p.1 p.2;rw[e4]at bs
  have r4:RL RP A (sL (Z h3.next) 2 2) [p.1,p.2]:=RL.Wh (RS.whole o4 rfl)
  obtain⟨jv,h6,J,K,w6,f6,-⟩:=GI.join ((g.le j).le l4) w4 r4 (by simp;omega);obtain⟨l6,aj⟩:=f6 h (l3.trans l4) ap;rw[<-agH,<-l]at K;simp only[HO,seval,ad,ld,e2,e3,Dh,Z0,Ip,EL,m0,m1,bs,J,aaa i NH];exact lgA (JS d) ⟨i+1,jv,rfl,d,rfl,K,l6,aj⟩
 have t:b.length<=i:=vp hf;rw[HV t]at g;refine Uy ?_;refine kCi qS21 (VQ m g (by rw[adi];omega)) ?_;rintro x h2 w2 ⟨rfl,g2,k2⟩;have L:=k2 h F ap;refine Uy ?_;refine kCi func58 (VY m g2 (by rw[OX,adi];omega)) ?_;rintro M h3 w3 ⟨N,-,k3⟩;have j:=k3 h L ap;rw[adX hR]at N;have lv:=fun g=>N.Uc g;rw[y6]at lv;obtain⟨A,h5,e4,e5,l5,w5,nX,G0⟩:=GX.new w3 ((aag n b).length:Int);refine Sk (IX lv @ait e4 e5 C) ?_;have ag:(aag n b).length<=200:=VU (Vn _ _) (by simp;omega);have u:(kz (aag n b)).Pairwise (·<·):=by unfold kz;rw[DF];exact(U9.filter _).imp fun h=>by omega
 have O:h3.own h3.next=Y:=by grind[Le.next]
 generalize h3.next=X at*
 refine lIn (fun k fr o=>∃(i:Nat)(ev:vV),k=b.length-i/\i<=b.length/\fr=mkF [(3,M),(6,pT (Z X)),(39,bv),(40,.int .i64 b.length),(41,i)]/\GX o X (aag n b).length ev (aat n b|>.take i)/\Le h3 o/\Z2 h3 ev) ⟨0,_,rfl,vZ _,rfl,G0,l5,fun b hb=>by simp[blk]at hb⟩ ?_;clear G0 w5 l5 e5 e4;rintro k fr hz P ⟨i,ev,rfl,hi,rfl,G,B,az⟩;refine Uy ?_;refine Kl.intro (fun s=>?_) (fun hf=>?_)
 .have d:i<b.length:=CC s;clear s;have f:=CA d;have Q:(aat n b)[i]?=Z ((abD n b b[i].1:Int),(abD n b b[i].2:Int)):=by rw[aat,bC,f];rfl
  have l:(aat n b).take (i+1)=(aat n b).take i++[((abD n b b[i].1:Int),(abD n b b[i].2:Int))]:=by rw[Ua,Q];rfl
  have v:((aat n b).take i).length+1<=100000:=by rw[Bn];omega
  have ai:=Gc f;have hm:∀x,aO b[i] x=tT->x∈kz (aag n b):=by grind[adX,jn,Wv,aeS]
  have R:=hm b[i].1 (by simp[aO]);have S:=hm b[i].2 (by simp[aO]);generalize b[i]=p at*;have ad:=r.addr (k:=.i64) i d;have ld:=(r.le (j.trans B)).load f;obtain⟨al,h6,J,s6,l6,w6,o6⟩:=Ut P p;have m0:=lK o6;have m1:=HY o6;have r6:=N.le Nn.RP (B.trans l6);have aw:=aaa i NH;simp only[HO,seval,ad,ld,J,s6,Dh,Z0,Ip,EL,m0];refine kCi func137 (acI m M _ p.1 h6 r6 (by rw[y6];omega) u R) ?_;rintro y h7 w7 ⟨⟨a,rfl,ha⟩,rfl⟩;refine Sk (IX @Dh @Z0 @Ip.eq_1 @EL m1) ?_;refine kCi func137 (acI m M _ p.2 h7 r6 (by rw[y6];omega) u S) ?_;rintro y h8 w8 ⟨⟨c,rfl,hc⟩,rfl⟩;obtain rfl:=idx_eq ha;obtain rfl:=idx_eq hc;have G6:=G.le l6;obtain⟨v',g4,g5,K,q4,q5,q6,G7,aq,l7,f7,-⟩:=G6.push' w8 ((abD n b p.1:Int),(abD n b p.2:Int)) v;obtain⟨T,a7⟩:=f7 h3 (B.trans l6) O az;rw[<-l]at G7;have U:=xe (abD n b p.1:Int) (abD n b p.2:Int);simp only[HO,seval,Di,Ip,EL,G6.ld.2.2,U,q4,q5,q6,aw];exact lgA (JS d) ⟨i+1,v',rfl,d,rfl,G7,T,a7⟩
 have t:b.length<=i:=vp hf;have v:(aat n b).length=b.length:=by simp[aat]
 rw[HV NH]at G;refine Sk G.ld.1 ?_;refine kCi func59 (Im m _ ⟨((aag n b).length:Int),aat n b⟩ hz ⟨ev,rfl,G.gp.pr,GS.okc G.gp⟩) ?_;rintro x h9 w9 ⟨l9,rv,e,rfl,I⟩;have V:=(j.trans B).trans l9;have key:decide (e=0)=tT↔aaV n b:=by
  rw[vg];constructor
  .intro he;rcases I with⟨-,q,-⟩|⟨-,-,q,-⟩|⟨-,-,-,-,q,-⟩|⟨w,h2,rs,-,h3,A,-⟩
   .omega
   .omega
   .omega
   .exact .inr ⟨w,h2,Vg w.GD w.q9 h3 A⟩
  .rintro(q|⟨w,h2,h3⟩)
   .exact absurd q W
   .obtain⟨rs,-,-,-,q,-⟩:=I.XK w h2 h3;exact q
 refine Uy ?_;exact⟨⟨_,rfl,key⟩,V⟩
def fkM_len(key:Pr->Int)(es:xLP):(CY key es).length<=es.length:=by
 have:∀(es:xLP)(ks:RZ),(es.foldl (fkS key) ks).length<=ks.length+es.length:=by
  intro es
  induction es with
  |nil=>simp
  |cons p es a=>
   intro ks;have:=a (fkS key ks p);have h2:(fkS key ks p).length<=ks.length+1:=by unfold fkS;split<;>simp
   simp only[Dk,Yq];omega
 have:=this es [];rw[ahM,EL]at this;exact this
def afx(n:Nat)(es:xLP):(vq n es).length<=es.length:=by rw[aaB,wI];exact fkM_len _ _
theorem aaO(o:LA)(v:vV)(G:GM)(h:aai)(hg:GR h v G):
  AC pG o 60 [v] h fun x h'=>RR (bX G/\aak G.n.toNat G.es) x/\Le h h':=by
 have j:=hg;obtain⟨D,es⟩:=G
 obtain⟨ev,rfl,E⟩:=hg.open
 refine AC.vE ⟨func60,rfl,WY⟩ ntmps60 results60 fun F=>?_;simp only[Br,seval];obtain⟨O,T,r,U,-,Q⟩:=r8 (n:=D) F E
 generalize h.next=B at*
 have H:=Q O (Le.refl _);refine Sk (XC T H.1) ?_;refine kCi func34 (Cw o _ ⟨D,es⟩ O (j.le r)) ?_;rintro x h2 w2 ⟨l2,V⟩;have s:=Q h2 l2;have l:=r.trans l2;rcases V with⟨W,rfl⟩|⟨m,X,rfl,z⟩
 .refine Sk s.1 ?_;refine kCi yU (ak o _ _ h2 (j.le l)) ?_;rintro x h3 w3 ⟨⟨t,rfl,a⟩,l3⟩;cases t with
  |true=>exact absurd (a.1 rfl) W
  |false=>refine Uy ?_;exact(by grind[RR.f,Le.trans])
 refine Sk s.1 ?_;refine kCi yU (ak o _ _ h2 (j.le l)) ?_;rintro x h3 w3 ⟨⟨t,rfl,a⟩,l3⟩;obtain rfl:t=tT:=a.2 m;clear a;have I:=l.trans l3;have h0:0<=D:=m.n0;obtain⟨n,rfl⟩:=Sb h0;simp only[IE]at z ⊢;have lk:=fun g=>z.len (P:=pG) NQ g;have aa:aak n es↔∀b∈vq n es,aaV n b:=⟨fun q=>q.2,fun q=>⟨m,q⟩⟩;have w:∀b∈vq n es,b.Sublist es:=by grind[List.mem_iff_getElem?,Jh,List.filter_sublist]
 have ae:(vq n es).length<=100000:=by have:=afx n es;have:es.length<=594:=m.len;omega
 generalize vq n es=bs at*;have d0:decide ((0:Int)=0)=tT:=by decide
 refine Sk (Yb @bne.eq_1.{0} d0 lk) ?_
 refine lIn (fun k fr A=>∃i:Nat,k=bs.length-i/\i<=bs.length/\fr=mkF [(19,X),(20,.int .i64 bs.length),(21,.int .i64 i)]/\Le h3 A/\∀b∈bs.take i,aaV n b) ⟨0,rfl,vZ _,rfl,Le.refl _,fun b hb=>by simp at hb⟩ ?_;rintro k fr A ag ⟨i,rfl,hi,rfl,C,e⟩;refine Uy ?_;refine Kl.intro (fun R=>?_) (fun hf=>?_)
 rotate_left
 .have J:bs.length<=i:=vp hf;rw[HV J]at e;refine Uy ?_;exact⟨⟨tT,rfl,pw,fun _=>rfl⟩,I.trans C⟩
 have d:i<bs.length:=CC R;clear R;have K:bs.take (i+1)=bs.take i++[bs[i]]:=XJ d;have L:=aev d;have M:=z.addr (P:=pG) NQ eY Ji (k:=.i64) i d;obtain⟨u,N,hu⟩:=z.load' (P:=pG) eY rfl i d;have lu:=N A (l3.trans C);generalize bs[i]=b at*;have hs:=w b L;have y:b.length<=594:=VU hs.length_le m.len;simp only[HO,seval,M,lu];refine kCi func90 (flat_any o u n b A (hu.le (l3.trans C)) (fun p E=>m.GD p (hs.subset E)) (by have:(n:Int)<=200:=m.n1;omega) y) ?_;rintro x h5 w5 ⟨⟨t,rfl,a⟩,l5⟩;cases t with
 |false=>refine Uy ?_;exact(by grind[RR.f,Le.trans])
 |true=>
  refine Sk (aaa i NH) ?_;exact lgA (JS d) ⟨i+1,rfl,d,rfl,C.trans l5,fun c S=>by
   rw[K]at S;rcases aax.1 S with q|q
   .exact e c q
   .rw[iy.1 q];exact a.1 rfl⟩
attribute [local instance] Classical.propDecidable in
theorem ahs(e:LA)(v:vV)(G:GM)(h:aai)(hg:GR h v G):
  AC pG e 36 [v] h fun x h'=>Le h h'/\((¬bX G/\x=.tuple #[.slice Y 0 0,.int .i64 20])\/(bX G/\∃d,x=.tuple #[d,.int .i64 0]/\PR h' d (abv G)/\Ct d (abv G).length)):=by
 have m:=hg;obtain⟨Q,es⟩:=G
 obtain⟨ev,rfl,R⟩:=hg.open
 refine AC.vE ⟨func36,rfl,WY⟩ ntmps36 results36 fun A=>?_;simp only[Br,seval];obtain⟨C,V,f,W,-,z⟩:=r8 (n:=Q) A R
 generalize h.next=B at*
 have o:=z C (Le.refl _);refine Sk (XC V o.1) ?_;refine kCi yU (ak e _ _ C (m.le f)) ?_;rintro x h2 w2 ⟨⟨p,rfl,a⟩,l2⟩;have q:=z h2 l2;have r:=f.trans l2;cases p with
 |false=>refine Uy ?_;exact pw
 |true=>
 have D:=a.1 rfl;clear a;have X:0<=Q:=D.n0;obtain⟨n,rfl⟩:=Sb X;refine Sk q.1 ?_;refine kCi func60 (aaO e _ ⟨(n:Int),es⟩ h2 (m.le r)) ?_;rintro x h3 w3 ⟨⟨p,rfl,a⟩,l3⟩;simp only[IE]at a;have s:=r.trans l3
 have hf:∀F,F=abv ⟨(n:Int),es⟩->F=if aak n es then[]else aeH n es.length 0 es:=fun F b=>b
 cases p with
 |true=>have:=hf _ rfl;rw[Z6 (a.1 rfl).2]at this;refine Uy ?_;exact(by grind[GP.nil,GP.pr,GP.ct])
 |false=>
 have b:=hf _ rfl;rw[abe pw]at b;generalize abv ⟨(n:Int),es⟩=F at*;clear hf a;have t:es.length<=594:=D.len;refine Sk (xU @Di @Ip.eq_1 @EL ((z h3 (l2.trans l3)).2.2)) ?_;refine kCi qS30 (DA e ev es h3 (R.le s) NH) ?_;rintro d h4 w4 ⟨E,l4,-⟩;have H:=s.trans l4;refine Uy ?_;refine lIn (fun k fr u=>∃(i:Nat)(l:xLP)(d:vV),k=l.length-i/\i<=l.length/\fr=mkF [(1,pT (Z B)),(4,d),(5,i)]/\PR u d l/\Ct d l.length/\Le C u/\aeH n (l.length-i) i l=F/\l.Sublist es) ⟨0,es,d,rfl,vZ _,rfl,E.pr,E.ct,(by grind[Le.trans]),b.symm,afK _⟩ ?_;clear E w4 l4 H b o q;clear d;rintro k fr u aa ⟨i,l,d,rfl,hi,rfl,pl,cl,I,b,hs⟩;have S:=fun g=>pl.len g;have ae:l.length<=594:=VU hs.length_le t;have ag:=f.trans I;by_cases c:i<l.length
 rotate_left
 .have dc:decide ((i:Int)<(l.length:Int))=fF:=WA NH;have J:((i:Int)<(l.length:Int))=False:=pw;have K:l.length-i=0:=NH;rw[K]at b;have b:l=F:=b;refine Sk (Yb S dc J) ?_;exact pw
 have dc:decide ((i:Int)<(l.length:Int))=tT:=qL7 NH;have J:((i:Int)<(l.length:Int))=True:=pw;have hk:l.length-i=(l.length-(i+1))+1:=NH;rw[hk,aeH,Z6 c]at b;have aw:=aaa i NH;refine Sk (Yb S dc J) ?_;refine kCi qS30 (DA e d l u pl NH) ?_;rintro cv h5 w5 ⟨g5,l5,a5⟩;simp only[HO,seval,aw];refine kCi func62 (aeY e g5 c NH) ?_;rintro T U w6 ⟨L,c6,k6⟩;have j:=k6 u l5 a5;have M:=z U (I.trans j);have N:=Wj (n:=(n:Int)) L.sl;refine Sk (IX @Ii @Ip.eq_1 @EL M.2.1 N) ?_;refine kCi func60 (aaO e _ ⟨(n:Int),l.eraseIdx i⟩ U ⟨T,rfl,L⟩) ?_;rintro x h7 w7 ⟨⟨p,rfl,a⟩,O⟩;simp only[IE]at a;have w:=(agP l i).trans hs;have ai:bX ⟨(n:Int),l.eraseIdx i⟩:=D.sub w;have P:(l.eraseIdx i).length=l.length-1:=by rw[TN,Z6 c]
 have y:=I.trans (j.trans O);cases p with
 |true=>rw[Z6 (a.1 rfl).2]at b;simp only[HO,seval,aw];exact lgA NH ⟨i+1,l,d,rfl,c,rfl,pl.le (j.trans O),cl,y,b,hs⟩
 |false=>rw[abe pw]at b;refine Uy ?_;exact lgA NH ⟨i,l.eraseIdx i,T,rfl,NH,rfl,L.le O,c6,y,by rw[P,show l.length-1-i=l.length-(i+1) by omega];exact b,w⟩
end
end Go.Fw
