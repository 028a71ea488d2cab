/- A text. -/
import Derived.Test.YtnakkbhjoiheoaaGreatFwLJ22
set_option linter.all false
set_option maxRecDepth 99999
set_option maxHeartbeats 9999999
open Go.Proofs
open Option renaming some→Z,none→Y
open Bool renaming true→tT,false→fF
open List renaming range→rG
open Go.Value renaming slice→sL,pointer→pT
open Go renaming Value→vV
open Go.Proofs.Tryz renaming prog→pG
open Go.Proofs.Tryz
namespace Go.Fw
section
attribute [local irreducible] Kp MQ lU KO1 KO KN KX KE VK Kl ZJ TC aab
attribute [local irreducible] Jz JL vq cQ
variable {h:aai} {i n:Nat} {ps:List Pr} {v:Value} {x:Int}
theorem aeW(J:LA)(id n i cap:Nat)(c:xLV)(h:aai)(K:h.own id=Z (.cells c))(hl:n*2<=c.length)(D:(c.take (n*2)).all (·.oneCell')=tT)(hi:i<n)(hn:n<=100000)(w:n<=cap)(E:cap<UNK):
  AC pG J 62 [sL (Z ⟨id,0,Y⟩) n cap,.int .i64 (i:Int),.int .i64 ((i+1:Nat):Int)] h fun x h'=>
   ∃n',n'<=cap/\x=sL (Z ⟨id,0,Y⟩) n' cap/\n'=n-1/\∃c',(h'.own id=Z (.cells c')/\(∀f,Le f h->f.own id=Y->Le f h')/\∀b o,b≠id->h.own b=Z o->h'.own b=Z o)/\c'.take ((n-1)*2)=c.take (i*2)++((c.drop ((i+1)*2)).take ((n-(i+1))*2)):=by
 have k:¬UNK<=cap:=aiM.2 E;have d:=eY;have j:=qS8;have L:(0:Int)<=(i:Int):=NH;have M:(i:Int)<=((i+1:Nat):Int):=NH;have e3:((i+1:Nat):Int)<=(n:Int):=NH;have e4:(0:Int)<=((i+1:Nat):Int):=NH;have F:(0:Int)<=(n:Int):=NH;have G:(n:Int)<=(cap:Int):=NH;have e7:(i:Int)<=(cap:Int):=NH;have y:∃v,abf pG 22 (sL (Z ⟨id,0,Y⟩) n cap) (Z (.int .i64 (i:Int))) (Z (.int .i64 ((i+1:Nat):Int))) (Z (.int .i64 (n:Int)))=Z v:=by
  refine⟨vV.slice (if n=i then Z ⟨id,0,Y⟩else Z ⟨id,i*2,Y⟩) (i+1-i) (n-i),?_⟩
  .simp only[abf,d,k,if_false,w,j,Q9,and_self,if_true,abm,abL,L,M,e3,e4,F,G,Z6,uu,Ip,WE,Gc]
 obtain⟨v1,y⟩:=y;have N:abf pG 22 (sL (Z ⟨id,0,Y⟩) n cap) Y (Z (.int .i64 (i:Int))) Y=Z (sL (Z ⟨id,0,Y⟩) i cap):=pn d j i NH w E
 have O:abf pG 22 (sL (Z ⟨id,0,Y⟩) n cap) (Z (.int .i64 ((i+1:Nat):Int))) Y Y=Z (.slice (if cap=i+1 then Z ⟨id,0,Y⟩else Z ⟨id,(i+1)*2,Y⟩) (n-(i+1)) (cap-(i+1))):=by have Q:((i+1:Nat):Int)<=(n:Int):=e3;simp only[abf,d,k,if_false,w,j,Q9,and_self,if_true,abm,abL,e4,Q,Z6,uu,Ip,WE,Gc]
 have rd:∀e,UA pG e=2->aby pG h e (.slice (if cap=i+1 then Z ⟨id,0,Y⟩else Z ⟨id,(i+1)*2,Y⟩) (n-(i+1)) (cap-(i+1)))=Z (n-(i+1),(c.drop ((i+1)*2)).take ((n-(i+1))*2)):=fun e he=>by
  by_cases q:cap=i+1
  .have z:n-(i+1)=0:=NH;rw[IE q,z];simp[aby,abN]
  grind[qF,aby]
 have nl:((c.drop ((i+1)*2)).take ((n-(i+1))*2)).length=(n-(i+1))*2:=hGr;have n1:((c.drop ((i+1)*2)).take ((n-(i+1))*2)).all (·.oneCell')=tT:=by
  rw[DF]at D ⊢;intro x R;refine D x ?_;obtain⟨q,A⟩:=vZ.1 R;rw[wV]at A;split at A
  .refine BS (i:=(i+1)*2+q) ?_;grind
  .cases A
 have app:∃c1 l,(l.own id=Z (.cells c1)/\(∀f,Le f h->f.own id=Y->Le f l)/\∀b o,b≠id->h.own b=Z o->l.own b=Z o)/\aaR pG h 22 22 (sL (Z ⟨id,0,Y⟩) i cap) (.slice (if cap=i+1 then Z ⟨id,0,Y⟩else Z ⟨id,(i+1)*2,Y⟩) (n-(i+1)) (cap-(i+1)))=Z (sL (Z ⟨id,0,Y⟩) (n-1) cap,l)/\c1.length=c.length/\
   c1.take ((n-1)*2)=c.take (i*2)++((c.drop ((i+1)*2)).take ((n-(i+1))*2)):=by
  have u:acd pG 49=Z (.agg #[vV.int .i64 0,vV.int .i64 0]):=Ji;have H:(vV.agg #[vV.int .i64 0,vV.int .i64 0]).cells.size=UA pG 49/\(vV.agg #[vV.int .i64 0,vV.int .i64 0]).cells.toList.all (·.oneCell')=tT:=⟨by kernel_rfl,by kernel_rfl⟩;have hs:=rd 49 WE;have S:pG.bytesOf 49<=1000:=by decide
  have T:(i+(n-(i+1)))*pG.bytesOf 49<=140737488355328:=EP (adN (show i+(n-(i+1))<=100000 by omega) S) WY;have U:i+(n-(i+1))<=140737488355328:=NH;have I:(vV.agg #[vV.int .i64 0,vV.int .i64 0]).cells.size=UA pG 49/\(vV.agg #[vV.int .i64 0,vV.int .i64 0]).cells.toList.all (·.oneCell')/\(pG.underlying 49).isSome/\acL (.slice 49)/\((c.drop ((i+1)*2)).take ((n-(i+1))*2)).all (·.oneCell')/\(i+(n-(i+1)))*pG.bytesOf 49<=140737488355328/\i+(n-(i+1))<=140737488355328/\((c.drop ((i+1)*2)).take ((n-(i+1))*2)).length=(n-(i+1))*UA pG 49:=⟨H.1,H.2,by rfl,rfl,n1,T,U,by grind[WE]⟩;by_cases V:n-(i+1)=0
  .refine⟨c,h,hGr,?_,rfl,?_⟩
   .simp only[aaR,d,u,hs];grind
   .rw[V];grind
  .have room:i*2+((c.drop ((i+1)*2)).take ((n-(i+1))*2)).length<=c.length:=hGr;refine⟨putCells c (i*2) ((c.drop ((i+1)*2)).take ((n-(i+1))*2)),_,⟨aai.Y3 _ _ _,fun f W hf=>W.put _ hf,fun b o hb K=>by grind[aai.By]⟩,?_,O7 _ _ _,?_⟩
   .simp only[aaR,d,u,hs];grind[WE]
   .rw[IW _ _ _ room,aeu hGr,HV hGr]
 obtain⟨c1,l,⟨X,aa,ae⟩,app,ag,B⟩:=app;have S4:abf pG 22 (sL (Z ⟨id,0,Y⟩) (n-1) cap) (Z (.int .i64 ((n-1:Nat):Int))) (Z (.int .i64 (n:Int))) Y=Z (sL (Z ⟨id,(n-1)*2,Y⟩) 1 (cap-(n-1))):=by have a1:((n-1:Nat):Int)<=(n:Int):=NH;have a2:(0:Int)<=((n-1:Nat):Int):=NH;have a3:n-1<=cap:=NH;have a4:¬cap=n-1:=NH;have a5:n-(n-1)=1:=NH;simp only[abf,d,k,if_false,a3,j,Q9,and_self,if_true,abm,abL,F,G,a1,a2,Z6,a4,a5,uu,Ip,WE,Gc]
 have p:∃c2,ae9 pG l 22 (sL (Z ⟨id,(n-1)*2,Y⟩) 1 (cap-(n-1)))=Z (.tuple #[],l.put id (.cells c2))/\c2.take ((n-1)*2)=c1.take ((n-1)*2):=by
  have u:acd pG 49=Z (.agg #[vV.int .i64 0,vV.int .i64 0]):=Ji;have ai:(vV.agg #[vV.int .i64 0,vV.int .i64 0]).cells=#[vV.int .i64 0,vV.int .i64 0]:=Ji;have zr:acY (vV.agg #[vV.int .i64 0,vV.int .i64 0]).cells.toList 1=[vV.int .i64 0,vV.int .i64 0]:=Ji;refine⟨putCells c1 ((n-1)*2) [vV.int .i64 0,vV.int .i64 0],?_,?_⟩
  .have r:(n-1)*2+1*(vV.agg #[vV.int .i64 0,vV.int .i64 0]).cells.size<=c1.length:=hGr;have fl:(vV.agg #[vV.int .i64 0,vV.int .i64 0]).cells.toList.all flat=tT:=Ji;simp only[ae9,d,u,X,fl,r,decide_true,Bool.and_self,cond_true,zr];rfl
  grind[IW]
 obtain⟨c2,p,C⟩:=p;refine AC.vE ⟨func62,rfl,WY⟩ ntmps62 results62 fun aj=>?_;simp only[Br,seval];have s:=fun m g=>Jg (P:=pG) (t:=22) (a:=Z ⟨id,0,Y⟩) (n:=m) (cap:=cap) d g;have d1:decide ((i:Int)=((i+1:Nat):Int))=fF:=WA NH;refine sFa (ae7 s y @ag6 d1) ?_;refine gh (tA [0,1,2,3,4,5] (JQ 6 [2,5] (JQ 7 [0,1,2,3,4,5,6] .done))) ?_;simp only[HO,seval,Qg,N,O,app,s,S4,p];exact⟨n-1,NH,rfl,rfl,c2,(by grind[aai.Y3,Le.put,aai.By]),by rw[C,B]⟩
theorem aeX:∀(l:xLP)(i:Nat),i<l.length->(Iu l).take (i*2)++((Iu l).drop ((i+1)*2)).take ((l.length-(i+1))*2)=Iu (l.eraseIdx i):=by grind[afq,za,Ta,mZ,List.eraseIdx_eq_take_drop_succ]
theorem aeY(q:LA)(g:GP h v ps)(hi:i<ps.length)(s:ps.length<=100000):
  AC pG q 62 [v,i,((i+1:Nat):Int)] h fun x h'=>PR h' x (ps.eraseIdx i)/\Ct x (ps.eraseIdx i).length/\∀f,Le f h->Z2 f v->Le f h':=by
 have a:(ps.eraseIdx i).length=ps.length-1:=by rw[qL191,IE hi]
 have w:=aeX ps i hi;have d:=WI ps;obtain⟨y,⟨rfl,D⟩|⟨id,c,cap,rfl,t,p,z⟩⟩:=g
 .omega
 have e:ps.length*2<=c.length:=by have:=congrArg List.length p;rw[KG,y]at this;omega
 have A:c.take (i*2)=(Iu ps).take (i*2):=by rw[<-p,List.take_take];congr 1;omega
 have B:(c.drop ((i+1)*2)).take ((ps.length-(i+1))*2)=((Iu ps).drop ((i+1)*2)).take ((ps.length-(i+1))*2):=by rw[<-p,qL226,List.take_take];congr 1;omega
 have u:(c.take (ps.length*2)).all (·.oneCell')=tT:=by rw[p];exact d
 have fin:∀(cap':Nat)(h':aai)(c':xLV),h'.own id=Z (.cells c')->c'.take ((ps.length-1)*2)=c.take (i*2)++((c.drop ((i+1)*2)).take ((ps.length-(i+1))*2))->PR h' (sL (Z id) (ps.length-1) cap') (ps.eraseIdx i):=fun cap' h' c' j ct=>by
  rw[A,B,w]at ct;have l:(ps.eraseIdx i).length=ps.length-1:=by rw[qL191,IE hi]
  have hlen:(ps.length-1)*2<=c'.length:=by have:=congrArg List.length ct;rw[KG,Ta,l]at this;omega
  have:=CS.own (k:=2) (off:=0) (n:=ps.length-1) (cap:=cap') j NH;rw[akv,ct]at this;unfold PR;rw[l];exact this
 rcases z with rfl|⟨rfl,m⟩
 .refine(AC.exact (Q:=fun n' h'=>n'=ps.length-1/\∃c',(h'.own id=Z (.cells c')/\(∀f,Le f h->f.own id=Y->Le f h')/\∀b o,b≠id->h.own b=Z o->h'.own b=Z o)/\c'.take ((ps.length-1)*2)=c.take (i*2)++((c.drop ((i+1)*2)).take ((ps.length-(i+1))*2))) NH fun cap h2 h3=>aeW q id ps.length i cap c h t e u hi s h2 h3).mono ?_;rintro x h' ⟨n',rfl,rfl,c',⟨j,fr,C⟩,ct⟩;exact⟨fin _ h' c' j ct,by rw[a];exact⟨_,_,rfl,hGr⟩,fun f r af=>fr f r (af id rfl)⟩
 .refine(aeW q id ps.length i ps.length c h t e u hi s (qL0 _) (Nat.lt_trans m WY)).mono ?_;rintro x h' ⟨n',-,rfl,rfl,c',⟨j,fr,C⟩,ct⟩;exact⟨fin _ h' c' j ct,by rw[a];exact⟨_,_,rfl,.inl ⟨Nat.lt_trans m WY,NH⟩⟩,fun f r af=>fr f r (af id rfl)⟩
def LessI_any(d:LA)(a b:Int)(h:aai):AC pG d 120 [a,b] h fun x h'=>x=.bool (decide (a<b))/\h'=h:=by
 refine AC.vE ⟨func120,rfl,WY⟩ ntmps120 results120 fun e=>?_;simp only[Br,seval];refine sSs ?_;refine kCi qS29 (Pd d a h) ?_;rintro x f w1 ⟨rfl,rfl⟩;by_cases c:a<b
 .simp only[HO,seval,c];exact⟨Ma,trivial⟩
 .simp only[HO,seval,c];exact⟨Ma,trivial⟩
theorem acI(u:LA)(v:vV)(xs:RZ)(x:Int)(h:aai)(l:RL RP h v xs)(M:xs.length<=1000)(ha:xs.Pairwise (·<·))(A:x∈xs):
  AC pG u 137 [v,x] h fun y h'=>(∃i:Nat,y=.tuple #[.int .i64 i,.bool tT]/\xs[i]?=Z x)/\h'=h:=by
 have lt:∀(i j:Nat) a b,i<j->xs[i]?=Z a->xs[j]?=Z b->a<b:=fun i j a b B hi C=>by obtain⟨N,rfl⟩:=Ny.1 hi;obtain⟨h2,rfl⟩:=Ny.1 C;exact(by grind[List.pairwise_iff_getElem])
 obtain⟨q,f⟩:=vZ.1 A;have n:=(Ny.1 f).1;refine AC.vE ⟨func137,rfl,WY⟩ ntmps137 results137 fun D=>?_;simp only[Br,seval];have E:=fun g=>l.DH g;refine sFa E ?_;refine lIn (fun k fr hh=>∃lo hi:Nat,k=hi-lo/\lo<=q/\q<=hi/\hi<=xs.length/\fr=mkF [(0,v),(1,x),(6,xs.length),(7,lo),(8,.int .i64 hi)]/\hh=h) ⟨0,xs.length,rfl,abe _,NH,qL0 _,rfl,rfl⟩ ?_;rintro k fr hh F ⟨lo,hi,rfl,p,s,t,rfl,rfl⟩;refine sSs ?_;refine Kl.intro (fun w=>?_) (fun hf=>?_)
 .have G:lo<hi:=CC w;clear w;have a1:aaY .i64 ((lo:Int)+(hi:Int))=((lo+hi:Nat):Int):=by grind[cT]
  have a2:=aw_u64 (lo+hi) NH;have H:=Tq (lo+hi) NH;have I:aaY .i64 (((lo+hi) / 2:Nat):Int)=(((lo+hi) / 2:Nat):Int):=cT _ NH NH;have O:(lo+hi) / 2<hi:=NH;have J:lo<=(lo+hi) / 2:=NH;refine sFa (afN a1 @cv3u a2 H @cvu3 I) ?_;generalize (lo+hi) / 2=m at*;have d:m<xs.length:=NH;have ad:=l.TA m d;have ld:=l.Uc m d;have o:=CA d;generalize xs[m]=y at*;simp only[HO,seval,ad,ld];refine kCi func120 (LessI_any u y x hh) ?_;rintro z h3 P ⟨rfl,rfl⟩;by_cases c:y<x
  .have dc:decide (y<x)=tT:=qL7 c;have e:m<q:=by
    rcases IK m q with r|r|r
    .exact r
    .subst r;rw[o]at f;injection f with f;omega
    .have:=lt q m x y r f o;omega
   refine sFa (XC dc (aaa m NH)) ?_;exact lgA NH ⟨m+1,hi,rfl,e,s,t,rfl,rfl⟩
  .have dc:decide (y<x)=fF:=WA c;have e:q<=m:=by
    rcases abz m q with r|r
    .exact hGr
    .exact r
   refine sFa dc ?_;exact lgA NH ⟨lo,m,rfl,p,e,NH,rfl,rfl⟩
 have K:hi<=lo:=vp hf;obtain rfl:lo=q:=NH;have dl:decide ((lo:Int)<(xs.length:Int))=tT:=qL7 NH;have ad:=l.TA lo n;have ld:=l.Uc lo n;rw[(Ny.1 f).2]at ld;have dx:decide (x=x)=tT:=qL7 rfl;have L:((lo:Int)<(xs.length:Int))=True:=hGr;simp only[HO,seval,L,dl,ad,ld,dx];exact hGr
def idx_eq{b:xLP}(h:(kz (aag n b))[i]?=Z x):i=abD n b x:=by
 have f:(aag n b).Pairwise (·<·):=U9.filter _;unfold abD;generalize aag n b=l at*
 induction l generalizing i with
 |nil=>simp[kz]at h
 |cons a l g=>
  obtain⟨d,h2⟩:=acg.1 f;cases i with
  |zero=>
   have e:x=(a:Int):=by simpa[kz]using h.symm
   subst e;rw[qL168.2];intro v j;rcases Og.1 j with rfl|q
   .simp
   .have:=d v q;simp;omega
  |succ i=>
   have h':(kz l)[i]?=Z x:=by simpa[kz]using h
   have hi:=g h' h2;obtain⟨w,hw,e⟩:=Eh.1 (BS h');have c:(a:Int)<x:=by have:=d w hw;omega
   rw[qL212,IE (by simpa using c),<-hi]
def mkKI2(h:aai)(a b:Int):aas pG h 28 2 [(0,a),(1,b)]=Z (sL (Z h.next) 2 2,h.alloc (.cells [a,b])):=Ji
def agH(l:xLP)(p:Pr):adJ (l++[p])=adJ l++[p.1,p.2]:=by simp[adJ]
def agu(l:xLP):(adJ l).length=2*l.length:=by
 induction l with
 |nil=>rfl
 |cons p l a=>simp only[adJ,Ug,aaf,ah6,air]at*;omega
theorem flat_any(m:LA)(bv:vV)(n:Nat)(b:xLP)(h:aai)(r:PR h bv b)(hR:aV n b)(hn:n<=200)(hl:b.length<=594):
  AC pG m 90 [bv] h fun x h'=>RR (aaV n b) x/\Le h h':=by
 have C:=fun g=>r.len g;refine AC.vE ⟨func90,rfl,WY⟩ ntmps90 results90 fun aa=>?_;simp only[Br,seval];by_cases W:b.length<9
 .have D:decide ((b.length:Int)<9)=tT:=qL7 NH;refine sFa (XC C D) ?_;exact⟨⟨tT,rfl,fun _=>.inl W,fun _=>rfl⟩,Le.refl _⟩
 have D:decide ((b.length:Int)<9)=fF:=WA NH;refine sFa (XC C D) ?_;refine lIn (fun k fr o=>∃(i:Nat)(z:vV),k=b.length-i/\i<=b.length/\fr=mkF [(0,bv),(3,z),(18,bv),(19,.int .i64 b.length),(20,i)]/\GI o z (adJ (b.take i))/\Le h o/\Z2 h z) ⟨0,_,rfl,abe _,rfl,GI.nil h,Le.refl _,fun b hb=>by simp[blk]at hb⟩ ?_;rintro k fr o E ⟨i,z,rfl,hi,rfl,g,F,ap⟩;refine sSs ?_;refine Kl.intro (fun s=>?_) (fun hf=>?_)
 .have d:i<b.length:=CC s;clear s;have f:=CA d;have l:b.take (i+1)=b.take i++[b[i]]:=EL d;have hle:(adJ (b.take i)).length<=2000:=by rw[agu,KG];omega
  generalize b[i]=p at f l;have ad:=r.addr (k:=.i64) i d;have ld:=(r.le F).load f;obtain⟨ae,h3,e2,e3,j,H,o3⟩:=Ut E p;have m0:=lK o3;have m1:=HY o3;have l3:=F.trans j;obtain⟨A,e4,l4,w4,o4⟩:=Tt H [p.1,p.2];have bs:=mkKI2 h3 p.1 p.2;rw[e4]at bs
  have r4:RL RP A (sL (Z h3.next) 2 2) [p.1,p.2]:=RL.Wh (RS.whole o4 rfl)
  obtain⟨jv,h6,J,K,w6,f6,-⟩:=GI.join ((g.le j).le l4) w4 r4 (by simp;omega);obtain⟨l6,aj⟩:=f6 h (l3.trans l4) ap;rw[<-agH,<-l]at K;simp only[HO,seval,ad,ld,e2,e3,Dh,Z0,Ip,Gc,m0,m1,bs,J,aaa i NH];exact lgA (JS d) ⟨i+1,jv,rfl,d,rfl,K,l6,aj⟩
 have t:b.length<=i:=vp hf;rw[HV t]at g;refine sSs ?_;refine kCi qS25 (VQ m g (by rw[agu];omega)) ?_;rintro x h2 w2 ⟨rfl,g2,k2⟩;have L:=k2 h F ap;refine sSs ?_;refine kCi func58 (VY m g2 (by rw[OX,agu];omega)) ?_;rintro M h3 w3 ⟨N,-,k3⟩;have j:=k3 h L ap;rw[adX hR]at N;have lv:=fun g=>N.DH g;rw[y6]at lv;obtain⟨A,h5,e4,e5,l5,w5,nX,G0⟩:=GX.new w3 ((aag n b).length:Int);refine sFa (afK lv @ait e4 e5 C) ?_;have ag:(aag n b).length<=200:=EP (im _ _) (by simp;omega);have u:(kz (aag n b)).Pairwise (·<·):=by unfold kz;rw[vY];exact(U9.filter _).imp fun h=>by omega
 have O:h3.own h3.next=Y:=by grind[Le.next]
 generalize h3.next=X at*
 refine lIn (fun k fr o=>∃(i:Nat)(ev:vV),k=b.length-i/\i<=b.length/\fr=mkF [(3,M),(6,pT (Z X)),(39,bv),(40,.int .i64 b.length),(41,i)]/\GX o X (aag n b).length ev (aat n b|>.take i)/\Le h3 o/\Z2 h3 ev) ⟨0,_,rfl,abe _,rfl,G0,l5,fun b hb=>by simp[blk]at hb⟩ ?_;clear G0 w5 l5 e5 e4;rintro k fr hz P ⟨i,ev,rfl,hi,rfl,G,B,az⟩;refine sSs ?_;refine Kl.intro (fun s=>?_) (fun hf=>?_)
 .have d:i<b.length:=CC s;clear s;have f:=CA d;have Q:(aat n b)[i]?=Z ((abD n b b[i].1:Int),(abD n b b[i].2:Int)):=by rw[aat,MY,f];rfl
  have l:(aat n b).take (i+1)=(aat n b).take i++[((abD n b b[i].1:Int),(abD n b b[i].2:Int))]:=by rw[kS,Q];rfl
  have v:((aat n b).take i).length+1<=100000:=by rw[KG];omega
  have ai:=BS f;have hm:∀x,aO b[i] x=tT->x∈kz (aag n b):=by grind[adX,jn,Wv,aeS]
  have R:=hm b[i].1 (by simp[aO]);have S:=hm b[i].2 (by simp[aO]);generalize b[i]=p at*;have ad:=r.addr (k:=.i64) i d;have ld:=(r.le (j.trans B)).load f;obtain⟨al,h6,J,s6,l6,w6,o6⟩:=Ut P p;have m0:=lK o6;have m1:=HY o6;have r6:=N.le Nn.RP (B.trans l6);have aw:=aaa i NH;simp only[HO,seval,ad,ld,J,s6,Dh,Z0,Ip,Gc,m0];refine kCi func137 (acI m M _ p.1 h6 r6 (by rw[y6];omega) u R) ?_;rintro y h7 w7 ⟨⟨a,rfl,ha⟩,rfl⟩;refine sFa (afK @Dh @Z0 @Ip.eq_1 @Gc m1) ?_;refine kCi func137 (acI m M _ p.2 h7 r6 (by rw[y6];omega) u S) ?_;rintro y h8 w8 ⟨⟨c,rfl,hc⟩,rfl⟩;obtain rfl:=idx_eq ha;obtain rfl:=idx_eq hc;have G6:=G.le l6;obtain⟨v',g4,g5,K,q4,q5,q6,G7,aq,l7,f7,-⟩:=G6.push' w8 ((abD n b p.1:Int),(abD n b p.2:Int)) v;obtain⟨T,a7⟩:=f7 h3 (B.trans l6) O az;rw[<-l]at G7;have U:=xe (abD n b p.1:Int) (abD n b p.2:Int);simp only[HO,seval,Di,Ip,Gc,G6.ld.2.2,U,q4,q5,q6,aw];exact lgA (JS d) ⟨i+1,v',rfl,d,rfl,G7,T,a7⟩
 have t:b.length<=i:=vp hf;have v:(aat n b).length=b.length:=by simp[aat]
 rw[HV NH]at G;refine sFa G.ld.1 ?_;refine kCi func59 (Im m _ ⟨((aag n b).length:Int),aat n b⟩ hz ⟨ev,rfl,G.gp.pr,GS.okc G.gp⟩) ?_;rintro x h9 w9 ⟨l9,rv,e,rfl,I⟩;have V:=(j.trans B).trans l9;have key:decide (e=0)=tT↔aaV n b:=by
  rw[uV];constructor
  .intro he;rcases I with⟨-,q,-⟩|⟨-,-,q,-⟩|⟨-,-,-,-,q,-⟩|⟨w,h2,rs,-,h3,A,-⟩
   .omega
   .omega
   .omega
   .exact .inr ⟨w,h2,Vg w.GD w.q9 h3 A⟩
  .rintro(q|⟨w,h2,h3⟩)
   .exact absurd q W
   .obtain⟨rs,-,-,-,q,-⟩:=I.XK w h2 h3;exact q
 refine sSs ?_;exact⟨⟨_,rfl,key⟩,V⟩
def fkM_len(key:Pr->Int)(es:xLP):(CY key es).length<=es.length:=by
 have:∀(es:xLP)(ks:RZ),(es.foldl (fkS key) ks).length<=ks.length+es.length:=by
  intro es
  induction es with
  |nil=>simp
  |cons p es a=>
   intro ks;have:=a (fkS key ks p);have h2:(fkS key ks p).length<=ks.length+1:=by unfold fkS;split<;>simp
   simp only[Dj,ah6];omega
 have:=this es [];rw[air,Gc]at this;exact this
def afx(n:Nat)(es:xLP):(vq n es).length<=es.length:=by rw[aaB,fj];exact fkM_len _ _
theorem aaO(o:LA)(v:vV)(G:GM)(h:aai)(hg:GR h v G):
  AC pG o 60 [v] h fun x h'=>RR (bX G/\aak G.n.toNat G.es) x/\Le h h':=by
 have j:=hg;obtain⟨D,es⟩:=G
 obtain⟨ev,rfl,E⟩:=hg.open
 refine AC.vE ⟨func60,rfl,WY⟩ ntmps60 results60 fun F=>?_;simp only[Br,seval];obtain⟨O,T,r,U,-,Q⟩:=r8 (n:=D) F E
 generalize h.next=B at*
 have H:=Q O (Le.refl _);refine sFa (XC T H.1) ?_;refine kCi func34 (Cw o _ ⟨D,es⟩ O (j.le r)) ?_;rintro x h2 w2 ⟨l2,V⟩;have s:=Q h2 l2;have l:=r.trans l2;rcases V with⟨W,rfl⟩|⟨m,X,rfl,z⟩
 .refine sFa s.1 ?_;refine kCi qS7 (ak o _ _ h2 (j.le l)) ?_;rintro x h3 w3 ⟨⟨t,rfl,a⟩,l3⟩;cases t with
  |true=>exact absurd (a.1 rfl) W
  |false=>refine sSs ?_;exact(by grind[RR.f,Le.trans])
 refine sFa s.1 ?_;refine kCi qS7 (ak o _ _ h2 (j.le l)) ?_;rintro x h3 w3 ⟨⟨t,rfl,a⟩,l3⟩;obtain rfl:t=tT:=a.2 m;clear a;have I:=l.trans l3;have h0:0<=D:=m.n0;obtain⟨n,rfl⟩:=Sb h0;simp only[Z6]at z ⊢;have lk:=fun g=>z.len (P:=pG) zj g;have aa:aak n es↔∀b∈vq n es,aaV n b:=⟨fun q=>q.2,fun q=>⟨m,q⟩⟩;have w:∀b∈vq n es,b.Sublist es:=by grind[List.mem_iff_getElem?,Jh,List.filter_sublist]
 have ae:(vq n es).length<=100000:=by have:=afx n es;have:es.length<=594:=m.len;omega
 generalize vq n es=bs at*;have d0:decide ((0:Int)=0)=tT:=by decide
 refine sFa (adG @bne.eq_1.{0} d0 lk) ?_
 refine lIn (fun k fr A=>∃i:Nat,k=bs.length-i/\i<=bs.length/\fr=mkF [(19,X),(20,.int .i64 bs.length),(21,.int .i64 i)]/\Le h3 A/\∀b∈bs.take i,aaV n b) ⟨0,rfl,abe _,rfl,Le.refl _,fun b hb=>by simp at hb⟩ ?_;rintro k fr A ag ⟨i,rfl,hi,rfl,C,e⟩;refine sSs ?_;refine Kl.intro (fun R=>?_) (fun hf=>?_)
 rotate_left
 .have J:bs.length<=i:=vp hf;rw[HV J]at e;refine sSs ?_;exact⟨⟨tT,rfl,hGr,fun _=>rfl⟩,I.trans C⟩
 have d:i<bs.length:=CC R;clear R;have K:bs.take (i+1)=bs.take i++[bs[i]]:=EL d;have L:=aev d;have M:=z.addr (P:=pG) zj eY Ji (k:=.i64) i d;obtain⟨u,N,hu⟩:=z.load' (P:=pG) eY rfl i d;have lu:=N A (l3.trans C);generalize bs[i]=b at*;have hs:=w b L;have y:b.length<=594:=EP hs.length_le m.len;simp only[HO,seval,M,lu];refine kCi func90 (flat_any o u n b A (hu.le (l3.trans C)) (fun p E=>m.GD p (hs.subset E)) (by have:(n:Int)<=200:=m.n1;omega) y) ?_;rintro x h5 w5 ⟨⟨t,rfl,a⟩,l5⟩;cases t with
 |false=>refine sSs ?_;exact(by grind[RR.f,Le.trans])
 |true=>
  refine sFa (aaa i NH) ?_;exact lgA (JS d) ⟨i+1,rfl,d,rfl,C.trans l5,fun c S=>by
   rw[K]at S;rcases aax.1 S with q|q
   .exact e c q
   .rw[xD.1 q];exact a.1 rfl⟩
attribute [local instance] Classical.propDecidable in
theorem KFind_any(e:LA)(v:vV)(G:GM)(h:aai)(hg:GR h v G):
  AC pG e 36 [v] h fun x h'=>Le h h'/\((¬bX G/\x=.tuple #[.slice Y 0 0,.int .i64 20])\/(bX G/\∃d,x=.tuple #[d,.int .i64 0]/\PR h' d (abv G)/\Ct d (abv G).length)):=by
 have m:=hg;obtain⟨Q,es⟩:=G
 obtain⟨ev,rfl,R⟩:=hg.open
 refine AC.vE ⟨func36,rfl,WY⟩ ntmps36 results36 fun A=>?_;simp only[Br,seval];obtain⟨C,V,f,W,-,z⟩:=r8 (n:=Q) A R
 generalize h.next=B at*
 have o:=z C (Le.refl _);refine sFa (XC V o.1) ?_;refine kCi qS7 (ak e _ _ C (m.le f)) ?_;rintro x h2 w2 ⟨⟨p,rfl,a⟩,l2⟩;have q:=z h2 l2;have r:=f.trans l2;cases p with
 |false=>refine sSs ?_;exact hGr
 |true=>
 have D:=a.1 rfl;clear a;have X:0<=Q:=D.n0;obtain⟨n,rfl⟩:=Sb X;refine sFa q.1 ?_;refine kCi func60 (aaO e _ ⟨(n:Int),es⟩ h2 (m.le r)) ?_;rintro x h3 w3 ⟨⟨p,rfl,a⟩,l3⟩;simp only[Z6]at a;have s:=r.trans l3
 have hf:∀F,F=abv ⟨(n:Int),es⟩->F=if aak n es then[]else aeH n es.length 0 es:=fun F b=>b
 cases p with
 |true=>have:=hf _ rfl;rw[IE (a.1 rfl).2]at this;refine sSs ?_;exact(by grind[GP.nil,GP.pr,GP.ct])
 |false=>
 have b:=hf _ rfl;rw[yM hGr]at b;generalize abv ⟨(n:Int),es⟩=F at*;clear hf a;have t:es.length<=594:=D.len;refine sFa (ae7 @Di @Ip.eq_1 @Gc ((z h3 (l2.trans l3)).2.2)) ?_;refine kCi qS38 (DA e ev es h3 (R.le s) NH) ?_;rintro d h4 w4 ⟨E,l4,-⟩;have H:=s.trans l4;refine sSs ?_;refine lIn (fun k fr u=>∃(i:Nat)(l:xLP)(d:vV),k=l.length-i/\i<=l.length/\fr=mkF [(1,pT (Z B)),(4,d),(5,i)]/\PR u d l/\Ct d l.length/\Le C u/\aeH n (l.length-i) i l=F/\l.Sublist es) ⟨0,es,d,rfl,abe _,rfl,E.pr,E.ct,(by grind[Le.trans]),b.symm,List.Sublist.refl _⟩ ?_;clear E w4 l4 H b o q;clear d;rintro k fr u aa ⟨i,l,d,rfl,hi,rfl,pl,cl,I,b,hs⟩;have S:=fun g=>pl.len g;have ae:l.length<=594:=EP hs.length_le t;have ag:=f.trans I;by_cases c:i<l.length
 rotate_left
 .have dc:decide ((i:Int)<(l.length:Int))=fF:=WA NH;have J:((i:Int)<(l.length:Int))=False:=hGr;have K:l.length-i=0:=NH;rw[K]at b;have b:l=F:=b;refine sFa (adG S dc J) ?_;exact hGr
 have dc:decide ((i:Int)<(l.length:Int))=tT:=qL7 NH;have J:((i:Int)<(l.length:Int))=True:=hGr;have hk:l.length-i=(l.length-(i+1))+1:=NH;rw[hk,aeH,IE c]at b;have aw:=aaa i NH;refine sFa (adG S dc J) ?_;refine kCi qS38 (DA e d l u pl NH) ?_;rintro cv h5 w5 ⟨g5,l5,a5⟩;simp only[HO,seval,aw];refine kCi func62 (aeY e g5 c NH) ?_;rintro T U w6 ⟨L,c6,k6⟩;have j:=k6 u l5 a5;have M:=z U (I.trans j);have N:=Wj (n:=(n:Int)) L.sl;refine sFa (afK @Ii @Ip.eq_1 @Gc M.2.1 N) ?_;refine kCi func60 (aaO e _ ⟨(n:Int),l.eraseIdx i⟩ U ⟨T,rfl,L⟩) ?_;rintro x h7 w7 ⟨⟨p,rfl,a⟩,O⟩;simp only[Z6]at a;have w:=(List.eraseIdx_sublist l i).trans hs;have ai:bX ⟨(n:Int),l.eraseIdx i⟩:=D.sub w;have P:(l.eraseIdx i).length=l.length-1:=by rw[qL191,IE c]
 have y:=I.trans (j.trans O);cases p with
 |true=>rw[IE (a.1 rfl).2]at b;simp only[HO,seval,aw];exact lgA NH ⟨i+1,l,d,rfl,c,rfl,pl.le (j.trans O),cl,y,b,hs⟩
 |false=>rw[yM hGr]at b;refine sSs ?_;exact lgA NH ⟨i,l.eraseIdx i,T,rfl,NH,rfl,L.le O,c6,y,by rw[P,show l.length-1-i=l.length-(i+1) by omega];exact b,w⟩
variable {a j:Nat}
def acJ(a j:Nat):xLP:=(rG (j-(a+1))).map fun t=>((a:Int),((a+1+t:Nat):Int))
def afP(f n:Nat):Nat->xLP
 |0=>[]
 |k+1=>afP f n k++acJ (f+k) n
def afy(h:a+1<=j):acJ a (j+1)=acJ a j++[((a:Int),(j:Int))]:=by unfold acJ;rw[show j+1-(a+1)=(j-(a+1))+1 by omega,rY,Bx];simp;omega
def ad4(a j:Nat):(acJ a j).length<=j:=by simp[acJ]
def ad5(f n:Nat):∀k,(afP f n k).length<=n*k
 |0=>qL0 _
 |k+1=>by have:=ad5 f n k;have:=ad4 (f+k) n;rw[afP,aaf,Nat.mul_add];omega
attribute [local instance] Classical.propDecidable
theorem agf{on on':Nat->Bool}(b:∀u,on u=fF->on' u=fF){es:xLP}{u w:Nat}(h:Cn on es u w):Cn on' es u w:=by
 induction h with
 |refl h=>exact .refl (b _ h)
 |step _ a o c=>exact .step c a (b _ o)
def agI{on:Nat->Bool}{es:xLP}{S:Nat->Prop}{x0 c:Nat}(h:Cn on es x0 c)(e:S x0)(b:¬S c):∃x y,S x/\¬S y/\Jp es x y/\Cn (fun u=>on u||decide (S u)) es y c:=by
 induction h with
 |refl _=>exact absurd e b
 |@step w x h a o f=>
  have d:(on x||decide (S x))=fF:=by rw[o,WA b];rfl
  by_cases hw:S w
  .exact⟨w,x,hw,b,a,.refl d⟩
  .obtain⟨p,q,g,h2,h3,i⟩:=f hw;exact⟨p,q,g,h2,h3,.step i a d⟩
theorem first_in{on:Nat->Bool}{es:xLP}{t a w:Nat}(ne:a≠t)(h:Cn on es a w):Cn (fun u=>on u||decide (u=t)) es a w\/∃z,Jp es z t/\Cn (fun u=>on u||decide (u=t)) es a z:=by
 induction h with
 |refl h=>exact .inl (.refl (by rw[h,WA ne];rfl))
 |@step w x h a o b=>
  rcases b with q|q
  .by_cases e:x=t
   .subst e;exact hGr
   .exact .inl (.step q a (by rw[o,WA e];rfl))
  .exact .inr q
def abb(n:Nat)(es:xLP)(k:Int):xLP:=es.filter fun p=>decide (cQ n es p=k)
section
variable{n:Nat}{es:List Pr}(hr:aV n es)
theorem aaw{k:Int}{p:Pr}:p∈abb n es k↔p∈es/\cQ n es p=k:=by simp[abb]
def ajm(k:Int):(abb n es k).Sublist es:=N8
include hr
def agh(k:Int):aV n (abb n es k):=fun p a=>hr p (aaw.1 a).1
theorem abM{k:Int}{u w:Nat}:Jp (abb n es k) u w↔Jp es u w/\cQ n es (GW u w)=k:=by
 constructor
 .intro h;have a:=aaw.1 (H4 (agh hr k) h);exact⟨h.imp (by grind[aaw]) (by grind[aaw]),a.2⟩
 .rintro⟨a,h2⟩;have b:=aaw.2 ⟨H4 hr a,h2⟩;have ne:u≠w:=fun e=>by subst e;exact Xa hr a
  rcases aeP ne with c|c
  .left;rwa[GW,Int.min_eq_left NH,Int.max_eq_right NH]at b
  .right;rwa[GW,Int.min_eq_right NH,Int.max_eq_left NH]at b
theorem blk_path{v a c:Nat}(ha:Jp es v a)(o:Jp es v c)(h:Cn (wo v) es a c):Cn (wo v) (abb n es (cQ n es (GW v a))) a c:=by
 generalize p:cQ n es (GW v a)=K;have nva:a≠v:=by grind[Xa]
 refine Hs fun r=>?_;have d:Cn (wo v) (abb n es K) a a:=.refl (iO nva);obtain⟨x,y,l,s,b,f⟩:=agI (S:=fun u=>Cn (wo v) (abb n es K) a u) h d r;have g:y≠v:=by grind[Cn.off1]
 have key:cQ n es (GW x y)=K:=by
  have off:∀u,(wo v u||decide (Cn (wo v) (abb n es K) a u))=fF->wo x u=fF:=by grind[of_decide_eq_false]
  have i:v≠x:=by grind[Cn.AB]
  have m:Cn (wo x) es y v:=.step (agf off f) o.symm (iO i);by_cases e:x=a
  .subst e;rw[(dR hr b ha.symm).2 m,so];exact p
  .rcases first_in (j3 e) l with q|⟨z,t,q⟩
   .have:=q.AB;simp at this
   .obtain⟨j,k⟩:=(abM hr).1 t;have w:Cn (wo x) es a z:=by
     have:Cn (wo x) (abb n es K) a z:=by grind[agf]
     exact(by grind[Cn.mono,aaw])
    have ya:Cn (wo x) es y z:=(Cn.step m ha hGr).trans w;rw[(dR hr b j.symm).2 ya,so];exact k
 exact s (.step l (by grind[abM]) (iO g))
theorem blk_one{k:Int}{p q:Pr}(b:p∈abb n es k)(d:q∈abb n es k):cQ n (abb n es k) p=cQ n (abb n es k) q:=by
 have hb:=agh hr k
 have:=adg hr (fun r=>if r∈abb n es k then cQ n (abb n es k) r else-1) (fun v a c ha f h=>?_) (aaw.1 b).1 (aaw.1 d).1 (by grind[aaw])
 .rw[IE b,IE d]at this;exact this
 have e:=(dR hr ha f).2 h;have m1:GW v a∈abb n es k↔cQ n es (GW v a)=k:=by rw[aaw];exact(by grind[H4])
 have m2:GW v c∈abb n es k↔cQ n es (GW v c)=k:=by rw[aaw];exact(by grind[H4])
 by_cases c1:cQ n es (GW v a)=k
 .have c2:cQ n es (GW v c)=k:=e▸c1;rw[IE (m1.2 c1),IE (m2.2 c2)];refine(dR hb (by grind[abM]) (by grind[abM])).2 ?_;have:=blk_path hr ha f h;rwa[c1]at this
 .rw[yM (fun q=>c1 (m1.1 q)),yM (fun q=>c1 (by rw[e];exact m2.1 q))]
end
def aaP{n:Nat}{es b:xLP}:b∈vq n es↔∃p∈es,b=abb n es (cQ n es p):=by
 rw[aaB,Eh];constructor
 .rintro⟨k,c,rfl⟩;obtain⟨p,a,rfl⟩:=((ahE (cQ n es) _ es rfl).2 k).1 c;exact⟨p,a,rfl⟩
 .rintro⟨p,a,rfl⟩;exact⟨cQ n es p,((ahE (cQ n es) _ es rfl).2 _).2 ⟨p,a,rfl⟩,rfl⟩
theorem ae0{n:Nat}{es:xLP}(h:∀p∈es,∀q∈es,cQ n es p=cQ n es q){b:xLP}(hb:b∈vq n es):b=es:=by obtain⟨p,a,rfl⟩:=aaP.1 hb;exact pz.2 (by grind[decide_eq_true])
theorem blocks_ne{n:Nat}{es:xLP}(h:∀p∈es,∀q∈es,cQ n es p=cQ n es q)(a:es≠[]):es∈vq n es:=by obtain⟨p,l,rfl⟩:=eR a;exact aaP.2 ⟨p,Ma,(pz.2 (by grind[decide_eq_true])).symm⟩
def aeo(n:Nat)(b:xLP):Prop:=bX ⟨(n:Int),b⟩/\b≠[]/\∀p∈b,∀q∈b,cQ n b p=cQ n b q
theorem aaQ{n:Nat}{es b:xLP}(hr:bX ⟨(n:Int),es⟩)(hb:b∈vq n es):aeo n b:=by obtain⟨p,d,rfl⟩:=aaP.1 hb;exact⟨hr.sub (ajm _),List.ne_nil_of_mem (aaw.2 ⟨d,rfl⟩),fun a ha c e=>blk_one hr.GD ha e⟩
theorem abc{n:Nat}{b:xLP}(h:aeo n b):aak n b↔aaV n b:=⟨fun q=>q.2 b (blocks_ne h.2.2 h.2.1),fun q=>⟨h.1,fun c a=>by rw[ae0 h.2.2 a];exact q⟩⟩
theorem acp{n:Nat}{es:xLP}(hr:bX ⟨(n:Int),es⟩):aak n es↔∀b∈vq n es,aak n b:=⟨fun q b hb=>(abc (aaQ hr hb)).2 (q.2 b hb),fun q=>⟨hr,(by grind[abc,aaQ])⟩⟩
section
variable{n:Nat}{b:List Pr}(hR:aV n b)
def acw(n:Nat)(b:xLP):II:=aag n b++(rG n).filter fun(v:Nat)=>!b.any fun p=>aO p (v:Int)
def toV(n:Nat)(b:xLP)(u:Nat):Nat:=(acw n b).idxOf u
def ofV(n:Nat)(b:xLP)(i:Nat):Nat:=(acw n b).getD i 0
theorem acx:(acw n b).Perm (rG n):=by exact List.filter_append_perm _ _
def adn:(acw n b).length=n:=by rw[(acx (n:=n) (b:=b)).length_eq,WZ]
theorem ordL_nd:(acw n b).Nodup:=by grind[acx]
def ads{u:Nat}:u∈acw n b↔u<n:=by rw[(acx (n:=n) (b:=b)).mem_iff,K4]
theorem toV_lt{u:Nat}(h:u<n):toV n b u<n:=by have:=qL156 (ads (b:=b)|>.2 h);rwa[adn]at this
def afz{i:Nat}(h:i<n):ofV n b i<n:=by
 have a:i<(acw n b).length:=by rw[adn];exact h
 have:ofV n b i=(acw n b)[i]:=D4 a;rw[this];exact ads.1 (aev a)
theorem abk{u:Nat}(h:u<n):ofV n b (toV n b u)=u:=by have c:=ads (b:=b)|>.2 h;have a:=qL156 c;unfold ofV toV;rw[D4 a];exact List.getElem_idxOf a
theorem toV_ofV{i:Nat}(h:i<n):toV n b (ofV n b i)=i:=by
 have a:i<(acw n b).length:=by rw[adn];exact h
 have e:ofV n b i=(acw n b)[i]:=D4 a;rw[e];exact List.Nodup.idxOf_getElem ordL_nd i a
def ren_V(n:Nat)(b:xLP):Ren n (toV n b) (ofV n b):=⟨fun _ h=>toV_lt h,fun _ h=>afz h,fun _ h=>toV_ofV h,fun _ h=>abk h⟩
theorem toV_idx{u:Nat}(h:u∈aag n b):toV n b u=abD n b (u:Int)/\toV n b u<(aag n b).length:=by
 have a:=qL156 h;have e:toV n b u=(aag n b).idxOf u:=by unfold toV acw;rw[List.idxOf_append,IE h]
 refine⟨?_,by rw[e];exact a⟩;rw[e];refine idx_eq (n:=n) (b:=b) ?_;rw[kz,MY,CA a];simp[List.getElem_idxOf a]
include hR
theorem aaJ{u:Nat}:u∈aag n b↔∃w,Jp b u w:=by
 rw[aeT];constructor
 .rintro⟨f,p,e,h⟩;obtain⟨a,c,ha,g,d,rfl⟩:=pair_ex hR e;have h':u=a\/u=c:=by simp only[aO,bj,ai7,uV]at h;omega
  rcases h' with rfl|rfl
  .exact⟨c,d⟩
  .exact⟨a,d.symm⟩
 .rintro⟨w,h⟩;refine⟨(h.lt hR).1,GW u w,H4 hR h,?_⟩;simp only[aO,bj,ai7,uV];omega
theorem aep{x y:Int}:(x,y)∈aat n b↔∃u w:Nat,((u:Int),(w:Int))∈b/\x=(toV n b u:Int)/\y=(toV n b w:Int):=by
 unfold aat;rw[Eh];constructor
 .rintro⟨p,a,e⟩;obtain⟨c,h2,h3⟩:=hR p a;obtain⟨f,d⟩:=p;obtain⟨u,rfl⟩:=Sb c;obtain⟨w,rfl⟩:=Sb (show 0<=d by omega);injection e with g h;have m1:=(toV_idx ((aaJ hR).2 ⟨w,.inl a⟩)).1;have m2:=(toV_idx ((aaJ hR).2 ⟨u,.inr a⟩)).1;exact hGr
 .rintro⟨u,w,a,rfl,rfl⟩;have m1:=(toV_idx ((aaJ hR).2 ⟨w,.inl a⟩)).1;have m2:=(toV_idx ((aaJ hR).2 ⟨u,.inr a⟩)).1;exact hGr
theorem abR{v w:Nat}:Jp (aat n b) v w↔v<n/\w<n/\Jp b (ofV n b v) (ofV n b w):=by
 have one:∀v w:Nat,((v:Int),(w:Int))∈aat n b->v<n/\w<n/\((ofV n b v:Int),(ofV n b w:Int))∈b:=fun v w h=>by obtain⟨u,x,c,a,h2⟩:=(aep hR).1 h;have l1:=(show Jp b u x from .inl c).lt hR;obtain rfl:v=toV n b u:=NH;obtain rfl:w=toV n b x:=NH;rw[abk l1.1,abk l1.2];exact⟨toV_lt l1.1,toV_lt l1.2,c⟩
 constructor
 .rintro(h|h)
  .obtain⟨a,h2,h3⟩:=one _ _ h;exact⟨a,h2,.inl h3⟩
  .obtain⟨a,h2,h3⟩:=one _ _ h;exact⟨h2,a,.inr h3⟩
 .rintro⟨a,h2,h3|h3⟩
  .exact .inl (by grind[aep,toV_ofV])
  .exact .inr (by grind[aep,toV_ofV])
theorem adj_to{u w:Nat}(h:Jp b u w):Jp (aat n b) (toV n b u) (toV n b w):=by have l:=h.lt hR;exact(by grind[abR,toV_lt,abk])
theorem vert_lt{u w:Nat}(h:Jp b u w):toV n b u<(aag n b).length:=by grind[toV_idx,aaJ]
omit hR in
theorem aeq{x y:Nat}(e:x∈aag n b)(d:x<y):abD n b (x:Int)<abD n b (y:Int):=by
 have f:∀l:II,x∈l->l.countP (fun(v:Nat)=>decide ((v:Int)<(x:Int)))<l.countP fun(v:Nat)=>decide ((v:Int)<(y:Int)):=by
  intro l
  induction l with
  |nil=>intro h;cases h
  |cons a l g=>
   intro h;have mono:l.countP (fun(v:Nat)=>decide ((v:Int)<(x:Int)))<=l.countP fun(v:Nat)=>decide ((v:Int)<(y:Int)):=List.countP_mono_left hGr;rw[qL212,qL212];rcases Og.1 h with rfl|q
   .rw[yM Ma,IE (by simpa using d)];omega
   .have:=g q;by_cases c:(a:Int)<(x:Int)
    .rw[IE (by simpa using c),IE (by simp only[uV];omega)];omega
    .rw[yM (by simpa using c)];split<;>omega
 exact f _ e
omit hR in
theorem ad6(d:bX ⟨(n:Int),b⟩):bX ⟨((aag n b).length:Int),aat n b⟩:=by
 have hR:=d.GD;have e:(aag n b).length<=n:=EP (im _ _) Ma;have f:∀p∈b,∃u w:Nat,p=((u:Int),(w:Int))/\u<w/\u∈aag n b/\w∈aag n b:=fun p a=>by obtain⟨k,h2,h3⟩:=hR p a;obtain⟨m,l⟩:=p;obtain⟨u,rfl⟩:=Sb k;obtain⟨w,rfl⟩:=Sb (show 0<=l by omega);exact⟨u,w,rfl,NH,(aaJ hR).2 ⟨w,.inl a⟩,(aaJ hR).2 ⟨u,.inr a⟩⟩
 refine bX.of (EP e (by have:(n:Int)<=200:=d.n1;omega)) (by rw[aat,fj];exact d.len) (fun q g=>?_) ?_
 .obtain⟨p,a,rfl⟩:=Eh.1 g;obtain⟨u,w,rfl,i,j,hw⟩:=f p a;have k:=aeq j i;have h2:=toV_idx hw;rw[h2.1]at h2;exact hGr
 .have ha:D3 b:=d.q9;rw[Nl]at ha ⊢;unfold aat;rw[vY];refine ha.imp_of_mem fun{p q} a g c=>?_;obtain⟨u,w,rfl,-,j,hw⟩:=f p a;obtain⟨x,y,rfl,-,o,r⟩:=f q g;simp only at c ⊢;rcases c with h|⟨h,h'⟩
  .left;have:=aeq j (show u<x by omega);omega
  .right;have:=aeq hw (show w<y by omega);obtain rfl:u=x:=NH;exact hGr
theorem afA:XU (aag n b).length (eN (aag n b).length (aat n b))↔XU n (eN n b):=by
 have g:(aag n b).length<=n:=EP (im _ _) Ma;have d:∀v w,Jp (aat n b) v w->v<(aag n b).length:=fun v w h=>by obtain⟨c,h2,h3⟩:=(abR hR).1 h;have:=vert_lt hR h3;rwa[toV_ofV c]at this
 have GD:∀{m},(∀v w,Jp (aat n b) v w->v<m)->aV m (aat n b):=fun{m} h p i=>by obtain⟨q,e,rfl⟩:=Eh.1 i;obtain⟨c,h2,h3⟩:=hR q e;obtain⟨o,j⟩:=q;obtain⟨u,rfl⟩:=Sb c;obtain⟨w,rfl⟩:=Sb (show 0<=j by omega);have k:=(aaJ hR).2 ⟨w,.inl e⟩;have:=aeq k (show u<w by omega);have ha:Jp (aat n b) (abD n b (w:Int)) (abD n b (u:Int)):=.inr hGr;have:=h _ _ ha;exact hGr
 have r:=GD d;have f:aV n (aat n b):=by grind[Nat.lt_of_lt_of_le]
 have l:XU (aag n b).length (eN (aag n b).length (aat n b))↔XU n (eN n (aat n b)):=by
  have c:XU (aag n b).length (eN (aag n b).length (aat n b))↔XU (aag n b).length (eN n (aat n b)):=(by grind[XU.congr,vD]);rw[c,<-XU.mores (by grind[vD]) (n-(aag n b).length),show(aag n b).length+(n-(aag n b).length)=n by omega]
 rw[l];have N:=ren_V n b;constructor
 .intro h;refine h.ren (p:=ofV n b) (q:=toV n b) ⟨N.ql,N.pl,N.qp,N.pq⟩ fun v w=>?_;rw[vD hR,vD f];constructor
  .intro a;exact⟨(a.lt hR).1,(a.lt hR).2,adj_to hR a⟩
  .rintro⟨c,h2,h3⟩;have:=((abR hR).1 h3).2.2;rwa[abk c,abk h2]at this
 .intro h;refine h.ren N fun v w=>?_;rw[vD hR,vD f];exact abR hR
end
section
variable{n:Nat}{b:List Pr}(O:aeo n b)
include O
theorem aeo.bp{u w x y:Nat}(d:Jp b u w)(h2:Jp b x y):Pu b u x:=by
 have hR:=O.1.GD;have:=adg hR (fun p=>Pu b u p.1.toNat) (fun v a c ha e _=>?_) (H4 hR d) (H4 hR h2) (O.2.2 _ (H4 hR d) _ (H4 hR h2))
 .have c1:∀{v a},Jp b v a->Pu b v (GW v a).1.toNat:=fun{v a} h=>by
   rw[bj];rcases Nat.le_total v a with q|q
   .rw[af9 q];exact Pu.refl _ _
   .rw[qL209 q];exact abu h
  have:=this▸c1 d;exact this.trans (c1 h2).symm
 .have c1:∀{v a},Jp b v a->Pu b v (GW v a).1.toNat:=fun{v a} h=>by
   rw[bj];rcases Nat.le_total v a with q|q
   .rw[af9 q];exact Pu.refl _ _
   .rw[qL209 q];exact abu h
  exact(by grind[Cn.trans,Cn.symm])
theorem aeo.Bi{v a c:Nat}(ha:Jp b v a)(d:Jp b v c):Cn (wo v) b a c:=(dR O.1.GD ha d).1 (O.2.2 _ (H4 O.1.GD ha) _ (H4 O.1.GD d))
theorem aeo.two(A:2<=b.length):zW (aag n b).length (aat n b):=by
 have hR:=O.1.GD;have f:∀{v},v<(aag n b).length->v<n:=fun h=>PN h (EP (im _ _) Ma);have back:∀{v},v<(aag n b).length->ofV n b v∈aag n b:=fun{v} h=>by
  have:ofV n b v=(aag n b)[v]:=by unfold ofV acw;rw[j9,iy h,CA h];rfl
  rw[this];exact aev h
 have d:∀{on on':Nat->Bool}{u w},(∀x,x<n->on x=fF->on' (toV n b x)=fF)->u<n->Cn on b u w->Cn on' (aat n b) (toV n b u) (toV n b w):=fun{on on' u w} q g h=>by
  induction h with
  |refl o=>exact .refl (q _ g o)
  |step _ a o r=>exact .step r (adj_to hR a) (by grind[Jp.lt])
 have h3:3<=(aag n b).length:=by
  have j:=ad6 O.1;have B:(aat n b).length=b.length:=by rw[aat,fj]
  refine Hs fun k=>?_;have e:∀p∈aat n b,p=((0:Int),(1:Int)):=fun p s=>by have h:=j.GD p s;obtain⟨C,D⟩:=p;exact(by grind[Prod.ext])
  have l:0<(aat n b).length:=NH;have i:1<(aat n b).length:=NH;have:=qH.1 (Nl.1 j.q9) 0 1 l i WY;rw[e _ (aev l),e _ (aev i)]at this;simp at this
 have bp:∀u v,u<(aag n b).length->v<(aag n b).length->Pu (aat n b) u v:=fun u v g m=>by obtain⟨w,hw⟩:=(aaJ hR).1 (back g);obtain⟨y,t⟩:=(aaJ hR).1 (back m);have:=d (on:=offA) (on':=offA) hGr (afz (f g)) (O.bp hw t);rwa[toV_ofV (f g),toV_ofV (f m)]at this
 refine⟨h3,(by grind[heads_all]),fun v ⟨a,c,ha,k,z⟩=>z ?_⟩;obtain⟨E,a1,i⟩:=(abR hR).1 ha;obtain⟨_,c1,h2⟩:=(abR hR).1 k;have:=d (on:=wo (ofV n b v)) (on':=wo v) (by grind[abk]) (afz a1) (O.Bi i h2);rwa[toV_ofV a1,toV_ofV c1]at this
theorem aeo.flat:aaV n b↔b.length<9\/XU n (eN n b):=by
 unfold aaV;rw[afA O.1.GD];by_cases c:b.length<9
 .exact hGr
 .constructor
  .rintro(h|h)
   .exact .inl h
   .exact .inr h.2.2
  .rintro(h|h)
   .exact .inl h
   .exact .inr ⟨ad6 O.1,O.two NH,h⟩
end
end
theorem perm_of{l m:II}(a:l.Nodup)(h2:m.Nodup)(h:∀x,x∈l↔x∈m):l.Perm m:=by grind[List.perm_ext_iff_of_nodup]
def rowU(rows:AM)(v:Nat):II:=(rows.getD v []).map (·.toNat)
section
variable{n:Nat}{es fs:List Pr}{π:Nat->Nat}
theorem rowU_mem(hR:aV n es){v w:Nat}:w∈rowU (Zh n es) v↔Jp es v w:=by
 unfold rowU;rw[Eh];constructor
 .rintro⟨x,a,rfl⟩;obtain⟨w,rfl,_⟩:=Ru hR a;exact(by grind[EW])
 .intro h;exact⟨(w:Int),(EW hR v w).2 h,Ma⟩
def rowU_nd(hR:aV n es)(hA:D3 es)(v:Nat):(rowU (Zh n es) v).Nodup:=by unfold rowU;rw[Gw,vY];refine(KW es hR hA v).imp_of_mem fun{x y} b c h=>?_;obtain⟨a,rfl,_⟩:=Ru hR b;omega
variable(I:H9 n es fs π)(hA:D3 es)(hB:D3 fs)
include I hA hB
end
section
variable{es fs:List Pr}{π:Nat->Nat}(I:H9 200 es fs π)(hA:D3 es)(hB:D3 fs)
include I hA hB
end
section
attribute [local irreducible] Kp MQ lU KO1 KO KN KX KE VK Kl ZJ TC aab
section
variable{n:Nat}{es:List Pr}{s:Nat}{L:RZ}(hr:aV n es)(R:RA n es s L)(hc:∀p∈es,Closed L p)
include hr R hc
end
section
variable{n:Nat}{es:List Pr}(hR:aV n es)(hA:D3 es)
include hR hA
end
section
variable{es:List Pr}(hR:aV 200 es)(hA:D3 es){cs:II}(hc:∀c∈cs,c<200/\((Zh 200 es).getD c []).length≠2)
include hR hA hc
end
structure UpK (L L':xLP) (a b v:Nat):Prop where
 r1:aV 200 L
 r2:aV 200 L'
 a1:D3 L
 a2:D3 L'
 ab:Jp L a b
 iso:∀w,¬Jp L v w
 up:∀x y,Jp L' x y↔upA (Jp L) a b v x y
 len:L'.length=L.length+1
section
variable{L L':List Pr}{a b v:Nat}(U:UpK L L' a b v)
include U
end
attribute [local irreducible] Jz JL vq cQ aaN
def afD:xLP->List Bool->xLP
 |p::es,b::bs=>if b then p::afD es bs else afD es bs
 |_,_=>[]
def aj2:∀(es:xLP)(bs:List Bool),(afD es bs).Sublist es
 |[],_=>by simp[afD]
 |p::es,[]=>by simp[afD]
 |p::es,b::bs=>by
  have:=aj2 es bs;unfold afD;cases b
  .exact this.cons p
  .exact this.cons_cons p
def akm:∀(es:xLP)(bs:List Bool)(i:Nat)(hi:i<es.length),afD (es.take (i+1)) bs=afD (es.take i) bs++if bs.getD i fF=tT then[es[i]]else[]
 |[],_,_,hi=>by simp at hi
 |p::es,[],i,hi=>by
  have a:∀l:xLP,afD l []=[]:=fun l=>by cases l<;>rfl
  rw[a,a,yM Ma];rfl
 |p::es,b::bs,0,hi=>by
  cases b<;>simp[afD]
 |p::es,b::bs,i+1,hi=>by
  have c:=akm es bs i (by simpa using hi);simp only[adE,afD];rw[qL195,qL225];cases b
  .simpa using c
  .simp only[if_true,adz];rw[c]
end
section
attribute [local instance] Classical.propDecidable
section
variable{n:Nat}{E:Nat->II}(hE:V7 n E){H:Nat->Nat->Prop}{F:Cs}{a b:Nat}{inn:II}
include hE
end
structure KeyK (es:xLP) (E:Nat) (ks:xLP):Prop where
 e3:3<=E
 e4:E<=4
 deg:∀c∈aad (Zh 200 es),((Zh 200 es).getD c []).length=E
 two:∀v w,Jp es v w->v∉aad (Zh 200 es)->((Zh 200 es).getD v []).length=2
 all:aaU (Zh 200 es) (aad (Zh 200 es))=2*es.length
 nd:ks.Nodup
 len:(aaj (Zh 200 es) (aad (Zh 200 es))).length=2*ks.length
 n9:9<=ks.length
 w2:∀k∈ks,aaI (Zh 200 es) (aad (Zh 200 es)) k=2
 ends:∀k∈ks,∃a b,a∈aad (Zh 200 es)/\b∈aad (Zh 200 es)/\a≠b/\k=GW a b
section
variable{es:List Pr}(hr:bX ⟨((200:Nat):Int),es⟩){E:Nat}{ks:List Pr}(K:KeyK es E ks)
include hr K
end
section
variable{n:Nat}{c:II}(nd:c.Nodup)(lt:∀v∈c,v<n)
include nd lt
end
attribute [local irreducible] Jz JL vq cQ aaN
structure TwF (K:Int) (N:Nat) (l:xLP):Prop where
 r:bX ⟨(N:Int),l⟩
 kind:aaz l=K
 less:∀i,i<l.length->aak N (l.eraseIdx i)
section
variable{K:Int}{N:Nat}{l:List Pr}(T:TwF K N l)(hK:K≠0)
include T hK
end
end
section
variable{es:List Pr}{s t:Nat}{c:II}
end
section
variable{n:Nat}{es left:List Pr}{th:II}(hr:bX ⟨(n:Int),es⟩)(T2:zW n es)
include hr T2
end
section
variable{n:Nat}{es left:List Pr}{th:II}(hr:bX ⟨(n:Int),es⟩)
include hr
end
section
variable{n:Nat}{es:List Pr}(hr:bX ⟨(n:Int),es⟩)(T2:zW n es)
include hr T2
end
theorem RL.remK{u:vV}{x:RZ}:∀{l:II}{h:aai},RL RP h u x->(∀b∈l,blk u≠Z b)->RL RP (rem l h) u x
 |[],_,r,_=>r
 |a::l,h,r,hb=>(RL.remK r hGr).killI (hb a Ma)
section
variable{r hq:aai}{X n:Nat}{xv tv lv:vV}{us:List vV}{rows:AM}{th:II}{left:List Pr}
end
section
attribute [local instance] Classical.propDecidable
attribute [local irreducible] Jz JL vq cQ
variable {b:List Pr} {n:Nat}
def afQ(a:bX ⟨(n:Int),b⟩)(h:b.length<9):XU n (eN n b):=by have hR:aV (n+3) b:=a.GD.up NH;have R:=MG hR a.q9;have lt:∀v w,w∈eN (n+3) b v->w<n+3:=fun v w q=>R.lt w v (R.sy v w q);refine(planar_up a.GD (ajR n 3)).1 (few_plan (n:=n+3) NH _ (fun v w=>w∈eN (n+3) b v) rfl ?_ lt R.sy R.ir);have c:=(afa (fun v=>(lst (n+3) (fun v w=>w∈eN (n+3) b v) v).length) (fun v=>(eN (n+3) b v).length) (rG (n+3)) fun v _=>tf ((aej lt R.sy R.ir).nd v) fun w hw=>(aaD lt).1 hw).1;rw[<-Vq (n+3) (eN (n+3) b),Ud R a.q9.nodup hR fun v w=>vD hR]at c;unfold szA;simp only at c;omega
def aem(O:aeo n b):aak n b↔XU n (eN n b):=by rw[abc O,O.flat];exact⟨fun h=>h.elim (afQ O.1) id,.inr⟩
section
variable{l:List Pr}(k:YG ((200:Nat):Int) l)
include k
variable(no2:∀u:Nat,u<200->(endsK l (u:Int)).length≠2)
include no2
end
theorem ajZ{l:II}{y:Nat}(nd:l.Nodup)(h:∀w,w∈l↔w=y):l=[y]:=by have a:l.Perm [y]:=hGr;grind[List.perm_singleton]
def ai5(x y v:Nat):II:=if v=x then[y]else if v=y then[x]else[]
theorem mem_oneR{x y v w:Nat}(ne:x≠y):w∈ai5 x y v↔(v=x/\w=y)\/(v=y/\w=x):=by grind[ai5]
theorem ajn{n x y:Nat}(a:x<n)(c:y<n)(ne:x≠y):V7 n (ai5 x y):=by
 refine⟨fun v=>?_,fun v w h=>?_,fun v w h=>?_,fun v h=>?_⟩
 all_goals grind[ai5]
theorem oneR_flat{n x y:Nat}(d:x<n)(g:y<n)(ne:x≠y):Flat n (ai5 x y):=by
 have P:=(agx (n:=n+3) (A:=fun _ _=>False) NH fun _ _ q=>q).aac (v:=x) (a:=y) (fun _ q=>q) NH NH ne;obtain⟨R,r,f,m⟩:=P;have e:R=ai5 x y:=by
  funext v;unfold ai5;by_cases c:v=x
  .subst c;rw[IE rfl];exact ajZ (r.nd v) fun w=>by grind
  rw[yM c];by_cases h2:v=y
  .subst h2;rw[IE rfl];exact ajZ (r.nd v) fun w=>by grind
  rw[yM h2];exact ff.2 hGr
 grind[ajn,adV]
theorem V7.upto{n m:Nat}{r:Nat->II}(R:V7 m r)(h:m<=n):V7 n r:=⟨R.nd,fun v w q=>PN (R.lt v w q) h,R.sy,R.ir⟩
theorem aiX{m:Nat}{r:Nat->II}(R:V7 m r):∀k:Nat,Flat m r->Flat (m+k) r
 |0,f=>f
 |k+1,f=>(adV (by grind[V7.upto])).2 (aiX R k f)
noncomputable def ag2(n:Nat)(b:xLP)(v:Nat):RZ:=
 if b.length=1 then(if(v:Int)=(b.headD (0,0)).1 then[(b.headD (0,0)).2]else if(v:Int)=(b.headD (0,0)).2 then[(b.headD (0,0)).1]else[])
 else if v∈aag n b then(((ajk (aag n b).length (aat n b)).getD []).getD (abD n b (v:Int)) []).map fun j=>(((aag n b).getD j.toNat 0:Nat):Int)else[]
noncomputable def acr(n:Nat)(b:xLP)(v:Nat):II:=(ag2 n b v).map Int.toNat
structure ah0 (n:Nat) (b:xLP):Prop where
 Rl:V7 n (acr n b)
 flat:Flat n (acr n b)
 mem:∀v w,w∈acr n b v↔Jp b v w
 nat:∀v,ag2 n b v=(acr n b v).map fun(w:Nat)=>(w:Int)
section
variable{n:Nat}{b:List Pr}(O:aeo n b)
include O
theorem aeo.rowOne(a:b.length=1):ah0 n b:=by
 have hR:=O.1.GD;obtain⟨p,rfl⟩:=abW.1 a;obtain⟨a1,a2,d⟩:=hR p Ma;obtain⟨f,c⟩:=p;obtain⟨x,rfl⟩:=Sb a1;obtain⟨y,rfl⟩:=Sb (show 0<=c by omega);have ne:x≠y:=NH;have e:acr n [((x:Int),(y:Int))]=ai5 x y:=by grind[acr,ag2,ai5]
 refine⟨by grind[ajn],by grind[oneR_flat],fun v w=>?_,fun v=>?_⟩
 .rw[e,mem_oneR ne];grind[Jp]
 .unfold acr ag2;by_cases c1:(v:Int)=(x:Int)
  .simp[c1]
  .all_goals grind
theorem aeo.rowMany(h2:2<=b.length){rs:AM}(o:ajk (aag n b).length (aat n b)=Z rs)(G:Av (aag n b).length (aat n b) rs)(hf:Flat (aag n b).length (Xl rs)):ah0 n b:=by
 have hR:=O.1.GD;have i:=ad6 O.1;have a:=i.GD;have c:=G.jD a i.q9;have g:(aag n b).length<=n:=by have:=im (fun v=>b.any fun p=>aO p ((v:Nat):Int)) (rG n);rw[WZ]at this;exact this
 have N:=(ren_V n b).flip;have d:=c.upto g;have l:Flat n (Xl rs):=by grind[aiX,Nat.add_sub_cancel']
 have m:∀j,j<(aag n b).length->ofV n b j=(aag n b).getD j 0:=by grind[ofV,acw]
 have row:∀v,v∈aag n b->ag2 n b v=(rs.getD (abD n b (v:Int)) []).map fun j=>(((aag n b).getD j.toNat 0:Nat):Int):=by grind[ag2]
 have k:∀v,v∉aag n b->ag2 n b v=[]:=by grind[ag2]
 have e:acr n b=uH n (ofV n b) (toV n b) (Xl rs):=by
  funext v;unfold acr;by_cases f:v∈aag n b
  .have h:=(aeT.1 f).1;rw[row v f];unfold uH;rw[IE h,(toV_idx (b:=b) f).1,Xl,FD,FD];grind[List.map_congr_left,Av.nat,Int.toNat_natCast]
  grind[uH,abk,Xl,Av.len]
 refine⟨by grind[aef],by grind[pd],fun v w=>?_,fun v=>?_⟩
 .rw[e,uX N d,G.mem a,abR hR];grind[abk,Jp.lt,toV_lt]
 .unfold acr;by_cases f:v∈aag n b
  .rw[row v f];simp
  grind
end
theorem blk_apart{n:Nat}{es:xLP}(j:bX ⟨(n:Int),es⟩){k:Int}(hb:abb n es k∈vq n es){r:Nat->II}(hA:∀v w,w∈r v->Jp es v w/\cQ n es (GW v w)≠k){x y:Nat}(p:∃w,Jp (abb n es k) x w)(q:∃w,Jp (abb n es k) y w)(ne:x≠y)(c:Cr r x y):False:=by
 have hR:=j.GD;have O:=aaQ j hb;obtain⟨G,f⟩:=p;obtain⟨H,g⟩:=q;obtain⟨z,z',rfl,A,I,B⟩:=agI (S:=fun u=>u=x) (O.bp f g) rfl (j3 ne);obtain⟨l,nd,⟨t,m⟩,⟨s,J⟩,o,-⟩:=uF c;cases t with
 |nil=>grind
 |cons a t=>
  have K:=hA _ _ (o 0 z a (by rw[m];rfl) (by rw[m];rfl));have L:z∉a::t:=hGr;have walk:∀(i u:Nat),(a::t)[i]?=Z u->Cn (wo z) es a u:=fun i=>by
   induction i with
   |zero=>intro u d;injection d with d;subst d;exact .refl hGr
   |succ i C=>intro u d;have D:=(Ny.1 d).1;have hi:i<(a::t).length:=NH;have E:=C _ (XJ hi);refine .step E (hA _ _ (o (i+1) _ u hGr hGr)).1 hGr
  have h:y∈a::t:=hGr;obtain⟨i,hi⟩:=vZ.1 h;have c1:=walk i y hi;have c2:Cn (wo z) es z' y:=Cn.mono (fun e F=>(aaw.1 F).1) (agf (fun u d=>iO fun e=>by grind) B);grind[abM,dR,Cn.trans,Cn.symm]
noncomputable def ag3(n:Nat)(bs:List xLP):AM:=(rG n).map fun v=>bs.flatMap fun b=>ag2 n b v
theorem aic(n:Nat)(bs:List xLP):(ag3 n bs).length=n:=by simp[ag3]
theorem aiB{n:Nat}{bs:List xLP}{v:Nat}(a:v<n):(ag3 n bs).getD v []=bs.flatMap fun b=>ag2 n b v:=by grind[ag3]
theorem aj0{n:Nat}{es:xLP}(a:bX ⟨(n:Int),es⟩):∀(pre:RZ),pre.Nodup->(∀k∈pre,abb n es k∈vq n es/\ah0 n (abb n es k))->
  V7 n (fun v=>pre.flatMap fun k=>acr n (abb n es k) v)/\Flat n (fun v=>pre.flatMap fun k=>acr n (abb n es k) v)/\∀v w,w∈(pre.flatMap fun k=>acr n (abb n es k) v)↔∃k∈pre,Jp (abb n es k) v w:=by
 have hR:=a.GD;have key:∀(m:Nat)(pre:RZ),pre.length=m->pre.Nodup->(∀k∈pre,abb n es k∈vq n es/\ah0 n (abb n es k))->
  V7 n (fun v=>pre.flatMap fun k=>acr n (abb n es k) v)/\Flat n (fun v=>pre.flatMap fun k=>acr n (abb n es k) v)/\∀v w,w∈(pre.flatMap fun k=>acr n (abb n es k) v)↔∃k∈pre,Jp (abb n es k) v w:=by
  intro m
  induction m with
  |zero=>
   intro pre g _ _;obtain rfl:=Yi g;have P:=agx (n:=n+3) (A:=fun _ _=>False) NH fun _ _ q=>q;obtain⟨R,r,f,m⟩:=P;have e:R=fun v=>([]:RZ).flatMap fun k=>acr n (abb n es k) v:=by funext v;exact ff.2 hGr
   rw[e]at f;have i:∀N,V7 N (fun v=>([]:RZ).flatMap fun k=>acr n (abb n es k) v):=fun N=>⟨fun v=>by simp,hGr,hGr,hGr⟩;exact⟨i n,(by grind[adV]),hGr⟩
  |succ m j=>
   intro pre C nd h;obtain⟨pre,k,rfl⟩:∃l k,pre=l++[k]:=⟨pre.dropLast,pre.getLast hGr,(Zw _).symm⟩;obtain⟨n1,-,n3⟩:=jf.1 nd;obtain⟨o,p,d⟩:=j pre hGr n1 hGr;obtain⟨hb,B⟩:=h k Ma;have H:abC n (fun v=>pre.flatMap fun k=>acr n (abb n es k) v) (acr n (abb n es k)) fun z=>∃w,Jp (abb n es k) z w:=by refine⟨o,B.Rl,(by grind[ah0.mem]),fun x y s t ne c=>?_⟩;refine blk_apart a hb (fun v w q=>?_) s t ne c;obtain⟨D,u,q⟩:=(d v w).1 q;grind[abM]
   have e:(fun v=>(pre++[k]).flatMap fun k=>acr n (abb n es k) v)=aar (fun v=>pre.flatMap fun k=>acr n (abb n es k) v) (acr n (abb n es k)):=by grind[aar]
   rw[e];refine⟨H.Rl,H.flat p B.flat,fun v w=>?_⟩;have:((pre++[k]).flatMap fun k=>acr n (abb n es k) v)=aar (fun v=>pre.flatMap fun k=>acr n (abb n es k) v) (acr n (abb n es k)) v:=by simp[aar]
   rw[this,aaT,d,B.mem];grind
 grind
theorem cert_ok{n:Nat}{es:xLP}(c:bX ⟨(n:Int),es⟩)(h:∀b∈vq n es,ah0 n b):Av n es (ag3 n (vq n es))/\Flat n (Xl (ag3 n (vq n es))):=by
 have hR:=c.GD;obtain⟨a,f⟩:=ahE (cQ n es) _ es rfl;have eb:vq n es=(CY (cQ n es) es).map fun k=>abb n es k:=aaB n es;have g:∀k∈CY (cQ n es) es,abb n es k∈vq n es/\ah0 n (abb n es k):=hGr;obtain⟨e,m,i⟩:=aj0 c _ a g;have row:∀v,(vq n es).flatMap (fun b=>ag2 n b v)=((CY (cQ n es) es).flatMap fun k=>acr n (abb n es k) v).map fun(w:Nat)=>(w:Int):=fun v=>by
  rw[eb,List.flatMap_map,List.map_flatMap];have o:∀L:RZ,(∀k∈L,ag2 n (abb n es k) v=(acr n (abb n es k) v).map fun(w:Nat)=>(w:Int))->(L.flatMap fun k=>ag2 n (abb n es k) v)=L.flatMap fun k=>(acr n (abb n es k) v).map fun(w:Nat)=>(w:Int):=fun L=>by
   induction L<;>grind
  grind[ah0.nat]
 have p:Xl (ag3 n (vq n es))=fun v=>(CY (cQ n es) es).flatMap fun k=>acr n (abb n es k) v:=by
  funext v;unfold Xl;by_cases d:v<n
  .rw[aiB d,row v,FD];exact(EH hGr).trans (afV _)
  .rw[j9,mJ (by grind[aic])];symm;refine ff.2 fun w hw=>?_;have:=e.lt v w hw;omega
 have mem:∀v w,w∈((CY (cQ n es) es).flatMap fun k=>acr n (abb n es k) v)↔Jp es v w:=fun v w=>by
  rw[i];constructor
  .grind[abM]
  .intro q;exact⟨cQ n es (GW v w),(by grind[H4]),(by grind[abM])⟩
 refine⟨⟨aic _ _,fun v d=>?_⟩,hGr⟩;rw[aiB d,row v];have j:((CY (cQ n es) es).flatMap fun k=>acr n (abb n es k) v).Perm (rowU (Zh n es) v):=perm_of (e.nd v) (rowU_nd hR c.q9 v) (by grind[rowU_mem]);have l:=j.map fun(w:Nat)=>(w:Int);refine l.trans (List.Perm.of_eq ?_);unfold rowU;rw[FD];refine(EH fun x r=>?_).trans (afV _);grind[Ru]
end
end Go.Fw
