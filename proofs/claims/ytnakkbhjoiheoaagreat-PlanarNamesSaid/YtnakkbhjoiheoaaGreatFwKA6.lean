/- A text. -/
import Derived.Test.YtnakkbhjoiheoaaGreatFwLJ22
set_option linter.all false
set_option maxRecDepth 99999
set_option maxHeartbeats 9999999
open Go.Proofs
open Option renaming some→Z,none→Y
open Bool renaming true→tT,false→fF
open List renaming range→rG
open Go.Value renaming slice→sL,pointer→pT
open Go renaming Value→vV
open Go.Proofs.Tryz renaming prog→pG
open Go.Proofs.Tryz
open List
namespace Go.Fw
section
attribute [local irreducible] Kp MQ lU KO1 KO KN KX KE VK Kl ZJ TC aab
attribute [local irreducible] Jz JL vq cQ
variable {h:aai} {i n:Nat} {ps:List Pr}
theorem aeW(J:LA)(id n i cap:Nat)(c:xLV)(h:aai)(K:h.own id=Z (.cells c))(hl:n*2<=c.length)(D:(c.take (n*2)).all (·.oneCell')=tT)(hi:i<n)(hn:n<=100000)(w:n<=cap)(E:cap<UNK):
  AC pG J 62 [sL (Z id) n cap,i,((i+1:Nat):Int)] h fun x h'=>
   ∃n',n'<=cap/\x=sL (Z id) n' cap/\n'=n-1/\∃c',(h'.own id=Z (.cells c')/\(∀f,Le f h->f.own id=Y->Le f h')/\∀b o,b≠id->h.own b=Z o->h'.own b=Z o)/\c'.take ((n-1)*2)=c.take (i*2)++((c.drop ((i+1)*2)).take ((n-(i+1))*2)):=by
 have k:¬UNK<=cap:=aku.2 E;have d:=eY;have j:=qS5;have L:(0:Int)<=(i:Int):=NH;have M:(i:Int)<=((i+1:Nat):Int):=NH;have e3:((i+1:Nat):Int)<=(n:Int):=NH;have e4:(0:Int)<=((i+1:Nat):Int):=NH;have F:(0:Int)<=(n:Int):=NH;have G:(n:Int)<=(cap:Int):=NH;have e7:(i:Int)<=(cap:Int):=NH;have y:∃v,abf pG 22 (sL (Z id) n cap) (Z (.int .i64 (i:Int))) (Z (.int .i64 ((i+1:Nat):Int))) (Z (.int .i64 (n:Int)))=Z v:=by
  refine⟨vV.slice (if n=i then Z id else Z ⟨id,i*2,Y⟩) (i+1-i) (n-i),?_⟩
  .simp only[abf,d,k,if_false,w,j,aiI,and_self,if_true,abm,abL,L,M,e3,e4,F,G,yM,V9,Ip,WE,EL]
 have⟨v1,y⟩:=y;have N:abf pG 22 (sL (Z id) n cap) Y (Z (.int .i64 (i:Int))) Y=Z (sL (Z id) i cap):=pn d j i NH w E
 have O:abf pG 22 (sL (Z id) n cap) (Z (.int .i64 ((i+1:Nat):Int))) Y Y=Z (.slice (if cap=i+1 then Z id else Z ⟨id,(i+1)*2,Y⟩) (n-(i+1)) (cap-(i+1))):=by have Q:((i+1:Nat):Int)<=(n:Int):=e3;simp only[abf,d,k,if_false,w,j,aiI,and_self,if_true,abm,abL,e4,Q,yM,V9,Ip,WE,EL]
 have rd:∀e,UA pG e=2->aby pG h e (.slice (if cap=i+1 then Z id else Z ⟨id,(i+1)*2,Y⟩) (n-(i+1)) (cap-(i+1)))=Z (n-(i+1),(c.drop ((i+1)*2)).take ((n-(i+1))*2)):=fun e he=>by
  by_cases q:cap=i+1
  .have z:n-(i+1)=0:=NH;rw[Sb q,z];simp[aby,abN]
  grind[qF,aby]
 have nl:((c.drop ((i+1)*2)).take ((n-(i+1))*2)).length=(n-(i+1))*2:=hGr;have n1:((c.drop ((i+1)*2)).take ((n-(i+1))*2)).all (·.oneCell')=tT:=by
  rw[QD]at D ⊢;intro x R;refine D x ?_;have⟨q,A⟩:=Og.1 R;rw[Dj]at A;split at A
  .refine BS (i:=(i+1)*2+q) ?_;grind
  .cases A
 have app:∃c1 l,(l.own id=Z (.cells c1)/\(∀f,Le f h->f.own id=Y->Le f l)/\∀b o,b≠id->h.own b=Z o->l.own b=Z o)/\aaR pG h 22 22 (sL (Z id) i cap) (.slice (if cap=i+1 then Z id else Z ⟨id,(i+1)*2,Y⟩) (n-(i+1)) (cap-(i+1)))=Z (sL (Z id) (n-1) cap,l)/\c1.length=c.length/\
   c1.take ((n-1)*2)=c.take (i*2)++((c.drop ((i+1)*2)).take ((n-(i+1))*2)):=by
  have u:acd pG 49=Z (.agg #[vV.int .i64 0,vV.int .i64 0]):=Ji;have H:(vV.agg #[vV.int .i64 0,vV.int .i64 0]).cells.size=UA pG 49/\(vV.agg #[vV.int .i64 0,vV.int .i64 0]).cells.toList.all (·.oneCell')=tT:=⟨by kernel_rfl,by kernel_rfl⟩;have hs:=rd 49 WE;have S:pG.bytesOf 49<=1000:=by decide
  have T:(i+(n-(i+1)))*pG.bytesOf 49<=140737488355328:=ff (af7 (show i+(n-(i+1))<=100000 by omega) S) WY;have U:i+(n-(i+1))<=140737488355328:=NH;have I:(vV.agg #[vV.int .i64 0,vV.int .i64 0]).cells.size=UA pG 49/\(vV.agg #[vV.int .i64 0,vV.int .i64 0]).cells.toList.all (·.oneCell')/\(pG.underlying 49).isSome/\acL (.slice 49)/\((c.drop ((i+1)*2)).take ((n-(i+1))*2)).all (·.oneCell')/\(i+(n-(i+1)))*pG.bytesOf 49<=140737488355328/\i+(n-(i+1))<=140737488355328/\((c.drop ((i+1)*2)).take ((n-(i+1))*2)).length=(n-(i+1))*UA pG 49:=⟨H.1,H.2,by rfl,rfl,n1,T,U,by grind[WE]⟩;by_cases V:n-(i+1)=0
  .refine⟨c,h,hGr,?_,rfl,?_⟩
   .simp only[aaR,d,u,hs];grind
   .rw[V];grind
  .have room:i*2+((c.drop ((i+1)*2)).take ((n-(i+1))*2)).length<=c.length:=hGr;refine⟨putCells c (i*2) ((c.drop ((i+1)*2)).take ((n-(i+1))*2)),_,⟨aai.Y3 _ _ _,fun f W hf=>W.put _ hf,fun b o hb K=>by grind[aai.By]⟩,?_,O7 _ _ _,?_⟩
   .simp only[aaR,d,u,hs];grind[WE]
   .rw[IW _ _ _ room,als hGr,abe hGr]
 have⟨c1,l,⟨X,aa,ae⟩,app,ai,B⟩:=app;have S4:abf pG 22 (sL (Z id) (n-1) cap) (Z (.int .i64 ((n-1:Nat):Int))) (Z (.int .i64 (n:Int))) Y=Z (sL (Z ⟨id,(n-1)*2,Y⟩) 1 (cap-(n-1))):=by have a1:((n-1:Nat):Int)<=(n:Int):=NH;have a2:(0:Int)<=((n-1:Nat):Int):=NH;have a3:n-1<=cap:=NH;have a4:¬cap=n-1:=NH;have a5:n-(n-1)=1:=NH;simp only[abf,d,k,if_false,a3,j,aiI,and_self,if_true,abm,abL,F,G,a1,a2,yM,a4,a5,V9,Ip,WE,EL]
 have p:∃c2,ae9 pG l 22 (sL (Z ⟨id,(n-1)*2,Y⟩) 1 (cap-(n-1)))=Z (.tuple #[],l.put id (.cells c2))/\c2.take ((n-1)*2)=c1.take ((n-1)*2):=by
  have u:acd pG 49=Z (.agg #[vV.int .i64 0,vV.int .i64 0]):=Ji;have aj:(vV.agg #[vV.int .i64 0,vV.int .i64 0]).cells=#[vV.int .i64 0,vV.int .i64 0]:=Ji;have zr:acY (vV.agg #[vV.int .i64 0,vV.int .i64 0]).cells.toList 1=[vV.int .i64 0,vV.int .i64 0]:=Ji;refine⟨putCells c1 ((n-1)*2) [vV.int .i64 0,vV.int .i64 0],?_,?_⟩
  .have r:(n-1)*2+1*(vV.agg #[vV.int .i64 0,vV.int .i64 0]).cells.size<=c1.length:=hGr;have fl:(vV.agg #[vV.int .i64 0,vV.int .i64 0]).cells.toList.all flat=tT:=Ji;simp only[ae9,d,u,X,fl,r,decide_true,Bool.and_self,cond_true,zr];rfl
  grind[IW]
 have⟨c2,p,C⟩:=p;refine AC.vF func62 ntmps62 results62 fun aq=>?_;have s:=fun m g=>Jg (P:=pG) (t:=22) (a:=Z id) (n:=m) (cap:=cap) d g;have d1:decide ((i:Int)=((i+1:Nat):Int))=fF:=IE NH;refine Sk (xU s y @ag6 d1) ?_;refine gh (fRn 0 6 (JQ 6 [2,5] (JQ 7 [0,1,2,3,4,5,6] .done))) ?_;simp only[HO,seval,Qg,N,O,app,s,S4,p];exact⟨n-1,NH,rfl,rfl,c2,(by grind[aai.Y3,Le.put,aai.By]),by rw[C,B]⟩
theorem aeX:∀(l:xLP)(i:Nat),i<l.length->(Iu l).take (i*2)++((Iu l).drop ((i+1)*2)).take ((l.length-(i+1))*2)=Iu (l.eraseIdx i):=by grind[afq,za,Ta,mZ,eraseIdx_eq_take_drop_succ]
theorem aeY(q:LA){v:vV}(g:GP h v ps)(hi:i<ps.length)(s:ps.length<=100000):
  AC pG q 62 [v,i,((i+1:Nat):Int)] h fun x h'=>PR h' x (ps.eraseIdx i)/\Ct x (ps.eraseIdx i).length/\∀f,Le f h->Z2 f v->Le f h':=by
 have a:(ps.eraseIdx i).length=ps.length-1:=by rw[alC,Sb hi]
 have hP:=aeX ps i hi;have d:=WI ps;obtain⟨w,⟨rfl,C⟩|⟨id,c,cap,rfl,t,p,y⟩⟩:=g
 .omega
 have e:ps.length*2<=c.length:=by have:=congrArg List.length p;rw[zx,w]at this;omega
 have z:c.take (i*2)=(Iu ps).take (i*2):=by rw[<-p,take_take];congr 1;omega
 have A:(c.drop ((i+1)*2)).take ((ps.length-(i+1))*2)=((Iu ps).drop ((i+1)*2)).take ((ps.length-(i+1))*2):=by rw[<-p,qL254,take_take];congr 1;omega
 have u:(c.take (ps.length*2)).all (·.oneCell')=tT:=by rw[p];exact d
 have fin:∀(cap':Nat)(h':aai)(c':xLV),h'.own id=Z (.cells c')->c'.take ((ps.length-1)*2)=c.take (i*2)++((c.drop ((i+1)*2)).take ((ps.length-(i+1))*2))->PR h' (sL (Z id) (ps.length-1) cap') (ps.eraseIdx i):=fun cap' h' c' j ct=>by
  rw[z,A,hP]at ct;have l:(ps.eraseIdx i).length=ps.length-1:=by rw[alC,Sb hi]
  have hlen:(ps.length-1)*2<=c'.length:=by have:=congrArg List.length ct;rw[zx,Ta,l]at this;omega
  have:=CS.own (k:=2) (off:=0) (n:=ps.length-1) (cap:=cap') j NH;rw[aiU,ct]at this;unfold PR;rw[l];exact this
 rcases y with rfl|⟨rfl,m⟩
 .refine(AC.exact (Q:=fun n' h'=>n'=ps.length-1/\∃c',(h'.own id=Z (.cells c')/\(∀f,Le f h->f.own id=Y->Le f h')/\∀b o,b≠id->h.own b=Z o->h'.own b=Z o)/\c'.take ((ps.length-1)*2)=c.take (i*2)++((c.drop ((i+1)*2)).take ((ps.length-(i+1))*2))) NH fun cap h2 h3=>aeW q id ps.length i cap c h t e u hi s h2 h3).mono ?_;rintro x h' ⟨n',rfl,rfl,c',⟨j,fr,B⟩,ct⟩;exact⟨fin _ h' c' j ct,by rw[a];exact⟨_,_,rfl,hGr⟩,fun f r af=>fr f r (af id rfl)⟩
 .refine(aeW q id ps.length i ps.length c h t e u hi s (qL0 _) (Nat.lt_trans m WY)).mono ?_;rintro x h' ⟨n',-,rfl,rfl,c',⟨j,fr,B⟩,ct⟩;exact⟨fin _ h' c' j ct,by rw[a];exact⟨_,_,rfl,.inl ⟨Nat.lt_trans m WY,NH⟩⟩,fun f r af=>fr f r (af id rfl)⟩
def LessI_any(d:LA)(a b:Int)(h:aai):AC pG d 120 [a,b] h fun x h'=>x=.bool (decide (a<b))/\h'=h:=by
 refine AC.vF func120 ntmps120 results120 fun e=>?_;refine Uy ?_;refine kCi qS26 (Pd d a h) ?_;rintro x f w1 ⟨rfl,rfl⟩;by_cases c:a<b
 .simp only[HO,seval,c];exact⟨Ma,trivial⟩
 .simp only[HO,seval,c];exact⟨Ma,trivial⟩
theorem acI(u:LA)(v:vV)(xs:RZ)(x:Int)(h:aai)(l:RL RP h v xs)(M:xs.length<=1000)(ha:xs.Pairwise (·<·))(A:x∈xs):
  AC pG u 137 [v,x] h fun y h'=>(∃i:Nat,y=.tuple #[.int .i64 i,.bool tT]/\xs[i]?=Z x)/\h'=h:=by
 have lt:∀(i j:Nat) a b,i<j->xs[i]?=Z a->xs[j]?=Z b->a<b:=fun i j a b B hi C=>by obtain⟨N,rfl⟩:=Ny.1 hi;obtain⟨h2,rfl⟩:=Ny.1 C;exact(by grind[pairwise_iff_getElem])
 have⟨q,f⟩:=Og.1 A;have n:=(Ny.1 f).1;refine AC.vF func137 ntmps137 results137 fun D=>?_;have E:=fun g=>l.TA g;refine Sk E ?_;refine lIn (fun k fr hh=>∃lo hi:Nat,k=hi-lo/\lo<=q/\q<=hi/\hi<=xs.length/\fr=mkF [(0,v),(1,x),(6,xs.length),(7,lo),(8,.int .i64 hi)]/\hh=h) ⟨0,xs.length,rfl,aax _,NH,qL0 _,rfl,rfl⟩ ?_;rintro k fr hh F ⟨lo,hi,rfl,p,s,t,rfl,rfl⟩;refine Uy ?_;refine Kl.intro (fun w=>?_) (fun hf=>?_)
 .have G:lo<hi:=acb w;clear w;have a1:aaY .i64 ((lo:Int)+(hi:Int))=((lo+hi:Nat):Int):=by grind[cT]
  have a2:=aw_u64 (lo+hi) NH;have H:=Tq (lo+hi) NH;have I:aaY .i64 (((lo+hi) / 2:Nat):Int)=(((lo+hi) / 2:Nat):Int):=cT _ NH NH;have O:(lo+hi) / 2<hi:=NH;have J:lo<=(lo+hi) / 2:=NH;refine Sk (bG a1 @cv3u a2 H @cvu3 I) ?_;generalize (lo+hi) / 2=m at*;have d:m<xs.length:=NH;have ad:=l.DH m d;have ld:=l.Uc m d;have o:=CA d;generalize xs[m]=y at*;simp only[HO,seval,ad,ld];refine kCi func120 (LessI_any u y x hh) ?_;rintro z h3 P ⟨rfl,rfl⟩;by_cases c:y<x
  .have dc:decide (y<x)=tT:=Z6 c;have e:m<q:=by
    rcases adQ m q with r|r|r
    .exact r
    .subst r;rw[o]at f;injection f with f;omega
    .have:=lt q m x y r f o;omega
   refine Sk (XC dc (aaa m NH)) ?_;exact lgA NH ⟨m+1,hi,rfl,e,s,t,rfl,rfl⟩
  .have dc:decide (y<x)=fF:=IE c;have e:q<=m:=by
    rcases aeP m q with r|r
    .exact hGr
    .exact r
   refine Sk dc ?_;exact lgA NH ⟨lo,m,rfl,p,e,NH,rfl,rfl⟩
 have K:hi<=lo:=vp hf;obtain rfl:lo=q:=NH;have dl:decide ((lo:Int)<(xs.length:Int))=tT:=Z6 NH;have ad:=l.DH lo n;have ld:=l.Uc lo n;rw[(Ny.1 f).2]at ld;have dx:decide (x=x)=tT:=Z6 rfl;have L:((lo:Int)<(xs.length:Int))=True:=hGr;simp only[HO,seval,L,dl,ad,ld,dx];exact hGr
def idx_eq{b:xLP}{x:Int}(h:(kz (aag n b))[i]?=Z x):i=abD n b x:=by
 have f:(aag n b).Pairwise (·<·):=b7.filter _;unfold abD;generalize aag n b=l at*
 induction l generalizing i with
 |nil=>simp[kz]at h
 |cons a l g=>
  have⟨d,h2⟩:=afC.1 f;cases i with
  |zero=>
   have e:x=(a:Int):=by simpa[kz]using h.symm
   subst e;rw[qL183.2];intro v j;rcases HV.1 j with rfl|q
   .simp
   .have:=d v q;simp;omega
  |succ i=>
   have h':(kz l)[i]?=Z x:=by simpa[kz]using h
   have hi:=g h' h2;have⟨w,hw,e⟩:=si.1 (BS h');have c:(a:Int)<x:=by have:=d w hw;omega
   rw[al0,Sb (by simpa using c),<-hi]
def mkKI2(h:aai)(a b:Int):aas pG h 28 2 [(0,a),(1,b)]=Z (sL (Z h.next) 2 2,h.alloc (.cells [a,b])):=Ji
def agH(l:xLP)(p:Pr):adJ (l++[p])=adJ l++[p.1,p.2]:=by simp[adJ]
def agu(l:xLP):(adJ l).length=2*l.length:=by
 induction l with
 |nil=>rfl
 |cons p l a=>simp only[adJ,y5,aaf,Vn,NC]at*;omega
theorem flat_any(m:LA)(bv:vV)(n:Nat)(b:xLP)(h:aai)(r:PR h bv b)(hR:aV n b)(hn:n<=200)(hl:b.length<=594):
  AC pG m 90 [bv] h fun x h'=>RR (aaV n b) x/\Le h h':=by
 have C:=fun g=>r.len g;refine AC.vF func90 ntmps90 results90 fun aa=>?_;by_cases W:b.length<9
 .have D:decide ((b.length:Int)<9)=tT:=Z6 NH;refine Sk (XC C D) ?_;exact⟨⟨tT,rfl,fun _=>.inl W,fun _=>rfl⟩,Le.refl _⟩
 have D:decide ((b.length:Int)<9)=fF:=IE NH;refine Sk (XC C D) ?_;refine lIn (fun k fr o=>∃(i:Nat)(z:vV),k=b.length-i/\i<=b.length/\fr=mkF [(0,bv),(3,z),(18,bv),(19,.int .i64 b.length),(20,i)]/\GI o z (adJ (b.take i))/\Le h o/\Z2 h z) ⟨0,_,rfl,aax _,rfl,GI.nil h,Le.refl _,fun b hb=>by simp[blk]at hb⟩ ?_;rintro k fr o E ⟨i,z,rfl,hi,rfl,g,F,ap⟩;refine Uy ?_;refine Kl.intro (fun s=>?_) (fun hf=>?_)
 .have d:i<b.length:=acb s;clear s;have f:=CA d;have l:b.take (i+1)=b.take i++[b[i]]:=XJ d;have hle:(adJ (b.take i)).length<=2000:=by rw[agu,zx];omega
  generalize b[i]=p at f l;have ad:=r.addr (k:=.i64) i d;have ld:=(r.le F).load f;have⟨ae,h3,e2,e3,j,H,o3⟩:=Ut E p;have m0:=lK o3;have m1:=HY o3;have l3:=F.trans j;have⟨A,e4,l4,w4,o4⟩:=Tt H [p.1,p.2];have bs:=mkKI2 h3 p.1 p.2;rw[e4]at bs
  have r4:RL RP A (sL (Z h3.next) 2 2) [p.1,p.2]:=RL.Wh (RS.whole o4 rfl)
  obtain⟨jv,h6,J,K,w6,f6,-⟩:=GI.join ((g.le j).le l4) w4 r4 (by simp;omega);have⟨l6,aj⟩:=f6 h (l3.trans l4) ap;rw[<-agH,<-l]at K;simp only[HO,seval,ad,ld,e2,e3,Dh,Z0,Ip,EL,m0,m1,bs,J,aaa i NH];exact lgA (JS d) ⟨i+1,jv,rfl,d,rfl,K,l6,aj⟩
 have t:b.length<=i:=vp hf;rw[abe t]at g;refine Uy ?_;refine kCi qS22 (VQ m g (by rw[agu];omega)) ?_;rintro x h2 w2 ⟨rfl,g2,k2⟩;have L:=k2 h F ap;refine Uy ?_;refine kCi func58 (VY m g2 (by rw[OX,agu];omega)) ?_;rintro M h3 w3 ⟨N,-,k3⟩;have j:=k3 h L ap;rw[adX hR]at N;have lv:=fun g=>N.TA g;rw[y6]at lv;have⟨A,h5,e4,e5,l5,w5,nX,G0⟩:=GX.new w3 ((aag n b).length:Int);refine Sk (IX lv @ait e4 e5 C) ?_;have ai:(aag n b).length<=200:=ff (OM _ _) (by simp;omega);have u:(kz (aag n b)).Pairwise (·<·):=by unfold kz;rw[V3];exact(b7.filter _).imp fun h=>by omega
 have O:h3.own h3.next=Y:=by grind[Le.next]
 generalize h3.next=X at*
 refine lIn (fun k fr o=>∃(i:Nat)(ev:vV),k=b.length-i/\i<=b.length/\fr=mkF [(3,M),(6,pT (Z X)),(39,bv),(40,.int .i64 b.length),(41,i)]/\GX o X (aag n b).length ev (aat n b|>.take i)/\Le h3 o/\Z2 h3 ev) ⟨0,_,rfl,aax _,rfl,G0,l5,fun b hb=>by simp[blk]at hb⟩ ?_;clear G0 w5 l5 e5 e4;rintro k fr hz P ⟨i,ev,rfl,hi,rfl,G,B,az⟩;refine Uy ?_;refine Kl.intro (fun s=>?_) (fun hf=>?_)
 .have d:i<b.length:=acb s;clear s;have f:=CA d;have Q:(aat n b)[i]?=Z ((abD n b b[i].1:Int),(abD n b b[i].2:Int)):=by rw[aat,Q4,f];rfl
  have l:(aat n b).take (i+1)=(aat n b).take i++[((abD n b b[i].1:Int),(abD n b b[i].2:Int))]:=by rw[To,Q];rfl
  have v:((aat n b).take i).length+1<=100000:=by rw[zx];omega
  have aq:=BS f;have hm:∀x,aO b[i] x=tT->x∈kz (aag n b):=by grind[adX,jn,Wv,aeS]
  have R:=hm b[i].1 (by simp[aO]);have S:=hm b[i].2 (by simp[aO]);generalize b[i]=p at*;have ad:=r.addr (k:=.i64) i d;have ld:=(r.le (j.trans B)).load f;have⟨ar,h6,J,s6,l6,w6,o6⟩:=Ut P p;have m0:=lK o6;have m1:=HY o6;have r6:=N.le Nn.RP (B.trans l6);have aw:=aaa i NH;simp only[HO,seval,ad,ld,J,s6,Dh,Z0,Ip,EL,m0];refine kCi func137 (acI m M _ p.1 h6 r6 (by rw[y6];omega) u R) ?_;rintro y h7 w7 ⟨⟨a,rfl,ha⟩,rfl⟩;refine Sk (IX @Dh @Z0 @Ip.eq_1 @EL m1) ?_;refine kCi func137 (acI m M _ p.2 h7 r6 (by rw[y6];omega) u S) ?_;rintro y h8 w8 ⟨⟨c,rfl,hc⟩,rfl⟩;obtain rfl:=idx_eq ha;obtain rfl:=idx_eq hc;have G6:=G.le l6;obtain⟨v',g4,g5,K,q4,q5,q6,G7,av,l7,f7,-⟩:=G6.push' w8 ((abD n b p.1:Int),(abD n b p.2:Int)) v;have⟨T,a7⟩:=f7 h3 (B.trans l6) O az;rw[<-l]at G7;have U:=xe (abD n b p.1:Int) (abD n b p.2:Int);simp only[HO,seval,Di,Ip,EL,G6.ld.2.2,U,q4,q5,q6,aw];exact lgA (JS d) ⟨i+1,v',rfl,d,rfl,G7,T,a7⟩
 have t:b.length<=i:=vp hf;have v:(aat n b).length=b.length:=by simp[aat]
 rw[abe NH]at G;refine Sk G.ld.1 ?_;refine kCi func59 (Im m _ ⟨((aag n b).length:Int),aat n b⟩ hz ⟨ev,rfl,G.gp.pr,GS.okc G.gp⟩) ?_;rintro x h9 w9 ⟨l9,rv,e,rfl,I⟩;have V:=(j.trans B).trans l9;have key:decide (e=0)=tT↔aaV n b:=by
  rw[abV];constructor
  .intro he;rcases I with⟨-,q,-⟩|⟨-,-,q,-⟩|⟨-,-,-,-,q,-⟩|⟨w,h2,rs,-,h3,A,-⟩
   .omega
   .omega
   .omega
   .exact .inr ⟨w,h2,Vg w.GD w.q9 h3 A⟩
  .rintro(q|⟨w,h2,h3⟩)
   .exact absurd q W
   .obtain⟨rs,-,-,-,q,-⟩:=I.XK w h2 h3;exact q
 refine Uy ?_;exact⟨⟨_,rfl,key⟩,V⟩
def fkM_len(key:Pr->Int)(es:xLP):(CY key es).length<=es.length:=by
 have:∀(es:xLP)(ks:RZ),(es.foldl (fkS key) ks).length<=ks.length+es.length:=by
  intro es
  induction es with
  |nil=>simp
  |cons p es a=>
   intro ks;have:=a (fkS key ks p);have h2:(fkS key ks p).length<=ks.length+1:=by unfold fkS;split<;>simp
   simp only[gK,Vn];omega
 have:=this es [];rw[NC,EL]at this;exact this
def afx(n:Nat)(es:xLP):(vq n es).length<=es.length:=by rw[aaB,vg];exact fkM_len _ _
theorem aaO(o:LA)(v:vV)(G:GM)(h:aai)(hg:GR h v G):
  AC pG o 60 [v] h fun x h'=>RR (bX G/\aak G.n.toNat G.es) x/\Le h h':=by
 have j:=hg;have⟨D,es⟩:=G
 obtain⟨ev,rfl,E⟩:=hg.open
 refine AC.vF func60 ntmps60 results60 fun F=>?_;obtain⟨O,T,r,U,-,Q⟩:=r8 (n:=D) F E
 generalize h.next=B at*
 have H:=Q O (Le.refl _);refine Sk (XC T H.1) ?_;refine kCi func34 (Cw o _ ⟨D,es⟩ O (j.le r)) ?_;rintro x h2 w2 ⟨l2,V⟩;have s:=Q h2 l2;have l:=r.trans l2;rcases V with⟨W,rfl⟩|⟨m,X,rfl,z⟩
 .refine Sk s.1 ?_;refine kCi qS6 (ak o _ _ h2 (j.le l)) ?_;rintro x h3 w3 ⟨⟨t,rfl,a⟩,l3⟩;cases t with
  |true=>exact absurd (a.1 rfl) W
  |false=>refine Uy ?_;exact(by grind[RR.f,Le.trans])
 refine Sk s.1 ?_;refine kCi qS6 (ak o _ _ h2 (j.le l)) ?_;rintro x h3 w3 ⟨⟨t,rfl,a⟩,l3⟩;obtain rfl:t=tT:=a.2 m;clear a;have I:=l.trans l3;have h0:0<=D:=m.n0;obtain⟨n,rfl⟩:=qL7 h0;simp only[yM]at z ⊢;have lk:=fun g=>z.len (P:=pG) alD g;have aa:aak n es↔∀b∈vq n es,aaV n b:=⟨fun q=>q.2,fun q=>⟨m,q⟩⟩;have w:∀b∈vq n es,b.Sublist es:=by grind[mem_iff_getElem?,Jh,filter_sublist]
 have ae:(vq n es).length<=100000:=by have:=afx n es;have:es.length<=594:=m.len;omega
 generalize vq n es=bs at*;have d0:decide ((0:Int)=0)=tT:=by decide
 refine Sk (Yb @bne.eq_1.{0} d0 lk) ?_
 refine lIn (fun k fr A=>∃i:Nat,k=bs.length-i/\i<=bs.length/\fr=mkF [(19,X),(20,.int .i64 bs.length),(21,.int .i64 i)]/\Le h3 A/\∀b∈bs.take i,aaV n b) ⟨0,rfl,aax _,rfl,Le.refl _,fun b hb=>by simp at hb⟩ ?_;rintro k fr A ai ⟨i,rfl,hi,rfl,C,e⟩;refine Uy ?_;refine Kl.intro (fun R=>?_) (fun hf=>?_)
 rotate_left
 .have J:bs.length<=i:=vp hf;rw[abe J]at e;refine Uy ?_;exact⟨⟨tT,rfl,hGr,fun _=>rfl⟩,I.trans C⟩
 have d:i<bs.length:=acb R;clear R;have K:bs.take (i+1)=bs.take i++[bs[i]]:=XJ d;have L:=aev d;have M:=z.addr (P:=pG) alD eY Ji (k:=.i64) i d;have⟨u,N,hu⟩:=z.load' (P:=pG) eY rfl i d;have lu:=N A (l3.trans C);generalize bs[i]=b at*;have hs:=w b L;have y:b.length<=594:=ff hs.length_le m.len;simp only[HO,seval,M,lu];refine kCi func90 (flat_any o u n b A (hu.le (l3.trans C)) (fun p E=>m.GD p (hs.subset E)) (by have:(n:Int)<=200:=m.n1;omega) y) ?_;rintro x h5 w5 ⟨⟨t,rfl,a⟩,l5⟩;cases t with
 |false=>refine Uy ?_;exact(by grind[RR.f,Le.trans])
 |true=>
  refine Sk (aaa i NH) ?_;exact lgA (JS d) ⟨i+1,rfl,d,rfl,C.trans l5,fun c S=>by
   rw[K]at S;rcases vZ.1 S with q|q
   .exact e c q
   .rw[iy.1 q];exact a.1 rfl⟩
attribute [local instance] Classical.propDecidable in
theorem KFind_any(e:LA)(v:vV)(G:GM)(h:aai)(hg:GR h v G):
  AC pG e 36 [v] h fun x h'=>Le h h'/\((¬bX G/\x=.tuple #[.slice Y 0 0,.int .i64 20])\/(bX G/\∃d,x=.tuple #[d,.int .i64 0]/\PR h' d (abv G)/\Ct d (abv G).length)):=by
 have m:=hg;have⟨Q,es⟩:=G
 obtain⟨ev,rfl,R⟩:=hg.open
 refine AC.vF func36 ntmps36 results36 fun A=>?_;obtain⟨C,V,f,W,-,z⟩:=r8 (n:=Q) A R
 generalize h.next=B at*
 have o:=z C (Le.refl _);refine Sk (XC V o.1) ?_;refine kCi qS6 (ak e _ _ C (m.le f)) ?_;rintro x h2 w2 ⟨⟨p,rfl,a⟩,l2⟩;have q:=z h2 l2;have r:=f.trans l2;cases p with
 |false=>refine Uy ?_;exact hGr
 |true=>
 have D:=a.1 rfl;clear a;have X:0<=Q:=D.n0;obtain⟨n,rfl⟩:=qL7 X;refine Sk q.1 ?_;refine kCi func60 (aaO e _ ⟨(n:Int),es⟩ h2 (m.le r)) ?_;rintro x h3 w3 ⟨⟨p,rfl,a⟩,l3⟩;simp only[yM]at a;have s:=r.trans l3
 have hf:∀F,F=abv ⟨(n:Int),es⟩->F=if aak n es then[]else aeH n es.length 0 es:=fun F b=>b
 cases p with
 |true=>have:=hf _ rfl;rw[Sb (a.1 rfl).2]at this;refine Uy ?_;exact(by grind[GP.nil,GP.pr,GP.ct])
 |false=>
 have b:=hf _ rfl;rw[WA hGr]at b;generalize abv ⟨(n:Int),es⟩=F at*;clear hf a;have t:es.length<=594:=D.len;refine Sk (xU @Di @Ip.eq_1 @EL ((z h3 (l2.trans l3)).2.2)) ?_;refine kCi qS32 (DA e ev es h3 (R.le s) NH) ?_;rintro d h4 w4 ⟨E,l4,-⟩;have H:=s.trans l4;refine Uy ?_;refine lIn (fun k fr u=>∃(i:Nat)(l:xLP)(d:vV),k=l.length-i/\i<=l.length/\fr=mkF [(1,pT (Z B)),(4,d),(5,i)]/\PR u d l/\Ct d l.length/\Le C u/\aeH n (l.length-i) i l=F/\l.Sublist es) ⟨0,es,d,rfl,aax _,rfl,E.pr,E.ct,(by grind[Le.trans]),b.symm,alZ _⟩ ?_;clear E w4 l4 H b o q;clear d;rintro k fr u aa ⟨i,l,d,rfl,hi,rfl,pl,cl,I,b,hs⟩;have S:=fun g=>pl.len g;have ae:l.length<=594:=ff hs.length_le t;have ai:=f.trans I;by_cases c:i<l.length
 rotate_left
 .have dc:decide ((i:Int)<(l.length:Int))=fF:=IE NH;have J:((i:Int)<(l.length:Int))=False:=hGr;have K:l.length-i=0:=NH;rw[K]at b;have b:l=F:=b;refine Sk (Yb S dc J) ?_;exact hGr
 have dc:decide ((i:Int)<(l.length:Int))=tT:=Z6 NH;have J:((i:Int)<(l.length:Int))=True:=hGr;have hk:l.length-i=(l.length-(i+1))+1:=NH;rw[hk,aeH,Sb c]at b;have aw:=aaa i NH;refine Sk (Yb S dc J) ?_;refine kCi qS32 (DA e d l u pl NH) ?_;rintro cv h5 w5 ⟨g5,l5,a5⟩;simp only[HO,seval,aw];refine kCi func62 (aeY e g5 c NH) ?_;rintro T U w6 ⟨L,c6,k6⟩;have j:=k6 u l5 a5;have M:=z U (I.trans j);have N:=Wj (n:=(n:Int)) L.sl;refine Sk (IX @Ii @Ip.eq_1 @EL M.2.1 N) ?_;refine kCi func60 (aaO e _ ⟨(n:Int),l.eraseIdx i⟩ U ⟨T,rfl,L⟩) ?_;rintro x h7 w7 ⟨⟨p,rfl,a⟩,O⟩;simp only[yM]at a;have w:=(ahl l i).trans hs;have aj:bX ⟨(n:Int),l.eraseIdx i⟩:=D.sub w;have P:(l.eraseIdx i).length=l.length-1:=by rw[alC,Sb c]
 have y:=I.trans (j.trans O);cases p with
 |true=>rw[Sb (a.1 rfl).2]at b;simp only[HO,seval,aw];exact lgA NH ⟨i+1,l,d,rfl,c,rfl,pl.le (j.trans O),cl,y,b,hs⟩
 |false=>rw[WA hGr]at b;refine Uy ?_;exact lgA NH ⟨i,l.eraseIdx i,T,rfl,NH,rfl,L.le O,c6,y,by rw[P,show l.length-1-i=l.length-(i+1) by omega];exact b,w⟩
variable {a j:Nat}
def acJ(a j:Nat):xLP:=(rG (j-(a+1))).map fun t=>((a:Int),((a+1+t:Nat):Int))
def afP(f n:Nat):Nat->xLP
 |0=>[]
 |k+1=>afP f n k++acJ (f+k) n
def afy(h:a+1<=j):acJ a (j+1)=acJ a j++[((a:Int),(j:Int))]:=by unfold acJ;rw[show j+1-(a+1)=(j-(a+1))+1 by omega,rY,abZ];simp;omega
def ad4(a j:Nat):(acJ a j).length<=j:=by simp[acJ]
def ad5(f n:Nat):∀k,(afP f n k).length<=n*k
 |0=>qL0 _
 |k+1=>by have:=ad5 f n k;have:=ad4 (f+k) n;rw[afP,aaf,Nat.mul_add];omega
attribute [local instance] Classical.propDecidable
theorem agf{on on':Nat->Bool}(b:∀u,on u=fF->on' u=fF){es:xLP}{u w:Nat}(h:Cn on es u w):Cn on' es u w:=by
 induction h with
 |refl h=>exact .refl (b _ h)
 |step _ a o c=>exact .step c a (b _ o)
def agI{on:Nat->Bool}{es:xLP}{S:Nat->Prop}{x0 c:Nat}(h:Cn on es x0 c)(e:S x0)(b:¬S c):∃x y,S x/\¬S y/\Jp es x y/\Cn (fun u=>on u||decide (S u)) es y c:=by
 induction h with
 |refl _=>exact absurd e b
 |@step w x h a o f=>
  have d:(on x||decide (S x))=fF:=by rw[o,IE b];rfl
  by_cases hw:S w
  .exact⟨w,x,hw,b,a,.refl d⟩
  .obtain⟨p,q,g,h2,h3,i⟩:=f hw;exact⟨p,q,g,h2,h3,.step i a d⟩
theorem first_in{on:Nat->Bool}{es:xLP}{t a w:Nat}(ne:a≠t)(h:Cn on es a w):Cn (fun u=>on u||decide (u=t)) es a w\/∃z,Jp es z t/\Cn (fun u=>on u||decide (u=t)) es a z:=by
 induction h with
 |refl h=>exact .inl (.refl (by rw[h,IE ne];rfl))
 |@step w x h a o b=>
  rcases b with q|q
  .by_cases e:x=t
   .subst e;exact hGr
   .exact .inl (.step q a (by rw[o,IE e];rfl))
  .exact .inr q
def abb(n:Nat)(es:xLP)(k:Int):xLP:=es.filter fun p=>decide (cQ n es p=k)
section
variable{n:Nat}{es:List Pr}(hr:aV n es)
theorem aaw{k:Int}{p:Pr}:p∈abb n es k↔p∈es/\cQ n es p=k:=by simp[abb]
def ajm(k:Int):(abb n es k).Sublist es:=Tn
include hr
def age(k:Int):aV n (abb n es k):=fun p a=>hr p (aaw.1 a).1
theorem abM{k:Int}{u w:Nat}:Jp (abb n es k) u w↔Jp es u w/\cQ n es (GW u w)=k:=by
 constructor
 .intro h;have a:=aaw.1 (H4 (age hr k) h);exact⟨h.imp (by grind[aaw]) (by grind[aaw]),a.2⟩
 .rintro⟨a,h2⟩;have b:=aaw.2 ⟨H4 hr a,h2⟩;have ne:u≠w:=fun e=>by subst e;exact Xa hr a
  rcases WL ne with c|c
  .left;rwa[GW,qL241 NH,qL230 NH]at b
  .right;rwa[GW,Int.min_eq_right NH,Int.max_eq_left NH]at b
theorem blk_path{v a c:Nat}(ha:Jp es v a)(o:Jp es v c)(h:Cn (wo v) es a c):Cn (wo v) (abb n es (cQ n es (GW v a))) a c:=by
 generalize p:cQ n es (GW v a)=K;have nva:a≠v:=by grind[Xa]
 refine j9 fun r=>?_;have d:Cn (wo v) (abb n es K) a a:=.refl (iO nva);have⟨x,y,l,s,b,f⟩:=agI (S:=fun u=>Cn (wo v) (abb n es K) a u) h d r;have g:y≠v:=by grind[Cn.off1]
 have key:cQ n es (GW x y)=K:=by
  have off:∀u,(wo v u||decide (Cn (wo v) (abb n es K) a u))=fF->wo x u=fF:=by grind[of_decide_eq_false]
  have i:v≠x:=by grind[Cn.AB]
  have m:Cn (wo x) es y v:=.step (agf off f) o.symm (iO i);by_cases e:x=a
  .subst e;rw[(dR hr b ha.symm).2 m,so];exact p
  .rcases first_in (wI e) l with q|⟨z,t,q⟩
   .have:=q.AB;simp at this
   .obtain⟨j,k⟩:=(abM hr).1 t;have w:Cn (wo x) es a z:=by
     have:Cn (wo x) (abb n es K) a z:=by grind[agf]
     exact(by grind[Cn.mono,aaw])
    have ya:Cn (wo x) es y z:=(Cn.step m ha hGr).trans w;rw[(dR hr b j.symm).2 ya,so];exact k
 exact s (.step l (by grind[abM]) (iO g))
theorem blk_one{k:Int}{p q:Pr}(b:p∈abb n es k)(d:q∈abb n es k):cQ n (abb n es k) p=cQ n (abb n es k) q:=by
 have hb:=age hr k
 have:=adg hr (fun r=>if r∈abb n es k then cQ n (abb n es k) r else-1) (fun v a c ha f h=>?_) (aaw.1 b).1 (aaw.1 d).1 (by grind[aaw])
 .rw[Sb b,Sb d]at this;exact this
 have e:=(dR hr ha f).2 h;have m1:GW v a∈abb n es k↔cQ n es (GW v a)=k:=by rw[aaw];exact(by grind[H4])
 have m2:GW v c∈abb n es k↔cQ n es (GW v c)=k:=by rw[aaw];exact(by grind[H4])
 by_cases c1:cQ n es (GW v a)=k
 .have c2:cQ n es (GW v c)=k:=e▸c1;rw[Sb (m1.2 c1),Sb (m2.2 c2)];refine(dR hb (by grind[abM]) (by grind[abM])).2 ?_;have:=blk_path hr ha f h;rwa[c1]at this
 .rw[WA (fun q=>c1 (m1.1 q)),WA (fun q=>c1 (by rw[e];exact m2.1 q))]
theorem key_mono{c:xLP}(hs:∀p∈c,p∈es){n':Nat}(d:aV n' c){p q:Pr}(e:p∈c)(f:q∈c)(h:cQ n' c p=cQ n' c q):cQ n es p=cQ n es q:=adg d (fun r=>cQ n es r) (fun v a b ha hb g=>(dR hr (ha.imp (hs _) (hs _)) (hb.imp (hs _) (hs _))).2 (g.mono hs)) e f h
end
theorem aaP{n:Nat}{es b:xLP}:b∈vq n es↔∃p∈es,b=abb n es (cQ n es p):=by
 rw[aaB,si];constructor
 .rintro⟨k,c,rfl⟩;obtain⟨p,a,rfl⟩:=((ahE (cQ n es) _ es rfl).2 k).1 c;exact⟨p,a,rfl⟩
 .rintro⟨p,a,rfl⟩;exact⟨cQ n es p,((ahE (cQ n es) _ es rfl).2 _).2 ⟨p,a,rfl⟩,rfl⟩
theorem ae0{n:Nat}{es:xLP}(h:∀p∈es,∀q∈es,cQ n es p=cQ n es q){b:xLP}(hb:b∈vq n es):b=es:=by obtain⟨p,a,rfl⟩:=aaP.1 hb;exact FD.2 (by grind[decide_eq_true])
theorem blocks_ne{n:Nat}{es:xLP}(h:∀p∈es,∀q∈es,cQ n es p=cQ n es q)(a:es≠[]):es∈vq n es:=by obtain⟨p,l,rfl⟩:=N8 a;exact aaP.2 ⟨p,Ma,(FD.2 (by grind[decide_eq_true])).symm⟩
def aeo(n:Nat)(b:xLP):Prop:=bX ⟨(n:Int),b⟩/\b≠[]/\∀p∈b,∀q∈b,cQ n b p=cQ n b q
theorem aaQ{n:Nat}{es b:xLP}(hr:bX ⟨(n:Int),es⟩)(hb:b∈vq n es):aeo n b:=by obtain⟨p,d,rfl⟩:=aaP.1 hb;exact⟨hr.sub (ajm _),JR (aaw.2 ⟨d,rfl⟩),fun a ha c e=>blk_one hr.GD ha e⟩
theorem abc{n:Nat}{b:xLP}(h:aeo n b):aak n b↔aaV n b:=⟨fun q=>q.2 b (blocks_ne h.2.2 h.2.1),fun q=>⟨h.1,fun c a=>by rw[ae0 h.2.2 a];exact q⟩⟩
theorem acp{n:Nat}{es:xLP}(hr:bX ⟨(n:Int),es⟩):aak n es↔∀b∈vq n es,aak n b:=⟨fun q b hb=>(abc (aaQ hr hb)).2 (q.2 b hb),fun q=>⟨hr,(by grind[abc,aaQ])⟩⟩
section
variable{n:Nat}{b:List Pr}(hR:aV n b)
def acw(n:Nat)(b:xLP):II:=aag n b++(rG n).filter fun(v:Nat)=>!b.any fun p=>aO p (v:Int)
def toV(n:Nat)(b:xLP)(u:Nat):Nat:=(acw n b).idxOf u
def ofV(n:Nat)(b:xLP)(i:Nat):Nat:=(acw n b).getD i 0
theorem acx:(acw n b).Perm (rG n):=by exact qL198 _ _
def adn:(acw n b).length=n:=by rw[(acx (n:=n) (b:=b)).length_eq,ag4]
theorem ordL_nd:(acw n b).Nodup:=by grind[acx]
def ads{u:Nat}:u∈acw n b↔u<n:=by rw[(acx (n:=n) (b:=b)).mem_iff,Db]
theorem toV_lt{u:Nat}(h:u<n):toV n b u<n:=by have:=abz (ads (b:=b)|>.2 h);rwa[adn]at this
def afz{i:Nat}(h:i<n):ofV n b i<n:=by
 have a:i<(acw n b).length:=by rw[adn];exact h
 have:ofV n b i=(acw n b)[i]:=D4 a;rw[this];exact ads.1 (aev a)
theorem abk{u:Nat}(h:u<n):ofV n b (toV n b u)=u:=by have c:=ads (b:=b)|>.2 h;have a:=abz c;unfold ofV toV;rw[D4 a];exact qL219 a
theorem toV_ofV{i:Nat}(h:i<n):toV n b (ofV n b i)=i:=by
 have a:i<(acw n b).length:=by rw[adn];exact h
 have e:ofV n b i=(acw n b)[i]:=D4 a;rw[e];exact qL234 ordL_nd i a
def ren_V(n:Nat)(b:xLP):Ren n (toV n b) (ofV n b):=⟨fun _ h=>toV_lt h,fun _ h=>afz h,fun _ h=>toV_ofV h,fun _ h=>abk h⟩
theorem toV_idx{u:Nat}(h:u∈aag n b):toV n b u=abD n b (u:Int)/\toV n b u<(aag n b).length:=by
 have a:=abz h;have e:toV n b u=(aag n b).idxOf u:=by unfold toV acw;rw[idxOf_append,Sb h]
 refine⟨?_,by rw[e];exact a⟩;rw[e];refine idx_eq (n:=n) (b:=b) ?_;rw[kz,Q4,CA a];simp[qL219 a]
include hR
theorem aaJ{u:Nat}:u∈aag n b↔∃w,Jp b u w:=by
 rw[aeT];constructor
 .rintro⟨f,p,e,h⟩;obtain⟨a,c,ha,g,d,rfl⟩:=aiu hR e;have h':u=a\/u=c:=by simp only[aO,bj,ai4,abV]at h;omega
  rcases h' with rfl|rfl
  .exact⟨c,d⟩
  .exact⟨a,d.symm⟩
 .rintro⟨w,h⟩;refine⟨(h.lt hR).1,GW u w,H4 hR h,?_⟩;simp only[aO,bj,ai4,abV];omega
theorem aep{x y:Int}:(x,y)∈aat n b↔∃u w:Nat,((u:Int),(w:Int))∈b/\x=(toV n b u:Int)/\y=(toV n b w:Int):=by
 unfold aat;rw[si];constructor
 .rintro⟨p,a,e⟩;have⟨c,h2,h3⟩:=hR p a;have⟨f,d⟩:=p;obtain⟨u,rfl⟩:=qL7 c;obtain⟨w,rfl⟩:=qL7 (show 0<=d by omega);injection e with g h;have m1:=(toV_idx ((aaJ hR).2 ⟨w,.inl a⟩)).1;have m2:=(toV_idx ((aaJ hR).2 ⟨u,.inr a⟩)).1;exact hGr
 .rintro⟨u,w,a,rfl,rfl⟩;have m1:=(toV_idx ((aaJ hR).2 ⟨w,.inl a⟩)).1;have m2:=(toV_idx ((aaJ hR).2 ⟨u,.inr a⟩)).1;exact hGr
theorem abR{v w:Nat}:Jp (aat n b) v w↔v<n/\w<n/\Jp b (ofV n b v) (ofV n b w):=by
 have one:∀v w:Nat,((v:Int),(w:Int))∈aat n b->v<n/\w<n/\((ofV n b v:Int),(ofV n b w:Int))∈b:=fun v w h=>by have⟨u,x,c,a,h2⟩:=(aep hR).1 h;have l1:=(show Jp b u x from .inl c).lt hR;obtain rfl:v=toV n b u:=NH;obtain rfl:w=toV n b x:=NH;rw[abk l1.1,abk l1.2];exact⟨toV_lt l1.1,toV_lt l1.2,c⟩
 constructor
 .rintro(h|h)
  .obtain⟨a,h2,h3⟩:=one _ _ h;exact⟨a,h2,.inl h3⟩
  .obtain⟨a,h2,h3⟩:=one _ _ h;exact⟨h2,a,.inr h3⟩
 .rintro⟨a,h2,h3|h3⟩
  .exact .inl (by grind[aep,toV_ofV])
  .exact .inr (by grind[aep,toV_ofV])
theorem adj_to{u w:Nat}(h:Jp b u w):Jp (aat n b) (toV n b u) (toV n b w):=by have l:=h.lt hR;exact(by grind[abR,toV_lt,abk])
theorem vert_lt{u w:Nat}(h:Jp b u w):toV n b u<(aag n b).length:=by grind[toV_idx,aaJ]
omit hR in
theorem aeq{x y:Nat}(e:x∈aag n b)(d:x<y):abD n b (x:Int)<abD n b (y:Int):=by
 have f:∀l:II,x∈l->l.countP (fun(v:Nat)=>decide ((v:Int)<(x:Int)))<l.countP fun(v:Nat)=>decide ((v:Int)<(y:Int)):=by
  intro l
  induction l with
  |nil=>intro h;cases h
  |cons a l g=>
   intro h;have mono:l.countP (fun(v:Nat)=>decide ((v:Int)<(x:Int)))<=l.countP fun(v:Nat)=>decide ((v:Int)<(y:Int)):=List.countP_mono_left hGr;rw[al0,al0];rcases HV.1 h with rfl|q
   .rw[WA Ma,Sb (by simpa using d)];omega
   .have:=g q;by_cases c:(a:Int)<(x:Int)
    .rw[Sb (by simpa using c),Sb (by simp only[abV];omega)];omega
    .rw[WA (by simpa using c)];split<;>omega
 exact f _ e
omit hR in
theorem ad6(d:bX ⟨(n:Int),b⟩):bX ⟨((aag n b).length:Int),aat n b⟩:=by
 have hR:=d.GD;have e:(aag n b).length<=n:=ff (OM _ _) Ma;have f:∀p∈b,∃u w:Nat,p=((u:Int),(w:Int))/\u<w/\u∈aag n b/\w∈aag n b:=fun p a=>by have⟨k,h2,h3⟩:=hR p a;have⟨m,l⟩:=p;obtain⟨u,rfl⟩:=qL7 k;obtain⟨w,rfl⟩:=qL7 (show 0<=l by omega);exact⟨u,w,rfl,NH,(aaJ hR).2 ⟨w,.inl a⟩,(aaJ hR).2 ⟨u,.inr a⟩⟩
 refine bX.of (ff e (by have:(n:Int)<=200:=d.n1;omega)) (by rw[aat,vg];exact d.len) (fun q g=>?_) ?_
 .obtain⟨p,a,rfl⟩:=si.1 g;obtain⟨u,w,rfl,i,j,hw⟩:=f p a;have k:=aeq j i;have h2:=toV_idx hw;rw[h2.1]at h2;exact hGr
 .have ha:D3 b:=d.q9;rw[Nl]at ha ⊢;unfold aat;rw[V3];refine ha.imp_of_mem fun{p q} a g c=>?_;obtain⟨u,w,rfl,-,j,hw⟩:=f p a;obtain⟨x,y,rfl,-,o,r⟩:=f q g;simp only at c ⊢;rcases c with h|⟨h,h'⟩
  .left;have:=aeq j (show u<x by omega);omega
  .right;have:=aeq hw (show w<y by omega);obtain rfl:u=x:=NH;exact hGr
theorem afA:XU (aag n b).length (eN (aag n b).length (aat n b))↔XU n (eN n b):=by
 have g:(aag n b).length<=n:=ff (OM _ _) Ma;have d:∀v w,Jp (aat n b) v w->v<(aag n b).length:=fun v w h=>by have⟨c,h2,h3⟩:=(abR hR).1 h;have:=vert_lt hR h3;rwa[toV_ofV c]at this
 have GD:∀{m},(∀v w,Jp (aat n b) v w->v<m)->aV m (aat n b):=fun{m} h p i=>by obtain⟨q,e,rfl⟩:=si.1 i;have⟨c,h2,h3⟩:=hR q e;have⟨o,j⟩:=q;obtain⟨u,rfl⟩:=qL7 c;obtain⟨w,rfl⟩:=qL7 (show 0<=j by omega);have k:=(aaJ hR).2 ⟨w,.inl e⟩;have:=aeq k (show u<w by omega);have ha:Jp (aat n b) (abD n b (w:Int)) (abD n b (u:Int)):=.inr hGr;have:=h _ _ ha;exact hGr
 have r:=GD d;have f:aV n (aat n b):=by grind[Nat.lt_of_lt_of_le]
 have l:XU (aag n b).length (eN (aag n b).length (aat n b))↔XU n (eN n (aat n b)):=by
  have c:XU (aag n b).length (eN (aag n b).length (aat n b))↔XU (aag n b).length (eN n (aat n b)):=(by grind[XU.congr,vD]);rw[c,<-XU.mores (by grind[vD]) (n-(aag n b).length),show(aag n b).length+(n-(aag n b).length)=n by omega]
 rw[l];have N:=ren_V n b;constructor
 .intro h;refine h.ren (p:=ofV n b) (q:=toV n b) ⟨N.ql,N.pl,N.qp,N.pq⟩ fun v w=>?_;rw[vD hR,vD f];constructor
  .intro a;exact⟨(a.lt hR).1,(a.lt hR).2,adj_to hR a⟩
  .rintro⟨c,h2,h3⟩;have:=((abR hR).1 h3).2.2;rwa[abk c,abk h2]at this
 .intro h;refine h.ren N fun v w=>?_;rw[vD hR,vD f];exact abR hR
end
section
variable{n:Nat}{b:List Pr}(O:aeo n b)
include O
theorem aeo.bp{u w x y:Nat}(d:Jp b u w)(h2:Jp b x y):Pu b u x:=by
 have hR:=O.1.GD;have:=adg hR (fun p=>Pu b u p.1.toNat) (fun v a c ha e _=>?_) (H4 hR d) (H4 hR h2) (O.2.2 _ (H4 hR d) _ (H4 hR h2))
 .have c1:∀{v a},Jp b v a->Pu b v (GW v a).1.toNat:=fun{v a} h=>by
   rw[bj];rcases agm v a with q|q
   .rw[air q];exact Pu.refl _ _
   .rw[aka q];exact abu h
  have:=this▸c1 d;exact this.trans (c1 h2).symm
 .have c1:∀{v a},Jp b v a->Pu b v (GW v a).1.toNat:=fun{v a} h=>by
   rw[bj];rcases agm v a with q|q
   .rw[air q];exact Pu.refl _ _
   .rw[aka q];exact abu h
  exact(by grind[Cn.trans,Cn.symm])
theorem aeo.nocut{v a c:Nat}(ha:Jp b v a)(d:Jp b v c):Cn (wo v) b a c:=(dR O.1.GD ha d).1 (O.2.2 _ (H4 O.1.GD ha) _ (H4 O.1.GD d))
theorem aeo.two(A:2<=b.length):zW (aag n b).length (aat n b):=by
 have hR:=O.1.GD;have f:∀{v},v<(aag n b).length->v<n:=fun h=>ahD h (ff (OM _ _) Ma);have back:∀{v},v<(aag n b).length->ofV n b v∈aag n b:=fun{v} h=>by
  have:ofV n b v=(aag n b)[v]:=by unfold ofV acw;rw[Eh,EP h,CA h];rfl
  rw[this];exact aev h
 have d:∀{on on':Nat->Bool}{u w},(∀x,x<n->on x=fF->on' (toV n b x)=fF)->u<n->Cn on b u w->Cn on' (aat n b) (toV n b u) (toV n b w):=fun{on on' u w} q g h=>by
  induction h with
  |refl o=>exact .refl (q _ g o)
  |step _ a o r=>exact .step r (adj_to hR a) (by grind[Jp.lt])
 have h3:3<=(aag n b).length:=by
  have j:=ad6 O.1;have B:(aat n b).length=b.length:=by rw[aat,vg]
  refine j9 fun k=>?_;have e:∀p∈aat n b,p=((0:Int),(1:Int)):=fun p s=>by have h:=j.GD p s;have⟨C,D⟩:=p;exact(by grind[Prod.ext])
  have l:0<(aat n b).length:=NH;have i:1<(aat n b).length:=NH;have:=Yi.1 (Nl.1 j.q9) 0 1 l i WY;rw[e _ (aev l),e _ (aev i)]at this;simp at this
 have bp:∀u v,u<(aag n b).length->v<(aag n b).length->Pu (aat n b) u v:=fun u v g m=>by have⟨w,hw⟩:=(aaJ hR).1 (back g);have⟨y,t⟩:=(aaJ hR).1 (back m);have:=d (on:=offA) (on':=offA) hGr (afz (f g)) (O.bp hw t);rwa[toV_ofV (f g),toV_ofV (f m)]at this
 refine⟨h3,(by grind[heads_all]),fun v ⟨a,c,ha,k,z⟩=>z ?_⟩;have⟨E,a1,i⟩:=(abR hR).1 ha;have⟨_,c1,h2⟩:=(abR hR).1 k;have:=d (on:=wo (ofV n b v)) (on':=wo v) (by grind[abk]) (afz a1) (O.nocut i h2);rwa[toV_ofV a1,toV_ofV c1]at this
theorem aeo.flat:aaV n b↔b.length<9\/XU n (eN n b):=by
 unfold aaV;rw[afA O.1.GD];by_cases c:b.length<9
 .exact hGr
 .constructor
  .rintro(h|h)
   .exact .inl h
   .exact .inr h.2.2
  .rintro(h|h)
   .exact .inl h
   .exact .inr ⟨ad6 O.1,O.two NH,h⟩
end
theorem ahs{n:Nat}{es a:xLP}(hs:a.Sublist es)(h:aak n es):aak n a:=by
 have f:=h.1;have d:=f.sub hs;have hR:=f.GD;have i:=d.GD;refine(acp d).2 fun b hb=>(abc (aaQ d hb)).2 ?_;have O:=aaQ d hb;obtain⟨p,j,rfl⟩:=aaP.1 hb;have hB:abb n es (cQ n es p)∈vq n es:=by grind[aaP]
 have g:=aaQ f hB;have sub:(abb n a (cQ n a p)).Sublist (abb n es (cQ n es p)):=by
  have e:abb n a (cQ n a p)=(a.filter fun q=>decide (cQ n es q=cQ n es p)).filter fun q=>decide (cQ n a q=cQ n a p):=by
   rw[adE];refine vY fun q l=>?_;by_cases c:cQ n a q=cQ n a p
   .rw[Z6 c,Z6 (by grind[key_mono])];rfl
   .rw[IE c];rfl
  rw[e];exact Tn.trans (hs.filter _)
 have hf:=(g.flat).1 (h.2 _ hB);refine O.flat.2 ?_;rcases hf with q|q
 .exact(by grind[List.Sublist.length_le])
 .refine .inr (q.less (fun v w k=>?_) (fun v w k=>?_))
  .rw[vD g.1.GD];exact((vD O.1.GD).1 k).imp (fun x=>sub.subset x) (fun x=>sub.subset x)
  .exact(vD O.1.GD).2 ((vD O.1.GD).1 k).symm
end
section
attribute [local irreducible] Jz JL vq cQ
def eqBo(a b:Bool):aEq pG 4 (.bool a) (.bool b)=Z (a==b):=by simp[aEq,AV]
end
theorem agD{l m:II}(a:l.Nodup)(h2:m.Nodup)(h:∀x,x∈l↔x∈m):l.Perm m:=by grind[perm_ext_iff_of_nodup]
theorem alF{π:Nat->Nat}{l:II}(nd:l.Nodup)(hi:∀a∈l,∀b∈l,π a=π b->a=b):(l.map π).Nodup:=by rw[AE,V3];exact(by grind[List.Pairwise.imp_of_mem])
def agX(rows:AM)(v:Nat):II:=(rows.getD v []).map (·.toNat)
section
variable{n:Nat}{es fs:List Pr}{π:Nat->Nat}
theorem acu(hR:aV n es){v w:Nat}:w∈agX (Zh n es) v↔Jp es v w:=by
 unfold agX;rw[si];constructor
 .rintro⟨x,a,rfl⟩;obtain⟨w,rfl,_⟩:=Ru hR a;exact(by grind[EW])
 .intro h;exact⟨(w:Int),(EW hR v w).2 h,Ma⟩
theorem agE(hR:aV n es)(hA:D3 es)(v:Nat):(agX (Zh n es) v).Nodup:=by unfold agX;rw[AE,V3];refine(KW es hR hA v).imp_of_mem fun{x y} b c h=>?_;obtain⟨a,rfl,_⟩:=Ru hR b;omega
def agb(rows:AM)(v:Nat):(agX rows v).length=(rows.getD v []).length:=by simp[agX]
variable(I:H9 n es fs π)(hA:D3 es)(hB:D3 fs)
include I hA hB
theorem alg{v:Nat}(b:v<n):(agX (Zh n fs) (π v)).Perm ((agX (Zh n es) v).map π):=by
 have lt:∀{w},w∈agX (Zh n es) v->w<n:=fun h=>(((acu I.r1).1 h).lt I.r1).2;refine agD (agE I.r2 hB _) (by grind[alF,agE,H9.r1,H9.inj]) fun x=>?_;rw[acu I.r2,si];constructor
 .intro h;obtain⟨a,ha,rfl⟩:=I.ak7 x (h.lt I.r2).2;exact(by grind[acu,H9.r1,H9.Jp])
 .rintro⟨a,ha,rfl⟩;exact(by grind[H9.Jp,acu,H9.r1])
theorem agJ{v:Nat}(a:v<n):((Zh n fs).getD (π v) []).length=((Zh n es).getD v []).length:=by rw[<-agb,<-agb,(alg I hA hB a).length_eq,vg]
theorem alh:(aad (Zh n fs)).Perm ((aad (Zh n es)).map π):=by
 have nd:∀es:xLP,(aad (Zh n es)).Nodup:=fun es=>Hs.filter _;have cb:∀v,v<n->aaA (Zh n fs) (π v)=aaA (Zh n es) v:=by grind[aaA.eq_1,agJ]
 have m1:=fun(es:xLP)(v:Nat)=>show v∈aad (Zh n es)↔v<n/\aaA (Zh n es) v=tT by rw[aad,xD,Db,Xq]
 refine agD (nd _) (alF (nd _) fun a ha b hb=>I.inj a b ((m1 _ _).1 ha).1 ((m1 _ _).1 hb).1) fun x=>?_;rw[m1,si];constructor
 .rintro⟨c,h2⟩;obtain⟨a,ha,rfl⟩:=I.ak7 x c;exact hGr
 .rintro⟨a,ha,rfl⟩;have⟨c,h2⟩:=(m1 _ _).1 ha;exact(by grind[H9.lt])
theorem goS_iso{d:Nat×Nat}(v:Jp es d.1 d.2)(h2:((Zh n es).getD d.2 []).length=2):goS (Zh n fs) (π d.1,π d.2)=(π (goS (Zh n es) d).1,π (goS (Zh n es) d).2):=by
 have l1:=v.lt I.r1;have c:((Zh n fs).getD (π d.2) []).length=2:=by rw[agJ I hA hB l1.2];exact h2
 have⟨a,b,e,ne,k1,k2,f⟩:=abg I.r1 hA h2;have⟨a',l,e',ne',g,h,i⟩:=abg I.r2 hB c;have j:=(k1.lt I.r1).2;have k:=(k2.lt I.r1).2;have ia:=(I.Jp d.2 a l1.2 j).2 k1;have ib:=(I.Jp d.2 b l1.2 k).2 k2;have inj:=I.inj;have hd:=f d.1 v.symm;unfold goS;rw[e,e'];simp only[ak8,alN];rcases hd with hd|hd
 .rw[Sb (show((a:Int)=(d.1:Int)) by omega)];split<;>simp<;>grind
 .rw[WA (show¬((a:Int)=(d.1:Int)) by omega)];split<;>simp<;>grind
theorem oth_iso(b:n<=200){c v:Nat}(a:Jp es c v)(e:((Zh n es).getD c []).length≠2):aal (Zh n fs) (π c,π v)=(π (aal (Zh n es) (c,v)).1,(aal (Zh n es) (c,v)).2):=by
 have⟨K,j,h2,h3,f⟩:=ahL I.r1 hA b a e;have ha:=aa7 I.r1 hA (d:=(c,v)) a;have st:∀i,i<=K->it (goS (Zh n fs)) i (π c,π v)=(π (it (goS (Zh n es)) i (c,v)).1,π (it (goS (Zh n es)) i (c,v)).2):=by
  intro i
  induction i with
  |zero=>intro _;rfl
  |succ i g=>intro hi;show goS (Zh n fs) (it (goS (Zh n fs)) i (π c,π v))=_;rw[g NH];exact goS_iso I hA hB (ha i fun q k=>h2 q NH) (h2 i NH)
 have h:∀i,i<=K->(it (goS (Zh n es)) i (c,v)).2<n:=fun i hi=>((ha i hGr).lt I.r1).2;rw[f,aal,alE _ K 40001 _ _ NH (by grind[agJ]) (by rw[st K (qL0 _),agJ I hA hB hGr];exact h3),st K (qL0 _),EL]
omit I hA hB in
theorem afR(rows:AM)(cs:II):aaj rows cs=cs.flatMap fun c=>(agX rows c).map fun w=>(c,w):=by simp[aaj,agX,Function.comp_def]
omit I hA hB in
theorem akc{α β:Type}{f g:α->List β}{l:List α}(h:∀a∈l,(f a).Perm (g a)):(l.flatMap f).Perm (l.flatMap g):=by
 induction l with
 |nil=>exact .refl _
 |cons a l b=>exact(by grind[List.Perm.append])
def ali{cs a:II}(e:∀c∈cs,c<n)(f:a.Perm (cs.map π)):(aaj (Zh n fs) a).Perm ((aaj (Zh n es) cs).map fun d=>(π d.1,π d.2)):=by rw[afR,afR];refine(f.flatMap_right _).trans ?_;rw[qL235,qL236];refine akc fun c b=>?_;have:=(alg I hA hB (e c b)).map fun w=>(π c,w);rw[Lm]at this;rw[Lm];exact this
end
theorem ahO{α:Type}[BEq α][LawfulBEq α]{ks:List α}(nd:ks.Nodup):∀L:List α,(ks.map fun k=>L.count k).sum<=L.length
 |[]=>by
  have:∀l:List α,(l.map fun k=>([]:List α).count k).sum=0:=fun l=>by
   induction l with
   |nil=>rfl
   |cons a l b=>rw[AQ,ahe,b];rfl
  rw[this];exact aax _
 |x::L=>by
  have b:=ahO nd L;have one:∀l:List α,l.Nodup->(l.map fun k=>(x::L).count k).sum<=(l.map fun k=>L.count k).sum+1/\(x∉l->(l.map fun k=>(x::L).count k).sum=(l.map fun k=>L.count k).sum):=fun l=>by
   induction l with
   |nil=>intro _;exact hGr
   |cons a l b=>
    intro nd;have⟨c,nl⟩:=eR.1 nd;have⟨d,h2⟩:=b nl;simp only[AQ,ahe,qL244];by_cases e:x=a
    .subst e;have:=h2 c;simp only[qL244]at this;simp only[beq_self_eq_true,if_true];exact(by grind[List.mem_cons_self])
    .have e':(x==a)=fF:=by simpa using e
     simp only[qL244]at d h2;rw[e'];simp only[ah9,if_false,Yq];exact(by grind[List.mem_cons_of_mem])
  have:=(one ks nd).1;rw[Vn];omega
def ahP(rows:AM)(d:Nat×Nat):aaH rows d=GW d.1 (aal rows d).1:=rfl
def afc{a b c d:Nat}:GW a b=GW c d↔(a=c/\b=d)\/(a=d/\b=c):=by rw[bj,bj,Gw];omega
def Thr(W:Pr->Nat)(cs A B:II):Prop:=(A++B).Perm cs/\A.length=3/\B.length=3/\∀a∈A,∀b∈B,W (GW a b)=2
theorem Thr.swap{W:Pr->Nat}{cs A B:II}(T:Thr W cs A B):Thr W cs B A:=⟨qL205.trans T.1,T.2.2.1,T.2.1,fun b hb a ha=>by rw[so];exact T.2.2.2 a ha b hb⟩
theorem Thr.zero{L:xLP}{cs A B:II}(nd:cs.Nodup)(T:Thr (fun p=>L.count p) cs A B)(t:L.length<=18){p:Pr}(u:∀a∈A,∀b∈B,p≠GW a b):L.count p=0:=by
 have⟨g,h2,h3,v⟩:=T;have c:=(g.nodup_iff).2 nd;rw[ZT]at c;have⟨nA,nB,h⟩:=c;have i:(A.flatMap fun a=>B.map fun b=>GW a b).Nodup:=by
  rw[AE,ahG];refine⟨fun a ha=>?_,?_⟩
  .rw[V3];exact(by grind[ahq])
  .refine(AE.1 nA).imp_of_mem fun{a a'} ha mi ne x j y m e=>?_;obtain⟨b,hb,rfl⟩:=si.1 j;obtain⟨n,sZ,rfl⟩:=si.1 m;rcases afc.1 e with⟨q,-⟩|⟨q,-⟩
   .exact ne q
   .exact h a ha n sZ q
 have o:(p::A.flatMap fun a=>B.map fun b=>GW a b).Nodup:=hGr;have:=ahO o L;rw[AQ,ahe]at this;have w:((A.flatMap fun a=>B.map fun b=>GW a b).map fun k=>L.count k).sum=18:=by
  have r:∀a∈A,((B.map fun b=>GW a b).map fun k=>L.count k).sum=6:=fun a ha=>by
   rw[Lm];have:∀l:II,(∀b∈l,b∈B)->(l.map ((fun k=>L.count k)∘fun b=>GW a b)).sum=2*l.length:=by
    intro l
    induction l with
    |nil=>intro _;rfl
    |cons b l d=>intro f;have h2:L.count (GW a b)=2:=hGr;rw[AQ,ahe,d hGr];simp only[Function.comp,h2,Vn];omega
   rw[this B fun b hb=>hb,h3]
  have s:∀l:II,(∀a∈l,a∈A)->((l.flatMap fun a=>B.map fun b=>GW a b).map fun k=>L.count k).sum=6*l.length:=by
   intro l
   induction l with
   |nil=>intro _;rfl
   |cons a l d=>intro f;rw[y5,abZ,qL242,r a (f a Ma),d hGr,Vn];omega
  rw[s A fun a ha=>ha,h2]
 omega
theorem aht{L:xLP}{cs:II}(nd:cs.Nodup)(s:cs.length=6)(ha:cs.Pairwise (·<·))(t:L.length<=18):aa1 (fun p=>L.count p) cs=tT↔∃A B,Thr (fun p=>L.count p) cs A B:=by
 have hf:cs.headD 0∈cs:=by
  cases cs with
  |nil=>cases s
  |cons a l=>simp
 have hle:∀c∈cs,cs.headD 0<=c:=fun c g=>by
  cases cs with
  |nil=>cases g
  |cons a l=>
   rcases HV.1 g with rfl|q
   .exact qL0 _
   .exact(by grind[List.pairwise_cons])
 have u:aa1 (fun p=>L.count p) cs=((cs.filter fun(c:Nat)=>L.count (((cs.headD 0:Nat):Int),(c:Int))==0).length==3&&!(cs.filter fun(c:Nat)=>L.count (((cs.headD 0:Nat):Int),(c:Int))!=0).contains (cs.headD 0)&&abh (fun p=>L.count p) (cs.filter fun(c:Nat)=>L.count (((cs.headD 0:Nat):Int),(c:Int))==0) (cs.filter fun(c:Nat)=>L.count (((cs.headD 0:Nat):Int),(c:Int))!=0)):=rfl;rw[u];generalize cs.headD 0=f at*;have pf:∀c∈cs,(((f:Nat):Int),((c:Nat):Int))=GW f c:=by grind[bj]
 have v:cs.filter (fun(c:Nat)=>L.count ((f:Int),(c:Int))==0)=cs.filter fun c=>decide (L.count (GW f c)=0):=vY hGr;have w:cs.filter (fun(c:Nat)=>L.count ((f:Int),(c:Int))!=0)=cs.filter fun c=>!decide (L.count (GW f c)=0):=vY fun c g=>by rw[pf c g];rfl
 rw[v,w];have d:(cs.filter (fun c=>decide (L.count (GW f c)=0))++cs.filter fun c=>!decide (L.count (GW f c)=0)).Perm cs:=qL198 _ _;constructor
 .intro h;rw[Cg,Cg]at h;have⟨⟨x,h2⟩,h3⟩:=h;have l3:(cs.filter fun c=>decide (L.count (GW f c)=0)).length=3:=by simpa using x
  have ls:=d.length_eq;rw[aaf]at ls;refine⟨_,_,d,l3,NH,fun a j b k=>?_⟩;have:=QD.1 (QD.1 h3 a j) b k;rw[ai4]at this;rcases this with q|q
  .have e:a=b:=by simpa using q
   subst e;have y:=(xD.1 j).2;have o:=(xD.1 k).2;rw[y]at o;cases o
  .exact acg q
 .rintro⟨A,B,T⟩;have go:∀A B,Thr (fun p=>L.count p) cs A B->f∈A->((cs.filter fun c=>decide (L.count (GW f c)=0)).length==3&&!(cs.filter fun c=>!decide (L.count (GW f c)=0)).contains f&&abh (fun p=>L.count p) (cs.filter fun c=>decide (L.count (GW f c)=0)) (cs.filter fun c=>!decide (L.count (GW f c)=0)))=tT:=fun A B T i=>by
   have m:=(T.1.nodup_iff).2 nd;rw[ZT]at m;have⟨nA,nB,n⟩:=m;have mem:∀c,c∈cs↔c∈A\/c∈B:=fun c=>by rw[<-T.1.mem_iff,vZ]
   have C:∀c∈A,L.count (GW f c)=0:=fun c g=>T.zero nd t fun a ha b hb e=>by
    rcases afc.1 e with⟨-,q⟩|⟨q,-⟩
    .exact n c g b hb q
    .exact n f i b hb q
   have z:∀c∈B,L.count (GW f c)≠0:=fun c g e=>by have:L.count (GW f c)=2:=T.2.2.2 f i c g;omega
   have r:(cs.filter fun c=>decide (L.count (GW f c)=0)).Perm A:=agD (nd.filter _) nA fun c=>by rw[xD,mem,abV];exact⟨hGr,hGr⟩
   have pB:(cs.filter fun c=>!decide (L.count (GW f c)=0)).Perm B:=agD (nd.filter _) nB fun c=>by rw[xD,mem,qL225,TN];exact⟨hGr,hGr⟩
   rw[Cg,Cg];refine⟨⟨by rw[r.length_eq,T.2.1];rfl,?_⟩,?_⟩
   .rw[qL225,qL224];intro h;have:=pB.mem_iff.1 (Dl.1 h);exact n f i f this rfl
   .refine QD.2 fun a ha=>QD.2 fun b hb=>?_;rw[ai4];right;have:L.count (GW a b)=2:=T.2.2.2 a (r.mem_iff.1 ha) b (pB.mem_iff.1 hb);exact Z6 this
  rcases(T.1.mem_iff.2 hf |> vZ.1)with q|q
  .exact go A B T q
  .exact go B A T.swap q
section
variable{es fs:List Pr}{π:Nat->Nat}(I:H9 200 es fs π)(hA:D3 es)(hB:D3 fs)
include I hA hB
omit hA hB in
theorem alj{cs:II}(b:∀c∈cs,c<200/\((Zh 200 es).getD c []).length≠2){d:Nat×Nat}(hd:d∈aaj (Zh 200 es) cs):Jp es d.1 d.2/\((Zh 200 es).getD d.1 []).length≠2/\d.1∈cs:=by rw[afR,KG]at hd;have⟨c,a,hd⟩:=hd;obtain⟨w,hw,rfl⟩:=si.1 hd;exact(by grind[acu,H9.r1])
omit hB in
theorem oth_lt{d:Nat×Nat}(h:Jp es d.1 d.2)(a:((Zh 200 es).getD d.1 []).length≠2):(aal (Zh 200 es) d).1<200:=by have⟨K,e,h2,h3,b⟩:=ahL I.r1 hA (qL0 _) (c:=d.1) (v:=d.2) h a;have:=aa7 I.r1 hA (d:=(d.1,d.2)) h K h2;rw[show d=(d.1,d.2)from rfl,b];exact(this.lt I.r1).2
def strN_iso{cs a:II}(b:∀c∈cs,c<200/\((Zh 200 es).getD c []).length≠2)(e:a.Perm (cs.map π)):aaU (Zh 200 fs) a=aaU (Zh 200 es) cs:=by have h:=((ali I hA hB (fun c h=>(b c h).1) e).map fun d=>(aal (Zh 200 fs) d).2+1).sum_nat;unfold aaU;rw[h,Lm];refine congrArg List.sum (Uz fun d hd=>?_);obtain⟨f,h2,-⟩:=alj I b hd;have:=oth_iso I hA hB (qL0 _) (c:=d.1) (v:=d.2) f h2;simp only[Function.comp,this]
def alk{cs f:II}(g:∀c∈cs,c<200/\((Zh 200 es).getD c []).length≠2)(j:f.Perm (cs.map π)){a b:Nat}(ha:a<200)(hb:b<200):aaI (Zh 200 fs) f (GW (π a) (π b))=aaI (Zh 200 es) cs (GW a b):=by have h:=((ali I hA hB (fun c h=>(g c h).1) j).map (aaH (Zh 200 fs))).count_eq (GW (π a) (π b));unfold aaI;rw[h,Lm,List.count,qL245,List.count,qL245];refine countP_congr fun d hd=>?_;have⟨i,h2,h3⟩:=alj I g hd;have e:=oth_iso I hA hB (qL0 _) (c:=d.1) (v:=d.2) i h2;have l1:=(g d.1 h3).1;have l2:=oth_lt I hA i h2;have inj:∀{x y},x<200->y<200->(π x=π y↔x=y):=fun k l=>⟨I.inj _ _ k l,fun q=>by rw[q]⟩;simp only[Function.comp,ahP,e,beq_iff_eq];rw[afc,afc,inj l1 ha,inj l2 hb,inj l1 hb,inj l2 ha]
theorem each_iso{cs d:II}(e:∀c∈cs,c<200/\((Zh 200 es).getD c []).length≠2)(g:d.Perm (cs.map π)):abh (aaI (Zh 200 fs) d) d d=abh (aaI (Zh 200 es) cs) cs cs:=by
 rw[af2];unfold abh;simp only[QD,ai4,beq_iff_eq];have W:=fun{a b}=>alk I hA hB e g (a:=a) (b:=b);constructor
 .intro h a ha b hb;have:=h (π a) hGr (π b) hGr;have w:=W (e a ha).1 (e b hb).1;rcases this with q|q
  .exact .inl (I.inj _ _ (e a ha).1 (e b hb).1 q)
  .right;have f:aaI (Zh 200 fs) d (GW (π a) (π b))=2:=q;rw[w]at f;exact f
 .intro h a' mi i sZ;obtain⟨a,ha,rfl⟩:=si.1 (g.mem_iff.1 mi);obtain⟨b,hb,rfl⟩:=si.1 (g.mem_iff.1 sZ);have w:=W (e a ha).1 (e b hb).1;rcases h a ha b hb with q|q
  .exact .inl (by rw[q])
  .right;have f:aaI (Zh 200 es) cs (GW a b)=2:=q;rw[<-w]at f;exact f
end
def ajr(rows:AM):(aad rows).Pairwise (·<·):=b7.filter _
def agY{es:xLP}{c:Nat}(h:c∈aad (Zh 200 es)):c<200/\((Zh 200 es).getD c []).length≠2:=by rw[aad,xD,Db,Xq]at h;refine⟨h.1,fun e=>?_⟩;have:=h.2;rw[aaA,e]at this;cases this
def H9.flip{n:Nat}{es fs:xLP}{π:Nat->Nat}(I:H9 n es fs π):∃σ,H9 n fs es σ:=by obtain⟨σ,h,-⟩:=I.inv;exact⟨σ,h⟩
theorem thr_iso{es fs:xLP}{π:Nat->Nat}(I:H9 200 es fs π)(hA:D3 es)(hB:D3 fs){cs d:II}(e:∀c∈cs,c<200/\((Zh 200 es).getD c []).length≠2)(f:d.Perm (cs.map π)){A B:II}(T:Thr (aaI (Zh 200 es) cs) cs A B):Thr (aaI (Zh 200 fs) d) d (A.map π) (B.map π):=by
 have⟨g,h2,h3,h⟩:=T;refine⟨?_,by rw[vg];exact h2,by rw[vg];exact h3,fun a' mi i sZ=>?_⟩
 .rw[<-abZ];exact(g.map π).trans f.symm
 .obtain⟨a,ha,rfl⟩:=si.1 mi;obtain⟨b,hb,rfl⟩:=si.1 sZ;rw[alk I hA hB e f (e a hGr).1 (e b hGr).1];exact h a ha b hb
theorem akQ{es fs:xLP}{π:Nat->Nat}(I:H9 200 es fs π)(hA:D3 es)(hB:D3 fs)(v:fs.length=es.length):aaN fs=aaN es:=by
 have b:=alh I hA hB;have d:(Zh 200 fs).any aaW=(Zh 200 es).any aaW:=by
  have half:∀{es fs:xLP}{π:Nat->Nat},H9 200 es fs π->D3 es->D3 fs->(Zh 200 es).any aaW=tT->(Zh 200 fs).any aaW=tT:=fun{es fs π} I hA hB h=>by
   have⟨r,w,hb⟩:=uu.1 h;obtain⟨i,hi,rfl⟩:=Bx.1 w;have f:i<200:=by rw[Xq]at hi;exact hi
   have t:π i<(Zh 200 fs).length:=by rw[Xq];exact I.lt i f
   have e:=agJ I hA hB f;rw[D4 t,D4 hi]at e;refine uu.2 ⟨_,aev t,?_⟩;unfold aaW at hb ⊢;rw[e];exact hb
  have⟨σ,J⟩:=I.flip;rw[af2];exact hGr
 have hlen:(aad (Zh 200 fs)).length=(aad (Zh 200 es)).length:=by rw[b.length_eq,vg]
 have n:∀c∈aad (Zh 200 es),_:=fun c h=>agY h;have u:∀E,(E=4\/E=3/\(aad (Zh 200 es)).length=6)->aa8 (Zh 200 fs) (aad (Zh 200 fs)) fs.length E=aa8 (Zh 200 es) (aad (Zh 200 es)) es.length E:=fun E x=>by
  have g:(aad (Zh 200 fs)).any (fun c=>((Zh 200 fs).getD c []).length !=E)=(aad (Zh 200 es)).any fun c=>((Zh 200 es).getD c []).length !=E:=by
   rw[af2,uu,uu];constructor
   .rintro⟨c',o,q⟩;obtain⟨c,p,rfl⟩:=si.1 (b.mem_iff.1 o);exact(by grind[agJ])
   .rintro⟨c,p,q⟩;exact(by grind[agJ])
  unfold aa8;rw[g,strN_iso I hA hB n b,v,each_iso I hA hB n b];by_cases ca:(aad (Zh 200 es)).any (fun c=>((Zh 200 es).getD c []).length !=E)=tT
  .rw[Sb ca,Sb ca]
  rcases x with rfl|⟨rfl,k⟩
  .rfl
  have j:∀c∈aad (Zh 200 es),((Zh 200 es).getD c []).length=3:=by grind[any_eq_true]
  have a:∀c∈aad (Zh 200 fs),((Zh 200 fs).getD c []).length=3:=by grind[agJ]
  have y:=aht (L:=(aaj (Zh 200 es) (aad (Zh 200 es))).map (aaH (Zh 200 es))) (cs:=aad (Zh 200 es)) (Hs.filter _) k (ajr _) (by rw[vg,abp j,k];decide);have z:=aht (L:=(aaj (Zh 200 fs) (aad (Zh 200 fs))).map (aaH (Zh 200 fs))) (cs:=aad (Zh 200 fs)) (Hs.filter _) (hlen.trans k) (ajr _) (by rw[vg,abp a,hlen,k];decide);have s:aa1 (aaI (Zh 200 fs) (aad (Zh 200 fs))) (aad (Zh 200 fs))=aa1 (aaI (Zh 200 es) (aad (Zh 200 es))) (aad (Zh 200 es)):=by
   rw[af2];refine z.trans (Iff.trans ?_ y.symm);constructor
   .rintro⟨A,B,T⟩;have⟨σ,J⟩:=I.flip;exact⟨_,_,thr_iso J hB hA (fun c h=>agY h) (alh J hB hA) T⟩
   .rintro⟨A,B,T⟩;exact⟨_,_,thr_iso I hA hB n b T⟩
  rw[s]
 rw[agP,agP,d,hlen];by_cases l:(aad (Zh 200 es)).length=5
 .rw[Sb l,Sb l,u 4 (.inl rfl)]
 rw[WA l,WA l];by_cases m:(aad (Zh 200 es)).length=6
 .rw[Sb m,Sb m,u 3 hGr]
 .rw[WA m,WA m]
end Go.Fw
