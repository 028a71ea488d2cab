/- A text. -/
import Derived.Test.YtigllaheamfhaaaGreatFwLJ22
set_option linter.all false
set_option maxRecDepth 99999
set_option maxHeartbeats 9999999
open Go.Proofs
open Option renaming some→Z,none→Y
open Bool renaming true→tT,false→fF
open List renaming range→rG
open Go.Value renaming slice→sL,pointer→pT
open Go renaming Value→vV
open Go.Proofs.Tryz renaming prog→pG
open Go.Proofs.Tryz
open List
namespace Go.Fw
section
attribute [local irreducible] Kp MQ lU KO1 KO KN KX KE VK Kl ZJ TC aab
attribute [local irreducible] Jz JL vq cQ
variable {h:aai} {i n:Nat} {ps:List Pr} {x:Int}
theorem aeW(K:abw)(id n i cap:Nat)(c:xLV)(h:aai)(L:h.own id=Z (.cells c))(hl:n*2<=c.length)(E:(c.take (n*2)).all (·.oneCell')=tT)(hi:i<n)(hn:n<=100000)(w:n<=cap)(F:cap<UNK):
  AC pG K 18 [sL (Z ⟨id,0,Y⟩) n cap,.int .i64 (i:Int),.int .i64 ((i+1:Nat):Int)] h fun x h'=>
   ∃y,y<=cap/\x=sL (Z ⟨id,0,Y⟩) y cap/\y=n-1/\∃c',(h'.own id=Z (.cells c')/\(∀f,Le f h->f.own id=Y->Le f h')/\∀b o,b≠id->h.own b=Z o->h'.own b=Z o)/\c'.take ((n-1)*2)=c.take (i*2)++((c.drop ((i+1)*2)).take ((n-(i+1))*2)):=by
 have k:¬UNK<=cap:=Bc.2 F;have d:=AV;have j:=qS7;have M:(0:Int)<=(i:Int):=NH;have N:(i:Int)<=((i+1:Nat):Int):=NH;have e3:((i+1:Nat):Int)<=(n:Int):=NH;have e4:(0:Int)<=((i+1:Nat):Int):=NH;have G:(0:Int)<=(n:Int):=NH;have H:(n:Int)<=(cap:Int):=NH;have e7:(i:Int)<=(cap:Int):=NH;have A:∃v,abf pG 22 (sL (Z ⟨id,0,Y⟩) n cap) (Z (.int .i64 (i:Int))) (Z (.int .i64 ((i+1:Nat):Int))) (Z (.int .i64 (n:Int)))=Z v:=by
  refine⟨vV.slice (if n=i then Z ⟨id,0,Y⟩else Z ⟨id,i*2,Y⟩) (i+1-i) (n-i),?_⟩
  .simp only[abf,d,k,if_false,w,j,aiL,and_self,if_true,abm,abL,M,N,e3,e4,G,H,yM,ahe,Ip,WE,Gc]
 obtain⟨v1,A⟩:=A;have O:abf pG 22 (sL (Z ⟨id,0,Y⟩) n cap) Y (Z (.int .i64 (i:Int))) Y=Z (sL (Z ⟨id,0,Y⟩) i cap):=pn d j i NH w F
 have Q:abf pG 22 (sL (Z ⟨id,0,Y⟩) n cap) (Z (.int .i64 ((i+1:Nat):Int))) Y Y=Z (.slice (if cap=i+1 then Z ⟨id,0,Y⟩else Z ⟨id,(i+1)*2,Y⟩) (n-(i+1)) (cap-(i+1))):=by have R:((i+1:Nat):Int)<=(n:Int):=e3;simp only[abf,d,k,if_false,w,j,aiL,and_self,if_true,abm,abL,e4,R,yM,ahe,Ip,WE,Gc]
 have rd:∀e,UA pG e=2->aby pG h e (.slice (if cap=i+1 then Z ⟨id,0,Y⟩else Z ⟨id,(i+1)*2,Y⟩) (n-(i+1)) (cap-(i+1)))=Z (n-(i+1),(c.drop ((i+1)*2)).take ((n-(i+1))*2)):=fun e he=>by
  by_cases q:cap=i+1
  .have z:n-(i+1)=0:=NH;rw[abe q,z];simp[aby,abN]
  grind[qF,aby]
 have nl:((c.drop ((i+1)*2)).take ((n-(i+1))*2)).length=(n-(i+1))*2:=hGr;have n1:((c.drop ((i+1)*2)).take ((n-(i+1))*2)).all (·.oneCell')=tT:=by
  rw[fj]at E ⊢;intro x S;refine E x ?_;obtain⟨q,B⟩:=vZ.1 S;rw[anh]at B;split at B
  .refine BS (i:=(i+1)*2+q) ?_;grind
  .cases B
 have app:∃c1 l,(l.own id=Z (.cells c1)/\(∀f,Le f h->f.own id=Y->Le f l)/\∀b o,b≠id->h.own b=Z o->l.own b=Z o)/\aaR pG h 22 22 (sL (Z ⟨id,0,Y⟩) i cap) (.slice (if cap=i+1 then Z ⟨id,0,Y⟩else Z ⟨id,(i+1)*2,Y⟩) (n-(i+1)) (cap-(i+1)))=Z (sL (Z ⟨id,0,Y⟩) (n-1) cap,l)/\c1.length=c.length/\
   c1.take ((n-1)*2)=c.take (i*2)++((c.drop ((i+1)*2)).take ((n-(i+1))*2)):=by
  have u:acd pG 37=Z (.agg #[vV.int .i64 0,vV.int .i64 0]):=Ji;have I:(vV.agg #[vV.int .i64 0,vV.int .i64 0]).cells.size=UA pG 37/\(vV.agg #[vV.int .i64 0,vV.int .i64 0]).cells.toList.all (·.oneCell')=tT:=⟨by kernel_rfl,by kernel_rfl⟩;have hs:=rd 37 WE;have T:pG.bytesOf 37<=1000:=by decide
  have U:(i+(n-(i+1)))*pG.bytesOf 37<=140737488355328:=jz (adE (show i+(n-(i+1))<=100000 by omega) T) WY;have V:i+(n-(i+1))<=140737488355328:=NH;have J:(vV.agg #[vV.int .i64 0,vV.int .i64 0]).cells.size=UA pG 37/\(vV.agg #[vV.int .i64 0,vV.int .i64 0]).cells.toList.all (·.oneCell')/\(pG.underlying 37).isSome/\acL (.slice 37)/\((c.drop ((i+1)*2)).take ((n-(i+1))*2)).all (·.oneCell')/\(i+(n-(i+1)))*pG.bytesOf 37<=140737488355328/\i+(n-(i+1))<=140737488355328/\((c.drop ((i+1)*2)).take ((n-(i+1))*2)).length=(n-(i+1))*UA pG 37:=⟨I.1,I.2,by rfl,rfl,n1,U,V,by grind[WE]⟩;by_cases W:n-(i+1)=0
  .refine⟨c,h,hGr,?_,rfl,?_⟩
   .simp only[aaR,d,u,hs];grind
   .rw[W];grind
  .have room:i*2+((c.drop ((i+1)*2)).take ((n-(i+1))*2)).length<=c.length:=hGr;refine⟨putCells c (i*2) ((c.drop ((i+1)*2)).take ((n-(i+1))*2)),_,⟨aai.Y3 _ _ _,fun f X hf=>X.put _ hf,fun b o hb L=>by grind[aai.By]⟩,?_,afS _ _ _,?_⟩
   .simp only[aaR,d,u,hs];grind[WE]
   .rw[IW _ _ _ room,aeu hGr,HV hGr]
 obtain⟨c1,l,⟨o1,aa,ae⟩,app,ag,C⟩:=app;have S4:abf pG 22 (sL (Z ⟨id,0,Y⟩) (n-1) cap) (Z (.int .i64 ((n-1:Nat):Int))) (Z (.int .i64 (n:Int))) Y=Z (sL (Z ⟨id,(n-1)*2,Y⟩) 1 (cap-(n-1))):=by have a1:((n-1:Nat):Int)<=(n:Int):=NH;have a2:(0:Int)<=((n-1:Nat):Int):=NH;have a3:n-1<=cap:=NH;have a4:¬cap=n-1:=NH;have a5:n-(n-1)=1:=NH;simp only[abf,d,k,if_false,a3,j,aiL,and_self,if_true,abm,abL,G,H,a1,a2,yM,a4,a5,ahe,Ip,WE,Gc]
 have p:∃c2,ae9 pG l 22 (sL (Z ⟨id,(n-1)*2,Y⟩) 1 (cap-(n-1)))=Z (.tuple #[],l.put id (.cells c2))/\c2.take ((n-1)*2)=c1.take ((n-1)*2):=by
  have u:acd pG 37=Z (.agg #[vV.int .i64 0,vV.int .i64 0]):=Ji;have ai:(vV.agg #[vV.int .i64 0,vV.int .i64 0]).cells=#[vV.int .i64 0,vV.int .i64 0]:=Ji;have zr:acY (vV.agg #[vV.int .i64 0,vV.int .i64 0]).cells.toList 1=[vV.int .i64 0,vV.int .i64 0]:=Ji;refine⟨putCells c1 ((n-1)*2) [vV.int .i64 0,vV.int .i64 0],?_,?_⟩
  .have r:(n-1)*2+1*(vV.agg #[vV.int .i64 0,vV.int .i64 0]).cells.size<=c1.length:=hGr;have fl:(vV.agg #[vV.int .i64 0,vV.int .i64 0]).cells.toList.all flat=tT:=Ji;simp only[ae9,d,u,o1,fl,r,decide_true,Bool.and_self,cond_true,zr];rfl
  grind[IW]
 obtain⟨c2,p,D⟩:=p;refine AC.vF func18 ntmps18 results18 fun aj=>?_;have s:=fun m g=>Jg (P:=pG) (t:=22) (a:=Z ⟨id,0,Y⟩) (n:=m) (cap:=cap) d g;have d1:decide ((i:Int)=((i+1:Nat):Int))=fF:=Sb NH;refine Sk (xU s A @ag6 d1) ?_;refine gh (fRn 0 6 (JQ 6 [2,5] (JQ 7 [0,1,2,3,4,5,6] .done))) ?_;simp only[HO,seval,Qg,O,Q,app,s,S4,p];exact⟨n-1,NH,rfl,rfl,c2,(by grind[aai.Y3,Le.put,aai.By]),by rw[D,C]⟩
theorem aeX:∀(l:xLP)(i:Nat),i<l.length->(Iu l).take (i*2)++((Iu l).drop ((i+1)*2)).take ((l.length-(i+1))*2)=Iu (l.eraseIdx i):=by grind[afq,za,Ta,mZ,eraseIdx_eq_take_drop_succ]
theorem aeY(l:abw){v:vV}(g:GP h v ps)(hi:i<ps.length)(q:ps.length<=100000):
  AC pG l 18 [v,i,((i+1:Nat):Int)] h fun x h'=>PR h' x (ps.eraseIdx i)/\Ct x (ps.eraseIdx i).length/\∀f,Le f h->Z2 f v->Le f h':=by
 have a:(ps.eraseIdx i).length=ps.length-1:=hGr;have u:=aeX ps i hi;have r:=WI ps;obtain⟨C,⟨rfl,D⟩|⟨id,c,cap,rfl,s,E,w⟩⟩:=g
 .omega
 have d:ps.length*2<=c.length:=hGr;have y:c.take (i*2)=(Iu ps).take (i*2):=hGr;have z:(c.drop ((i+1)*2)).take ((ps.length-(i+1))*2)=((Iu ps).drop ((i+1)*2)).take ((ps.length-(i+1))*2):=by grind[drop_take]
 have t:(c.take (ps.length*2)).all (·.oneCell')=tT:=hGr;have fin:∀(cap':Nat)(h':aai)(c':xLV),h'.own id=Z (.cells c')->c'.take ((ps.length-1)*2)=c.take (i*2)++((c.drop ((i+1)*2)).take ((ps.length-(i+1))*2))->PR h' (sL (Z id) (ps.length-1) cap') (ps.eraseIdx i):=fun cap' h' c' e ct=>by
  rw[y,z,u]at ct;have A:(ps.eraseIdx i).length=ps.length-1:=hGr;have hlen:(ps.length-1)*2<=c'.length:=by grind[Ta]
  have:=CS.own (k:=2) (off:=0) (n:=ps.length-1) (cap:=cap') e NH;grind[PR]
 rcases w with rfl|⟨rfl,j⟩
 .refine(AC.exact (Q:=fun m h'=>m=ps.length-1/\∃c',(h'.own id=Z (.cells c')/\(∀f,Le f h->f.own id=Y->Le f h')/\∀b o,b≠id->h.own b=Z o->h'.own b=Z o)/\c'.take ((ps.length-1)*2)=c.take (i*2)++((c.drop ((i+1)*2)).take ((ps.length-(i+1))*2))) NH fun cap h2 h3=>aeW l id ps.length i cap c h s d t hi q h2 h3).mono ?_;rintro x h' ⟨m,rfl,rfl,c',⟨e,fr,B⟩,ct⟩;exact⟨fin _ h' c' e ct,by rw[a];exact⟨_,_,rfl,hGr⟩,fun f p af=>fr f p (af id rfl)⟩
 .refine(aeW l id ps.length i ps.length c h s d t hi q (qL0 _) (Nat.lt_trans j WY)).mono ?_;rintro x h' ⟨m,-,rfl,rfl,c',⟨e,fr,B⟩,ct⟩;exact⟨fin _ h' c' e ct,by rw[a];exact⟨_,_,rfl,.inl ⟨Nat.lt_trans j WY,NH⟩⟩,fun f p af=>fr f p (af id rfl)⟩
def LessI_any(d:abw)(a b:Int)(h:aai):AC pG d 56 [a,b] h fun x h'=>x=.bool (decide (a<b))/\h'=h:=by
 refine AC.vF func56 ntmps56 results56 fun e=>?_;refine Uy ?_;refine kCi qS28 (Pd d a h) ?_;rintro x f w1 ⟨rfl,rfl⟩;by_cases c:a<b
 .simp only[HO,seval,c];exact⟨Ma,trivial⟩
 .simp only[HO,seval,c];exact⟨Ma,trivial⟩
theorem acI(r:abw)(v:vV)(xs:RZ)(x:Int)(h:aai)(f:RL RP h v xs)(K:xs.length<=1000)(ha:xs.Pairwise (·<·))(u:x∈xs):
  AC pG r 39 [v,x] h fun y h'=>(∃i:Nat,y=.tuple #[.int .i64 i,.bool tT]/\xs[i]?=Z x)/\h'=h:=by
 have lt:∀(i j:Nat) a b,i<j->xs[i]?=Z a->xs[j]?=Z b->a<b:=fun i j a b w hi L=>by grind[pairwise_iff_getElem]
 have⟨q,s⟩:=vZ.1 u;have l:=(Ny.1 s).1;refine AC.vF func39 ntmps39 results39 fun A=>?_;have B:=fun g=>f.TA g;refine Sk B ?_;refine lIn (fun k fr hh=>∃lo hi:Nat,k=hi-lo/\lo<=q/\q<=hi/\hi<=xs.length/\fr=mkF [(0,v),(1,x),(6,xs.length),(7,lo),(8,.int .i64 hi)]/\hh=h) ⟨0,xs.length,rfl,Z6 _,NH,qL0 _,rfl,rfl⟩ ?_;rintro k fr hh C ⟨lo,hi,rfl,n,o,p,rfl,rfl⟩;refine Uy ?_;refine Kl.intro (fun t=>?_) (fun hf=>?_)
 .have D:lo<hi:=acb t;clear t;have a1:aaY .i64 ((lo:Int)+(hi:Int))=((lo+hi:Nat):Int):=by grind[cT]
  have a2:=aw_u64 (lo+hi) NH;have E:=Tq (lo+hi) NH;have F:aaY .i64 (((lo+hi) / 2:Nat):Int)=(((lo+hi) / 2:Nat):Int):=cT _ NH NH;have M:(lo+hi) / 2<hi:=NH;have G:lo<=(lo+hi) / 2:=NH;refine Sk (bG a1 @cv3u a2 E @cvu3 F) ?_;generalize (lo+hi) / 2=m at*;have d:m<xs.length:=NH;have ad:=f.DH m d;have ld:=f.Uc m d;have H:=CA d;generalize xs[m]=y at*;simp only[HO,seval,ad,ld];refine kCi func56 (LessI_any r y x hh) ?_;rintro z h3 N ⟨rfl,rfl⟩;by_cases c:y<x
  .have dc:decide (y<x)=tT:=EL c;have e:m<q:=hGr;refine Sk (XC dc (aaa m NH)) ?_;exact lgA NH ⟨m+1,hi,rfl,e,o,p,rfl,rfl⟩
  .have dc:decide (y<x)=fF:=Sb c;have e:q<=m:=hGr;refine Sk dc ?_;exact lgA NH ⟨lo,m,rfl,n,e,NH,rfl,rfl⟩
 have I:hi<=lo:=vp hf;obtain rfl:lo=q:=NH;have dl:decide ((lo:Int)<(xs.length:Int))=tT:=EL NH;have ad:=f.DH lo l;have ld:=f.Uc lo l;rw[(Ny.1 s).2]at ld;have dx:decide (x=x)=tT:=EL rfl;have J:((lo:Int)<(xs.length:Int))=True:=hGr;simp only[HO,seval,J,dl,ad,ld,dx];grind
theorem idx_eq{b:xLP}(h:(kz (aag n b))[i]?=Z x):i=abD n b x:=by
 have c:(aag n b).Pairwise (·<·):=Ki.filter _;unfold abD;generalize aag n b=l at*
 induction l generalizing i with
 |nil=>grind[kz]
 |cons a l d=>
  have⟨f,h2⟩:=ajX.1 c;cases i with
  |zero=>grind[kz]
  |succ i=>
   have h':(kz l)[i]?=Z x:=by grind[kz]
   have hi:=d h' h2;have⟨w,hw,e⟩:=aev.1 (BS h');grind
def mkKI2(h:aai)(a b:Int):aas pG h 47 2 [(0,a),(1,b)]=Z (sL (Z h.next) 2 2,h.alloc (.cells [a,b])):=Ji
def endL_snoc(l:xLP)(p:Pr):adJ (l++[p])=adJ l++[p.1,p.2]:=by simp[adJ]
theorem agu(l:xLP):(adJ l).length=2*l.length:=by
 induction l<;>grind[adJ]
theorem flat_any(m:abw)(bv:vV)(n:Nat)(b:xLP)(h:aai)(r:PR h bv b)(hR:InR n b)(hn:n<=200)(hl:b.length<=594):
  AC pG m 22 [bv] h fun x h'=>adP (aaV n b) x/\Le h h':=by
 have C:=fun g=>r.len g;refine AC.vF func22 ntmps22 results22 fun aa=>?_;by_cases c9:b.length<9
 .have D:decide ((b.length:Int)<9)=tT:=EL NH;refine Sk (XC C D) ?_;exact⟨⟨tT,rfl,fun _=>.inl c9,fun _=>rfl⟩,Le.refl _⟩
 have D:decide ((b.length:Int)<9)=fF:=Sb NH;refine Sk (XC C D) ?_;refine lIn (fun k fr o=>∃(i:Nat)(w:vV),k=b.length-i/\i<=b.length/\fr=mkF [(0,bv),(3,w),(18,bv),(19,.int .i64 b.length),(20,i)]/\GI o w (adJ (b.take i))/\Le h o/\Z2 h w) ⟨0,_,rfl,Z6 _,rfl,GI.nil h,Le.refl _,fun b hb=>by grind[blk]⟩ ?_;rintro k fr o E ⟨i,w,rfl,hi,rfl,g,F,ap⟩;refine Uy ?_;refine Kl.intro (fun s=>?_) (fun hf=>?_)
 .have d:i<b.length:=acb s;clear s;have f:=CA d;have l:b.take (i+1)=b.take i++[b[i]]:=XJ d;have hle:(adJ (b.take i)).length<=2000:=by grind[agu]
  generalize b[i]=p at f l;have ad:=r.addr (k:=.i64) i d;have ld:=(r.le F).load f;have⟨ae,h3,e2,e3,j,H,V⟩:=Ut E p;have m0:=lK V;have m1:=HY V;have l3:=F.trans j;have⟨z,e4,l4,w4,o4⟩:=Tt H [p.1,p.2];have bs:=mkKI2 h3 p.1 p.2;rw[e4]at bs
  have r4:RL RP z (sL (Z h3.next) 2 2) [p.1,p.2]:=RL.Wh (RS.whole o4 rfl)
  obtain⟨jv,W,J,K,w6,f6,-⟩:=GI.join ((g.le j).le l4) w4 r4 (by simp;omega);have⟨l6,aj⟩:=f6 h (l3.trans l4) ap;rw[<-endL_snoc,<-l]at K;simp only[HO,seval,ad,ld,e2,e3,Dh,Z0,Ip,Gc,m0,m1,bs,J,aaa i NH];exact lgA (JS d) ⟨i+1,jv,rfl,d,rfl,K,l6,aj⟩
 have t:b.length<=i:=vp hf;rw[HV t]at g;refine Uy ?_;refine kCi func37 (VQ m g (by rw[agu];omega)) ?_;rintro x h2 w2 ⟨rfl,g2,k2⟩;have L:=k2 h F ap;refine Uy ?_;refine kCi func38 (VY m g2 (by rw[OX,agu];omega)) ?_;rintro M h3 w3 ⟨N,-,k3⟩;have j:=k3 h L ap;rw[adX hR]at N;have lv:=fun g=>N.TA g;rw[y6]at lv;have⟨z,h5,e4,e5,l5,w5,nX,G0⟩:=GX.new w3 ((aag n b).length:Int);refine Sk (IX lv @ait e4 e5 C) ?_;have ag:(aag n b).length<=200:=jz (abZ _ _) (by simp;omega);have u:(kz (aag n b)).Pairwise (·<·):=by unfold kz;rw[Vn];exact(Ki.filter _).imp fun h=>by omega
 have O:h3.own h3.next=Y:=hGr
 generalize h3.next=X at*
 refine lIn (fun k fr o=>∃(i:Nat)(ev:vV),k=b.length-i/\i<=b.length/\fr=mkF [(3,M),(6,pT (Z X)),(39,bv),(40,.int .i64 b.length),(41,i)]/\GX o X (aag n b).length ev (aat n b|>.take i)/\Le h3 o/\Z2 h3 ev) ⟨0,_,rfl,Z6 _,rfl,G0,l5,fun b hb=>by grind[blk]⟩ ?_;clear G0 w5 l5 e5 e4;rintro k fr hz P ⟨i,ev,rfl,hi,rfl,G,A,az⟩;refine Uy ?_;refine Kl.intro (fun s=>?_) (fun hf=>?_)
 .have d:i<b.length:=acb s;clear s;have f:=CA d;have ai:(aat n b)[i]?=Z ((abD n b b[i].1:Int),(abD n b b[i].2:Int)):=by grind[aat.eq_1]
  have l:(aat n b).take (i+1)=(aat n b).take i++[((abD n b b[i].1:Int),(abD n b b[i].2:Int))]:=by grind[take_add_one]
  have v:((aat n b).take i).length+1<=100000:=hGr;have al:=BS f;have hm:∀x,aO b[i] x=tT->x∈kz (aag n b):=by grind[adX,jn,Wv,aeS]
  have Q:=hm b[i].1 (by simp[aO]);have R:=hm b[i].2 (by simp[aO]);generalize b[i]=p at*;have ad:=r.addr (k:=.i64) i d;have ld:=(r.le (j.trans A)).load f;have⟨aq,W,J,s6,l6,w6,o6⟩:=Ut P p;have m0:=lK o6;have m1:=HY o6;have r6:=N.le Nn.RP (A.trans l6);have aw:=aaa i NH;simp only[HO,seval,ad,ld,J,s6,Dh,Z0,Ip,Gc,m0];refine kCi func39 (acI m M _ p.1 W r6 (by rw[y6];omega) u Q) ?_;rintro y h7 w7 ⟨⟨a,rfl,ha⟩,rfl⟩;refine Sk (IX @Dh @Z0 @Ip.eq_1 @Gc m1) ?_;refine kCi func39 (acI m M _ p.2 h7 r6 (by rw[y6];omega) u R) ?_;rintro y h8 w8 ⟨⟨c,rfl,hc⟩,rfl⟩;obtain rfl:=idx_eq ha;obtain rfl:=idx_eq hc;have G6:=G.le l6;obtain⟨v',g4,g5,K,q4,q5,q6,G7,ar,l7,f7,-⟩:=G6.push' w8 ((abD n b p.1:Int),(abD n b p.2:Int)) v;have⟨S,a7⟩:=f7 h3 (A.trans l6) O az;rw[<-l]at G7;have T:=xe (abD n b p.1:Int) (abD n b p.2:Int);simp only[HO,seval,Di,Ip,Gc,G6.ld.2.2,T,q4,q5,q6,aw];exact lgA (JS d) ⟨i+1,v',rfl,d,rfl,G7,S,a7⟩
 have t:b.length<=i:=vp hf;have v:(aat n b).length=b.length:=by simp[aat]
 rw[HV NH]at G;refine Sk G.ld.1 ?_;refine kCi func40 (Embed_any m _ ⟨((aag n b).length:Int),aat n b⟩ hz ⟨ev,rfl,G.gp.pr,GS.okc G.gp⟩) ?_;rintro x h9 w9 ⟨l9,rv,e,rfl,I⟩;have U:=(j.trans A).trans l9;have key:decide (e=0)=tT↔aaV n b:=by
  rw[vg];constructor
  .intro he;rcases I with⟨-,q,-⟩|⟨-,-,q,-⟩|⟨-,-,-,-,q,-⟩|⟨B,h2,rs,-,h3,z,-⟩
   .omega
   .omega
   .omega
   .exact .inr ⟨B,h2,Vg B.GD B.q9 h3 z⟩
  .rintro(q|⟨B,h2,h3⟩)
   all_goals grind[ao6.XK]
 refine Uy ?_;exact⟨⟨_,rfl,key⟩,U⟩
theorem fkM_len(key:Pr->Int)(es:xLP):(CY key es).length<=es.length:=by
 have:∀(es:xLP)(ks:RZ),(es.foldl (fkS key) ks).length<=ks.length+es.length:=by
  intro es
  induction es with
  |nil=>simp
  |cons p es a=>
   intro ks;have:=a (fkS key ks p);have h2:(fkS key ks p).length<=ks.length+1:=by grind[fkS]
   grind
 have:=this es [];rw[alv,Gc]at this;exact this
theorem afx(n:Nat)(es:xLP):(vq n es).length<=es.length:=by grind[aaB,fkM_len]
theorem aaO(m:abw)(v:vV)(G:GM)(h:aai)(hg:GR h v G):
  AC pG m 8 [v] h fun x h'=>adP (bX G/\aak G.n.toNat G.es) x/\Le h h':=by
 have e:=hg;have⟨D,es⟩:=G
 obtain⟨ev,rfl,E⟩:=hg.open
 refine AC.vF aol ntmps8 results8 fun F=>?_;obtain⟨N,R,o,S,-,O⟩:=r8 (n:=D) F E
 generalize h.next=B at*
 have H:=O N (Le.refl _);refine Sk (XC R H.1) ?_;refine kCi func21 (Cw m _ ⟨D,es⟩ N (e.le o)) ?_;rintro x h2 w2 ⟨l2,T⟩;have r:=O h2 l2;have j:=o.trans l2;rcases T with⟨U,rfl⟩|⟨l,V,rfl,z⟩
 .refine Sk r.1 ?_;refine kCi UP (ak m _ _ h2 (e.le j)) ?_;rintro x h3 W ⟨⟨s,rfl,d⟩,l3⟩;cases s with
  |true=>exact absurd (d.1 rfl) U
  |false=>refine Uy ?_;grind[adP.f,Le.trans]
 refine Sk r.1 ?_;refine kCi UP (ak m _ _ h2 (e.le j)) ?_;rintro x h3 W ⟨⟨s,rfl,d⟩,l3⟩;obtain rfl:s=tT:=d.2 l;clear d;have I:=j.trans l3;have X:0<=D:=l.n0;obtain⟨n,rfl⟩:=WA X;simp only[yM]at z ⊢;have lk:=fun g=>z.len (P:=pG) sU g;have aa:aak n es↔∀b∈vq n es,aaV n b:=⟨fun q=>q.2,fun q=>⟨l,q⟩⟩;have t:∀b∈vq n es,b.Sublist es:=by grind[mem_iff_getElem?,Jh,filter_sublist]
 have ae:(vq n es).length<=100000:=by have:=afx n es;have:es.length<=594:=l.len;omega
 generalize vq n es=bs at*;have d0:decide ((0:Int)=0)=tT:=by decide
 refine Sk (Yb @bne.eq_1.{0} d0 lk) ?_
 refine lIn (fun k fr A=>∃i:Nat,k=bs.length-i/\i<=bs.length/\fr=mkF [(19,V),(20,.int .i64 bs.length),(21,.int .i64 i)]/\Le h3 A/\∀b∈bs.take i,aaV n b) ⟨0,rfl,Z6 _,rfl,Le.refl _,fun b hb=>by simp at hb⟩ ?_;rintro k fr A ag ⟨i,rfl,hi,rfl,C,w⟩;refine Uy ?_;refine Kl.intro (fun Q=>?_) (fun hf=>?_)
 rotate_left
 .have J:bs.length<=i:=vp hf;rw[HV J]at w;refine Uy ?_;exact⟨⟨tT,rfl,hGr,fun _=>rfl⟩,I.trans C⟩
 have a:i<bs.length:=acb Q;clear Q;have ai:bs.take (i+1)=bs.take i++[bs[i]]:=XJ a;have K:=aaf a;have L:=z.addr (P:=pG) sU AV Ji (k:=.i64) i a;have⟨u,M,hu⟩:=z.load' (P:=pG) AV rfl i a;have lu:=M A (l3.trans C);generalize bs[i]=b at*;have hs:=t b K;have y:b.length<=594:=jz hs.length_le l.len;simp only[HO,seval,L,lu];refine kCi func22 (flat_any m u n b A (hu.le (l3.trans C)) (fun p E=>l.GD p (hs.subset E)) (by have:(n:Int)<=200:=l.n1;omega) y) ?_;rintro x h5 w5 ⟨⟨s,rfl,d⟩,l5⟩;cases s with
 |false=>refine Uy ?_;grind[adP.f,Le.trans]
 |true=>refine Sk (aaa i NH) ?_;exact lgA (JS a) ⟨i+1,rfl,a,rfl,C.trans l5,fun c hc=>by grind⟩
attribute [local instance] Classical.propDecidable in
theorem akm(e:abw)(v:vV)(G:GM)(h:aai)(hg:GR h v G):
  AC pG e 6 [v] h fun x h'=>Le h h'/\((¬bX G/\x=.tuple #[.slice Y 0 0,.int .i64 20])\/(bX G/\∃b,x=.tuple #[b,.int .i64 0]/\PR h' b (abv G)/\Ct b (abv G).length)):=by
 have m:=hg;have⟨P,es⟩:=G
 obtain⟨ev,rfl,Q⟩:=hg.open
 refine AC.vF ap8 ntmps6 results6 fun A=>?_;obtain⟨C,U,f,V,-,z⟩:=r8 (n:=P) A Q
 generalize h.next=B at*
 have o:=z C (Le.refl _);refine Sk (XC U o.1) ?_;refine kCi UP (ak e _ _ C (m.le f)) ?_;rintro x h2 w2 ⟨⟨p,rfl,a⟩,l2⟩;have q:=z h2 l2;have r:=f.trans l2;cases p with
 |false=>refine Uy ?_;grind
 |true=>
 have D:=a.1 rfl;clear a;have W:0<=P:=D.n0;obtain⟨n,rfl⟩:=WA W;refine Sk q.1 ?_;refine kCi aol (aaO e _ ⟨(n:Int),es⟩ h2 (m.le r)) ?_;rintro x h3 w3 ⟨⟨p,rfl,a⟩,l3⟩;simp only[yM]at a;have s:=r.trans l3
 have hf:∀F,F=abv ⟨(n:Int),es⟩->F=if aak n es then[]else aeH n es.length 0 es:=fun F d=>d
 cases p with
 |true=>have:=hf _ rfl;rw[abe (a.1 rfl).2]at this;refine Uy ?_;grind[GP.nil,GP.pr,GP.ct]
 |false=>
 have d:=hf _ rfl;rw[abE hGr]at d;generalize abv ⟨(n:Int),es⟩=F at*;clear hf a;have t:es.length<=594:=D.len;refine Sk (xU @Di @Ip.eq_1 @Gc ((z h3 (l2.trans l3)).2.2)) ?_;refine kCi qS33 (DA e ev es h3 (Q.le s) NH) ?_;rintro b h4 X ⟨E,l4,-⟩;have H:=s.trans l4;refine Uy ?_;refine lIn (fun k fr u=>∃(i:Nat)(l:xLP)(b:vV),k=l.length-i/\i<=l.length/\fr=mkF [(1,pT (Z B)),(4,b),(5,i)]/\PR u b l/\Ct b l.length/\Le C u/\aeH n (l.length-i) i l=F/\l.Sublist es) ⟨0,es,b,rfl,Z6 _,rfl,E.pr,E.ct,(by grind[Le.trans]),d.symm,ann _⟩ ?_;clear E X l4 H d o q;clear b;rintro k fr u aa ⟨i,l,b,rfl,hi,rfl,pl,cl,I,d,hs⟩;have R:=fun g=>pl.len g;have ae:l.length<=594:=jz hs.length_le t;have ag:=f.trans I;by_cases c:i<l.length
 rotate_left
 .have dc:decide ((i:Int)<(l.length:Int))=fF:=Sb NH;have J:((i:Int)<(l.length:Int))=False:=hGr;have K:l.length-i=0:=NH;rw[K]at d;have d:l=F:=d;refine Sk (Yb R dc J) ?_;grind
 have dc:decide ((i:Int)<(l.length:Int))=tT:=EL NH;have J:((i:Int)<(l.length:Int))=True:=hGr;have hk:l.length-i=(l.length-(i+1))+1:=NH;rw[hk,aeH,abe c]at d;have aw:=aaa i NH;refine Sk (Yb R dc J) ?_;refine kCi qS33 (DA e b l u pl NH) ?_;rintro cv h5 w5 ⟨g5,l5,a5⟩;simp only[HO,seval,aw];refine kCi func18 (aeY e g5 c NH) ?_;rintro S T w6 ⟨L,c6,k6⟩;have j:=k6 u l5 a5;have M:=z T (I.trans j);have N:=Wj (n:=(n:Int)) L.sl;refine Sk (IX @Ii @Ip.eq_1 @Gc M.2.1 N) ?_;refine kCi aol (aaO e _ ⟨(n:Int),l.eraseIdx i⟩ T ⟨S,rfl,L⟩) ?_;rintro x h7 w7 ⟨⟨p,rfl,a⟩,O⟩;simp only[yM]at a;have w:=(gK l i).trans hs;have ai:bX ⟨(n:Int),l.eraseIdx i⟩:=D.sub w;have aj:(l.eraseIdx i).length=l.length-1:=hGr;have y:=I.trans (j.trans O);cases p with
 |true=>rw[abe (a.1 rfl).2]at d;simp only[HO,seval,aw];exact lgA NH ⟨i+1,l,b,rfl,c,rfl,pl.le (j.trans O),cl,y,d,hs⟩
 |false=>rw[abE hGr]at d;refine Uy ?_;exact lgA NH ⟨i,l.eraseIdx i,S,rfl,NH,rfl,L.le O,c6,y,hGr,w⟩
variable {a j:Nat}
def acJ(a j:Nat):xLP:=(rG (j-(a+1))).map fun t=>((a:Int),((a+1+t:Nat):Int))
def afP(f n:Nat):Nat->xLP
 |0=>[]
 |k+1=>afP f n k++acJ (f+k) n
def afy(h:a+1<=j):acJ a (j+1)=acJ a j++[((a:Int),(j:Int))]:=by unfold acJ;rw[show j+1-(a+1)=(j-(a+1))+1 by omega,Bx,akG];simp;omega
theorem ad4(a j:Nat):(acJ a j).length<=j:=by simp[acJ]
theorem ad5(f n:Nat):∀k,(afP f n k).length<=n*k
 |0=>qL0 _
 |k+1=>by have:=ad5 f n k;grind[ad4,afP.eq_2]
def an9(f n:Nat):xLP:=afP f n (n-f)
def amn(y:abw)(f n:Nat)(h:aai)(u:n<=100)(hf:f<=n):AC pG y 14 [f,n] h fun x h'=>GP h' x (an9 f n)/\Le h h'/\Z2 h x:=by
 refine AC.vF func14 ntmps14 results14 fun z=>?_;have m:∀k,k<=n->(afP f n k).length<=10000:=fun k A=>jz (ad5 f n k) (adE u (jz A u));refine Uy ?_;refine aab.intro (fun k fr l=>∃(i:Nat)(v:vV),k=n-f-i/\f+i<=n/\fr=mkF [(1,(n:Nat)),(5,v),(6,(f+i:Nat))]/\GP l v (afP f n i)/\Le h l/\Z2 h v)
  (n-f) [(1,(n:Nat)),(5,.slice Y 0 0),(6,(f:Nat))] hAs ⟨0,_,rfl,hf,rfl,GP.nil h,Le.refl _,fun b hb=>by simp[blk]at hb⟩ ?_
 rintro k fr l o ⟨i,v,rfl,hi,rfl,g,d,ap⟩;by_cases c:f+i<n
 rotate_left
 .have dc:decide (((f+i:Nat):Int)<(n:Int))=fF:=Sb NH;have a:(((f+i:Nat):Int)<(n:Int))=False:=eq_false NH;have e:n-f=i:=NH;refine Sk (XC dc a) ?_;exact⟨by rw[an9,e];exact g,d,ap⟩
 have dc:decide (((f+i:Nat):Int)<(n:Int))=tT:=EL NH;have a:(((f+i:Nat):Int)<(n:Int))=True:=eq_true NH;have aw:=aaa (f+i) NH;have B:=m i NH;simp only[HO,seval,dc,a,aw];refine aab.intro (fun k fr p=>∃(j:Nat)(v:vV),k=n-j/\f+i+1<=j/\j<=n/\fr=mkF [(1,(n:Nat)),(5,v),(6,(f+i:Nat)),(7,(j:Nat))]/\GP p v (afP f n i++acJ (f+i) j)/\Le h p/\Z2 h v)
  (n-(f+i+1)) [(1,(n:Nat)),(5,v),(6,(f+i:Nat)),(7,(f+i+1:Nat))] hAs ⟨f+i+1,v,rfl,qL0 _,NH,rfl,by simpa[acJ]using g,d,ap⟩ ?_
 clear g d ap o;clear l v;rintro k fr p q ⟨j,v,rfl,C,D,rfl,g,d,ap⟩;by_cases c2:j<n
 rotate_left
 .have dc:decide (((j:Nat):Int)<(n:Int))=fF:=Sb NH;have a:(((j:Nat):Int)<(n:Int))=False:=eq_false NH;obtain rfl:j=n:=NH;simp only[HO,seval,dc,a,aw];exact tn (j-f-(i+1)) [(1,(j:Nat)),(5,v),(6,(f+i+1:Nat))] NH hAs ⟨i+1,v,rfl,NH,rfl,g,d,ap⟩
 have dc:decide (((j:Nat):Int)<(n:Int))=tT:=EL NH;have a:(((j:Nat):Int)<(n:Int))=True:=eq_true NH;have r:=aaa j NH;have E:=ad4 (f+i) j;obtain⟨v',H,I,e4,F,w,J,l4,s,-⟩:=g.push q (((f+i:Nat):Int),(j:Int)) (by rw[Eh];omega);have⟨l5,G⟩:=s h d ap;rw[Cg,<-afy C]at w;have t:=xe ((f+i:Nat):Int) (j:Int);refine Sk (bG dc a t e4 F r) ?_;exact tn (n-(j+1)) [(1,(n:Nat)),(5,v'),(6,(f+i:Nat)),(7,(j+1:Nat))] NH hAs ⟨j+1,v',rfl,NH,NH,rfl,w,l5,G⟩
def mkP9(h:aai)(a b c d e f g i j:Pr):aas pG h 22 9 [(0,UI a),(1,UI b),(2,UI c),(3,UI d),(4,UI e),(5,UI f),(6,UI g),(7,UI i),(8,UI j)]=Z (sL (Z h.next) 9 9,h.alloc (.cells (Iu [a,b,c,d,e,f,g,i,j]))):=Ji
def amE(c:abw)(h:aai):AC pG c 15 [] h fun x h'=>GP h' x akF/\Le h h'/\Z2 h x:=by
 refine AC.vF func15 ntmps15 results15 fun a=>?_;have⟨i,d,l1,w1,e⟩:=Tt a (Iu akF);have m:=mkP9 h (0,3) (0,4) (0,5) (1,3) (1,4) (1,5) (2,3) (2,4) (2,5);have f:Iu [(0,3),(0,4),(0,5),(1,3),(1,4),(1,5),(2,3),(2,4),(2,5)]=Iu akF:=rfl;rw[f,d]at m
 have g:h.own h.next=Y:=(Le.refl h).next a (qL0 _)
 refine Sk (XC @xe m) ?_;exact⟨GS.full e rfl WY,l1,fun b hb=>by injection hb with hb;subst hb;exact g⟩
def agL(a:abw)(h:aai):AC pG a 4 [] h fun x h'=>x=.bool tT/\Le h h':=by
 refine AC.vF qS35 ntmps4 results4 fun aH=>?_;have P:decide ((0:Int)=0)=tT:=by decide
 have d5:decide ((5:Int)=5)=tT:=by decide
 have S:decide ((33:Int)=33)=tT:=by decide
 have T:aaY .i64 (0+0)=0:=by decide
 have E5:an9 0 5=k5L:=by decide
 have E6:an9 0 6=k6L:=by decide
 have EU:an9 1 6=k5U:=by decide
 refine Uy ?_;refine kCi func14 (amn a 0 5 h WY WY) ?_;rintro U h1 w1 ⟨Q,l1,-⟩;rw[E5]at Q;refine Uy ?_;refine kCi func14 (amn a 0 6 h1 WY WY) ?_;rintro v6 h2 w2 ⟨V,l2,-⟩;rw[E6]at V;have j:=Q.le l2;have y:=Wj (n:=5) Q.pr.sl;refine Sk y ?_;refine kCi ap8 (akm a _ ⟨((5:Nat):Int),k5L⟩ h2 ⟨U,rfl,j.pr⟩) ?_;rintro x h3 w3 ⟨l3,⟨k,-⟩|⟨-,a5,rfl,f5,-⟩⟩
 .exact absurd k5R k
 rw[fnd_k5]at f5;have W:=Wj (n:=6) V.pr.sl;refine Sk W ?_;refine kCi ap8 (akm a _ ⟨((6:Nat):Int),k6L⟩ h3 ⟨v6,rfl,(V.le l3).pr⟩) ?_;rintro x h4 w4 ⟨l4,⟨k,-⟩|⟨-,a6,rfl,f6,-⟩⟩
 .exact absurd k6R k
 rw[fnd_k6]at f6;refine Uy ?_;refine kCi func15 (amE a h4) ?_;rintro v3 h5 w5 ⟨g3,l5,-⟩;have X:=Wj (n:=6) g3.pr.sl;refine Sk X ?_;refine kCi ap8 (akm a _ ⟨((6:Nat):Int),akF⟩ h5 ⟨v3,rfl,g3.pr⟩) ?_;rintro x h6 w6 ⟨l6,⟨k,-⟩|⟨-,a3,rfl,f3,-⟩⟩
 .exact absurd k33R k
 rw[fnd_k33]at f3;have⟨h7,e7,R,w7,o7⟩:=Tt w6 (Iu c4E);have m7:=mkP4 h6 (0,1) (0,3) (1,2) (2,3);have aa:Iu [(0,1),(0,3),(1,2),(2,3)]=Iu c4E:=rfl;rw[aa,e7]at m7
 have p7:PR h7 (sL (Z h6.next) 4 4) c4E:=PR.made o7 rfl
 have⟨h8,h9,a8,s8,z,w9,lG⟩:=newG (n:=4) w7 p7;have ae:=Wj (n:=4) p7.sl;refine Sk (bG @xe m7 ae a8 s8 ((lG h9 (Le.refl _)).1)) ?_
 generalize h6.next=R4 at*
 generalize h7.next=G4 at*
 have p9:=p7.le z;refine kCi ap8 (akm a _ ⟨((4:Nat):Int),c4E⟩ h9 ⟨_,rfl,p9⟩) ?_;rintro x A aJ ⟨b,⟨k,-⟩|⟨-,a4,rfl,f4,-⟩⟩
 .exact absurd c4R k
 rw[fnd_c4]at f4;have m:=l3.trans (l4.trans (l5.trans (l6.trans (R.trans (z.trans b)))));refine Sk (XC T P) ?_;refine kCi YW (abn a a5 U k5L k5L A (f5.le (l4.trans (l5.trans (l6.trans (R.trans (z.trans b)))))) (j.pr.le m) WY) ?_;rintro x B aK ⟨rfl,ag⟩;have o:Le A B:=by rw[ag];exact Le.refl _
 have sp:∀l:xLP,decide (l=l)=tT:=fun l=>EL rfl;simp only[HO,seval,sp];refine kCi func14 (amn a 1 6 B WY WY) ?_;rintro vU C aL ⟨gU,p,-⟩;rw[EU]at gU;refine Uy ?_;have D:=f6.le (l5.trans (l6.trans (R.trans (z.trans (b.trans (o.trans p))))));refine kCi YW (abn a a6 vU k5U k5U C D gU.pr WY) ?_;rintro x E aN ⟨rfl,ai⟩;have q:Le C E:=by rw[ai];exact Le.refl _
 simp only[HO,seval,sp];refine kCi func15 (amE a E) ?_;rintro vT F aP ⟨gT,r,-⟩;refine Uy ?_;have G:=R.trans (z.trans (b.trans (o.trans (p.trans (q.trans r)))));refine kCi YW (abn a a3 vT akF akF F (f3.le G) gT.pr WY) ?_;rintro x H aT ⟨rfl,aj⟩;have s:Le F H:=by rw[aj];exact Le.refl _
 have c:=o.trans (p.trans (q.trans (r.trans s)));have al:=fun g=>f4.len g;have t:=j.pr.le (m.trans c);simp only[HO,seval,sp,al,alv,Gg,P];refine kCi akP (aj2 a U k5L H t) ?_;rintro x aq aV ⟨rfl,u⟩;have⟨cv,cut,pc,cc⟩:=t.cut (GS.okc Q) (i:=1) WY;simp only[qL223]at cut;simp only[HO,seval,apd,d5,cut];refine kCi akP (aj2 a cv m5E aq (pc.le u)) ?_;rintro x ar aW ⟨rfl,I⟩;refine Sk (XC @kind_m5 P) ?_;refine kCi akP (aj2 a a6 k5U ar ((D.le (q.trans (r.trans s))).le (u.trans I))) ?_;rintro x av aX ⟨rfl,ay⟩;have d:=u.trans (I.trans ay);refine Sk (XC @kind_k5U d5) ?_;refine kCi akP (aj2 a a3 akF av ((f3.le (G.trans s)).le d)) ?_;rintro x J a7 ⟨rfl,K⟩;have f:=b.trans (c.trans (d.trans K));refine Sk (bG @an8 S @Di @Ip.eq_1 @Gc ((lG J f).2.2)) ?_;refine kCi akP (aj2 a _ c4E J (p9.le f)) ?_;rintro x L ba ⟨rfl,v⟩;refine Sk (Yb @kind_c4 P ((lG L (f.trans v)).1)) ?_;refine kCi aol (aaO a _ ⟨((4:Nat):Int),c4E⟩ L ⟨_,rfl,p9.le (f.trans v)⟩) ?_;rintro x az bg ⟨⟨w,rfl,aA⟩,aB⟩;obtain rfl:w=tT:=aA.2 ⟨c4R,apb⟩;have e:=d.trans (K.trans (v.trans aB));have aC:=Wj (n:=5) pc.sl;simp only[HO,seval,cut,aC];refine kCi aol (aaO a _ ⟨((5:Nat):Int),m5E⟩ az ⟨_,rfl,pc.le e⟩) ?_;rintro x aD bh ⟨⟨w,rfl,M⟩,N⟩;obtain rfl:w=tT:=M.2 ⟨m5R,m5_plan⟩;refine Sk y ?_;refine kCi aol (aaO a _ ⟨((5:Nat):Int),k5L⟩ aD ⟨_,rfl,t.le (e.trans N)⟩) ?_;rintro x bj bk ⟨⟨w,rfl,O⟩,aE⟩;have aF:w=fF:=by
  cases w with
  |false=>rfl
  |true=>exact absurd (O.1 rfl).2 k5_np
 subst aF;refine Uy ?_;exact⟨trivial,(l1.trans (l2.trans (m.trans c))).trans (e.trans (N.trans aE))⟩
attribute [local instance] Classical.propDecidable
theorem agf{on on':Nat->Bool}(b:∀u,on u=fF->on' u=fF){es:xLP}{u w:Nat}(h:Cn on es u w):Cn on' es u w:=by
 induction h with
 |refl h=>exact .refl (b _ h)
 |step _ a o c=>exact .step c a (b _ o)
theorem last_exit{on:Nat->Bool}{es:xLP}{S:Nat->Prop}{x0 c:Nat}(h:Cn on es x0 c)(i:S x0)(d:¬S c):∃x y,S x/\¬S y/\Jp es x y/\Cn (fun u=>on u||decide (S u)) es y c:=by
 induction h with
 |refl _=>grind
 |@step w x h a o e=>
  have b:(on x||decide (S x))=fF:=hGr;by_cases hw:S w
  .exact⟨w,x,hw,d,a,.refl b⟩
  .obtain⟨p,q,f,h2,h3,g⟩:=e hw;exact⟨p,q,f,h2,h3,.step g a b⟩
theorem first_in{on:Nat->Bool}{es:xLP}{t a w:Nat}(ne:a≠t)(h:Cn on es a w):Cn (fun u=>on u||decide (u=t)) es a w\/∃z,Jp es z t/\Cn (fun u=>on u||decide (u=t)) es a z:=by
 induction h with
 |refl h=>exact .inl (.refl hGr)
 |@step w x h a o b=>
  rcases b with q|q
  .by_cases e:x=t
   .grind
   .exact .inl (.step q a hGr)
  grind
def abb(n:Nat)(es:xLP)(k:Int):xLP:=es.filter fun p=>decide (cQ n es p=k)
section
variable{n:Nat}{es:List Pr}(hr:InR n es)
theorem aaw{k:Int}{p:Pr}:p∈abb n es k↔p∈es/\cQ n es p=k:=by simp[abb]
theorem ajm(k:Int):(abb n es k).Sublist es:=EP
include hr
def age(k:Int):InR n (abb n es k):=fun p a=>hr p (aaw.1 a).1
theorem abM{k:Int}{u w:Nat}:Jp (abb n es k) u w↔Jp es u w/\cQ n es (GW u w)=k:=by
 constructor
 .intro h;have a:=aaw.1 (H4 (age hr k) h);exact⟨h.imp (by grind[aaw]) (by grind[aaw]),a.2⟩
 .rintro⟨a,h2⟩;have b:=aaw.2 ⟨H4 hr a,h2⟩;have ne:u≠w:=fun e=>by grind[Xa]
  rcases adQ ne with c|c
  .left;grind[GW.eq_1]
  .right;grind[GW.eq_1]
theorem blk_path{v a c:Nat}(ha:Jp es v a)(j:Jp es v c)(h:Cn (wo v) es a c):Cn (wo v) (abb n es (cQ n es (GW v a))) a c:=by
 generalize w:cQ n es (GW v a)=K;have nva:a≠v:=by grind[Xa]
 refine ZT fun k=>?_;have b:Cn (wo v) (abb n es K) a a:=.refl (iO nva);have⟨x,y,i,l,m,d⟩:=last_exit (S:=fun u=>Cn (wo v) (abb n es K) a u) h b k;have f:y≠v:=by grind[Cn.off1]
 have key:cQ n es (GW x y)=K:=by
  have off:∀u,(wo v u||decide (Cn (wo v) (abb n es K) a u))=fF->wo x u=fF:=hGr;have g:v≠x:=by grind[Cn.aom]
  have o:Cn (wo x) es y v:=.step (agf off d) j.symm (iO g);by_cases e:x=a
  .grind[dR,Jp.symm,so]
  .rcases first_in (EH e) i with q|⟨z,p,q⟩
   .grind[Cn.aom]
   .obtain⟨r,s⟩:=(abM hr).1 p;have t:Cn (wo x) es a z:=by
     have:Cn (wo x) (abb n es K) a z:=by grind[agf]
     grind[Cn.mono,aaw]
    have ya:Cn (wo x) es y z:=(Cn.step o ha hGr).trans t;grind[dR,Jp.symm,so]
 exact l (.step i (by grind[abM]) (iO f))
theorem blk_one{k:Int}{p q:Pr}(b:p∈abb n es k)(d:q∈abb n es k):cQ n (abb n es k) p=cQ n (abb n es k) q:=by
 have hb:=age hr k
 have:=adg hr (fun r=>if r∈abb n es k then cQ n (abb n es k) r else-1) (fun v a c ha e h=>?_) (aaw.1 b).1 (aaw.1 d).1 (by grind[aaw])
 all_goals grind[dR,aaw,H4,abM,blk_path]
theorem key_mono{c:xLP}(hs:∀p∈c,p∈es){d:Nat}(e:InR d c){p q:Pr}(f:p∈c)(g:q∈c)(h:cQ d c p=cQ d c q):cQ n es p=cQ n es q:=adg e (fun r=>cQ n es r) (fun v a b ha hb i=>(dR hr (ha.imp (hs _) (hs _)) (hb.imp (hs _) (hs _))).2 (i.mono hs)) f g h
end
theorem aaP{n:Nat}{es b:xLP}:b∈vq n es↔∃p∈es,b=abb n es (cQ n es p):=by
 rw[aaB,aev];constructor
 .rintro⟨k,c,rfl⟩;obtain⟨p,a,rfl⟩:=((ahE (cQ n es) _ es rfl).2 k).1 c;exact⟨p,a,rfl⟩
 .rintro⟨p,a,rfl⟩;exact⟨cQ n es p,((ahE (cQ n es) _ es rfl).2 _).2 ⟨p,a,rfl⟩,rfl⟩
theorem ae0{n:Nat}{es:xLP}(h:∀p∈es,∀q∈es,cQ n es p=cQ n es q){b:xLP}(hb:b∈vq n es):b=es:=by obtain⟨p,a,rfl⟩:=aaP.1 hb;exact OM.2 hGr
theorem blocks_ne{n:Nat}{es:xLP}(h:∀p∈es,∀q∈es,cQ n es p=cQ n es q)(a:es≠[]):es∈vq n es:=by obtain⟨p,l,rfl⟩:=eR a;exact aaP.2 ⟨p,Ma,(OM.2 hGr).symm⟩
def aeo(n:Nat)(b:xLP):Prop:=bX ⟨(n:Int),b⟩/\b≠[]/\∀p∈b,∀q∈b,cQ n b p=cQ n b q
theorem aaQ{n:Nat}{es b:xLP}(hr:bX ⟨(n:Int),es⟩)(hb:b∈vq n es):aeo n b:=by obtain⟨p,d,rfl⟩:=aaP.1 hb;exact⟨hr.sub (ajm _),ne_nil_of_mem (aaw.2 ⟨d,rfl⟩),fun a ha c e=>blk_one hr.GD ha e⟩
theorem abc{n:Nat}{b:xLP}(h:aeo n b):aak n b↔aaV n b:=⟨fun q=>q.2 b (blocks_ne h.2.2 h.2.1),fun q=>⟨h.1,fun c a=>by rw[ae0 h.2.2 a];exact q⟩⟩
theorem acp{n:Nat}{es:xLP}(hr:bX ⟨(n:Int),es⟩):aak n es↔∀b∈vq n es,aak n b:=⟨fun q b hb=>(abc (aaQ hr hb)).2 (q.2 b hb),fun q=>⟨hr,(by grind[abc,aaQ])⟩⟩
section
variable{n:Nat}{b:List Pr}(hR:InR n b)
def acw(n:Nat)(b:xLP):II:=aag n b++(rG n).filter fun(v:Nat)=>!b.any fun p=>aO p (v:Int)
def toV(n:Nat)(b:xLP)(u:Nat):Nat:=(acw n b).idxOf u
def ofV(n:Nat)(b:xLP)(i:Nat):Nat:=(acw n b).getD i 0
theorem acx:(acw n b).Perm (rG n):=by exact qL173 _ _
theorem adn:(acw n b).length=n:=by grind[acx,List.Perm.length_eq,length_range]
theorem ordL_nd:(acw n b).Nodup:=by grind[acx]
theorem am4{u:Nat}:u∈acw n b↔u<n:=by grind[acx]
theorem toV_lt{u:Nat}(h:u<n):toV n b u<n:=by have:=qL160 (am4 (b:=b)|>.2 h);rwa[adn]at this
theorem afz{i:Nat}(h:i<n):ofV n b i<n:=by grind[ofV,am4,getElem_mem]
theorem abk{u:Nat}(h:u<n):ofV n b (toV n b u)=u:=by grind[am4,ofV,toV,D4]
theorem toV_ofV{i:Nat}(h:i<n):toV n b (ofV n b i)=i:=by
 have a:i<(acw n b).length:=by grind[adn]
 have e:ofV n b i=(acw n b)[i]:=D4 a;rw[e];exact qL214 ordL_nd i a
def ren_V(n:Nat)(b:xLP):Ren n (toV n b) (ofV n b):=⟨fun _ h=>toV_lt h,fun _ h=>afz h,fun _ h=>toV_ofV h,fun _ h=>abk h⟩
theorem toV_idx{u:Nat}(h:u∈aag n b):toV n b u=abD n b (u:Int)/\toV n b u<(aag n b).length:=by
 have a:=qL160 h;have e:toV n b u=(aag n b).idxOf u:=by grind[toV,acw]
 refine⟨?_,hGr⟩;rw[e];refine idx_eq (n:=n) (b:=b) ?_;grind[kz.eq_1]
include hR
theorem aaJ{u:Nat}:u∈aag n b↔∃w,Jp b u w:=by
 rw[aeT];constructor
 .rintro⟨f,p,d,h⟩;obtain⟨a,c,ha,g,e,rfl⟩:=aiu hR d;have h':u=a\/u=c:=by grind[aO,ac0]
  grind[Jp.symm]
 .rintro⟨w,h⟩;refine⟨(h.lt hR).1,GW u w,H4 hR h,?_⟩;grind[aO,ac0]
theorem aep{x y:Int}:(x,y)∈aat n b↔∃u w:Nat,((u:Int),(w:Int))∈b/\x=(toV n b u:Int)/\y=(toV n b w:Int):=by
 unfold aat;rw[aev];constructor
 .rintro⟨p,a,e⟩;have⟨c,h2,h3⟩:=hR p a;have⟨f,d⟩:=p;obtain⟨u,rfl⟩:=WA c;obtain⟨w,rfl⟩:=WA (show 0<=d by omega);injection e with g h;have m1:=(toV_idx ((aaJ hR).2 ⟨w,.inl a⟩)).1;have m2:=(toV_idx ((aaJ hR).2 ⟨u,.inr a⟩)).1;grind
 .rintro⟨u,w,a,rfl,rfl⟩;have m1:=(toV_idx ((aaJ hR).2 ⟨w,.inl a⟩)).1;have m2:=(toV_idx ((aaJ hR).2 ⟨u,.inr a⟩)).1;grind
theorem abR{v w:Nat}:Jp (aat n b) v w↔v<n/\w<n/\Jp b (ofV n b v) (ofV n b w):=by
 have one:∀v w:Nat,((v:Int),(w:Int))∈aat n b->v<n/\w<n/\((ofV n b v:Int),(ofV n b w:Int))∈b:=fun v w h=>by have⟨u,x,c,a,h2⟩:=(aep hR).1 h;have l1:=(show Jp b u x from .inl c).lt hR;obtain rfl:v=toV n b u:=NH;obtain rfl:w=toV n b x:=NH;rw[abk l1.1,abk l1.2];exact⟨toV_lt l1.1,toV_lt l1.2,c⟩
 constructor
 .rintro(h|h)
  .obtain⟨a,h2,h3⟩:=one _ _ h;exact⟨a,h2,.inl h3⟩
  .obtain⟨a,h2,h3⟩:=one _ _ h;exact⟨h2,a,.inr h3⟩
 .rintro⟨a,h2,h3|h3⟩
  .exact .inl (by grind[aep,toV_ofV])
  .exact .inr (by grind[aep,toV_ofV])
theorem adj_to{u w:Nat}(h:Jp b u w):Jp (aat n b) (toV n b u) (toV n b w):=by grind[Jp.lt,abR,toV_lt,abk]
theorem vert_lt{u w:Nat}(h:Jp b u w):toV n b u<(aag n b).length:=by grind[toV_idx,aaJ]
omit hR in
theorem aeq{x y:Nat}(c:x∈aag n b)(d:x<y):abD n b (x:Int)<abD n b (y:Int):=by
 have e:∀l:II,x∈l->l.countP (fun(v:Nat)=>decide ((v:Int)<(x:Int)))<l.countP fun(v:Nat)=>decide ((v:Int)<(y:Int)):=by
  intro l
  induction l with
  |nil=>grind
  |cons a l f=>
   intro h;have mono:l.countP (fun(v:Nat)=>decide ((v:Int)<(x:Int)))<=l.countP fun(v:Nat)=>decide ((v:Int)<(y:Int)):=List.countP_mono_left hGr;grind
 exact e _ c
omit hR in
theorem ad6(d:bX ⟨(n:Int),b⟩):bX ⟨((aag n b).length:Int),aat n b⟩:=by
 have hR:=d.GD;have e:(aag n b).length<=n:=jz (abZ _ _) Ma;have f:∀p∈b,∃u w:Nat,p=((u:Int),(w:Int))/\u<w/\u∈aag n b/\w∈aag n b:=fun p a=>by have⟨k,h2,h3⟩:=hR p a;have⟨m,l⟩:=p;obtain⟨u,rfl⟩:=WA k;obtain⟨w,rfl⟩:=WA (show 0<=l by omega);exact⟨u,w,rfl,NH,(aaJ hR).2 ⟨w,.inl a⟩,(aaJ hR).2 ⟨u,.inr a⟩⟩
 refine bX.of (jz e (by have:(n:Int)<=200:=d.n1;omega)) (by rw[aat,wI];exact d.len) (fun q g=>?_) ?_
 .obtain⟨p,a,rfl⟩:=aev.1 g;obtain⟨u,w,rfl,i,j,hw⟩:=f p a;have k:=aeq j i;have h2:=toV_idx hw;grind
 .have ha:D3 b:=d.q9;rw[Nl]at ha ⊢;unfold aat;rw[Vn];refine ha.imp_of_mem fun{p q} a g c=>?_;obtain⟨u,w,rfl,-,j,hw⟩:=f p a;obtain⟨x,y,rfl,-,o,r⟩:=f q g;simp only at c ⊢;rcases c with h|⟨h,h'⟩
  .left;have:=aeq j (show u<x by omega);omega
  .right;have:=aeq hw (show w<y by omega);grind
theorem afA:XU (aag n b).length (eN (aag n b).length (aat n b))↔XU n (eN n b):=by
 have e:(aag n b).length<=n:=jz (abZ _ _) Ma;have c:∀v w,Jp (aat n b) v w->v<(aag n b).length:=fun v w h=>by have⟨a,h2,h3⟩:=(abR hR).1 h;have:=vert_lt hR h3;grind[toV_ofV]
 have GD:∀{m},(∀v w,Jp (aat n b) v w->v<m)->InR m (aat n b):=fun{m} h p f=>by obtain⟨q,d,rfl⟩:=aev.1 f;have⟨a,h2,h3⟩:=hR q d;have⟨k,g⟩:=q;obtain⟨u,rfl⟩:=WA a;obtain⟨w,rfl⟩:=WA (show 0<=g by omega);have i:=(aaJ hR).2 ⟨w,.inl d⟩;have:=aeq i (show u<w by omega);have ha:Jp (aat n b) (abD n b (w:Int)) (abD n b (u:Int)):=.inr hGr;grind
 have l:=GD c;have o:InR n (aat n b):=hGr;have j:XU (aag n b).length (eN (aag n b).length (aat n b))↔XU n (eN n (aat n b)):=by
  have a:XU (aag n b).length (eN (aag n b).length (aat n b))↔XU (aag n b).length (eN n (aat n b)):=(by grind[XU.congr,vD]);rw[a,<-XU.mores (by grind[vD]) (n-(aag n b).length),show(aag n b).length+(n-(aag n b).length)=n by omega]
 rw[j];have N:=ren_V n b;constructor
 .intro h;refine h.ren (p:=ofV n b) (q:=toV n b) ⟨N.ql,N.pl,N.qp,N.pq⟩ fun v w=>?_;grind[vD,Jp.lt,adj_to,abR,abk]
 grind[XU.ren,vD,abR]
end
section
variable{n:Nat}{b:List Pr}(O:aeo n b)
include O
theorem aeo.bp{u w x y:Nat}(d:Jp b u w)(h2:Jp b x y):Pu b u x:=by
 have hR:=O.1.GD;have:=adg hR (fun p=>Pu b u p.1.toNat) (fun v a c ha e _=>?_) (H4 hR d) (H4 hR h2) (O.2.2 _ (H4 hR d) _ (H4 hR h2))
 .have c1:∀{v a},Jp b v a->Pu b v (GW v a).1.toNat:=fun{v a} h=>by
   rw[ac0];rcases qL246 v a with q|q
   .rw[alN q];exact Pu.refl _ _
   grind[abu]
  grind[Cn.trans,Cn.symm]
 .have c1:∀{v a},Jp b v a->Pu b v (GW v a).1.toNat:=fun{v a} h=>by
   rw[ac0];rcases qL246 v a with q|q
   .rw[alN q];exact Pu.refl _ _
   grind[abu]
  grind[Cn.trans,Cn.symm]
theorem aeo.aoX{v a c:Nat}(ha:Jp b v a)(d:Jp b v c):Cn (wo v) b a c:=(dR O.1.GD ha d).1 (O.2.2 _ (H4 O.1.GD ha) _ (H4 O.1.GD d))
theorem aeo.two(A:2<=b.length):zW (aag n b).length (aat n b):=by
 have hR:=O.1.GD;have g:∀{v},v<(aag n b).length->v<n:=fun h=>V9 h (jz (abZ _ _) Ma);have back:∀{v},v<(aag n b).length->ofV n b v∈aag n b:=fun{v} h=>by grind[ofV,acw]
 have d:∀{on on':Nat->Bool}{u w},(∀x,x<n->on x=fF->on' (toV n b x)=fF)->u<n->Cn on b u w->Cn on' (aat n b) (toV n b u) (toV n b w):=fun{on on' u w} l f h=>by
  induction h with
  |refl o=>exact .refl (l _ f o)
  |step _ a o m=>exact .step m (adj_to hR a) (by grind[Jp.lt])
 have h3:3<=(aag n b).length:=by
  have j:=ad6 O.1;have B:(aat n b).length=b.length:=by grind[aat.eq_1]
  refine ZT fun k=>?_;have e:∀p∈aat n b,p=((0:Int),(1:Int)):=fun p q=>by have h:=j.GD p q;grind
  have r:0<(aat n b).length:=NH;have i:1<(aat n b).length:=NH;have:=Lm.1 (Nl.1 j.q9) 0 1 r i WY;grind[List.getElem_mem]
 have bp:∀u v,u<(aag n b).length->v<(aag n b).length->Pu (aat n b) u v:=fun u v f s=>by have⟨w,hw⟩:=(aaJ hR).1 (back f);have⟨y,t⟩:=(aaJ hR).1 (back s);have:=d (on:=offA) (on':=offA) hGr (afz (g f)) (O.bp hw t);grind[toV_ofV]
 refine⟨h3,(by grind[heads_all]),fun v ⟨a,c,ha,k,z⟩=>z ?_⟩;have⟨C,a1,i⟩:=(abR hR).1 ha;have⟨_,c1,h2⟩:=(abR hR).1 k;have:=d (on:=wo (ofV n b v)) (on':=wo v) (by grind[abk]) (afz a1) (O.aoX i h2);grind[toV_ofV]
theorem aeo.flat:aaV n b↔b.length<9\/XU n (eN n b):=by
 unfold aaV;rw[afA O.1.GD];by_cases c:b.length<9
 .grind
 .constructor
  .grind
  .rintro(h|h)
   .exact .inl h
   .exact .inr ⟨ad6 O.1,O.two NH,h⟩
end
theorem ahs{n:Nat}{es a:xLP}(hs:a.Sublist es)(h:aak n es):aak n a:=by
 have d:=h.1;have c:=d.sub hs;have hR:=d.GD;have g:=c.GD;refine(acp c).2 fun b hb=>(abc (aaQ c hb)).2 ?_;have O:=aaQ c hb;obtain⟨p,i,rfl⟩:=aaP.1 hb;have hB:abb n es (cQ n es p)∈vq n es:=by grind[aaP]
 have f:=aaQ d hB;have sub:(abb n a (cQ n a p)).Sublist (abb n es (cQ n es p)):=by
  have e:abb n a (cQ n a p)=(a.filter fun q=>decide (cQ n es q=cQ n es p)).filter fun q=>decide (cQ n a q=cQ n a p):=by rw[anm];refine Uz fun q j=>?_;grind[key_mono]
  rw[e];exact EP.trans (hs.filter _)
 have hf:=(f.flat).1 (h.2 _ hB);refine O.flat.2 ?_;rcases hf with q|q
 .grind
 .refine .inr (q.less (fun v w k=>?_) (fun v w k=>?_))
  .rw[vD f.1.GD];exact((vD O.1.GD).1 k).imp (fun x=>sub.subset x) (fun x=>sub.subset x)
  .exact(vD O.1.GD).2 ((vD O.1.GD).1 k).symm
end
section
attribute [local irreducible] Kp MQ lU KO1 KO KN KX KE VK Kl ZJ TC aab
def afn(es:xLP)(w:RZ):Nat->xLP
 |0=>es
 |i+1=>akC (afn es w i) (w.getD i 0) (w.getD (i+1) 0)
def amz(es:xLP)(w:RZ):∀i,(afn es w i).length<=es.length
 |0=>qL0 _
 |i+1=>jz (abZ _ _) (amz es w i)
theorem amF(I:abw)(v D:vV)(n:Int)(es:xLP)(w:RZ)(h:aai)(hg:GR h v ⟨n,es⟩)(hw:RL RP h D w)(T:es.length<=1000)(U:w.length<=1000):
  AC pG I 64 [v,D] h fun x h'=>∃ev,x=.agg #[n,ev]/\PR h' ev (afn es w (w.length-1))/\Le h h':=by
 obtain⟨ev,rfl,J⟩:=hg.open
 refine AC.vF func64 ntmps64 results64 fun q=>?_;obtain⟨r,K,s,t,oB,-⟩:=r8 (n:=n) q J
 have nB:h.own h.next=Y:=(Le.refl h).next q (qL0 _)
 have⟨h2,L,l2,w2,oR⟩:=allocG t
 have V:r.own r.next=Y:=(Le.refl r).next t (qL0 _)
 have W:h.next≠r.next:=fun e=>by grind
 have E:=s.none V;have u:=l2.own _ _ oB
 generalize h.next=B at*
 generalize r.next=R at*
 have y:=s.trans l2;refine Sk (XC K L) ?_;refine lIn (fun k fr f=>∃(i:Nat)(o:vV),k=w.length-i/\fr=mkF [(1,D),(2,pT (Z B)),(4,pT (Z R)),(5,(i+1:Nat))]/\(i=0\/i+1<=w.length)/\
   Le h f/\f.own B=Z (.cells [n,o])/\f.own R=Z (.cells [.int .i64 0,.slice Y 0 0])/\∃g,Le g f/\g.own R=Y/\g.own B=Y/\PR g o (afn es w i)) ⟨0,ev,rfl,rfl,.inl rfl,y,u,oR,h,y,E,nB,J⟩ ?_
 clear u oR L K;rintro k fr f wq ⟨i,o,rfl,rfl,hi,M,oB,oR,g,X,gR,gB,pg⟩;have F:=pg.le X;have lw:=fun g=>hw.TA g;obtain⟨_,_,ex,-⟩:=F.sl;have p:∀g,Le f g->aaC pG g 24 ⟨B,0,Y⟩=Z (.agg #[n,o]):=fun g l=>ai2 (l.own _ _ oB) ⟨_,_,_,ex⟩;simp only[HO,seval,lw];refine Kl.intro (fun N=>?_) (fun hf=>?_)
 .have c:i+1<w.length:=acb N;clear N;have a:i<w.length:=NH;have j:=hw.le Nn.RP M;have O:=hw.DH i a;have a1:=hw.DH (i+1) c;have P:=j.Uc i a;have Q:=j.Uc (i+1) c;rw[<-D4 (d:=0) a]at P;rw[<-D4 (d:=0) c]at Q;have ws:aaY .i64 (((i+1:Nat):Int)-1)=(i:Int):=by grind[ie]
  have wa:=aaa (i+1) NH;refine Uy ?_;refine gh (fRn 0 10 (JQ 10 [0,5,9] (JQ 11 [0,1,2,3,4,5,6,7,8,9,10] .done))) ?_;refine CO (bG O a1 P Q ws (p f (Le.refl _))) ?_;refine kGi qS34 (akT I _ n _ _ _ f ⟨o,rfl,F⟩ (jz (amz es w i) T)) ?_;rintro x h3 w3 ⟨m,rfl,G,l3,S⟩;have z:=(j.le Nn.RP l3).Uc i a;have A:=(j.le Nn.RP l3).Uc (i+1) c;rw[<-D4 (d:=0) a]at z;rw[<-D4 (d:=0) c]at A;obtain⟨_,_,e3,-⟩:=G.pr.sl;have st:=aib (n:=n) (l3.own _ _ oB) G.pr.sl.one (by rw[e3];rfl);have nb:blk m≠Z B:=fun e=>by have:=S _ e;grind
  have aa:blk m≠Z R:=fun e=>by have:=S _ e;grind
  have g4:GP (rem [R,B] h3) m (afn es w (i+1)):=GS.Fi G fun b hb hm=>by grind
  have C:(rem [R,B] h3).own B=Y:=by grind[DC]
  have H:(rem [R,B] h3).own R=Y:=by grind[DC]
  simp only[HO,seval,Qg,O,a1,z,A,ws,p h3 l3,st,wa];exact lgA NH ⟨i+1,m,rfl,rfl,.inr c,(M.trans l3).put _ nB,aai.Y3 _ _ _,by grind[aai.By,Le.own],_,(Sa _ _).put _ C,H,C,g4.pr⟩
 .have ae:w.length<=i+1:=vp hf;have ei:i=w.length-1:=NH;have st:=aib (n:=n) oR F.sl.one (by rw[ex];rfl);have ld:=ai2 (n:=n) (ev:=o) (aai.Y3 f R (.cells [n,o])) ⟨_,_,_,ex⟩;simp only[HO,seval,p f (Le.refl _),st,ld];grind[PR.le,Le.put]
theorem ape(A:abw)(v:vV)(f:II)(i j:Nat)(h:aai)(q:RL RP h v (kz f))(hi:i<f.length)(B:j<f.length)(O:f.length<=1000):
  AC pG A 101 [v,i,j] h fun x h'=>GI h' x (kz (Qk f i j))/\Le h h'/\Z2 h x:=by
 refine AC.vF func101 ntmps101 results101 fun e=>?_;have C:(kz f).length=f.length:=y6 f;have r:=fun g=>q.TA g;rw[C]at r;have ad:∀c,c<f.length->aao pG 47 v (.int .i64 (c:Int))=Z (pT (Z (aaq v c))):=fun c s=>q.DH c NH;have ld:∀g,Le h g->∀c,c<f.length->aaC pG g 3 (aaq v c)=Z (.int .i64 ((f.getD c 0:Nat):Int)):=fun g E c s=>by rw[(q.le Nn.RP E).Uc c NH,sY s,D4 s]
 have⟨F,G,l1,w1,H⟩:=Tt e [((f.getD i 0:Nat):Int)];simp only[HO,seval,ad i hi,ld h (Le.refl _) i hi,DQ,G]
 have nB:h.own h.next=Y:=(Le.refl h).next e (qL0 _)
 have D:(j+f.length-i)%f.length<f.length:=Q4 _ NH;let L:Nat->II:=fun t=>(rG (t+1)).map fun t=>f.getD ((i+t)%f.length) 0;have I:L 0=[f.getD i 0]:=by grind[Nat.mod_eq_of_lt]
 have J:GI F (sL (Z h.next) 1 1) (kz (L 0)):=by rw[I];exact GS.full H rfl (show 1<1000000000000 by decide)
 refine aab.intro (fun k fr l=>∃(t:Nat)(o:vV),k=(j+f.length-i)%f.length-t/\t<=(j+f.length-i)%f.length/\fr=mkF [(0,v),(1,.int .i64 (((i+t)%f.length:Nat):Int)),(2,j),(7,o)]/\GI l o (kz (L t))/\Le h l/\Z2 h o)
  ((j+f.length-i)%f.length) [(0,v),(1,i),(2,j),(7,sL (Z h.next) 1 1)] hAs
  ⟨0,_,rfl,Z6 _,by rw[DF,im hi],J,l1,fun b hb=>by grind[blk]⟩ ?_
 rintro k fr l u ⟨t,o,rfl,K,rfl,g,leq,ap⟩;have st:=ke hi B K;have P:(i+t)%f.length<f.length:=Q4 _ NH;by_cases c:(i+t)%f.length=j
 .have d:decide ((((i+t)%f.length:Nat):Int)=(j:Int))=tT:=EL NH;refine Sk (XC @bne.eq_1.{0} d) ?_
  grind[Qk]
 .have d:decide ((((i+t)%f.length:Nat):Int)=(j:Int))=fF:=Sb NH;have m:t<(j+f.length-i)%f.length:=hGr;have aw:=aaa ((i+t)%f.length) NH;have Q:((i+t)%f.length+1)%f.length=(i+(t+1))%f.length:=by rw[qL222];rfl
  have M:(i+(t+1))%f.length<f.length:=Q4 _ NH;obtain⟨a,R,N,e4,y,S,T,l4,hf,-⟩:=g.push u ((f.getD ((i+(t+1))%f.length) 0:Nat):Int) (by grind[y6]);have⟨l5,z⟩:=hf h leq ap;have fin:GI N a (kz (L (t+1))):=by
   have:L (t+1)=L t++[f.getD ((i+(t+1))%f.length) 0]:=by grind[range_succ]
   grind[kz]
  by_cases U:(i+t)%f.length+1=f.length
  .have n:(i+(t+1))%f.length=0:=by grind[Nat.mod_self]
   have w:decide ((((i+t)%f.length+1:Nat):Int)=(f.length:Int))=tT:=EL NH;have p:=ad 0 NH;have l0:=ld l leq 0 NH;rw[n]at e4;simp only[Gg]at p;simp only[HO,seval,bne,d,aw,r,w,p,l0,e4,y];exact tn ((j+f.length-i)%f.length-(t+1)) [(0,v),(1,(0:Int)),(2,j),(7,a)] NH hAs ⟨t+1,a,rfl,m,by rw[n];rfl,fin,l5,z⟩
  .have n:(i+(t+1))%f.length=(i+t)%f.length+1:=by grind[Nat.mod_eq_of_lt]
   have w:decide ((((i+t)%f.length+1:Nat):Int)=(f.length:Int))=fF:=Sb NH;have p:=ad ((i+t)%f.length+1) NH;have l0:=ld l leq ((i+t)%f.length+1) NH;rw[n]at e4;simp only[HO,seval,bne,d,aw,r,w,p,l0,e4,y];exact tn ((j+f.length-i)%f.length-(t+1)) [(0,v),(1,.int .i64 (((i+t)%f.length+1:Nat):Int)),(2,j),(7,a)] NH hAs ⟨t+1,a,rfl,m,by rw[n];rfl,fin,l5,z⟩
variable {fv u v:Value} {h r:aai} {i:Nat} {us:List Value} {x:RZ} {xs:AM}
structure afg (r h:aai) (v:vV) (us:xLV) (xs:AM):Prop where
 g:GS 1 h v us.length us
 lr:Le r h
 ap:Z2 r v
 ln:us.length=xs.length
 rd:∀(i:Nat)(x:RZ)(u:vV),xs[i]?=Z x->us[i]?=Z u->RL RP r u x
theorem afg.one{r h:aai}{v:vV}{us:xLV}{xs:AM}(o:afg r h v us xs):us.all (·.oneCell')=tT:=by rw[fj];intro u a;have⟨i,hi⟩:=vZ.1 a;have b:=(Ny.1 hi).1;exact(o.rd i _ u (qL7 (by grind[afg.ln])) hi).one
theorem afg.rl(o:afg r h v us xs):RL (RL RP) h v xs:=by
 refine⟨us,⟨?_,fun i x a=>?_⟩,o.ln,fun i x u b h2=>(o.rd i x u b h2).le Nn.RP o.lr⟩
 .exact o.g.cs.sl
 .have:=o.g.cs.get i x a;grind
theorem afg.copy(c:WF h)(g:RL (RL RP) h fv xs)(q:xs.length<=100000):
  ∃a d h2 us,aas pG h 45 0 []=Z (sL (Z h.next) 0 0,a)/\aaR pG a 45 45 (sL (Z h.next) 0 0) fv=Z (d,h2)/\afg h h2 d us xs/\WF h2:=by
 have⟨a,j,l1,w1,l⟩:=Tt c []
 have r:h.own h.next=Y:=(Le.refl h).next c (qL0 _)
 have bl:aas pG h 45 0 []=Z (sL (Z h.next) 0 0,h.alloc (.cells [])):=Ji
 have⟨us,rs,ln,rd⟩:=g
 have m:GS 1 a (sL (Z h.next) 0 0) 0 []:=GS.full l rfl WY
 have n:CS 1 a fv us.length us:=rs.cs.le l1;have one:us.all (·.oneCell')=tT:=by rw[fj];intro u o;have⟨i,hi⟩:=vZ.1 o;have s:=(Ny.1 hi).1;exact(rd i _ u (qL7 hGr) hi).one
 have⟨d,h2,f,v,hf⟩:=GS.append (P:=pG) (t:=45) (xt:=45) (k:=1) Ji m (fun e p=>CS.src p n) rfl one Ma NH;have⟨l2,a2⟩:=hf h w1 l1 fun b hb=>by grind[blk]
 refine⟨a,d,h2,us,by rw[bl,j],f,⟨?_,l2,a2,ln,rd⟩,xr w1 f⟩;grind
theorem afg.push(o:afg r h v us xs)(f:WF h)(j:RL RP r u x)(A:xs.length<=100000):
  ∃b v' d,aas pG h 45 1 [(0,u)]=Z (sL (Z h.next) 1 1,b)/\aaR pG b 45 45 v (sL (Z h.next) 1 1)=Z (v',d)/\afg r d v' (us++[u]) (xs++[x])/\WF d:=by
 have⟨b,e4,l4,l,p⟩:=Tt f [u];have u1:=j.one
 have bl:aas pG h 45 1 [(0,u)]=Z (sL (Z h.next) 1 1,h.alloc (.cells [u])):=by obtain⟨a,c,rfl,-⟩:=j.sl;rfl
 have q:CS 1 b (sL (Z h.next) 1 1) 1 [u]:=CS.own (k:=1) (off:=0) (n:=1) (cap:=1) p Ma
 have⟨v',d,m,B,hf⟩:=GS.append (P:=pG) (t:=45) (xt:=45) (k:=1) Ji (o.g.le l4) (fun e s=>CS.src s q) o.one (by simp[u1]) Ma (by have:=o.ln;omega);have⟨l5,z⟩:=hf r l (o.lr.trans l4) o.ap;refine⟨b,v',d,by rw[bl,e4],m,⟨?_,l5,z,by simp[o.ln],fun i y w C h2=>?_⟩,xr l m⟩
 all_goals grind[afg.ln,afg.rd]
theorem afg.store(o:afg r h v us xs)(d:WF h)(e:RL RP r u x)(hi:i<xs.length):
  ∃h',aao pG 45 v i=Z (pT (Z (aaq v i)))/\aaK pG h 47 (pT (Z (aaq v i))) u=Z h'/\afg r h' v (us.set i u) (xs.set i x)/\WF h':=by
 have ad:=o.rl.NS i hi;obtain⟨q,⟨rfl,s⟩|⟨id,c,cap,rfl,f,z,A⟩⟩:=o.g
 .grind[afg.ln]
 have k:i<us.length:=by grind[afg.ln]
 have l:us.length<=c.length:=hGr;have m:u.cells=#[u]:=by obtain⟨a,n,rfl,-⟩:=e.sl;rfl
 have st:=QB (P:=pG) (t:=47) (x:=u) Mb Ji f (off:=i) NH m e.one;have ea:aaq (sL (Z id) us.length cap) i=⟨id,i,Y⟩:=by grind[fA,Ip]
 have p:r.own id=Y:=o.ap id rfl;refine⟨_,ad,by rw[ea];exact st,⟨⟨Ma,.inr ⟨id,_,cap,Ma,aai.Y3 _ _ _,?_,hGr⟩⟩,o.lr.put _ p,fun b hb=>?_,by simp[o.ln],fun j y w B h2=>?_⟩,d.put _ (d.lt f)⟩
 .grind[take_set]
 .exact o.ap b hb
 grind[afg.rd]
theorem agD{l m:II}(a:l.Nodup)(h2:m.Nodup)(h:∀x,x∈l↔x∈m):l.Perm m:=hGr
theorem alF{π:Nat->Nat}{l:II}(nd:l.Nodup)(hi:∀a∈l,∀b∈l,π a=π b->a=b):(l.map π).Nodup:=by grind[List.Pairwise.imp_of_mem]
def agX(rows:AM)(v:Nat):II:=(rows.getD v []).map (·.toNat)
section
variable{n:Nat}{es fs:List Pr}{π:Nat->Nat}
theorem acu(hR:InR n es){v w:Nat}:w∈agX (Zh n es) v↔Jp es v w:=by
 unfold agX;rw[aev];constructor
 .grind[Ru,EW]
 .intro h;exact⟨(w:Int),(EW hR v w).2 h,Ma⟩
theorem agE(hR:InR n es)(hA:D3 es)(v:Nat):(agX (Zh n es) v).Nodup:=by grind[agX,KW,List.Pairwise.imp_of_mem,Ru]
def agb(rows:AM)(v:Nat):(agX rows v).length=(rows.getD v []).length:=by simp[agX]
variable(I:H9 n es fs π)(hA:D3 es)(hB:D3 fs)
include I hA hB
theorem alg{v:Nat}(b:v<n):(agX (Zh n fs) (π v)).Perm ((agX (Zh n es) v).map π):=by
 have lt:∀{w},w∈agX (Zh n es) v->w<n:=fun h=>(((acu I.r1).1 h).lt I.r1).2;refine agD (agE I.r2 hB _) (by grind[alF,agE,H9.r1,H9.inj]) fun x=>?_;rw[acu I.r2,aev];constructor
 .intro h;obtain⟨a,ha,rfl⟩:=I.surj x (h.lt I.r2).2;grind[acu,H9.r1,H9.Jp]
 grind[H9.Jp,acu,H9.r1]
theorem agJ{v:Nat}(a:v<n):((Zh n fs).getD (π v) []).length=((Zh n es).getD v []).length:=by rw[<-agb,<-agb,(alg I hA hB a).length_eq,wI]
theorem alh:(aad (Zh n fs)).Perm ((aad (Zh n es)).map π):=by
 have nd:∀es:xLP,(aad (Zh n es)).Nodup:=fun es=>uV.filter _;have cb:∀v,v<n->aaA (Zh n fs) (π v)=aaA (Zh n es) v:=by grind[aaA.eq_1,agJ]
 have m1:=fun(es:xLP)(v:Nat)=>show v∈aad (Zh n es)↔v<n/\aaA (Zh n es) v=tT by grind[aad.eq_1,Xq]
 refine agD (nd _) (alF (nd _) fun a ha b hb=>I.inj a b ((m1 _ _).1 ha).1 ((m1 _ _).1 hb).1) fun x=>?_;grind[H9.surj,H9.lt]
theorem goS_iso{d:Nat×Nat}(v:Jp es d.1 d.2)(h2:((Zh n es).getD d.2 []).length=2):goS (Zh n fs) (π d.1,π d.2)=(π (goS (Zh n es) d).1,π (goS (Zh n es) d).2):=by
 have l1:=v.lt I.r1;have c:((Zh n fs).getD (π d.2) []).length=2:=by grind[agJ]
 have⟨a,b,e,ne,k1,k2,f⟩:=abg I.r1 hA h2;have⟨a',l,e',ne',g,h,i⟩:=abg I.r2 hB c;have j:=(k1.lt I.r1).2;have k:=(k2.lt I.r1).2;have ia:=(I.Jp d.2 a l1.2 j).2 k1;have ib:=(I.Jp d.2 b l1.2 k).2 k2;have inj:=I.inj;have hd:=f d.1 v.symm;unfold goS;rw[e,e'];simp only[qL196,getD_cons_succ];rcases hd with hd|hd
 .rw[abe (show((a:Int)=(d.1:Int)) by omega)];split<;>simp<;>grind
 .rw[abE (show¬((a:Int)=(d.1:Int)) by omega)];split<;>simp<;>grind
theorem apf(b:n<=200){c v:Nat}(a:Jp es c v)(e:((Zh n es).getD c []).length≠2):aal (Zh n fs) (π c,π v)=(π (aal (Zh n es) (c,v)).1,(aal (Zh n es) (c,v)).2):=by
 have⟨K,h,h2,h3,j⟩:=ahL I.r1 hA b a e;have ha:=aa7 I.r1 hA (d:=(c,v)) a;have st:∀i,i<=K->it (goS (Zh n fs)) i (π c,π v)=(π (it (goS (Zh n es)) i (c,v)).1,π (it (goS (Zh n es)) i (c,v)).2):=by
  intro i
  induction i with
  |zero=>intro _;rfl
  |succ i f=>intro hi;show goS (Zh n fs) (it (goS (Zh n fs)) i (π c,π v))=_;rw[f NH];exact goS_iso I hA hB (ha i fun q k=>h2 q NH) (h2 i NH)
 have g:∀i,i<=K->(it (goS (Zh n es)) i (c,v)).2<n:=fun i hi=>((ha i hGr).lt I.r1).2;grind[aal.eq_1,alE,agJ]
omit I hA hB in
theorem afR(rows:AM)(cs:II):aaj rows cs=cs.flatMap fun c=>(agX rows c).map fun w=>(c,w):=by simp[aaj,agX,Function.comp_def]
omit I hA hB in
theorem akc{α β:Type}{f g:α->List β}{l:List α}(h:∀a∈l,(f a).Perm (g a)):(l.flatMap f).Perm (l.flatMap g):=by
 induction l<;>grind[List.Perm.refl]
def ali{cs a:II}(e:∀c∈cs,c<n)(f:a.Perm (cs.map π)):(aaj (Zh n fs) a).Perm ((aaj (Zh n es) cs).map fun d=>(π d.1,π d.2)):=by rw[afR,afR];refine(f.flatMap_right _).trans ?_;rw[flatMap_map,map_flatMap];refine akc fun c b=>?_;have:=(alg I hA hB (e c b)).map fun w=>(π c,w);rw[KG]at this;rw[KG];exact this
end
theorem ahO{α:Type}[BEq α][LawfulBEq α]{ks:List α}(nd:ks.Nodup):∀L:List α,(ks.map fun k=>L.count k).sum<=L.length
 |[]=>by
  have:∀l:List α,(l.map fun k=>([]:List α).count k).sum=0:=fun l=>by
   induction l<;>grind
  grind
 |x::L=>by
  have a:=ahO nd L;have one:∀l:List α,l.Nodup->(l.map fun k=>(x::L).count k).sum<=(l.map fun k=>L.count k).sum+1/\(x∉l->(l.map fun k=>(x::L).count k).sum=(l.map fun k=>L.count k).sum):=fun l=>by
   induction l<;>grind
  grind
theorem ahP(rows:AM)(d:Nat×Nat):aaH rows d=GW d.1 (aal rows d).1:=rfl
theorem afc{a b c d:Nat}:GW a b=GW c d↔(a=c/\b=d)\/(a=d/\b=c):=by grind[ac0]
def Thr(W:Pr->Nat)(cs A B:II):Prop:=(A++B).Perm cs/\A.length=3/\B.length=3/\∀a∈A,∀b∈B,W (GW a b)=2
theorem Thr.swap{W:Pr->Nat}{cs A B:II}(T:Thr W cs A B):Thr W cs B A:=⟨qL185.trans T.1,T.2.2.1,T.2.1,fun b hb a ha=>by rw[so];exact T.2.2.2 a ha b hb⟩
theorem Thr.zero{L:xLP}{cs A B:II}(nd:cs.Nodup)(T:Thr (fun p=>L.count p) cs A B)(h:L.length<=18){p:Pr}(i:∀a∈A,∀b∈B,p≠GW a b):L.count p=0:=by
 have⟨d,h2,h3,j⟩:=T;have c:=(d.nodup_iff).2 nd;rw[j9]at c;have⟨nA,nB,m⟩:=c;have e:(A.flatMap fun a=>B.map fun b=>GW a b).Nodup:=by
  rw[iy,als];refine⟨fun a ha=>?_,?_⟩
  .grind[ahq]
  grind[List.Pairwise.imp_of_mem,afc]
 have f:(p::A.flatMap fun a=>B.map fun b=>GW a b).Nodup:=hGr;have:=ahO f L;rw[QD,alw]at this;have n:((A.flatMap fun a=>B.map fun b=>GW a b).map fun k=>L.count k).sum=18:=by
  have o:∀a∈A,((B.map fun b=>GW a b).map fun k=>L.count k).sum=6:=fun a ha=>by
   rw[KG];have:∀l:II,(∀b∈l,b∈B)->(l.map ((fun k=>L.count k)∘fun b=>GW a b)).sum=2*l.length:=by
    intro l
    induction l with
    |nil=>intro _;rfl
    |cons b l g=>grind
   grind
  have q:∀l:II,(∀a∈l,a∈A)->((l.flatMap fun a=>B.map fun b=>GW a b).map fun k=>L.count k).sum=6*l.length:=by
   intro l
   induction l with
   |nil=>intro _;rfl
   |cons a l g=>grind
  grind
 omega
theorem aht{L:xLP}{cs:II}(nd:cs.Nodup)(u:cs.length=6)(ha:cs.Pairwise (·<·))(n:L.length<=18):aa1 (fun p=>L.count p) cs=tT↔∃A B,Thr (fun p=>L.count p) cs A B:=by
 have hf:cs.headD 0∈cs:=by
  cases cs<;>grind
 have hle:∀c∈cs,cs.headD 0<=c:=fun c i=>by
  cases cs<;>grind[pairwise_cons]
 have o:aa1 (fun p=>L.count p) cs=((cs.filter fun(c:Nat)=>L.count (((cs.headD 0:Nat):Int),(c:Int))==0).length==3&&!(cs.filter fun(c:Nat)=>L.count (((cs.headD 0:Nat):Int),(c:Int))!=0).contains (cs.headD 0)&&abh (fun p=>L.count p) (cs.filter fun(c:Nat)=>L.count (((cs.headD 0:Nat):Int),(c:Int))==0) (cs.filter fun(c:Nat)=>L.count (((cs.headD 0:Nat):Int),(c:Int))!=0)):=rfl;rw[o];generalize cs.headD 0=f at*;have pf:∀c∈cs,(((f:Nat):Int),((c:Nat):Int))=GW f c:=by grind[ac0]
 have r:cs.filter (fun(c:Nat)=>L.count ((f:Int),(c:Int))==0)=cs.filter fun c=>decide (L.count (GW f c)=0):=Uz hGr;have s:cs.filter (fun(c:Nat)=>L.count ((f:Int),(c:Int))!=0)=cs.filter fun c=>!decide (L.count (GW f c)=0):=Uz fun c i=>by grind
 rw[r,s];have d:(cs.filter (fun c=>decide (L.count (GW f c)=0))++cs.filter fun c=>!decide (L.count (GW f c)=0)).Perm cs:=qL173 _ _;constructor
 .intro h;rw[rY,rY]at h;have⟨⟨v,h2⟩,h3⟩:=h;have l3:(cs.filter fun c=>decide (L.count (GW f c)=0)).length=3:=hGr;have ls:=d.length_eq;rw[Eh]at ls;refine⟨_,_,d,l3,NH,fun a j b k=>?_⟩;have:=fj.1 (fj.1 h3 a j) b k;rw[Dj]at this;rcases this with q|q
  .grind
  .exact ag1 q
 .rintro⟨A,B,T⟩;have go:∀A B,Thr (fun p=>L.count p) cs A B->f∈A->((cs.filter fun c=>decide (L.count (GW f c)=0)).length==3&&!(cs.filter fun c=>!decide (L.count (GW f c)=0)).contains f&&abh (fun p=>L.count p) (cs.filter fun c=>decide (L.count (GW f c)=0)) (cs.filter fun c=>!decide (L.count (GW f c)=0)))=tT:=fun A B T l=>by
   have g:=(T.1.nodup_iff).2 nd;rw[j9]at g;have⟨nA,nB,w⟩:=g;have mem:∀c,c∈cs↔c∈A\/c∈B:=fun c=>by rw[<-T.1.mem_iff,aax]
   have x:∀c∈A,L.count (GW f c)=0:=fun c i=>T.zero nd n fun a ha b hb e=>by grind[afc]
   have t:∀c∈B,L.count (GW f c)≠0:=fun c i e=>by have:L.count (GW f c)=2:=T.2.2.2 f l c i;omega
   have m:(cs.filter fun c=>decide (L.count (GW f c)=0)).Perm A:=agD (nd.filter _) nA fun c=>by rw[K4,mem,vg];exact⟨hGr,hGr⟩
   have pB:(cs.filter fun c=>!decide (L.count (GW f c)=0)).Perm B:=agD (nd.filter _) nB fun c=>by rw[K4,mem,Bool.not_eq_true',ah9];exact⟨hGr,hGr⟩
   rw[rY,rY];refine⟨⟨by rw[m.length_eq,T.2.1];rfl,?_⟩,?_⟩
   .grind
   .refine fj.2 fun a ha=>fj.2 fun b hb=>?_;rw[Dj];right;have:L.count (GW a b)=2:=T.2.2.2 a (m.mem_iff.1 ha) b (pB.mem_iff.1 hb);exact EL this
  rcases(T.1.mem_iff.2 hf |> aax.1)with q|q
  .grind
  grind[Thr.swap]
section
variable{es fs:List Pr}{π:Nat->Nat}(I:H9 200 es fs π)(hA:D3 es)(hB:D3 fs)
include I hA hB
omit hA hB in
theorem alj{cs:II}(a:∀c∈cs,c<200/\((Zh 200 es).getD c []).length≠2){d:Nat×Nat}(hd:d∈aaj (Zh 200 es) cs):Jp es d.1 d.2/\((Zh 200 es).getD d.1 []).length≠2/\d.1∈cs:=by grind[afR,acu,H9.r1]
omit hB in
theorem oth_lt{d:Nat×Nat}(h:Jp es d.1 d.2)(a:((Zh 200 es).getD d.1 []).length≠2):(aal (Zh 200 es) d).1<200:=by have⟨K,e,h2,h3,b⟩:=ahL I.r1 hA (qL0 _) (c:=d.1) (v:=d.2) h a;have:=aa7 I.r1 hA (d:=(d.1,d.2)) h K h2;rw[show d=(d.1,d.2)from rfl,b];exact(this.lt I.r1).2
theorem strN_iso{cs a:II}(b:∀c∈cs,c<200/\((Zh 200 es).getD c []).length≠2)(e:a.Perm (cs.map π)):aaU (Zh 200 fs) a=aaU (Zh 200 es) cs:=by have h:=((ali I hA hB (fun c h=>(b c h).1) e).map fun d=>(aal (Zh 200 fs) d).2+1).sum_nat;unfold aaU;rw[h,KG];refine congrArg List.sum (Qn fun d hd=>?_);grind[alj,apf]
theorem alk{cs f:II}(g:∀c∈cs,c<200/\((Zh 200 es).getD c []).length≠2)(j:f.Perm (cs.map π)){a b:Nat}(ha:a<200)(hb:b<200):aaI (Zh 200 fs) f (GW (π a) (π b))=aaI (Zh 200 es) cs (GW a b):=by have h:=((ali I hA hB (fun c h=>(g c h).1) j).map (aaH (Zh 200 fs))).count_eq (GW (π a) (π b));unfold aaI;rw[h,KG,List.count,qL224,List.count,qL224];refine countP_congr fun d hd=>?_;have⟨i,h2,h3⟩:=alj I g hd;have e:=apf I hA hB (qL0 _) (c:=d.1) (v:=d.2) i h2;have l1:=(g d.1 h3).1;have l2:=oth_lt I hA i h2;have inj:∀{x y},x<200->y<200->(π x=π y↔x=y):=fun k l=>⟨I.inj _ _ k l,fun q=>by rw[q]⟩;grind[ahP,afc]
theorem each_iso{cs d:II}(e:∀c∈cs,c<200/\((Zh 200 es).getD c []).length≠2)(f:d.Perm (cs.map π)):abh (aaI (Zh 200 fs) d) d d=abh (aaI (Zh 200 es) cs) cs cs:=by
 rw[TV];unfold abh;simp only[fj,Dj,beq_iff_eq];have W:=fun{a b}=>alk I hA hB e f (a:=a) (b:=b);constructor
 .intro h a ha b hb;have:=h (π a) hGr (π b) hGr;have w:=W (e a ha).1 (e b hb).1;rcases this with q|q
  .exact .inl (I.inj _ _ (e a ha).1 (e b hb).1 q)
  grind[GW]
 .intro h a' mi g sZ;obtain⟨a,ha,rfl⟩:=aev.1 (f.mem_iff.1 mi);obtain⟨b,hb,rfl⟩:=aev.1 (f.mem_iff.1 sZ);grind[GW]
end
def ajr(rows:AM):(aad rows).Pairwise (·<·):=Ki.filter _
theorem agY{es:xLP}{c:Nat}(h:c∈aad (Zh 200 es)):c<200/\((Zh 200 es).getD c []).length≠2:=by grind[aad.eq_1,Xq,aaA.eq_1]
theorem H9.flip{n:Nat}{es fs:xLP}{π:Nat->Nat}(I:H9 n es fs π):∃σ,H9 n fs es σ:=by grind[H9.inv]
theorem apg{es fs:xLP}{π:Nat->Nat}(I:H9 200 es fs π)(hA:D3 es)(hB:D3 fs){cs d:II}(e:∀c∈cs,c<200/\((Zh 200 es).getD c []).length≠2)(f:d.Perm (cs.map π)){A B:II}(T:Thr (aaI (Zh 200 es) cs) cs A B):Thr (aaI (Zh 200 fs) d) d (A.map π) (B.map π):=by
 have⟨g,h2,h3,h⟩:=T;refine⟨?_,hGr,hGr,fun a' mi i sZ=>?_⟩
 .grind
 .obtain⟨a,ha,rfl⟩:=aev.1 mi;obtain⟨b,hb,rfl⟩:=aev.1 sZ;grind[alk]
theorem akQ{es fs:xLP}{π:Nat->Nat}(I:H9 200 es fs π)(hA:D3 es)(hB:D3 fs)(n:fs.length=es.length):aaN fs=aaN es:=by
 have f:=alh I hA hB;have m:(Zh 200 fs).any aaW=(Zh 200 es).any aaW:=by
  have half:∀{es fs:xLP}{π:Nat->Nat},H9 200 es fs π->D3 es->D3 fs->(Zh 200 es).any aaW=tT->(Zh 200 fs).any aaW=tT:=fun{es fs π} I hA hB h=>by
   have⟨r,o,hb⟩:=agN.1 h;obtain⟨i,hi,rfl⟩:=Yi.1 o;have j:i<200:=by grind[Xq]
   have t:π i<(Zh 200 fs).length:=by grind[Xq,H9.lt]
   have e:=agJ I hA hB j;grind[getElem_mem,aaW]
  have⟨σ,J⟩:=I.flip;grind
 have hlen:(aad (Zh 200 fs)).length=(aad (Zh 200 es)).length:=by rw[f.length_eq,wI]
 have k:∀c∈aad (Zh 200 es),_:=fun c h=>agY h;have u:∀E,(E=4\/E=3/\(aad (Zh 200 es)).length=6)->aa8 (Zh 200 fs) (aad (Zh 200 fs)) fs.length E=aa8 (Zh 200 es) (aad (Zh 200 es)) es.length E:=fun E p=>by
  have b:(aad (Zh 200 fs)).any (fun c=>((Zh 200 fs).getD c []).length !=E)=(aad (Zh 200 es)).any fun c=>((Zh 200 es).getD c []).length !=E:=by grind[agJ]
  unfold aa8;rw[b,strN_iso I hA hB k f,n,each_iso I hA hB k f];by_cases ca:(aad (Zh 200 es)).any (fun c=>((Zh 200 es).getD c []).length !=E)=tT
  .grind
  rcases p with rfl|⟨rfl,g⟩
  .rfl
  have d:∀c∈aad (Zh 200 es),((Zh 200 es).getD c []).length=3:=hGr;have a:∀c∈aad (Zh 200 fs),((Zh 200 fs).getD c []).length=3:=hGr;have q:=aht (L:=(aaj (Zh 200 es) (aad (Zh 200 es))).map (aaH (Zh 200 es))) (cs:=aad (Zh 200 es)) (uV.filter _) g (ajr _) (by rw[wI,abp d,g];decide);have s:=aht (L:=(aaj (Zh 200 fs) (aad (Zh 200 fs))).map (aaH (Zh 200 fs))) (cs:=aad (Zh 200 fs)) (uV.filter _) (hlen.trans g) (ajr _) (by rw[wI,abp a,hlen,g];decide);have l:aa1 (aaI (Zh 200 fs) (aad (Zh 200 fs))) (aad (Zh 200 fs))=aa1 (aaI (Zh 200 es) (aad (Zh 200 es))) (aad (Zh 200 es)):=by
   rw[TV];refine s.trans (Iff.trans ?_ q.symm);constructor
   .rintro⟨A,B,T⟩;have⟨σ,J⟩:=I.flip;exact⟨_,_,apg J hB hA (fun c h=>agY h) (alh J hB hA) T⟩
   .rintro⟨A,B,T⟩;exact⟨_,_,apg I hA hB k f T⟩
  rw[l]
 grind[agP]
end
end Go.Fw
