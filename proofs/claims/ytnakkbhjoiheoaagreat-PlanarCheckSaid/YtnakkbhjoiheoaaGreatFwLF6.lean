/- A text. -/
import Derived.Test.YtnakkbhjoiheoaaGreatFwLF3
set_option linter.all false
set_option maxRecDepth 99999
set_option maxHeartbeats 9999999
open Go.Proofs
open Option renaming some→Z,none→Y
open Bool renaming true→tT,false→fF
open List renaming replicate→rP,range→rG
open Go.Value renaming slice→sL,pointer→pT
open Go renaming Value→vV
open Go.Proofs.Tryz renaming prog→pG
open Go.Proofs.Tryz
namespace Go.Fw
section
attribute [local irreducible] Kp MQ lU KO1 KO KN KX KE VK Kl ZJ TC aab
attribute [local irreducible] abT ahy IN adR afd aih
variable {M a c id j n:Nat} {P:List H8} {es:List Pr} {h:aai} {r:Nat->II} {rs:AM}
def tm_nat(a b:Nat):((a:Int)).tmod (b:Int)=((a%b:Nat):Int):=rfl
theorem Av.row(a:aV n es)(G:Av n es rs)(v:Nat)(b:j<(rs.getD v []).length):∃h:j<(Xl rs v).length,(rs.getD v [])[j]=(((Xl rs v)[j]:Nat):Int):=by grind[Av.back]
theorem rowD_len(a:aV n es)(ha:D3 es)(G:Av n es rs)(v:Nat):(aih n (Xl rs) v).length=((Zh n es).getD v []).length:=by grind[ajW,aih]
theorem rowD_get(b:aV n es)(ha:D3 es)(G:Av n es rs)(v:Nat)(c:j<((Zh n es).getD v []).length)(a:j<(aih n (Xl rs) v).length):
  ∃w:Nat,((Zh n es).getD v [])[j]=(w:Int)/\(aih n (Xl rs) v)[j]=(v,w)/\w∈Xl rs v:=by grind[ajW,aih]
def SA{l:List (Pr×Int)}(a:h.own M=Z (.map (wy l)))(k:Pr):adH pG h 74 (.map (Z M)) (UI k) fF=Z (.int .i64 ((abo l k).getD 0)):=Il a k fF
theorem apart_new(a:h.own id=Y):Z2 h (sL (Z id) n c):=fun b hb=>by injection hb with hb;grind
theorem aii(n:Nat)(r:Nat->II):∀k,(afd n r k).length<=k*n
 |0=>by grind[afd]
 |k+1=>by have a:=aii n r k;grind[aih,ahC]
theorem ajX(a:n<=200){P Q:List H8}(h:ddl n r=P++Q):(adR r P).length+1<=40001:=by have b:=aii n r n;rw[ahX,h,aaf]at b;have h2:n*n<=200*200:=adN a a;grind[adR]
theorem aji{d e:H8}:ai3 r (P++[d]) e↔ai3 r P e\/WD (Nv r) d e:=by grind[ai3]
theorem range_it(f:H8->H8)(d:H8)(k:Nat):((rG (k+1)).map fun i=>(((it f i d).1:Nat):Int))=((rG k).map fun i=>(((it f i d).1:Nat):Int))++[(((it f k d).1:Nat):Int)]:=by grind[List.range_succ]
def face_list(r:Nat->II)(d:H8):((rG (bt (Nv r) d)).map fun i=>(((it (Nv r) i d).1:Nat):Int))=kz (zu r d):=by rw[kz,zu,AA,FD,FD];rfl
def lt_next{k o:Nat}(h:k<=o)(a:k≠o):k<o:=NH
def aw_len(h:a+1<=40001):aaY .i64 ((a:Int)+1)=((a+1:Nat):Int):=aaa a NH
def dec_succ(a:Nat):(((a+1:Nat):Int))≠0:=NH
def le_big(h:a+1<=40001):a<=100000000:=NH
open Classical in
theorem Faces_any(W0:LA)(rv:vV)(rs:AM)(h:aai)(hv:RL (RL RP) h rv rs):
  AC pG W0 29 [rv] h fun x h'=>Le h h'/\((x=.tuple #[.slice Y 0 0,.int .i64 70]/\¬∃es,bX ⟨(rs.length:Int),es⟩/\Av rs.length es rs)\/
   ∃es r,bX ⟨(rs.length:Int),es⟩/\Av rs.length es rs/\x=.tuple #[r,.int .i64 0]/\RL (RL RP) h' r (IN rs.length rs)):=by
 refine AC.vE ⟨func29,rfl,WY⟩ ntmps29 results29 fun ei=>?_;simp only[Br,seval];refine sSs ?_;refine kCi func51 (told_any W0 rv rs h hv) ?_;rintro x h1 w1 ⟨l1,⟨rfl,ek⟩|⟨es,ev,hr,G,rfl,a7,-⟩⟩
 .obtain⟨cC,h2,e2,ay,l2,w2⟩:=newE4 w1;refine sFa (XC e2 ay) ?_;grind[Le.trans]
 obtain⟨cC,h2,e2,ay,l2,w2,L2⟩:=newG w1 (n:=(rs.length:Int)) a7.pr
 generalize h1.next=P4 at*
 have hR:=hr.GD;have hA:=hr.q9;have IR:=G.jD hR hA;have p:=aaG IR;have ef:(rs.length:Int)<=200:=hr.n1;have eg:es.length<=594:=hr.len;have az:=l1.trans l2
 obtain⟨h3,e3,l3,w3,o3⟩:∃h3,h2.alloc (.map [])=h3/\Le h2 h3/\WF h3/\h3.own h2.next=Z (.map []):=⟨_,rfl,(Le.refl h2).alloc w2 _,w2.alloc _,aai.zT _ _⟩
 have cJ:h2.own h2.next=Y:=(Le.refl h2).next w2 (qL0 _)
 have lr:=fun g=>hv.qP6 g;have F:∀v,v<rs.length->(rs.getD v []).length<rs.length:=fun v hv=>aiS hR hA G hv;simp only[HO,seval,e2,ay,e3,lr]
 generalize h2.next=U at*
 refine lIn (fun k fr N=>∃(i:Nat)(l:List (Pr×Pr)),k=rs.length-i/\i<=rs.length/\fr=mkF [(4,pT (Z P4)),(6,.map (Z U)),(28,rv),(29,.int .i64 rs.length),(30,i)]/\
   N.own U=Z (.map (ahb l))/\Le h2 N/\∀d:H8,d.1∈Xl rs d.2->d.2<i->aeB l (abA d)=Z (abA (Nv (Xl rs) d))) ⟨0,[],rfl,abe _,rfl,o3,l3,fun d _ h=>by omega⟩ ?_
 clear o3 w3 l3 e3;clear h3;rintro k fr N bb ⟨i,l,rfl,hi,rfl,oB,lq,hl⟩;refine sSs ?_;refine Kl.intro (fun O=>?_) (fun hf=>?_)
 .have A:i<rs.length:=CC O;clear O;have ar:=hv.qP7 i A;obtain⟨ru,bg,aC⟩:=hv.NS i A;have bh:=bg N (az.trans lq);rw[<-D4 (d:=[]) A]at aC;have en:=F i A;have ai:=fun j (hj:j<(rs.getD i []).length)=>G.row hR i hj;have hlen:(Xl rs i).length=(rs.getD i []).length:=by grind[Xl.eq_1]
  generalize rs.getD i []=row at*;have al:=fun g=>aC.DH g;refine sFa (adG ar bh al) ?_;refine lIn (fun k fr u=>∃(j:Nat)(l:List (Pr×Pr)),k=row.length-j/\j<=row.length/\fr=mkF [(4,pT (Z P4)),(6,.map (Z U)),(7,i),(8,ru),(28,rv),(29,.int .i64 rs.length),(30,i),(35,ru),(36,row.length),(37,.int .i64 j)]/\
    u.own U=Z (.map (ahb l))/\Le h2 u/\(∀d:H8,d.1∈Xl rs d.2->d.2<i->aeB l (abA d)=Z (abA (Nv (Xl rs) d)))/\∀(m:Nat)(V:m<(Xl rs i).length),m<j->aeB l (abA ((Xl rs i)[m],i))=Z (abA (Nv (Xl rs) ((Xl rs i)[m],i)))) ⟨0,l,rfl,abe _,rfl,oB,lq,hl,fun m _ h=>by omega⟩ ?_
  clear oB hl bh;rintro k fr u W ⟨j,l,rfl,hj,rfl,oB,lz,hl,eo⟩;refine sSs ?_;refine Kl.intro (fun O=>?_) (fun hf=>?_)
  .have f:j<row.length:=CC O;clear O;have HZ:=aC.le Nn.RP (az.trans lz);have ad:=HZ.TA j f;have ld:=HZ.Uc j f;have R:(j+1)%row.length<row.length:=dZ _ NH;have cK:=HZ.TA ((j+1)%row.length) R;have bk:=HZ.Uc ((j+1)%row.length) R;obtain⟨cN,ej⟩:=ai j f;obtain⟨ep,em⟩:=ai _ R;rw[ej]at ld;rw[em]at bk;have cP:=ajw (IR.nd i) cN;simp only[hlen]at cP;have X:=aaa j NH;have tm:=tm_nat (j+1) row.length;have dz:((row.length:Int)=0)=False:=eq_false NH;have aq:Nv (Xl rs) ((Xl rs i)[j],i)=(i,(Xl rs i)[(j+1)%row.length]):=by grind[Nv.eq_1]
   have st:=mapPP_set oB (abA ((Xl rs i)[j],i)) (abA (Nv (Xl rs) ((Xl rs i)[j],i)));simp only[aq,abA]at st;simp only[HO,seval,ad,ld,xe,X,al,tm,dz,cK,bk,ajC,st];refine lgA (JS f) ⟨j+1,_,rfl,f,rfl,aai.Y3 _ _ _,lz.put _ cJ,fun d hd cR=>?_,fun m V er=>?_⟩
   .rw[aiT,yM]
    .grind
    .intro e;have:=aif (a:=((Xl rs i)[j],i)) (b:=d) e;grind
   .rw[aiT];by_cases e:m=j
    .subst e;exact(IE rfl).trans (by rw[aq];rfl)
    .rw[yM]
     .grind
     .intro e2;have:=aif (a:=((Xl rs i)[j],i)) (b:=((Xl rs i)[m],i)) e2;simp only[si,and_true]at this;have nd:=IR.nd i;rw[Gw,qH]at nd;grind
  .have aa:row.length<=j:=vp hf;have aD:=aaa i NH;refine sFa aD ?_;refine lgA (JS A) ⟨i+1,l,rfl,A,rfl,oB,lz,fun d hd cR=>?_⟩;by_cases e:d.2=i
   .obtain⟨a,b⟩:=d;simp only at e hd;subst e;obtain⟨m,V,em⟩:=Q4.1 hd;grind
   grind
 have aa:rs.length<=i:=vp hf;have bm:∀d:H8,d∈dl rs.length (Xl rs)->aeB l (abA d)=Z (abA (Nv (Xl rs) d)):=fun d hd=>by grind[IP,V7.sy,V7.lt]
 clear hl hf aa hi;obtain⟨hb,eb,lb,wb,ob⟩:=Tt bb []
 obtain⟨L,ec,lc,wc,oc⟩:∃L,hb.alloc (.map [])=L/\Le hb L/\WF L/\L.own hb.next=Z (.map []):=⟨_,rfl,(Le.refl hb).alloc wb _,wb.alloc _,aai.zT _ _⟩
 have cU:N.own N.next=Y:=(Le.refl N).next bb (qL0 _)
 have cW:hb.own hb.next=Y:=(Le.refl hb).next wb (qL0 _)
 have cZ:N.next≠hb.next:=fun e=>by grind
 have bo:aas pG N 25 0 []=Z (sL (Z ⟨N.next,0,Y⟩) 0 0,hb):=by rw[<-eb];exact mkL52e N
 have c0:=(L2 L ((lq.trans lb).trans lc)).1;refine sFa (adG bo ec c0) ?_
 generalize N.next=F0 at*
 generalize hb.next=c at*
 have br:(L.kill c).own F0=Z (.cells []):=by grind[aai.xJ,Le.own]
 have bx:Le N ((L.kill c).kill F0):=((lb.trans lc).aiY (lb.none cW)).aiY cU;refine kCi afm (AC.frame oc (AC.frame br (oe W0 _ rs.length es ((L.kill c).kill F0) ⟨ev,rfl,(a7.pr.le l2).le (lq.trans bx)⟩ hr))) ?_;rintro bv h5 w5 ⟨g1,⟨g,⟨aF,lg⟩,nF,rfl⟩,et,rfl⟩;have nM:g.own c=Y:=by grind[aai.By]
 have bB:=bx.trans lg;have c3:g.own U=Z (.map (ahb l)):=bB.own _ _ oB;have eu:U≠c:=fun e=>by grind
 have c4:=Xq rs.length es;have bF:=fun g=>aF.qP5 g;rw[c4]at bF;have bG:Le g ((g.put F0 (.cells [])).put c (.map [])):=((Le.refl g).put _ nF).put _ nM;have g0:Lj (RL RP) (rem [c] ((g.put F0 (.cells [])).put c (.map []))) (sL (Z F0) 0 0) (adR (Xl rs) (afd rs.length (Xl rs) 0)):=by
  have:adR (Xl rs) (afd rs.length (Xl rs) 0)=[]:=by grind[adR,afd]
  grind[Lj.empty,Th,aai.By,aai.Y3]
 have bH:Z2 g (sL (Z F0) 0 0):=fun b hb=>by injection hb with hb;grind
 have bI:blk (sL (Z F0) 0 0)≠Z c:=fun e=>by injection e with e;exact cZ e
 generalize vV.slice (Z F0) 0 0=c5 at*;have J:rs.length<=200:=NH;refine sFa bF ?_;refine lIn (fun k fr z=>∃(i:Nat)(r:vV)(m:List (Pr×Int)),k=rs.length-i/\i<=rs.length/\fr=mkF [(6,.map (Z U)),(11,r),(12,.map (Z c)),(61,bv),(62,.int .i64 rs.length),(63,i)]/\
   z.own c=Z (.map (wy m))/\Lj (RL RP) (rem [c] z) r (adR (Xl rs) (afd rs.length (Xl rs) i))/\blk r≠Z c/\Le g z/\Z2 g r/\∀d∈dl rs.length (Xl rs),((abo m (abA d)).getD 0≠0↔ai3 (Xl rs) (afd rs.length (Xl rs) i) d)) ⟨0,c5,[],rfl,abe _,rfl,aai.Y3 _ _ _,g0,bI,bG,bH,fun d _=>by simp[abo,ai3,afd]⟩ ?_
 clear g0 bI bH bG w5 bo;rintro k fr z M ⟨i,r,m,rfl,hi,rfl,oM,gf,bf,H,af,V⟩;refine sSs ?_;refine Kl.intro (fun O=>?_) (fun hf=>?_)
 rotate_left
 .have aa:rs.length<=i:=vp hf;obtain rfl:i=rs.length:=NH;rw[ahX,aiz]at gf;refine sSs ?_;exact⟨az.trans (lq.trans (bB.trans H)),.inr ⟨es,r,hr,G,rfl,(gf.rl (Nn.RL Nn.RP)).le (Nn.RL Nn.RP) (Sa _ _)⟩⟩
 have A:i<rs.length:=CC O;clear O;have ab:=aF.Wm i NH;obtain⟨bu,bN,aH⟩:=aF.NS i NH;have bQ:=bN z H;rw[<-D4 (d:=[]) NH]at aH;have ey:=rowD_len hR hA G i;have c6:=fun j hj c9=>rowD_get hR hA G i (j:=j) hj c9;have da:=fun j hj=>ddl_at (n:=rs.length) (Xl rs) (v:=i) (j:=j) A hj;have aJ:=ahC rs.length (Xl rs) i;have db:=bV rs.length es _ (aev (show i<(Zh rs.length es).length by omega));rw[<-D4 (d:=[]) NH]at db;generalize (Zh rs.length es).getD i []=Rw at*;generalize aih rs.length (Xl rs) i=D at*;have lR:=fun g=>aH.DH g;simp only[HO,seval,ab,bQ,lR];refine lIn (fun k fr u=>∃(j:Nat)(r:vV)(m:List (Pr×Int)),k=Rw.length-j/\j<=Rw.length/\fr=mkF [(6,.map (Z U)),(11,r),(12,.map (Z c)),(13,i),(61,bv),(62,.int .i64 rs.length),(63,i),(68,bu),(69,Rw.length),(70,.int .i64 j)]/\
   u.own c=Z (.map (wy m))/\Lj (RL RP) (rem [c] u) r (adR (Xl rs) (afd rs.length (Xl rs) i++D.take j))/\blk r≠Z c/\Le g u/\Z2 g r/\∀d∈dl rs.length (Xl rs),((abo m (abA d)).getD 0≠0↔ai3 (Xl rs) (afd rs.length (Xl rs) i++D.take j) d)) ⟨0,r,m,rfl,abe _,rfl,oM,hGr,bf,H,af,hGr⟩ ?_
 clear oM gf bf H af V bQ M;clear z r m;rintro k fr z M ⟨j,r,m,rfl,hj,rfl,oM,gf,bf,H,af,V⟩;refine sSs ?_;refine Kl.intro (fun O=>?_) (fun hf=>?_)
 rotate_left
 .have aa:Rw.length<=j:=vp hf;rw[HV NH,<-aJ]at gf V;have aD:=aaa i NH;refine sFa aD ?_;exact lgA (JS A) ⟨i+1,r,m,rfl,A,rfl,oM,gf,bf,H,af,V⟩
 have f:j<Rw.length:=CC O;clear O;have aK:j<D.length:=NH;obtain⟨w,ew,ed,dc⟩:=c6 j f aK;obtain⟨Q,hQ⟩:=da j aK;have tk:D.take (j+1)=D.take j++[D[j]]:=EL aK;rw[ed]at hQ tk;have bW:afd rs.length (Xl rs) i++D.take (j+1)=(afd rs.length (Xl rs) i++D.take j)++[(i,w)]:=hGr;generalize afd rs.length (Xl rs) i++D.take j=P at*;have I:((i,w):H8)∈dl rs.length (Xl rs):=(IP IR).2 dc;have eA:=hd_met IR hQ;have bY:=ajX J hQ;have eB:=ajh (Xl rs) P (i,w);have HB:=aH.le Nn.RP H;have aj:=HB.TA j f;have lj:=HB.Uc j f;rw[ew]at lj;have X:=aaa j NH;obtain⟨eC,C,eE,sE,lE,wE,oE⟩:=Ut M ((i:Int),(w:Int))
 have nE:z.own z.next=Y:=(Le.refl z).next M (qL0 _)
 generalize z.next=E0 at*
 have aL:=lE.own _ _ oM;have lk:=SA aL ((i:Int),(w:Int));have bZ:=V _ I;have b0:=uM oE;have aN:=H.trans lE;have aP:=gf.le (Nn.RL Nn.RP) (lE.Xm (l:=[c]));by_cases cm:(abo m ((i:Int),(w:Int))).getD 0=0
 rotate_left
 .have dm:decide ((abo m ((i:Int),(w:Int))).getD 0=0)=fF:=WA cm;refine sFa (aga aj lj @xe eE sE b0 @acS lk @bne.eq_1.{0} dm X) ?_
  have S:=bZ.1 cm;exact lgA (JS f) ⟨j+1,r,m,rfl,f,rfl,aL,hGr,bf,aN,af,fun e he=>by rw[bW,aji,V e he];exact⟨.inl,fun x=>x.elim id fun o=>by obtain⟨y,hy,o'⟩:=S;exact⟨y,hy,o'.trans o⟩⟩⟩
 have dm:decide ((abo m ((i:Int),(w:Int))).getD 0=0)=tT:=qL7 cm;have dd:¬ai3 (Xl rs) P (i,w):=fun h=>bZ.2 h cm;obtain⟨o0,o1,o2⟩:=aaM p I;have eh:bt (Nv (Xl rs)) (i,w)<=40000:=by have h1:=tf (Ri p I) (B:=ddl rs.length (Xl rs)) fun y hy=>(Ks IR).2 ((IP IR).1 (p.sP I ((vA p I).1 hy)));rw[oN]at h1;have h2:=aii rs.length (Xl rs) rs.length;rw[ahX]at h2;have h3:rs.length*rs.length<=200*200:=adN J J;omega
 obtain⟨hF,eF,lF,wF,oF⟩:=Tt wE []
 have nC:C.own C.next=Y:=(Le.refl C).next wE (qL0 _)
 have b1:aas pG C 28 0 []=Z (sL (Z C.next) 0 0,hF):=by rw[<-eF];exact mkI0 C
 generalize C.next=C0 at*
 have aT:GI hF (sL (Z C0) 0 0) []:=GS.full (k:=1) (n:=0) oF rfl WY;have aW:Z2 C (sL (Z C0) 0 0):=apart_new nC;generalize vV.slice (Z C0) 0 0=ae at*;have ldF:=uM (lF.own _ _ oE);obtain⟨de,hG,eG,sG,lG,wG,oG⟩:=Ut wF ((i:Int),(w:Int))
 have nG:hF.own hF.next=Y:=(Le.refl hF).next wF (qL0 _)
 generalize hF.next=E1 at*
 have K0:Le (rem [c] C) hG:=(Sa _ _).trans (lF.trans lG);have kM:(rem [c] C).own c=Y:=by grind[DC]
 have kB:(rem [c] C).own U=Z (.map (ahb l)):=Th.2 ⟨aN.own _ _ c3,hGr⟩;have b2:Z2 (rem [c] C) ae:=fun b hb=>(Sa [c] C).none (aW b hb);have b3:=lG.own _ _ (lF.own _ _ aL);have cM:blk ae≠Z c:=fun e=>by have:=aW _ e;grind
 have cE:blk ae≠Z E1:=fun e=>GS.Sy aT e nG;have eM:E1≠c:=fun e=>by grind
 have kE:(rem [c] C).own E1=Y:=(Sa [c] C).none (lF.none nG);have dg:Le g (rem [c] C):=aN.iV (l:=[c]) fun b hb=>by grind
 have dj:=fun g=>(aP.rl (Nn.RL Nn.RP)).qP5 g;have b4:=aw_len bY;simp only[HO,seval,aj,lj,xe,eE,sE,b0,acS,lk,bne,dm,b1,ldF,eG,sG];refine lIn (fun kk fr u=>∃(k:Nat)(cv:vV)(E:Nat)(K:List (Pr×Int)),kk=bt (Nv (Xl rs)) (i,w)-k/\k<=bt (Nv (Xl rs)) (i,w)/\fr=mkF [(6,.map (Z U)),(11,r),(12,.map (Z c)),(13,i),(18,cv),(19,pT (Z E)),(61,bv),(62,.int .i64 rs.length),(63,i),(68,bu),(69,Rw.length),(70,.int .i64 j)]/\
   u.own E=Z (.cells (xM (abA (it (Nv (Xl rs)) k (i,w)))))/\u.own c=Z (.map (wy K))/\GI u cv ((rG k).map fun x=>(((it (Nv (Xl rs)) x (i,w)).1:Nat):Int))/\Le (rem [c] C) u/\Z2 (rem [c] C) cv/\blk cv≠Z c/\blk cv≠Z E/\E≠c/\
   ∀e∈dl rs.length (Xl rs),((abo K (abA e)).getD 0≠0↔ai3 (Xl rs) P e\/∃x,x<k/\it (Nv (Xl rs)) x (i,w)=e)) ⟨0,ae,E1,m,rfl,abe _,rfl,oG,b3,GI.le aT lG,K0,b2,cM,cE,eM,fun e he=>by grind⟩ ?_
 clear K0 b2 b3 cM cE eM kE aT aW oG nG wG lG sG eG ldF b1 nC oF wF lF eF;clear hG de hF;rintro kk fr u W ⟨k,cv,E,K,rfl,hk,rfl,dp,T,gc,lz,ac,cM,cE,eM,aX⟩;have b5:=p.uN I k;have b6:=aX _ b5;have b8:=SA T (abA (it (Nv (Xl rs)) k (i,w)));have b9:=uM dp;by_cases ck:k=bt (Nv (Xl rs)) (i,w)
 .have S:(abo K (abA (it (Nv (Xl rs)) k (i,w)))).getD 0≠0:=b6.2 (.inr ⟨0,NH,by rw[ck,o1];rfl⟩);have dk:decide ((abo K (abA (it (Nv (Xl rs)) k (i,w)))).getD 0=0)=fF:=WA S;refine sFa (ae7 b9 @acS b8 dk) ?_;rw[ck,face_list]at gc;have dq:Le (rem [c] C) (rem [c] u):=lz.iV fun b hb=>by grind
  have dv:=aP.le (Nn.RL Nn.RP) dq;have hb:∀b,blk r=Z b->b∉[c]:=fun b hb V=>by grind
  have dw:∀b,blk r=Z b->blk cv≠Z b:=fun b hb L=>by obtain⟨us,g1,_⟩:=aP;exact GS.Sy g1 hb (ac b L)
  have gu:RL RP (rem [c] (rem (bl r) u)) cv (kz (zu (Xl rs) (i,w))):=by
   have q:GI (rem [c] (rem (bl r) u)) cv (kz (zu (Xl rs) (i,w))):=GS.Fi (GS.Fi gc (l:=bl r) fun b hb L=>dw b (Zr.1 L) hb) (l:=[c]) fun b sZ L=>by grind
   exact q.rl
  obtain⟨h7,dy,h8,e7,e8,eD,l7,w7,f8,k8⟩:=Lj.mG (P:=pG) (t:=25) (Nn.RL Nn.RP) Ji dv W gu gu.sl.one (le_big bY) hb (fun b hb=>by rw[xD]at hb;subst hb;rw[T];simp);obtain⟨dA,dB⟩:=k8 c _ T bf;obtain⟨l8,a8⟩:=f8 g (dg.trans lz) af;refine sFa (ae7 (mkL52 u gu.sl) e7 e8 X) ?_;refine lgA (JS f) ⟨j+1,dy,K,rfl,f,rfl,dA,hGr,dB,l8,a8,fun e he=>?_⟩;rw[bW,aji,aX e he];constructor
  .rintro(h|⟨x,_,h⟩)
   .exact .inl h
   .exact .inr ⟨x,h⟩
  .rintro(h|⟨x,h⟩)
   .exact .inl h
   .refine .inr ⟨x%bt (Nv (Xl rs)) (i,w),by rw[ck];exact dZ _ o0,?_⟩;rw[<-QF p I];exact h
 .have cc:=lt_next hk ck;have cd:¬((abo K (abA (it (Nv (Xl rs)) k (i,w)))).getD 0≠0):=fun h=>by
   rcases b6.1 h with⟨y,hy,o⟩|⟨x,hx,e⟩
   .have eH:y∈dl rs.length (Xl rs):=(IP IR).2 ((Ks IR).1 hGr);exact dd ⟨y,hy,o.trans (p.adK I ⟨k,rfl⟩)⟩
   grind[zk]
  have dk:decide ((abo K (abA (it (Nv (Xl rs)) k (i,w)))).getD 0=0)=tT:=qL7 (Hs cd);have av:=bm _ b5;have a6:Nv (Xl rs) (it (Nv (Xl rs)) k (i,w))=it (Nv (Xl rs)) (k+1) (i,w):=rfl;rw[a6]at av;have ag:=range_it (Nv (Xl rs)) (i,w) k;have st1:=ajb T (abA (it (Nv (Xl rs)) k (i,w))) ((adR (Xl rs) P).length+1:Nat);generalize hD:it (Nv (Xl rs)) k (i,w)=s at*;have dE:=aai.Y3 u c (.map (wy (acs K (abA s) ((adR (Xl rs) P).length+1:Nat))));have dF:Le (rem [c] C) (u.put c (.map (wy (acs K (abA s) ((adR (Xl rs) P).length+1:Nat))))):=lz.put _ kM;have dH:WF (u.put c (.map (wy (acs K (abA s) ((adR (Xl rs) P).length+1:Nat))))):=W.put _ (W.lt T);have cf:(u.put c (.map (wy (acs K (abA s) ((adR (Xl rs) P).length+1:Nat))))).own E=Z (.cells (xM (abA s))):=by grind[aai.By]
  have dI:GI (u.put c (.map (wy (acs K (abA s) ((adR (Xl rs) P).length+1:Nat))))) cv ((rG k).map fun x=>(((it (Nv (Xl rs)) x (i,w)).1:Nat):Int)):=GS.put gc _ cM;generalize u.put c (.map (wy (acs K (abA s) ((adR (Xl rs) P).length+1:Nat))))=dJ at*;have m0:aaC pG dJ 3 ⟨E,0,Y⟩=Z (.int .i64 (s.1:Int)):=lK cf;obtain⟨cg,h4,h5,e4,e5,g5,w5,l4,f5,k5⟩:=dI.push dH ((s.1:Nat):Int) hGr;obtain⟨l5,a5⟩:=f5 _ dF ac;obtain⟨dL,dM⟩:=k5 c _ dE cM;obtain⟨dO,eI⟩:=k5 E _ cf cE;have dQ:=uM dO;obtain⟨eL,h6,e6,s6,l6,w6,o6⟩:=Ut w5 (abA s)
  have cp:h5.own h5.next=Y:=(Le.refl h5).next w5 (qL0 _)
  generalize h5.next=E' at*
  have dS:=uM o6;have cq:=l5.trans l6;have dT:=ajD (cq.own _ _ kB) av;have st2:=gD (p:=abA (it (Nv (Xl rs)) (k+1) (i,w))) o6;have cx:E'≠c:=fun e=>by grind
  have cz:blk cg≠Z E':=fun e=>GS.Sy g5 e cp;have dV:=aai.Y3 h6 E' (.cells (xM (abA (it (Nv (Xl rs)) (k+1) (i,w)))));have dW:(h6.put E' (.cells (xM (abA (it (Nv (Xl rs)) (k+1) (i,w)))))).own c=Z (.map (wy (acs K (abA s) ((adR (Xl rs) P).length+1:Nat)))):=by rw[aai.By _ _ _ _ (j3 cx)];exact l6.own _ _ dL
  simp only[HO,seval,b9,acS,b8,dk,dj,b4,aiP,st1,Dh,Ip,Gc,m0,e4,e5,dQ,e6,s6,ajg,dS,dT,st2];refine lgA (JS cc) ⟨k+1,cg,E',_,rfl,cc,rfl,dV,dW,by rw[ag];exact GS.put (GI.le g5 l6) _ cz,cq.put _ (l5.none cp),a5,dM,cz,cx,fun e he=>?_⟩;rw[XR];by_cases ee:abA s=abA e
  .have:=aif ee;subst this;rw[IE rfl,VX];exact⟨fun _=>.inr ⟨k,afC k,hD⟩,fun _=>dec_succ _⟩
  .rw[yM ee,aX e he];constructor
   .rintro(h|⟨x,hx,h⟩)
    .exact .inl h
    .exact .inr ⟨x,ajP hx,h⟩
   .rintro(h|⟨x,hx,h⟩)
    .exact .inl h
    .refine .inr ⟨x,qL201 (Nat.le_of_lt_succ hx) fun e2=>ee ?_,h⟩;grind
end
section
attribute [local instance] Classical.propDecidable
variable {A B C T a b i j n q v:Nat} {L:RZ} {es:List Pr} {h h' hh:aai} {r:Nat->II} {rs:AM} {x:List Value} {α:Type}
noncomputable def VF{α:Type}(P:Nat->α->Prop)(l:List α)(a:Nat):Nat:=(l.filter fun e=>decide (P a e)).length
theorem ajY(P:Nat->α->Prop)(l:List α)(a:Nat):VF P l a<=l.length:=im _ _
theorem cntK_snoc(P:Nat->α->Prop)(l:List α)(e:α)(a:Nat):VF P (l++[e]) a=VF P l a+if P a e then 1 else 0:=by grind[VF]
theorem aiV{P:Nat->α->Prop}{l:List α}{e:α}{hs:II}(b:q<hs.length)(c:P hs[q] e)(h2:∀i (h:i<hs.length),P hs[i] e->i=q):
  (hs.map fun a=>((VF P (l++[e]) a:Nat):Int))=(hs.map fun a=>((VF P l a:Nat):Int)).set q (((VF P l hs[q]:Nat):Int)+1):=by
 apply aey
 all_goals grind[cntK_snoc]
noncomputable def Gn(es l:xLP)(a:Nat):Nat:=VF (fun a (e:Pr)=>Pu es a e.1.toNat) l a
noncomputable def sA(es:xLP)(l:AM)(a:Nat):Nat:=VF (fun a (f:RZ)=>Pu es a (f.headD 0).toNat) l a
def z8(n:Nat)(es:xLP)(rs:AM):Prop:=∀a∈Es n es,0<Gn es es a->(Ic n es a).length+sA es (IN n rs) a=Gn es es a+2
def ahA(n:Nat)(es:xLP)(i:Nat)(L:RZ):Prop:=L.length=n/\∀(j a v:Nat),j<i->(Es n es)[j]?=Z a->v<n->Pu es a v->L[v]?=Z (j:Int)
theorem ahA.zero:ahA n es 0 (rP n 0):=⟨Ma,hGr⟩
theorem ah3(e:aV n es)(hi:(Es n es)[i]?=Z a)(c:(Es n es)[j]?=Z b)(ha:Pu es a v)(hb:Pu es b v):i=j:=by have d:a=b:=rf (BS hi) (BS c) (ha.trans (hb.symm));grind[qD,List.pairwise_iff_getElem]
theorem ahA.put(f:aV n es)(H:ahA n es i L)(hi:(Es n es)[i]?=Z a)(g:Pu es a v):ahA n es i (L.set v (i:Int)):=by
 refine⟨by rw[Yq];exact H.1,fun j b w e hb hw c=>?_⟩;have d:v≠w:=by grind[ah3]
 rw[QU d];exact H.2 j b w e hb hw c
theorem ahA.next(H:ahA n es i L)(hi:(Es n es)[i]?=Z a)(h:∀v∈Ic n es a,L[v]?=Z (i:Int)):ahA n es (i+1) L:=by
 refine⟨H.1,fun j b w e hb hw d=>?_⟩;by_cases c:j=i
 .grind[mY]
 .exact H.2 j b w NH hb hw d
theorem ahA.get(e:aV n es)(H:ahA n es (Es n es).length L)(b:v<n):∃q,∃h:q<(Es n es).length,L[v]?=Z (q:Int)/\Pu es (Es n es)[q] v:=by obtain⟨a,ha,f⟩:=B6 e v b;obtain⟨q,c⟩:=vZ.1 ha;obtain⟨d,h2⟩:=Ny.1 c;exact⟨q,d,H.2 q a v d c b f,hGr⟩
def aiW(b:aV n es)(h:q<(Es n es).length)(c:Pu es (Es n es)[q] v):∀i (h:i<(Es n es).length),Pu es (Es n es)[i] v->i=q:=fun i hi a=>ah3 b (XJ hi) (XJ h) a c
theorem JE(R:V7 n r){d:H8}(hd:d∈dl n r):(kz (zu r d)).headD 0=(d.1:Int)/\0<(kz (zu r d)).length:=by
 have:=(aaM (aaG R) hd).1;have e:rG (bt (Nv r) d)=0::(List.range' 1 (bt (Nv r) d-1)):=by rw[List.range_eq_range',show bt (Nv r) d=(bt (Nv r) d-1)+1 from by omega,qL208];simp
 refine⟨?_,by grind[kz,zu,AA]⟩;simp only[kz,zu,AA,e,Lm,qL189];rfl
theorem Uj(a:aV n es)(ha:D3 es)(G:Av n es rs){f:RZ}(hf:f∈IN n rs):0<f.length/\∃v:Nat,v<n/\f.headD 0=(v:Int):=by have R:=G.jD a ha;rw[IN,Eh]at hf;grind[vf.eq_1,gQ,dl,IP,JE]
theorem ajE{es:xLP}(a:n<=200):(IN n rs).length<=40000:=by have b:ddl n (Xl rs)=ddl n (Xl rs)++[]:=(ai4 _).symm;grind[ajX,aiz]
def stI(o:hh.own T=Z (.cells (Bp L)))(hi:i<L.length)(x:Int):
  aaK pG hh 3 (pT (Z ⟨T,i,Y⟩)) x=Z (hh.put T (.cells (Bp (L.set i x)))):=by rw[QB (P:=pG) (t:=3) (x:=x) Ac Ji o (off:=i) (by rw[uE];exact hi) rfl rfl,yy]
def XP{l:Int}(o:hh.own T=Z (.cells (Bp L)))(a:L[i]?=Z l):aaC pG hh 3 ⟨T,i,Y⟩=Z (.int .i64 l):=by rw[Fq Ac rfl o];simp[Bp,a]
def Kx(T m:Nat)(k:IntKind)(j:Nat)(a:j<m):aao pG 28 (sL (Z T) m m) (.int k j)=Z (pT (Z ⟨T,j,Y⟩)):=by rw[Wc Mb Ac Ji j a];simp[Ip]
structure ahT (h h':aai) (A B C:Nat) (x:xLV):Prop where
 le:Le h h'
 wf:WF h'
 oA:h'.own A=Z (.cells x)
 oB:h'.own B=Z (.cells x)
 oC:h'.own C=Z (.cells x)
 nA:h.own A=Y
 nB:h.own B=Y
 nC:h.own C=Y
 ab:A≠B
 ac:A≠C
 bc:B≠C
theorem new3(hw:WF h)(x:xLV):ahT h (((h.alloc (.cells x)).alloc (.cells x)).alloc (.cells x)) h.next (h.next+1) (h.next+1+1) x:=by
 have a:∀x,h.next<=x->h.own x=Y:=fun x b=>(Le.refl h).next hw b
 exact⟨by grind[Le.refl,Le.alloc,WF.alloc],(by grind[WF.alloc]),by grind[Mh],by simp[Mh,om],by simp[Mh,om],hGr,a _ NH,a _ NH,NH,NH,NH⟩
def ahT.s12(N:ahT h h' A B C x):ahT h h' B A C x:=⟨N.le,N.wf,N.oB,N.oA,N.oC,N.nB,N.nA,N.nC,N.ab.symm,N.bc,N.ac⟩
def ahT.s23(N:ahT h h' A B C x):ahT h h' A C B x:=⟨N.le,N.wf,N.oA,N.oC,N.oB,N.nA,N.nC,N.nB,N.ac,N.ab,N.bc.symm⟩
attribute [local irreducible] Kp MQ lU KO1 KO KN KX KE VK Kl ZJ TC aab
attribute [local irreducible] IN Gn sA Es Ic Gx
variable {c:Nat} {l:II}
def cnt_ok(h:a<=40000):aaY .i64 ((a:Int)+1)=(a:Int)+1:=ie _ NH NH
def cnt_ok2(h:a<=40000):aaY .i64 ((a:Int)+2)=(a:Int)+2:=ie _ NH NH
def cnt_ok3(h:a<=40000)(g:b<=40000):aaY .i64 ((a:Int)+(b:Int))=(a:Int)+(b:Int):=ie _ NH NH
def pl_iff:((a:Int)+(b:Int)=(c:Int)+2)↔a+b=c+2:=NH
def pl_pos:((c:Int)>0)↔0<c:=NH
def rep_map(n:Nat):rP n (vV.int .i64 0)=Bp (rP n 0):=by simp[Bp]
theorem ah4(n:Nat)(es:xLP)(k:Nat):(Gx n es k).length=(Es k es).length:=by grind[Gx]
theorem partsN_at(n:Nat)(es:xLP)(k i:Nat)(h:i<(Es k es).length):(Gx n es k)[i]'(by grind[ah4])=Ic n es (Es k es)[i]:=by grind[Gx]
def edK_nil(n:Nat)(es b:xLP):(rP (Es n b).length (0:Int))=(Es n b).map fun a=>((Gn es ([]:xLP) a:Nat):Int):=by apply aey<;>simp[Gn,VF]
def faK_nil(n:Nat)(es b:xLP):(rP (Es n b).length (0:Int))=(Es n b).map fun a=>((sA es ([]:AM) a:Nat):Int):=by apply aey<;>simp[sA,VF]
def edK_step(d:aV n es){l:xLP}{e:Pr}(b:q<(Es n es).length)(c:Pu es (Es n es)[q] e.1.toNat):
  ((Es n es).map fun a=>((Gn es (l++[e]) a:Nat):Int))=((Es n es).map fun a=>((Gn es l a:Nat):Int)).set q (((Gn es l (Es n es)[q]:Nat):Int)+1):=by
 unfold Gn;exact aiV b c (aiW d b c)
def faK_step(d:aV n es){l:AM}{e:RZ}(b:q<(Es n es).length)(c:Pu es (Es n es)[q] (e.headD 0).toNat):
  ((Es n es).map fun a=>((sA es (l++[e]) a:Nat):Int))=((Es n es).map fun a=>((sA es l a:Nat):Int)).set q (((sA es l (Es n es)[q]:Nat):Int)+1):=by
 unfold sA;exact aiV b c (aiW d b c)
theorem edK_le(es l:xLP)(a:Nat):Gn es l a<=l.length:=by grind[Gn,ajY]
theorem faK_le(es:xLP)(l:AM)(a:Nat):sA es l a<=l.length:=by grind[sA,ajY]
theorem ajj(n:Nat)(es:xLP)(a:Nat):(Ic n es a).length<=n:=by grind[Ic]
def aip{f:Nat->Int}(h:i<l.length):(l.map f)[i]?=Z (f l[i]):=by simp[h]
theorem head_get{l:RZ}(h:0<l.length):l[0]=l.headD 0:=by
 cases l<;>grind
theorem z8.not(h:i<(Es n es).length)(a:0<Gn es es (Es n es)[i])(h2:¬(Ic n es (Es n es)[i]).length+sA es (IN n rs) (Es n es)[i]=Gn es es (Es n es)[i]+2):¬z8 n es rs:=fun H=>h2 (H _ (aev h) a)
theorem akf(W0:LA)(v rv:vV)(G:GM)(rs:AM)(h:aai)(hg:GR h v G)(hv:RL (RL RP) h rv rs):
  AC pG W0 24 [v,rv] h fun x h'=>RR (bX G/\Av G.n.toNat G.es rs/\z8 G.n.toNat G.es rs) x/\Le h h':=by
 have bx:=hg;obtain⟨gn,es⟩:=G
 obtain⟨ev,rfl,hp⟩:=hg.open
 refine AC.vE ⟨func24,rfl,WY⟩ ntmps24 results24 fun b9=>?_;simp only[Br,seval];obtain⟨h1,b1,R,da,-,lA⟩:=r8 (n:=gn) b9 hp
 generalize h.next=B at*
 have cc:=lA h1 (Le.refl _);refine sFa (XC b1 cc.1) ?_;refine kCi func45 (aix W0 _ rv ⟨gn,es⟩ rs h1 (bx.le R) (hv.le (Nn.RL Nn.RP) R)) ?_;rintro x h2 w2 ⟨⟨b,rfl,hb⟩,l2⟩;cases b
 .refine sSs ?_;exact⟨⟨fF,rfl,hGr⟩,R.trans l2⟩
 obtain⟨hr,G⟩:=hb.1 rfl;have h0:0<=gn:=hr.n0;obtain⟨n,rfl⟩:=Sb h0;simp only[Z6]at G ⊢;have hR:=hr.GD;have hA:=hr.q9;have c5:(n:Int)<=200:=hr.n1;have c6:es.length<=594:=hr.len;have aJ:n<=200:=NH;have fin:∀b,(b=tT↔z8 n es rs)->∀o,Le h o->RR (bX ⟨(n:Int),es⟩/\Av n es rs/\z8 n es rs) (.bool b)/\Le h o:=fun b hb o lz=>⟨⟨b,rfl,hb.trans ⟨fun p=>⟨hr,G,p⟩,fun p=>p.2.2⟩⟩,lz⟩;have db:=lA h2 l2;refine sSs ?_;refine kCi func29 (Faces_any W0 rv rs h2 (hv.le (Nn.RL Nn.RP) (R.trans l2))) ?_;rintro x h3 w3 ⟨l3,⟨rfl,cd⟩|⟨cf,fv,cg,G',rfl,hf⟩⟩
 .exact absurd ⟨es,by grind[Av.len],by grind[Av.len]⟩ cd
 clear cg G' cf;rw[G.len]at hf;have d0:decide ((0:Int)=0)=tT:=by decide
 have fT:=lA h3 (l2.trans l3);simp only[HO,seval,bne,d0,fT.1];refine kCi func30 (It W0 _ ⟨(n:Int),es⟩ h3 (bx.le ((R.trans l2).trans l3)) hr) ?_;rintro pv M w4 ⟨gp,l4,-⟩;simp only[Z6]at gp;have rp:=gp.rl (Nn.RL Nn.RP);have lp:=fun g=>rp.qP5 g;have ck:((Gx n es n).map kz).length=(Es n es).length:=by grind[ah4]
 rw[ck]at lp;have dc:(Es n es).length<=n:=vH _ _;have aK:=hf.le (Nn.RL Nn.RP) l4;have aL:=(l2.trans l3).trans l4;have bB:=R.trans aL;have cm:=lA M aL;have cp:=fun g:aai=>Ye (P:=pG) (t:=28) (z:=.int .i64 0) g Mb rfl rfl rfl rfl Ji Ac Ji n NH;have cq:=fun g:aai=>Ye (P:=pG) (t:=28) (z:=.int .i64 0) g Mb rfl rfl rfl rfl Ji Ac Ji (Es n es).length NH;obtain⟨h5,e5,l5,w5,o5⟩:=Tt w4 (rP n (.int .i64 0))
 have nH:M.own M.next=Y:=(Le.refl M).next w4 (qL0 _)
 refine sFa (afN @Ii @Ip.eq_1 @Gc cm.2.1 cp e5) ?_
 generalize M.next=H at*
 apply Ya (F:=fun(fr:aam)(h':aai)=>∃A C D,Fj fr [(2,pT (Z B)),(5,fv),(7,pv),(8,sL (Z H) n n),(9,sL (Z ⟨A,0,Y⟩) (Es n es).length (Es n es).length),(10,sL (Z ⟨C,0,Y⟩) (Es n es).length (Es n es).length),(11,sL (Z ⟨D,0,Y⟩) (Es n es).length (Es n es).length)]/\ahT h5 h' A C D (rP (Es n es).length (.int .i64 0)))
 .intro cont;refine gh (tA [0,1,3,4,6,7] (.ch 2 [1] (tA [9] (.ch 5 [4] (tA [10] (JQ 8 [7] (tA [11] .done))) (JQ 8 [7] (JQ 5 [4] (tA [10,11] .done))))) (.ch 5 [4] (.ch 2 [1] (tA [9,10] (JQ 8 [7] (tA [11] .done))) (JQ 8 [7] (JQ 2 [1] (tA [9,10,11] .done)))) (JQ 8 [7] (.ch 2 [1] (tA [9] (JQ 5 [4] (tA [10,11] .done))) (JQ 5 [4] (JQ 2 [1] (tA [9,10,11] .done)))))))) ?_;simp only[kJJ,seval,Qg,lp,cq,om];have N:=new3 w5 (rP (Es n es).length (.int .i64 0));refine⟨⟨?_,?_⟩,⟨?_,?_⟩,?_,?_⟩
  all_goals
   refine KN.UJ fun fr' h' e1 e2=>cont fr' h' ?_;subst e1 e2
   first
    |(refine⟨_,_,_,?_,N⟩;simp only[Fj,HO,seval];simp;done)
    |(refine⟨_,_,_,?_,N.s12⟩;simp only[Fj,HO,seval];simp;done)
    |(refine⟨_,_,_,?_,N.s23⟩;simp only[Fj,HO,seval];simp;done)
    |(refine⟨_,_,_,?_,N.s12.s23⟩;simp only[Fj,HO,seval];simp;done)
    |(refine⟨_,_,_,?_,N.s23.s12⟩;simp only[Fj,HO,seval];simp;done)
    |(refine⟨_,_,_,?_,N.s12.s23.s12⟩;simp only[Fj,HO,seval];simp;done)
 rintro fr h6 ⟨A,C,D,bF,N⟩;simp only[Fj]at bF;obtain⟨f2,f5,f7,f8,f9,bG,bH,-⟩:=bF;refine sFa (XC f7 lp) ?_;have l6:=l5.trans N.le;have aN:=N.le.own _ _ o5;have aP:=N.oA;have aT:=N.oB;have aW:=N.oC;rw[rep_map]at aN aP aT aW;have dd:H≠A:=fun e=>by grind[ahT.nA]
 have de:H≠C:=fun e=>by grind[ahT.nB]
 have dg:H≠D:=fun e=>by grind[ahT.nC]
 have dj:=N.ab;have dk:=N.ac;have dm:=N.bc;have nA:M.own A=Y:=l5.none N.nA;have nC:M.own C=Y:=l5.none N.nB;have nD:M.own D=Y:=l5.none N.nC;have w6:=N.wf;clear N o5 w5;refine aab.intro (fun k fr r=>∃(i:Nat)(L V:RZ),k=(Es n es).length-i/\i<=(Es n es).length/\fr=mkF [(2,pT (Z B)),(5,fv),(7,pv),(8,sL (Z H) n n),(9,sL (Z ⟨A,0,Y⟩) (Es n es).length (Es n es).length),(10,sL (Z ⟨C,0,Y⟩) (Es n es).length (Es n es).length),(11,sL (Z ⟨D,0,Y⟩) (Es n es).length (Es n es).length),(46,pv),(47,.int .i64 (Es n es).length),(48,i)]/\
   r.own H=Z (.cells (Bp L))/\ahA n es i L/\r.own A=Z (.cells (Bp V))/\V.length=(Es n es).length/\(∀j (T:j<(Es n es).length),j<i->V[j]?=Z (((Ic n es (Es n es)[j]).length:Nat):Int))/\r.own C=Z (.cells (Bp (rP (Es n es).length 0)))/\r.own D=Z (.cells (Bp (rP (Es n es).length 0)))/\Le M r)
  (Es n es).length [(2,pT (Z B)),(5,fv),(7,pv),(8,sL (Z H) n n),(9,sL (Z ⟨A,0,Y⟩) (Es n es).length (Es n es).length),(10,sL (Z ⟨C,0,Y⟩) (Es n es).length (Es n es).length),(11,sL (Z ⟨D,0,Y⟩) (Es n es).length (Es n es).length),(46,pv),(47,.int .i64 (Es n es).length),(48,(0:Nat))] (by simp only[Fj,HO,seval,f2,f5,f7,f8,f9,bG,bH];simp)
  ⟨0,_,_,rfl,abe _,rfl,aN,ahA.zero,aP,Ma,fun j _ h=>absurd h (aeA _),aT,aW,l6⟩ ?_
 clear aN aP aT aW w6 f2 f5 f7 f8 f9 bG bH l6;clear l5 e5;clear h6;rintro k fr r y ⟨i,L,V,rfl,hi,rfl,U,HP,oA,hV,bI,oC,O,I⟩;refine sSs ?_;refine Kl.intro (fun Q=>?_) (fun hf=>?_)
 .have m:i<(Es n es).length:=CC Q;clear Q;have hm:i<((Gx n es n).map kz).length:=hGr;have aX:=rp.Wm i hm;obtain⟨u,W,av⟩:=rp.NS i hm;have ay:=W r I;have cx:((Gx n es n).map kz)[i]=kz (Ic n es (Es n es)[i]):=by grind[partsN_at]
  rw[cx]at av;have lu:=fun g=>av.DH g;rw[y6]at lu;have bN:=XJ m;have st:=stI oA (i:=i) hGr (((Ic n es (Es n es)[i]).length:Nat):Int);have cz:=Kx A (Es n es).length .i64 i m;simp only[HO,seval,aX,ay,lu,cz,st];have X:∀j,j<i+1->∀(T:j<(Es n es).length),(V.set i (((Ic n es (Es n es)[i]).length:Nat):Int))[j]?=Z (((Ic n es (Es n es)[j]).length:Nat):Int):=fun j az T=>by grind
  have cC:(V.set i (((Ic n es (Es n es)[i]).length:Nat):Int)).length=(Es n es).length:=hGr;generalize V.set i (((Ic n es (Es n es)[i]).length:Nat):Int)=V2 at*;have w7:WF (r.put A (.cells (Bp V2))):=y.put _ (y.lt oA);have l7:Le M (r.put A (.cells (Bp V2))):=I.put _ nA;have a6:(r.put A (.cells (Bp V2))).own A=Z (.cells (Bp V2)):=aai.Y3 _ _ _;have aC:(r.put A (.cells (Bp V2))).own H=Z (.cells (Bp L)):=by grind[aai.By]
  have aa:(r.put A (.cells (Bp V2))).own C=Z (.cells (Bp (rP (Es n es).length 0))):=by grind[aai.By]
  have a7:(r.put A (.cells (Bp V2))).own D=Z (.cells (Bp (rP (Es n es).length 0))):=by grind[aai.By]
  generalize r.put A (.cells (Bp V2))=h7 at*;have cE:∀v∈Ic n es (Es n es)[i],v<n/\Pu es (Es n es)[i] v:=fun v hv=>mY.1 hv;generalize (Es n es)[i]=a at*;have dp:=ajj n es a;generalize cJ:Ic n es a=cs at*;refine lIn (fun k fr o=>∃(j:Nat)(L:RZ),k=cs.length-j/\j<=cs.length/\fr=mkF [(2,pT (Z B)),(5,fv),(7,pv),(8,sL (Z H) n n),(9,sL (Z ⟨A,0,Y⟩) (Es n es).length (Es n es).length),(10,sL (Z ⟨C,0,Y⟩) (Es n es).length (Es n es).length),(11,sL (Z ⟨D,0,Y⟩) (Es n es).length (Es n es).length),(12,i),(46,pv),(47,.int .i64 (Es n es).length),(48,i),(58,u),(59,.int .i64 cs.length),(60,.int .i64 j)]/\
    o.own H=Z (.cells (Bp L))/\ahA n es i L/\(∀v∈cs.take j,L[v]?=Z (i:Int))/\o.own A=Z (.cells (Bp V2))/\o.own C=Z (.cells (Bp (rP (Es n es).length 0)))/\o.own D=Z (.cells (Bp (rP (Es n es).length 0)))/\Le M o) ⟨0,L,rfl,abe _,rfl,aC,HP,fun v hv=>absurd hv Qn,a6,aa,a7,l7⟩ ?_
  clear aC HP a6 aa a7 l7 w7 oA U oC O I bI st y ay;clear h7 r L;rintro k fr o dq ⟨j,L,rfl,T,rfl,U,HP,bQ,oA,oC,O,lz⟩;refine sSs ?_;refine Kl.intro (fun Q=>?_) (fun hf=>?_)
  .have d:j<cs.length:=CC Q;clear Q;have cK:=sY d;have bW:=av.TA j (by rw[y6];exact d);have bY:=(av.le Nn.RP lz).Uc j (by rw[y6];exact d);rw[cK]at bY;have aD:=cE cs[j] (aev d);have S:cs.take (j+1)=cs.take j++[cs[j]]:=EL d;generalize cs[j]=v at*;have cM:=stI U (i:=v) (by rw[HP.1];exact aD.1) (i:Int);have ae:=Kx H n .i64 v aD.1;have bZ:=aaa j NH;refine sFa (afK bW bY ae cM bZ) ?_;refine lgA (JS d) ⟨j+1,L.set v (i:Int),rfl,d,rfl,aai.Y3 _ _ _,HP.put hR bN aD.2,fun w hw=>?_,by grind[aai.By],by grind[aai.By],by grind[aai.By],lz.put _ nH⟩;rw[S,aax,xD]at hw;by_cases c:v=w
   .subst c;rw[akM (by rw[HP.1];exact aD.1)]
   grind
  .have s:cs.length<=j:=vp hf;rw[HV s,<-cJ]at bQ;have aF:=aaa i NH;refine sFa aF ?_
   exact lgA (JS m) ⟨i+1,L,V2,rfl,m,rfl,U,HP.next bN bQ,oA,cC,fun j T az=>X j az T,oC,O,lz⟩
 have s:(Es n es).length<=i:=vp hf;obtain rfl:i=(Es n es).length:=NH;clear s hf hi;have b0:=lA r (aL.trans I);have cN:=fun g=>hp.len g;refine sFa (afK @Di @Ip.eq_1 @Gc b0.2.2 cN) ?_;have a8:=oC;rw[edK_nil n es es]at a8;have b2:∀p∈es,0<=p.1/\p.1<p.2/\p.2<(n:Int):=fun p aH=>by obtain⟨i,hi⟩:=vZ.1 aH;exact(hr.ok i (Ny.1 hi).1 p hi).1
 refine lIn (fun k fr o=>∃(j:Nat),k=es.length-j/\j<=es.length/\fr=mkF [(5,fv),(7,pv),(8,sL (Z H) n n),(9,sL (Z ⟨A,0,Y⟩) (Es n es).length (Es n es).length),(10,sL (Z ⟨C,0,Y⟩) (Es n es).length (Es n es).length),(11,sL (Z ⟨D,0,Y⟩) (Es n es).length (Es n es).length),(71,ev),(72,.int .i64 es.length),(73,.int .i64 j)]/\
   o.own H=Z (.cells (Bp L))/\o.own A=Z (.cells (Bp V))/\o.own C=Z (.cells (Bp ((Es n es).map fun a=>((Gn es (es.take j) a:Nat):Int))))/\o.own D=Z (.cells (Bp (rP (Es n es).length 0)))/\Le M o) ⟨0,rfl,abe _,rfl,U,oA,a8,O,I⟩ ?_
 clear a8 oC O oA U I b0 y;clear r;rintro k fr r y ⟨j,rfl,T,rfl,U,oA,oC,O,I⟩;refine sSs ?_;refine Kl.intro (fun Q=>?_) (fun hf=>?_)
 .have d:j<es.length:=CC Q;clear Q;have aH:=CA d;have b3:=b2 es[j] (aev d);have S:es.take (j+1)=es.take j++[es[j]]:=EL d;generalize es[j]=p at aH S b3;have aX:=hp.addr (k:=.i64) j d;have cP:=(hp.le (bB.trans I)).load aH;obtain⟨dv,h7,e7,cR,l7,w7,o7⟩:=Ut y p
  have nE:M.own r.next=Y:=I.none ((Le.refl r).next y (qL0 _))
  generalize r.next=E at*
  have m0:=lK o7;obtain⟨x1,x2⟩:=p;obtain⟨v,rfl⟩:=Sb b3.1;have ag:v<n:=hGr;obtain⟨q,J,bb,cU⟩:=HP.get hR ag;have aC:=l7.own _ _ U;have a6:=l7.own _ _ oA;have aa:=l7.own _ _ oC;have a7:=l7.own _ _ O;have ae:=Kx H n .i64 v ag;have bg:=XP aC bb;have ai:=Kx C (Es n es).length .i64 q J;have aj:=XP aa (aip (f:=fun a=>((Gn es (es.take j) a:Nat):Int)) J);have hle:Gn es (es.take j) (Es n es)[q]<=40000:=EP (edK_le _ _ _) hGr;have K:=cnt_ok hle;have b4:=stI aa (i:=q) hGr (((Gn es (es.take j) (Es n es)[q]:Nat):Int)+1);have al:=edK_step hR (l:=es.take j) (e:=((v:Int),x2)) J hGr;rw[<-S]at al;rw[<-al]at b4;have X:=aaa j NH;refine sFa (aNd15 aX cP e7 cR @Dh @Ip.eq_1 @Gc m0 ae bg ai aj K b4 X) ?_;exact lgA (JS d) ⟨j+1,rfl,d,rfl,by grind[aai.By],by grind[aai.By],aai.Y3 _ _ _,by grind[aai.By],(I.trans l7).put _ nC⟩
 have s:es.length<=j:=vp hf;rw[HV s]at oC;clear s hf T;have lF:=fun g=>aK.qP5 g;have dw:=ajE (n:=n) (es:=es) (rs:=rs) aJ;have bh:=O;rw[faK_nil n es es]at bh;have cW:=fun f (hf:f∈IN n rs)=>Uj hR hA G hf;refine sFa lF ?_;refine aab.intro (fun k fr o=>∃(j:Nat),k=(IN n rs).length-j/\j<=(IN n rs).length/\fr=mkF [(7,pv),(8,sL (Z H) n n),(9,sL (Z ⟨A,0,Y⟩) (Es n es).length (Es n es).length),(10,sL (Z ⟨C,0,Y⟩) (Es n es).length (Es n es).length),(11,sL (Z ⟨D,0,Y⟩) (Es n es).length (Es n es).length),(88,fv),(89,.int .i64 (IN n rs).length),(90,.int .i64 j)]/\
   o.own H=Z (.cells (Bp L))/\o.own A=Z (.cells (Bp V))/\o.own C=Z (.cells (Bp ((Es n es).map fun a=>((Gn es es a:Nat):Int))))/\o.own D=Z (.cells (Bp ((Es n es).map fun a=>((sA es ((IN n rs).take j) a:Nat):Int))))/\Le M o)
  (IN n rs).length [(7,pv),(8,sL (Z H) n n),(9,sL (Z ⟨A,0,Y⟩) (Es n es).length (Es n es).length),(10,sL (Z ⟨C,0,Y⟩) (Es n es).length (Es n es).length),(11,sL (Z ⟨D,0,Y⟩) (Es n es).length (Es n es).length),(88,fv),(89,.int .i64 (IN n rs).length),(90,(0:Nat))] fD
  ⟨0,rfl,abe _,rfl,U,oA,oC,bh,I⟩ ?_
 clear bh oC O oA U I y;clear r j;rintro k fr r y ⟨j,rfl,T,rfl,U,oA,oC,O,I⟩;refine sSs ?_;refine Kl.intro (fun Q=>?_) (fun hf=>?_)
 .have d:j<(IN n rs).length:=CC Q;clear Q;have cZ:=aK.Wm j d;obtain⟨u,W,hu⟩:=aK.NS j d;have ay:=W r I;obtain⟨bk,v,ag,c0⟩:=cW (IN n rs)[j] (aev d);have S:(IN n rs).take (j+1)=(IN n rs).take j++[(IN n rs)[j]]:=EL d;generalize (IN n rs)[j]=f at*;have b5:=hu.TA 0 bk;have b6:=(hu.le Nn.RP I).Uc 0 bk;rw[head_get bk,c0]at b6;simp only[Dl]at b5;obtain⟨q,J,bb,cU⟩:=HP.get hR ag;have ae:=Kx H n .i64 v ag;have bg:=XP U bb;have aq:=Kx D (Es n es).length .i64 q J;have ar:=XP O (aip (f:=fun a=>((sA es ((IN n rs).take j) a:Nat):Int)) J);have hle:sA es ((IN n rs).take j) (Es n es)[q]<=40000:=EP (faK_le _ _ _) hGr;have K:=cnt_ok hle;have b8:=stI O (i:=q) hGr (((sA es ((IN n rs).take j) (Es n es)[q]:Nat):Int)+1);have al:=faK_step hR (l:=(IN n rs).take j) (e:=f) J hGr;rw[<-S]at al;rw[<-al]at b8;have X:=aaa j NH;refine sFa (aga cZ ay b5 b6 ae bg aq ar K b8 X) ?_;exact lgA (JS d) ⟨j+1,rfl,d,rfl,by grind[aai.By],by grind[aai.By],by grind[aai.By],aai.Y3 _ _ _,I.put _ nD⟩
 have s:(IN n rs).length<=j:=vp hf;rw[HV s]at O;clear s hf T;refine sFa lp ?_;refine aab.intro (fun k fr o=>∃(i:Nat),k=(Es n es).length-i/\i<=(Es n es).length/\fr=mkF [(9,sL (Z ⟨A,0,Y⟩) (Es n es).length (Es n es).length),(10,sL (Z ⟨C,0,Y⟩) (Es n es).length (Es n es).length),(11,sL (Z ⟨D,0,Y⟩) (Es n es).length (Es n es).length),(107,.int .i64 (Es n es).length),(108,i)]/\
   (∀j (T:j<(Es n es).length),j<i->0<Gn es es (Es n es)[j]->(Ic n es (Es n es)[j]).length+sA es (IN n rs) (Es n es)[j]=Gn es es (Es n es)[j]+2)/\o=r)
  (Es n es).length [(9,sL (Z ⟨A,0,Y⟩) (Es n es).length (Es n es).length),(10,sL (Z ⟨C,0,Y⟩) (Es n es).length (Es n es).length),(11,sL (Z ⟨D,0,Y⟩) (Es n es).length (Es n es).length),(107,.int .i64 (Es n es).length),(108,(0:Nat))] fD
  ⟨0,rfl,abe _,rfl,fun j _ h=>absurd h (aeA _),rfl⟩ ?_
 rintro k fr o-⟨i,rfl,hi,rfl,c9,rfl⟩;refine sSs ?_;refine Kl.intro (fun Q=>?_) (fun hf=>?_)
 .have m:i<(Es n es).length:=CC Q;clear Q;have bm:=Kx A (Es n es).length .i64 i m;have ai:=Kx C (Es n es).length .i64 i m;have aq:=Kx D (Es n es).length .i64 i m;have bo:=XP oA (bI i m m);have aj:=XP oC (aip (f:=fun a=>((Gn es es a:Nat):Int)) m);have ar:=XP O (aip (f:=fun a=>((sA es (IN n rs) a:Nat):Int)) m);have hle:Gn es es (Es n es)[i]<=40000:=EP (edK_le _ _ _) NH;have c3:sA es (IN n rs) (Es n es)[i]<=40000:=EP (faK_le _ _ _) NH;have c4:(Ic n es (Es n es)[i]).length<=40000:=EP (ajj _ _ _) NH;have K:=cnt_ok2 hle;have br:=cnt_ok3 c4 c3;have aF:=aaa i NH;by_cases c1:0<Gn es es (Es n es)[i]
  .have d1:decide (((Gn es es (Es n es)[i]:Nat):Int)>0)=tT:=qL7 (pl_pos.2 c1);by_cases c2:(Ic n es (Es n es)[i]).length+sA es (IN n rs) (Es n es)[i]=Gn es es (Es n es)[i]+2
   .have d2:decide ((((Ic n es (Es n es)[i]).length:Nat):Int)+((sA es (IN n rs) (Es n es)[i]:Nat):Int)=((Gn es es (Es n es)[i]:Nat):Int)+2)=tT:=qL7 (pl_iff.2 c2);refine sSs ?_;refine gh (tA [0,1,2,3,4,5,6,7,8,9,10,11,12,13,14,15,16,17,18,19,20,21] .done) ?_;refine sFd (ahp bm ai aq bo aj ar K br d1 @d2 @bne.eq_1.{0} aF) ?_
    refine lgA (JS m) ⟨i+1,rfl,m,rfl,fun j T az hp=>?_,rfl⟩;grind
   .have d2:decide ((((Ic n es (Es n es)[i]).length:Nat):Int)+((sA es (IN n rs) (Es n es)[i]:Nat):Int)=((Gn es es (Es n es)[i]:Nat):Int)+2)=fF:=WA (fun e=>c2 (pl_iff.1 e));refine sSs ?_;refine gh (tA [0,1,2,3,4,5,6,7,8,9,10,11,12,13,14,15,16,17,18,19,20,21] .done) ?_;refine sFd (aga bm ai aq bo aj ar K br d1 @d2 @bne.eq_1.{0}) ?_
    grind[z8.not,Le.trans]
  .have d1:decide (((Gn es es (Es n es)[i]:Nat):Int)>0)=fF:=WA (fun e=>c1 (pl_pos.1 e));refine sSs ?_;refine gh (tA [0,1,2,3,4,5,6,7,8,9,10,11,12,13,14,15,16,17,18,19,20,21] .done) ?_;refine sFd (aga bm ai aq bo aj ar K br d1 @bne.eq_1.{0} aF) ?_
   refine lgA (JS m) ⟨i+1,rfl,m,rfl,fun j T az hp=>?_,rfl⟩;grind
 have s:(Es n es).length<=i:=vp hf;refine sSs ?_;refine fin tT ⟨fun _ a ha hp=>?_,fun _=>rfl⟩ _ (bB.trans I);obtain⟨q,dy⟩:=vZ.1 ha;grind
end
end Go.Fw
