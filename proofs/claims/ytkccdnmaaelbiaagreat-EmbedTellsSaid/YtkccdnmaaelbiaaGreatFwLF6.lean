/- A text. -/
import Derived.Test.YtkccdnmaaelbiaaGreatFwLH3
set_option linter.all false
set_option maxRecDepth 99999
set_option maxHeartbeats 9999999
open Go.Proofs
namespace Go.Fw
section
attribute [local irreducible] Kp MQ lU rS KO KN KX KE VK Kl ZJ TC aab
attribute [local irreducible] agL ahV IN af5 agV aio
variable {M a c id j n:Nat} {P:List H8} {es:List Pr} {h:aae} {r:Nat->II} {rs:AM}
def tm_nat(a b:Nat):((a:Int)).tmod (b:Int)=((a%b:Nat):Int):=rfl
theorem Av.row(a:InR n es)(G:Av n es rs)(v:Nat)(b:j<(rs.getD v []).length):∃h:j<(Xl rs v).length,(rs.getD v [])[j]=(((Xl rs v)[j]:Nat):Int):=by grind[Av.back]
theorem rowD_len(a:InR n es)(ha:D3 es)(G:Av n es rs)(v:Nat):(aio n (Xl rs) v).length=((Zh n es).getD v []).length:=by grind[alA,aio]
theorem rowD_get(b:InR n es)(ha:D3 es)(G:Av n es rs)(v:Nat)(c:j<((Zh n es).getD v []).length)(a:j<(aio n (Xl rs) v).length):
  ∃w:Nat,((Zh n es).getD v [])[j]=(w:Int)/\(aio n (Xl rs) v)[j]=(v,w)/\w∈Xl rs v:=by grind[alA,aio]
def SA{l:List (Pr×Int)}(a:h.own M=some (.map (aan l)))(k:Pr):ahs Tryz.prog h 88 (.map (some M)) (UI k) false=some (.int .i64 ((agP l k).getD 0)):=Il a k false
theorem alY(a:h.own id=none):Z2 h (.slice (some ⟨id,0,none⟩) n c):=fun b hb=>by injection hb with hb;grind
theorem ahW(n:Nat)(r:Nat->II):∀k,(agV n r k).length<=k*n
 |0=>by grind[agV]
 |k+1=>by have a:=ahW n r k;grind[aio,ahE]
theorem alG(a:n<=200){P Q:List H8}(h:ddl n r=P++Q):(af5 r P).length+1<=40001:=by have b:=ahW n r n;rw[ahx,h,eR]at b;have h2:n*n<=200*200:=aiD a a;grind[af5]
theorem akD{d e:H8}:aj7 r (P++[d]) e↔aj7 r P e\/WD (Nv r) d e:=by grind[aj7]
theorem akE(f:H8->H8)(d:H8)(k:Nat):((List.range (k+1)).map fun i=>(((it f i d).1:Nat):Int))=((List.range k).map fun i=>(((it f i d).1:Nat):Int))++[(((it f k d).1:Nat):Int)]:=by grind[List.range_succ]
def ajO(r:Nat->II)(d:H8):((List.range (bt (Nv r) d)).map fun i=>(((it (Nv r) i d).1:Nat):Int))=aaa (zu r d):=by rw[aaa,zu,AA,C4,C4];rfl
def lt_next{k o:Nat}(h:k<=o)(a:k≠o):k<o:=NH
def aw_len(h:a+1<=40001):adA .i64 ((a:Int)+1)=((a+1:Nat):Int):=Tw a NH
def dec_succ(a:Nat):(((a+1:Nat):Int))≠0:=NH
def le_big(h:a+1<=40001):a<=100000000:=NH
open Classical in
theorem alZ(W0:LA)(rv:Value)(rs:AM)(h:aae)(hv:RL (RL RP) h rv rs):
  AC Tryz.prog W0 68 [rv] h fun x h'=>Le h h'/\((x=.tuple #[.slice none 0 0,.int .i64 70]/\¬∃es,bX ⟨(rs.length:Int),es⟩/\Av rs.length es rs)\/
   ∃es r,bX ⟨(rs.length:Int),es⟩/\Av rs.length es rs/\x=.tuple #[r,.int .i64 0]/\RL (RL RP) h' r (IN rs.length rs)):=by
 refine AC.vE ⟨Tryz.func68,rfl,WY⟩ Tryz.ntmps68 Tryz.results68 fun eg=>?_;simp only[Br,seval];refine Uy ?_;refine kCi Tryz.func118 (told_any W0 rv rs h hv) ?_;rintro x h1 w1 ⟨l1,⟨rfl,eh⟩|⟨es,ev,hr,G,rfl,a6,-⟩⟩
 .obtain⟨cq,h2,e2,az,l2,w2⟩:=newE4 w1;refine Sk (XC e2 az) ?_;grind[Le.trans]
 obtain⟨cq,h2,e2,az,l2,w2,L2⟩:=newG w1 (n:=(rs.length:Int)) a6.pr
 generalize h1.next=P4 at*
 have hR:=hr.GD;have hA:=hr.q9;have IR:=G.jD hR hA;have p:=TG IR;have dV:(rs.length:Int)<=200:=hr.n1;have dZ:es.length<=594:=hr.len;have aB:=l1.trans l2
 obtain⟨h3,e3,l3,w3,o3⟩:∃h3,h2.alloc (.map [])=h3/\Le h2 h3/\WF h3/\h3.own h2.next=some (.map []):=⟨_,rfl,(Le.refl h2).alloc w2 _,w2.alloc _,aae.zT _ _⟩
 have cr:h2.own h2.next=none:=(Le.refl h2).next w2 (qL0 _)
 have lr:=fun g=>hv.qP6 g;have F:∀v,v<rs.length->(rs.getD v []).length<rs.length:=fun v hv=>aij hR hA G hv;simp only[HO,seval,e2,az,e3,lr]
 generalize h2.next=U at*
 refine lIn (fun k fr N=>∃(i:Nat)(l:List (Pr×Pr)),k=rs.length-i/\i<=rs.length/\fr=mkF [(4,.pointer (some ⟨P4,0,none⟩)),(6,.map (some U)),(28,rv),(29,.int .i64 rs.length),(30,.int .i64 i)]/\
   N.own U=some (.map (ahL l))/\Le h2 N/\∀d:H8,d.1∈Xl rs d.2->d.2<i->ahK l (afZ d)=some (afZ (Nv (Xl rs) d))) ⟨0,[],rfl,WA _,rfl,o3,l3,fun d _ h=>by omega⟩ ?_
 clear o3 w3 l3 e3;clear h3;rintro k fr N a7 ⟨i,l,rfl,hi,rfl,oB,lq,hl⟩;refine Uy ?_;refine Kl.intro (fun O=>?_) (fun hf=>?_)
 .have A:i<rs.length:=CC O;clear O;have ar:=hv.qP7 i A;obtain⟨ru,ba,aC⟩:=hv.Wm i A;have bb:=ba N (aB.trans lq);rw[<-D4 (d:=[]) A]at aC;have ei:=F i A;have al:=fun j (hj:j<(rs.getD i []).length)=>G.row hR i hj;have hlen:(Xl rs i).length=(rs.getD i []).length:=by grind[Xl.eq_1]
  generalize rs.getD i []=row at*;have aq:=fun g=>aC.DH g;refine Sk (Yb ar bb aq) ?_;refine lIn (fun k fr u=>∃(j:Nat)(l:List (Pr×Pr)),k=row.length-j/\j<=row.length/\fr=mkF [(4,.pointer (some ⟨P4,0,none⟩)),(6,.map (some U)),(7,.int .i64 i),(8,ru),(28,rv),(29,.int .i64 rs.length),(30,.int .i64 i),(35,ru),(36,.int .i64 row.length),(37,.int .i64 j)]/\
    u.own U=some (.map (ahL l))/\Le h2 u/\(∀d:H8,d.1∈Xl rs d.2->d.2<i->ahK l (afZ d)=some (afZ (Nv (Xl rs) d)))/\∀(m:Nat)(V:m<(Xl rs i).length),m<j->ahK l (afZ ((Xl rs i)[m],i))=some (afZ (Nv (Xl rs) ((Xl rs i)[m],i)))) ⟨0,l,rfl,WA _,rfl,oB,lq,hl,fun m _ h=>by omega⟩ ?_
  clear oB hl bb;rintro k fr u W ⟨j,l,rfl,hj,rfl,oB,lz,hl,ek⟩;refine Uy ?_;refine Kl.intro (fun O=>?_) (fun hf=>?_)
  .have f:j<row.length:=CC O;clear O;have HZ:=aC.le Nn.RP (aB.trans lz);have ad:=HZ.TA j f;have ld:=HZ.Uc j f;have R:(j+1)%row.length<row.length:=OM _ NH;have cx:=HZ.TA ((j+1)%row.length) R;have bg:=HZ.Uc ((j+1)%row.length) R;obtain⟨cz,ej⟩:=al j f;obtain⟨en,em⟩:=al _ R;rw[ej]at ld;rw[em]at bg;have cC:=Qy (IR.nd i) cz;simp only[hlen]at cC;have X:=Tw j NH;have tm:=tm_nat (j+1) row.length;have dz:((row.length:Int)=0)=False:=eq_false NH;have av:Nv (Xl rs) ((Xl rs i)[j],i)=(i,(Xl rs i)[(j+1)%row.length]):=by grind[Nv.eq_1]
   have st:=alU oB (afZ ((Xl rs i)[j],i)) (afZ (Nv (Xl rs) ((Xl rs i)[j],i)));simp only[av,afZ]at st;simp only[HO,seval,ad,ld,xe,X,aq,tm,dz,cx,bg,ak4,st];refine lgA (JS f) ⟨j+1,_,rfl,f,rfl,aae.Y3 _ _ _,lz.put _ cr,fun d hd cN=>?_,fun m V eo=>?_⟩
   .rw[ajN,aal]
    .grind
    .intro e;have:=aiQ (a:=((Xl rs i)[j],i)) (b:=d) e;grind
   .rw[ajN];by_cases e:m=j
    .subst e;exact(AE rfl).trans (by rw[av];rfl)
    .rw[aal]
     .grind
     .intro e2;have:=aiQ (a:=((Xl rs i)[j],i)) (b:=((Xl rs i)[m],i)) e2;simp only[si,and_true]at this;have nd:=IR.nd i;rw[Gw,wI]at nd;grind
  .have aa:row.length<=j:=vp hf;have aD:=Tw i NH;refine Sk aD ?_;refine lgA (JS A) ⟨i+1,l,rfl,A,rfl,oB,lz,fun d hd cN=>?_⟩;by_cases e:d.2=i
   .obtain⟨a,b⟩:=d;simp only at e hd;subst e;obtain⟨m,V,em⟩:=fj.1 hd;grind
   grind
 have aa:rs.length<=i:=vp hf;have bh:∀d:H8,d∈dl rs.length (Xl rs)->ahK l (afZ d)=some (afZ (Nv (Xl rs) d)):=fun d hd=>by grind[IP,V7.sy,V7.lt]
 clear hl hf aa hi;obtain⟨hb,eb,lb,wb,ob⟩:=Tt a7 []
 obtain⟨L,ec,lc,wc,oc⟩:∃L,hb.alloc (.map [])=L/\Le hb L/\WF L/\L.own hb.next=some (.map []):=⟨_,rfl,(Le.refl hb).alloc wb _,wb.alloc _,aae.zT _ _⟩
 have cP:N.own N.next=none:=(Le.refl N).next a7 (qL0 _)
 have cR:hb.own hb.next=none:=(Le.refl hb).next wb (qL0 _)
 have cU:N.next≠hb.next:=fun e=>by grind
 have bj:abB Tryz.prog N 27 0 []=some (.slice (some ⟨N.next,0,none⟩) 0 0,hb):=by rw[<-eb];exact mkL52e N
 have cW:=(L2 L ((lq.trans lb).trans lc)).1;refine Sk (Yb bj ec cW) ?_
 generalize N.next=F0 at*
 generalize hb.next=c at*
 have bk:(L.kill c).own F0=some (.cells []):=by grind[aae.xJ,Le.own]
 have bm:Le N ((L.kill c).kill F0):=((lb.trans lc).aii (lb.none cR)).aii cP;refine kCi zj (AC.frame oc (AC.frame bk (oe W0 _ rs.length es ((L.kill c).kill F0) ⟨ev,rfl,(a6.pr.le l2).le (lq.trans bm)⟩ hr))) ?_;rintro bv h5 w5 ⟨g1,⟨g,⟨aE,lg⟩,nF,rfl⟩,ep,rfl⟩;have nM:g.own c=none:=by grind[aae.By]
 have bo:=bm.trans lg;have cZ:g.own U=some (.map (ahL l)):=bo.own _ _ oB;have er:U≠c:=fun e=>by grind
 have c0:=Xq rs.length es;have br:=fun g=>aE.qP5 g;rw[c0]at br;have bx:Le g ((g.put F0 (.cells [])).put c (.map [])):=((Le.refl g).put _ nF).put _ nM;have g0:Lj (RL RP) (rem [c] ((g.put F0 (.cells [])).put c (.map []))) (.slice (some ⟨F0,0,none⟩) 0 0) (af5 (Xl rs) (agV rs.length (Xl rs) 0)):=by
  have:af5 (Xl rs) (agV rs.length (Xl rs) 0)=[]:=by grind[af5,agV]
  grind[Lj.empty,Th,aae.By,aae.Y3]
 have bB:Z2 g (.slice (some ⟨F0,0,none⟩) 0 0):=fun b hb=>by injection hb with hb;grind
 have bF:blk (.slice (some ⟨F0,0,none⟩) 0 0)≠some c:=fun e=>by injection e with e;exact cU e
 generalize Value.slice (some ⟨F0,0,none⟩) 0 0=c3 at*;have J:rs.length<=200:=NH;refine Sk br ?_;refine lIn (fun k fr z=>∃(i:Nat)(r:Value)(m:List (Pr×Int)),k=rs.length-i/\i<=rs.length/\fr=mkF [(6,.map (some U)),(11,r),(12,.map (some c)),(61,bv),(62,.int .i64 rs.length),(63,.int .i64 i)]/\
   z.own c=some (.map (aan m))/\Lj (RL RP) (rem [c] z) r (af5 (Xl rs) (agV rs.length (Xl rs) i))/\blk r≠some c/\Le g z/\Z2 g r/\∀d∈dl rs.length (Xl rs),((agP m (afZ d)).getD 0≠0↔aj7 (Xl rs) (agV rs.length (Xl rs) i) d)) ⟨0,c3,[],rfl,WA _,rfl,aae.Y3 _ _ _,g0,bF,bx,bB,fun d _=>by simp[agP,aj7,agV]⟩ ?_
 clear g0 bF bB bx w5 bj;rintro k fr z M ⟨i,r,m,rfl,hi,rfl,oM,gf,bf,H,af,V⟩;refine Uy ?_;refine Kl.intro (fun O=>?_) (fun hf=>?_)
 rotate_left
 .have aa:rs.length<=i:=vp hf;obtain rfl:i=rs.length:=NH;rw[ahx,aiB]at gf;refine Uy ?_;exact⟨aB.trans (lq.trans (bo.trans H)),.inr ⟨es,r,hr,G,rfl,(gf.rl (Nn.RL Nn.RP)).le (Nn.RL Nn.RP) (Sa _ _)⟩⟩
 have A:i<rs.length:=CC O;clear O;have ab:=aE.NS i NH;obtain⟨bu,bH,aF⟩:=aE.Wm i NH;have bI:=bH z H;rw[<-D4 (d:=[]) NH]at aF;have et:=rowD_len hR hA G i;have c4:=fun j hj c5=>rowD_get hR hA G i (j:=j) hj c5;have c6:=fun j hj=>ddl_at (n:=rs.length) (Xl rs) (v:=i) (j:=j) A hj;have aH:=ahE rs.length (Xl rs) i;have c9:=bV rs.length es _ (j9 (show i<(Zh rs.length es).length by omega));rw[<-D4 (d:=[]) NH]at c9;generalize (Zh rs.length es).getD i []=Rw at*;generalize aio rs.length (Xl rs) i=D at*;have lR:=fun g=>aF.DH g;simp only[HO,seval,ab,bI,lR];refine lIn (fun k fr u=>∃(j:Nat)(r:Value)(m:List (Pr×Int)),k=Rw.length-j/\j<=Rw.length/\fr=mkF [(6,.map (some U)),(11,r),(12,.map (some c)),(13,.int .i64 i),(61,bv),(62,.int .i64 rs.length),(63,.int .i64 i),(68,bu),(69,.int .i64 Rw.length),(70,.int .i64 j)]/\
   u.own c=some (.map (aan m))/\Lj (RL RP) (rem [c] u) r (af5 (Xl rs) (agV rs.length (Xl rs) i++D.take j))/\blk r≠some c/\Le g u/\Z2 g r/\∀d∈dl rs.length (Xl rs),((agP m (afZ d)).getD 0≠0↔aj7 (Xl rs) (agV rs.length (Xl rs) i++D.take j) d)) ⟨0,r,m,rfl,WA _,rfl,oM,pw,bf,H,af,pw⟩ ?_
 clear oM gf bf H af V bI M;clear z r m;rintro k fr z M ⟨j,r,m,rfl,hj,rfl,oM,gf,bf,H,af,V⟩;refine Uy ?_;refine Kl.intro (fun O=>?_) (fun hf=>?_)
 rotate_left
 .have aa:Rw.length<=j:=vp hf;rw[HV NH,<-aH]at gf V;have aD:=Tw i NH;refine Sk aD ?_;exact lgA (JS A) ⟨i+1,r,m,rfl,A,rfl,oM,gf,bf,H,af,V⟩
 have f:j<Rw.length:=CC O;clear O;have aJ:j<D.length:=NH;obtain⟨w,ew,ed,da⟩:=c4 j f aJ;obtain⟨Q,hQ⟩:=c6 j aJ;have tk:D.take (j+1)=D.take j++[D[j]]:=EL aJ;rw[ed]at hQ tk;have bN:agV rs.length (Xl rs) i++D.take (j+1)=(agV rs.length (Xl rs) i++D.take j)++[(i,w)]:=pw;generalize agV rs.length (Xl rs) i++D.take j=P at*;have I:((i,w):H8)∈dl rs.length (Xl rs):=(IP IR).2 da;have eu:=hd_met IR hQ;have bQ:=alG J hQ;have ey:=aiY (Xl rs) P (i,w);have HB:=aF.le Nn.RP H;have aj:=HB.TA j f;have lj:=HB.Uc j f;rw[ew]at lj;have X:=Tw j NH;obtain⟨eA,C,eE,sE,lE,wE,oE⟩:=Ut M ((i:Int),(w:Int))
 have nE:z.own z.next=none:=(Le.refl z).next M (qL0 _)
 generalize z.next=E0 at*
 have aK:=lE.own _ _ oM;have lk:=SA aK ((i:Int),(w:Int));have bT:=V _ I;have bW:=uM oE;have aP:=H.trans lE;have aT:=gf.le (Nn.RL Nn.RP) (lE.Xm (l:=[c]));by_cases cm:(agP m ((i:Int),(w:Int))).getD 0=0
 rotate_left
 .have dm:decide ((agP m ((i:Int),(w:Int))).getD 0=0)=false:=Sb cm;refine Sk (rk aj lj @xe eE sE bW @ahn lk @bne.eq_1.{0} dm X) ?_
  have S:=bT.1 cm;exact lgA (JS f) ⟨j+1,r,m,rfl,f,rfl,aK,pw,bf,aP,af,fun e he=>by rw[bN,akD,V e he];exact⟨.inl,fun x=>x.elim id fun o=>by obtain⟨y,hy,o'⟩:=S;exact⟨y,hy,o'.trans o⟩⟩⟩
 have dm:decide ((agP m ((i:Int),(w:Int))).getD 0=0)=true:=XJ cm;have db:¬aj7 (Xl rs) P (i,w):=fun h=>bT.2 h cm;obtain⟨o0,o1,o2⟩:=aaI p I;have ef:bt (Nv (Xl rs)) (i,w)<=40000:=by have h1:=agO (Ri p I) (B:=ddl rs.length (Xl rs)) fun y hy=>(Ks IR).2 ((IP IR).1 (p.sP I ((vA p I).1 hy)));rw[oN]at h1;have h2:=ahW rs.length (Xl rs) rs.length;rw[ahx]at h2;have h3:rs.length*rs.length<=200*200:=aiD J J;omega
 obtain⟨hF,eF,lF,wF,oF⟩:=Tt wE []
 have nC:C.own C.next=none:=(Le.refl C).next wE (qL0 _)
 have bY:abB Tryz.prog C 49 0 []=some (.slice (some ⟨C.next,0,none⟩) 0 0,hF):=by rw[<-eF];exact mkI0 C
 generalize C.next=C0 at*
 have aV:GI hF (.slice (some ⟨C0,0,none⟩) 0 0) []:=GS.full (k:=1) (n:=0) oF rfl WY;have aW:Z2 C (.slice (some ⟨C0,0,none⟩) 0 0):=alY nC;generalize Value.slice (some ⟨C0,0,none⟩) 0 0=ae at*;have ldF:=uM (lF.own _ _ oE);obtain⟨dc,hG,eG,sG,lG,wG,oG⟩:=Ut wF ((i:Int),(w:Int))
 have nG:hF.own hF.next=none:=(Le.refl hF).next wF (qL0 _)
 generalize hF.next=E1 at*
 have K0:Le (rem [c] C) hG:=(Sa _ _).trans (lF.trans lG);have kM:(rem [c] C).own c=none:=by grind[DC]
 have kB:(rem [c] C).own U=some (.map (ahL l)):=Th.2 ⟨aP.own _ _ cZ,pw⟩;have bZ:Z2 (rem [c] C) ae:=fun b hb=>(Sa [c] C).none (aW b hb);have b0:=lG.own _ _ (lF.own _ _ aK);have cM:blk ae≠some c:=fun e=>by have:=aW _ e;grind
 have cE:blk ae≠some E1:=fun e=>GS.Sy aV e nG;have eM:E1≠c:=fun e=>by grind
 have kE:(rem [c] C).own E1=none:=(Sa [c] C).none (lF.none nG);have dd:Le g (rem [c] C):=aP.iV (l:=[c]) fun b hb=>by grind
 have de:=fun g=>(aT.rl (Nn.RL Nn.RP)).qP5 g;have b1:=aw_len bQ;simp only[HO,seval,aj,lj,xe,eE,sE,bW,ahn,lk,bne,dm,bY,ldF,eG,sG];refine lIn (fun kk fr u=>∃(k:Nat)(cv:Value)(E:Nat)(K:List (Pr×Int)),kk=bt (Nv (Xl rs)) (i,w)-k/\k<=bt (Nv (Xl rs)) (i,w)/\fr=mkF [(6,.map (some U)),(11,r),(12,.map (some c)),(13,.int .i64 i),(18,cv),(19,.pointer (some ⟨E,0,none⟩)),(61,bv),(62,.int .i64 rs.length),(63,.int .i64 i),(68,bu),(69,.int .i64 Rw.length),(70,.int .i64 j)]/\
   u.own E=some (.cells (xM (afZ (it (Nv (Xl rs)) k (i,w)))))/\u.own c=some (.map (aan K))/\GI u cv ((List.range k).map fun x=>(((it (Nv (Xl rs)) x (i,w)).1:Nat):Int))/\Le (rem [c] C) u/\Z2 (rem [c] C) cv/\blk cv≠some c/\blk cv≠some E/\E≠c/\
   ∀e∈dl rs.length (Xl rs),((agP K (afZ e)).getD 0≠0↔aj7 (Xl rs) P e\/∃x,x<k/\it (Nv (Xl rs)) x (i,w)=e)) ⟨0,ae,E1,m,rfl,WA _,rfl,oG,b0,GI.le aV lG,K0,bZ,cM,cE,eM,fun e he=>by grind⟩ ?_
 clear K0 bZ b0 cM cE eM kE aV aW oG nG wG lG sG eG ldF bY nC oF wF lF eF;clear hG dc hF;rintro kk fr u W ⟨k,cv,E,K,rfl,hk,rfl,df,T,gc,lz,ac,cM,cE,eM,aX⟩;have b2:=p.uN I k;have b3:=aX _ b2;have b4:=SA T (afZ (it (Nv (Xl rs)) k (i,w)));have b5:=uM df;by_cases ck:k=bt (Nv (Xl rs)) (i,w)
 .have S:(agP K (afZ (it (Nv (Xl rs)) k (i,w)))).getD 0≠0:=b3.2 (.inr ⟨0,NH,by rw[ck,o1];rfl⟩);have dk:decide ((agP K (afZ (it (Nv (Xl rs)) k (i,w)))).getD 0=0)=false:=Sb S;refine Sk (xU b5 @ahn b4 dk) ?_;rw[ck,ajO]at gc;have dj:Le (rem [c] C) (rem [c] u):=lz.iV fun b hb=>by grind
  have dp:=aT.le (Nn.RL Nn.RP) dj;have hb:∀b,blk r=some b->b∉[c]:=fun b hb V=>by grind
  have dq:∀b,blk r=some b->blk cv≠some b:=fun b hb L=>by obtain⟨us,g1,_⟩:=aT;exact GS.Sy g1 hb (ac b L)
  have gu:RL RP (rem [c] (rem (bl r) u)) cv (aaa (zu (Xl rs) (i,w))):=by
   have q:GI (rem [c] (rem (bl r) u)) cv (aaa (zu (Xl rs) (i,w))):=GS.Fi (GS.Fi gc (l:=bl r) fun b hb L=>dq b (Zr.1 L) hb) (l:=[c]) fun b sZ L=>by grind
   exact q.rl
  obtain⟨h7,dv,h8,e7,e8,eB,l7,w7,f8,k8⟩:=Lj.mG (P:=Tryz.prog) (t:=27) (Nn.RL Nn.RP) Ji dp W gu gu.sl.one (le_big bQ) hb (fun b hb=>by rw[jf]at hb;subst hb;rw[T];simp);obtain⟨dw,dA⟩:=k8 c _ T bf;obtain⟨l8,a8⟩:=f8 g (dd.trans lz) af;refine Sk (xU (alw u gu.sl) e7 e8 X) ?_;refine lgA (JS f) ⟨j+1,dv,K,rfl,f,rfl,dw,pw,dA,l8,a8,fun e he=>?_⟩;rw[bN,akD,aX e he];constructor
  .rintro(h|⟨x,_,h⟩)
   .exact .inl h
   .exact .inr ⟨x,h⟩
  .rintro(h|⟨x,h⟩)
   .exact .inl h
   .refine .inr ⟨x%bt (Nv (Xl rs)) (i,w),by rw[ck];exact OM _ o0,?_⟩;rw[<-QF p I];exact h
 .have b6:=lt_next hk ck;have b8:¬((agP K (afZ (it (Nv (Xl rs)) k (i,w)))).getD 0≠0):=fun h=>by
   rcases b3.1 h with⟨y,hy,o⟩|⟨x,hx,e⟩
   .have eC:y∈dl rs.length (Xl rs):=(IP IR).2 ((Ks IR).1 pw);exact db ⟨y,hy,o.trans (p.xw I ⟨k,rfl⟩)⟩
   grind[zk]
  have dk:decide ((agP K (afZ (it (Nv (Xl rs)) k (i,w)))).getD 0=0)=true:=XJ (ff b8);have ay:=bh _ b2;have a1:Nv (Xl rs) (it (Nv (Xl rs)) k (i,w))=it (Nv (Xl rs)) (k+1) (i,w):=rfl;rw[a1]at ay;have ag:=akE (Nv (Xl rs)) (i,w) k;have st1:=pW T (afZ (it (Nv (Xl rs)) k (i,w))) ((af5 (Xl rs) P).length+1:Nat);generalize hD:it (Nv (Xl rs)) k (i,w)=s at*;have dB:=aae.Y3 u c (.map (aan (ahU K (afZ s) ((af5 (Xl rs) P).length+1:Nat))));have dE:Le (rem [c] C) (u.put c (.map (aan (ahU K (afZ s) ((af5 (Xl rs) P).length+1:Nat))))):=lz.put _ kM;have dF:WF (u.put c (.map (aan (ahU K (afZ s) ((af5 (Xl rs) P).length+1:Nat))))):=W.put _ (W.lt T);have b9:(u.put c (.map (aan (ahU K (afZ s) ((af5 (Xl rs) P).length+1:Nat))))).own E=some (.cells (xM (afZ s))):=by grind[aae.By]
  have dG:GI (u.put c (.map (aan (ahU K (afZ s) ((af5 (Xl rs) P).length+1:Nat))))) cv ((List.range k).map fun x=>(((it (Nv (Xl rs)) x (i,w)).1:Nat):Int)):=GS.put gc _ cM;generalize u.put c (.map (aan (ahU K (afZ s) ((af5 (Xl rs) P).length+1:Nat))))=dH at*;have m0:acd Tryz.prog dH 3 ⟨E,0,none⟩=some (.int .i64 (s.1:Int)):=lK b9;obtain⟨cc,h4,h5,e4,e5,g5,w5,l4,f5,k5⟩:=dG.push dF ((s.1:Nat):Int) pw;obtain⟨l5,a5⟩:=f5 _ dE ac;obtain⟨dI,dK⟩:=k5 c _ dB cM;obtain⟨dL,eD⟩:=k5 E _ b9 cE;have dM:=uM dL;obtain⟨eH,h6,e6,s6,l6,w6,o6⟩:=Ut w5 (afZ s)
  have cd:h5.own h5.next=none:=(Le.refl h5).next w5 (qL0 _)
  generalize h5.next=E' at*
  have dO:=uM o6;have cf:=l5.trans l6;have dQ:=ak5 (cf.own _ _ kB) ay;have st2:=ajZ (p:=afZ (it (Nv (Xl rs)) (k+1) (i,w))) o6;have cg:E'≠c:=fun e=>by grind
  have cp:blk cc≠some E':=fun e=>GS.Sy g5 e cd;have dS:=aae.Y3 h6 E' (.cells (xM (afZ (it (Nv (Xl rs)) (k+1) (i,w)))));have dT:(h6.put E' (.cells (xM (afZ (it (Nv (Xl rs)) (k+1) (i,w)))))).own c=some (.map (aan (ahU K (afZ s) ((af5 (Xl rs) P).length+1:Nat)))):=by rw[aae.By _ _ _ _ (Hs cg)];exact l6.own _ _ dI
  simp only[HO,seval,b5,ahn,b4,dk,de,b1,afa,st1,Dh,Ip,Gc,m0,e4,e5,dM,e6,s6,akC,dO,dQ,st2];refine lgA (JS b6) ⟨k+1,cc,E',_,rfl,b6,rfl,dS,dT,by rw[ag];exact GS.put (GI.le g5 l6) _ cp,cf.put _ (l5.none cd),a5,dK,cp,cg,fun e he=>?_⟩;rw[XR];by_cases ee:afZ s=afZ e
  .have:=aiQ ee;subst this;rw[AE rfl,Option.getD_some];exact⟨fun _=>.inr ⟨k,FD k,hD⟩,fun _=>dec_succ _⟩
  .rw[aal ee,aX e he];constructor
   .rintro(h|⟨x,hx,h⟩)
    .exact .inl h
    .exact .inr ⟨x,aeE hx,h⟩
   .rintro(h|⟨x,hx,h⟩)
    .exact .inl h
    .refine .inr ⟨x,af2 (Nat.le_of_lt_succ hx) fun e2=>ee ?_,h⟩;grind
end
section
attribute [local instance] Classical.propDecidable
variable {A B C T a b i j n q v:Nat} {L:RZ} {es:List Pr} {h h' hh:aae} {r:Nat->II} {rs:AM} {x:List Value} {α:Type}
noncomputable def VF{α:Type}(P:Nat->α->Prop)(l:List α)(a:Nat):Nat:=(l.filter fun e=>decide (P a e)).length
theorem aiH(P:Nat->α->Prop)(l:List α)(a:Nat):VF P l a<=l.length:=ajF _ _
theorem ajP(P:Nat->α->Prop)(l:List α)(e:α)(a:Nat):VF P (l++[e]) a=VF P l a+if P a e then 1 else 0:=by grind[VF]
theorem ajQ{P:Nat->α->Prop}{l:List α}{e:α}{hs:II}(b:q<hs.length)(c:P hs[q] e)(h2:∀i (h:i<hs.length),P hs[i] e->i=q):
  (hs.map fun a=>((VF P (l++[e]) a:Nat):Int))=(hs.map fun a=>((VF P l a:Nat):Int)).set q (((VF P l hs[q]:Nat):Int)+1):=by
 apply qQ
 all_goals grind[ajP]
noncomputable def Gn(es l:List Pr)(a:Nat):Nat:=VF (fun a (e:Pr)=>Pu es a e.1.toNat) l a
noncomputable def sA(es:List Pr)(l:AM)(a:Nat):Nat:=VF (fun a (f:RZ)=>Pu es a (f.headD 0).toNat) l a
def z8(n:Nat)(es:List Pr)(rs:AM):Prop:=∀a∈Es n es,0<Gn es es a->(Ic n es a).length+sA es (IN n rs) a=Gn es es a+2
def ahX(n:Nat)(es:List Pr)(i:Nat)(L:RZ):Prop:=L.length=n/\∀(j a v:Nat),j<i->(Es n es)[j]?=some a->v<n->Pu es a v->L[v]?=some (j:Int)
theorem ahX.zero:ahX n es 0 (List.replicate n 0):=⟨Ma,pw⟩
theorem ait(e:InR n es)(hi:(Es n es)[i]?=some a)(c:(Es n es)[j]?=some b)(ha:Pu es a v)(hb:Pu es b v):i=j:=by have d:a=b:=rf (BS hi) (BS c) (ha.trans (hb.symm));grind[qD,List.pairwise_iff_getElem]
theorem ahX.put(f:InR n es)(H:ahX n es i L)(hi:(Es n es)[i]?=some a)(g:Pu es a v):ahX n es i (L.set v (i:Int)):=by
 refine⟨by rw[Zw];exact H.1,fun j b w e hb hw c=>?_⟩;have d:v≠w:=by grind[ait]
 rw[amo d];exact H.2 j b w e hb hw c
theorem ahX.next(H:ahX n es i L)(hi:(Es n es)[i]?=some a)(h:∀v∈Ic n es a,L[v]?=some (i:Int)):ahX n es (i+1) L:=by
 refine⟨H.1,fun j b w e hb hw d=>?_⟩;by_cases c:j=i
 .grind[mY]
 .exact H.2 j b w NH hb hw d
theorem ahX.get(e:InR n es)(H:ahX n es (Es n es).length L)(b:v<n):∃q,∃h:q<(Es n es).length,L[v]?=some (q:Int)/\Pu es (Es n es)[q] v:=by obtain⟨a,ha,f⟩:=B6 e v b;obtain⟨q,c⟩:=qy.1 ha;obtain⟨d,h2⟩:=Ny.1 c;exact⟨q,d,H.2 q a v d c b f,pw⟩
def ajR(b:InR n es)(h:q<(Es n es).length)(c:Pu es (Es n es)[q] v):∀i (h:i<(Es n es).length),Pu es (Es n es)[i] v->i=q:=fun i hi a=>ait b (yY hi) (yY h) a c
theorem JE(R:V7 n r){d:H8}(hd:d∈dl n r):(aaa (zu r d)).headD 0=(d.1:Int)/\0<(aaa (zu r d)).length:=by
 have:=(aaI (TG R) hd).1;have e:List.range (bt (Nv r) d)=0::(List.range' 1 (bt (Nv r) d-1)):=by rw[List.range_eq_range',show bt (Nv r) d=(bt (Nv r) d-1)+1 from by omega,afu];simp
 refine⟨?_,by grind[aaa,zu,AA]⟩;simp only[aaa,zu,AA,e,U9,qL198];rfl
theorem Uj(a:InR n es)(ha:D3 es)(G:Av n es rs){f:RZ}(hf:f∈IN n rs):0<f.length/\∃v:Nat,v<n/\f.headD 0=(v:Int):=by have R:=G.jD a ha;rw[IN,N8]at hf;grind[vf.eq_1,gQ,dl,IP,JE]
theorem ajp{es:List Pr}(a:n<=200):(IN n rs).length<=40000:=by have b:ddl n (Xl rs)=ddl n (Xl rs)++[]:=(Ua _).symm;grind[alG,aiB]
def stI(o:hh.own T=some (.cells (Bp L)))(hi:i<L.length)(x:Int):
  acs Tryz.prog hh 3 (.pointer (some ⟨T,i,none⟩)) (.int .i64 x)=some (hh.put T (.cells (Bp (L.set i x)))):=by rw[QB (P:=Tryz.prog) (t:=3) (x:=.int .i64 x) Ac Ji o (off:=i) (by rw[uE];exact hi) rfl rfl,yy]
def XP{l:Int}(o:hh.own T=some (.cells (Bp L)))(a:L[i]?=some l):acd Tryz.prog hh 3 ⟨T,i,none⟩=some (.int .i64 l):=by rw[Fq Ac rfl o];simp[Bp,a]
def Kx(T m:Nat)(k:IntKind)(j:Nat)(a:j<m):abX Tryz.prog 49 (.slice (some ⟨T,0,none⟩) m m) (.int k j)=some (.pointer (some ⟨T,j,none⟩)):=by rw[Wc Mb Ac Ji j a];simp[Ip]
structure aic (h h':aae) (A B C:Nat) (x:List Value):Prop where
 le:Le h h'
 wf:WF h'
 oA:h'.own A=some (.cells x)
 oB:h'.own B=some (.cells x)
 oC:h'.own C=some (.cells x)
 nA:h.own A=none
 nB:h.own B=none
 nC:h.own C=none
 ab:A≠B
 ac:A≠C
 bc:B≠C
theorem new3(hw:WF h)(x:List Value):aic h (((h.alloc (.cells x)).alloc (.cells x)).alloc (.cells x)) h.next (h.next+1) (h.next+1+1) x:=by
 have a:∀x,h.next<=x->h.own x=none:=fun x b=>(Le.refl h).next hw b
 exact⟨by grind[Le.refl,Le.alloc,WF.alloc],(by grind[WF.alloc]),by grind[Mh],by simp[Mh,om],by simp[Mh,om],pw,a _ NH,a _ NH,NH,NH,NH⟩
def aic.s12(N:aic h h' A B C x):aic h h' B A C x:=⟨N.le,N.wf,N.oB,N.oA,N.oC,N.nB,N.nA,N.nC,N.ab.symm,N.bc,N.ac⟩
def aic.s23(N:aic h h' A B C x):aic h h' A C B x:=⟨N.le,N.wf,N.oA,N.oC,N.oB,N.nA,N.nC,N.nB,N.ac,N.ab,N.bc.symm⟩
attribute [local irreducible] Kp MQ lU rS KO KN KX KE VK Kl ZJ TC aab
theorem Av.nodup(a:InR n es)(ha:D3 es)(G:Av n es rs)(b:v<n):(rs.getD v []).Nodup:=(G.perm v b).nodup_iff.2 (Gw.2 ((KW es a ha v).imp fun h=>by omega))
theorem beh_eq(d:InR n es)(ha:D3 es)(G:Av n es rs)(hd:b∈Xl rs a):
  b<n/\∃i,aiP (rs.getD b []) (a:Int) i/\∀g:(i+1)%(rs.getD b []).length<(rs.getD b []).length,(rs.getD b [])[(i+1)%(rs.getD b []).length]=(((Nv (Xl rs) (a,b)).2:Nat):Int):=by
 have R:=G.jD d ha;have hb:=R.sy _ _ hd;have c:=R.lt _ _ hb;refine⟨c,?_⟩;obtain⟨i,hi⟩:=qy.1 hb;obtain⟨e,l⟩:=Ny.1 hi;have o:(Xl rs b).length=(rs.getD b []).length:=by grind[Xl.eq_1]
 obtain⟨p,r⟩:=G.row d b (j:=i) NH;have h:(rs.getD b [])[i]?=some (a:Int):=pw;obtain⟨q,k⟩:=ahq (G.nodup d ha c) (BS h);obtain rfl:=k.2 i h;refine⟨i,k,fun g=>?_⟩;obtain⟨m,f⟩:=G.row d b g;rw[f];congr 1;have:=Qy (R.nd b) e;grind[Nv.eq_1]
def mkI1(hw:WF h)(x:Int):∃h',abB Tryz.prog h 49 1 [(0,.int .i64 x)]=some (.slice (some ⟨h.next,0,none⟩) 1 1,h')/\Le h h'/\WF h'/\GI h' (.slice (some ⟨h.next,0,none⟩) 1 1) [x]/\Z2 h (.slice (some ⟨h.next,0,none⟩) 1 1):=by
 obtain⟨h',e,l,w,o⟩:=Tt hw [.int .i64 x];refine⟨h',by rw[DQ,e],l,w,GS.full (k:=1) (n:=1) o rfl WY,fun b hb=>?_⟩;injection hb with hb;subst hb
 exact(Le.refl h).next hw (qL0 _)
def row_len(a:bX ⟨(n:Int),es⟩)(G:Av n es rs)(b:v<n):(rs.getD v []).length<=100000:=by have c:=aij a.GD a.q9 G b;have h2:(n:Int)<=200:=a.n1;omega
theorem ord_le(a:bX ⟨(n:Int),es⟩)(G:Av n es rs){d:H8}(hd:d∈dl n (Xl rs)):bt (Nv (Xl rs)) d<=40000:=by have R:=G.jD a.GD a.q9;have b:(n:Int)<=200:=a.n1;have e:=agO (Ri (TG R) hd) (B:=ddl n (Xl rs)) fun z c=>(Ks R).2 ((IP R).1 ((TG R).sP hd ((vA (TG R) hd).1 c)));have h2:=ahW n (Xl rs) n;rw[ahx]at h2;have h3:n*n<=200*200:=aiD NH NH;grind[oN]
theorem akG(W0:LA)(l:Value)(n:Nat)(es:List Pr)(rs:AM)(h:aae)(N:RL (RL RP) h l rs)(L:bX ⟨(n:Int),es⟩)(G:Av n es rs)(v w:Nat)(hd:((v,w):H8)∈dl n (Xl rs)):
  AC Tryz.prog W0 110 [l,.int .i64 (v:Int),.int .i64 (w:Int)] h fun x h'=>Le h h'/\((Hd (Xl rs) (v,w)/\∃O,x=.tuple #[O,.bool true]/\GI h' O (aaa (zu (Xl rs) (v,w)))/\Z2 h O)\/(¬Hd (Xl rs) (v,w)/\x=.tuple #[.slice none 0 0,.bool false])):=by
 have hR:=L.GD;have hA:=L.q9;have R:=G.jD hR hA;have p:=TG R;obtain⟨o0,o1,o2⟩:=aaI p hd;have al:=ord_le L G hd;have P:=fun v (N:v<n)=>row_len L G (v:=v) N;have Q:=fun a b hd=>beh_eq hR hA G (a:=a) (b:=b) hd;have r:=ajO (Xl rs) (v,w);have s:=akE (Nv (Xl rs)) (v,w);have hm:=fun e=>vA p hd (y:=e);have S:=fun e=>IP R (d:=e);have hlen:=G.len;refine AC.vE ⟨Tryz.func110,rfl,WY⟩ Tryz.ntmps110 Tryz.results110 fun T=>?_;simp only[Br,seval];obtain⟨h1,e1,l1,w1,g1,a1⟩:=mkI1 T (v:Int)
 generalize Value.slice (some ⟨h.next,0,none⟩) 1 1=t at*
 refine Sk e1 ?_;refine aab.intro (fun kk fr M=>∃(k:Nat)(cv:Value),kk=bt (Nv (Xl rs)) (v,w)-k/\k<bt (Nv (Xl rs)) (v,w)/\fr=mkF [(0,l),(1,.int .i64 (v:Int)),(2,.int .i64 (w:Int)),(8,cv),(9,.int .i64 ((it (Nv (Xl rs)) k (v,w)).1:Nat)),(10,.int .i64 ((it (Nv (Xl rs)) k (v,w)).2:Nat))]/\
   GI M cv ((List.range (k+1)).map fun i=>(((it (Nv (Xl rs)) i (v,w)).1:Nat):Int))/\Le h M/\Z2 h cv/\∀i,i<=k->¬TD (it (Nv (Xl rs)) i (v,w)) (v,w))
  (bt (Nv (Xl rs)) (v,w)) [(0,l),(1,.int .i64 (v:Int)),(2,.int .i64 (w:Int)),(8,t),(9,.int .i64 (v:Int)),(10,.int .i64 (w:Int))] hAs
  ⟨0,t,rfl,o0,rfl,g1,l1,a1,fun i hi=>by obtain rfl:i=0:=NH;exact JN _⟩ ?_
 clear g1 l1 a1 w1 e1;clear h1;rintro kk fr M U ⟨k,cv,rfl,hk,rfl,gc,u,ac,aq⟩;have z:∀k,it (Nv (Xl rs)) (k+1) (v,w)=Nv (Xl rs) (it (Nv (Xl rs)) k (v,w)):=fun k=>rfl;have V:=p.uN hd k;have m:=z k;have A:=s (k+1);generalize W:it (Nv (Xl rs)) k (v,w)=dk at*;obtain⟨a,b⟩:=dk;obtain⟨X,i,B,C⟩:=Q a b ((S _).1 V);have D:b<rs.length:=NH;have aa:rs.getD b []=rs[b]:=D4 D;have E:=P b X;simp only[aa]at B C E;refine Uy ?_;refine kCi Tryz.func150 (aku W0 l rs (a:Int) b i M (N.le (Nn.RL Nn.RP) u) D E B) ?_;rintro x h2 w2 ⟨⟨ae,rfl⟩,rfl⟩;rw[C ae];have F:(it (Nv (Xl rs)) (k+1) (v,w)).1=b:=by rw[m];rfl
 have I:(it (Nv (Xl rs)) (k+1) (v,w)).2=(Nv (Xl rs) (a,b)).2:=by rw[m]
 rw[<-I];have g:(b:Int)=(((it (Nv (Xl rs)) (k+1) (v,w)).1:Nat):Int):=by rw[F]
 rw[g];by_cases ck:k+1=bt (Nv (Xl rs)) (v,w)
 .have ag:it (Nv (Xl rs)) (k+1) (v,w)=(v,w):=pw;have d1:decide ((v:Int)=(v:Int))=true:=XJ rfl;have d2:decide ((w:Int)=(w:Int))=true:=XJ rfl;rw[ck,r]at gc;simp only[ag];refine Sk (XC d1 @d2) ?_;refine⟨u,.inl ⟨fun e he ar=>?_,cv,rfl,gc,ac⟩⟩;obtain⟨q,hq⟩:=he;rw[QF p hd]at hq;grind[Nat.mod_lt]
 .have o:k+1<bt (Nv (Xl rs)) (v,w):=NH;have aj:=o2 (k+1) NH o;have j:WD (Nv (Xl rs)) (v,w) (it (Nv (Xl rs)) (k+1) (v,w)):=⟨k+1,rfl⟩;have c:∀e,e=it (Nv (Xl rs)) (k+1) (v,w)->¬TD e (v,w)->∀i,i<=k+1->¬TD (it (Nv (Xl rs)) i (v,w)) (v,w):=fun e he hn i hi=>by grind
  obtain⟨f,h4,h5,e4,e5,g5,w5,l4,f5,k5⟩:=gc.push U (((it (Nv (Xl rs)) (k+1) (v,w)).1:Nat):Int) pw;obtain⟨l5,a5⟩:=f5 _ u ac;rw[<-A]at g5;clear z m A F I g s r W;generalize J:it (Nv (Xl rs)) (k+1) (v,w)=e at*;by_cases c1:e.1=v
  .have d1:decide ((e.1:Int)=(v:Int))=true:=XJ NH;have d2:decide ((e.2:Int)=(w:Int))=false:=Sb fun q=>aj (vK c1 NH);have d3:decide ((e.1:Int)<(v:Int))=false:=Sb NH;by_cases K:e.2<w
   .have d4:decide ((e.2:Int)<(w:Int))=true:=XJ NH;refine Sk (xU d1 @d2 d3 d4) ?_;exact⟨u,.inr ⟨fun H=>H e j (.inr ⟨c1,K⟩),trivial⟩⟩
   .have d4:decide ((e.2:Int)<(w:Int))=false:=Sb NH;refine Sk (bG d1 @d2 d3 d4 e4 e5) ?_;exact tn (bt (Nv (Xl rs)) (v,w)-(k+1)) [(0,l),(1,.int .i64 (v:Int)),(2,.int .i64 (w:Int)),(8,f),(9,.int .i64 (e.1:Nat)),(10,.int .i64 (e.2:Nat))] (stq hk) hAs ⟨k+1,f,rfl,o,by rw[J]<;>rfl,g5,l5,a5,c e rfl fun h=>h.elim (fun h=>by omega) fun h=>K h.2⟩
  .have d1:decide ((e.1:Int)=(v:Int))=false:=Sb NH;by_cases K:e.1<v
   .have d3:decide ((e.1:Int)<(v:Int))=true:=XJ NH;refine Sk (XC d1 d3) ?_;exact⟨u,.inr ⟨fun H=>H e j (.inl K),trivial⟩⟩
   .have d3:decide ((e.1:Int)<(v:Int))=false:=Sb NH;refine Sk (xU d1 d3 e4 e5) ?_;exact tn (bt (Nv (Xl rs)) (v,w)-(k+1)) [(0,l),(1,.int .i64 (v:Int)),(2,.int .i64 (w:Int)),(8,f),(9,.int .i64 (e.1:Nat)),(10,.int .i64 (e.2:Nat))] (stq hk) hAs ⟨k+1,f,rfl,o,by rw[J]<;>rfl,g5,l5,a5,c e rfl fun h=>h.elim K fun h=>c1 h.1⟩
end
end Go.Fw
