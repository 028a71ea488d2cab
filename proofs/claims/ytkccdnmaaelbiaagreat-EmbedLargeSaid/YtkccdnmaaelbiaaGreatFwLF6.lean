/- A text. -/
import Derived.Test.YtkccdnmaaelbiaaGreatFwLC1
set_option linter.all false
set_option maxRecDepth 99999
set_option maxHeartbeats 9999999
namespace Go.Fw
section
attribute [local irreducible] Kp MQ lU rS KO KN KX KE VK Kl ZJ TC gU
attribute [local irreducible] toldE dO IN RD Ss bZ
open Go.Proofs
variable {M a c id j n:Nat} {P:List H8} {es:List Pr} {h:AHeap} {r:Nat->II} {rs:AM}
def tm_nat (a b:Nat):((a:Int)).tmod (b:Int)=((a%b:Nat):Int):=rfl
theorem Av.row (a:aV n es) (G:Av n es rs) (v:Nat) (b:j<(rs.getD v []).length):∃h:j<(Xl rs v).length,(rs.getD v [])[j]=(((Xl rs v)[j]:Nat):Int):=by grind [Av.back]
theorem DY (a:aV n es) (ha:D3 es) (G:Av n es rs) (v:Nat):(bZ n (Xl rs) v).length=((Zh n es).getD v []).length:=by grind [VE,bZ]
theorem Pz (b:aV n es) (ha:D3 es) (G:Av n es rs) (v:Nat) (c:j<((Zh n es).getD v []).length) (a:j<(bZ n (Xl rs) v).length):
  ∃w:Nat,((Zh n es).getD v [])[j]=(w:Int)/\(bZ n (Xl rs) v)[j]=(v,w)/\w∈Xl rs v:=by grind [VE,bZ]
def SA {l:List (Pr×Int)} (a:h.own M=some (.map (wy l))) (k:Pr):aLookupA Tryz.prog h 88 (.map (some M)) (UI k) false=some (.int .i64 ((lookK l k).getD 0)):=Il a k false
theorem GL (a:h.own id=none):Z2 h (.slice (some ⟨id,0,none⟩) n c):=fun b hb=>by injection hb with hb;grind
theorem Ep (n:Nat) (r:Nat->II):∀k,(Ss n r k).length<=k*n
 |0=>by grind [Ss]
 |k+1=>by
  have a:=Ep n r k
  grind [bZ,Ht]
theorem zw (a:n<=200) {P Q:List H8} (h:QV n r=P++Q):(RD r P).length+1<=40001:=by
 have b:=Ep n r n;rw[tD,h,jf]at b;have h2:n*n<=200*200:=Gg a a
 grind [RD]
theorem YU {d e:H8}:An r (P++[d]) e↔An r P e\/WD (Nv r) d e:=by grind [An]
theorem KJ (f:H8->H8) (d:H8) (k:Nat):((List.range (k+1)).map fun i=>(((it f i d).1:Nat):Int))=((List.range k).map fun i=>(((it f i d).1:Nat):Int))++[(((it f k d).1:Nat):Int)]:=by grind [List.range_succ]
def Vv (r:Nat->II) (d:H8):((List.range (bt (Nv r) d)).map fun i=>(((it (Nv r) i d).1:Nat):Int))=kz (zu r d):=by rw[kz,zu,AA,Q4,Q4];rfl
def lt_next {k o:Nat} (h:k<=o) (a:k≠o):k<o:=NH
def aw_len (h:a+1<=40001):awrap .i64 ((a:Int)+1)=((a+1:Nat):Int):=Tw a NH
def JC (a:Nat):(((a+1:Nat):Int))≠0:=NH
def le_big (h:a+1<=40001):a<=100000000:=NH
open Classical in
theorem Zq (W0:LA) (Y:Value) (rs:AM) (h:AHeap) (hv:RL (RL RP) h Y rs):
  AC Tryz.prog W0 68 [Y] h fun x h'=>Le h h'/\((x=.tuple #[.slice none 0 0,.int .i64 70]/\¬∃es,bX ⟨(rs.length:Int),es⟩/\Av rs.length es rs)\/
   ∃es f,bX ⟨(rs.length:Int),es⟩/\Av rs.length es rs/\x=.tuple #[f,.int .i64 0]/\RL (RL RP) h' f (IN rs.length rs)):=by
 refine AC.vE ⟨Tryz.func68,rfl,WY⟩ Tryz.ntmps68 Tryz.results68 fun fh=>?_;simp only[Br,Nat.reduceAdd];refine Uy ?_;refine TC.intro PJ ⟨Tryz.func118,rfl,WY⟩ (r7 W0 Y rs h hv) ?_;rintro x h1 w1 ⟨l1,⟨rfl,fm⟩|⟨es,ev,hr,G,rfl,bH,-⟩⟩
 .obtain ⟨dx, h2, e2, aJ, l2, w2⟩ := newE4 w1
  refine Sk (XC e2 aJ) ?_
  grind [Le.trans]
 obtain⟨dx,h2,e2,aJ,l2,w2,L2⟩:=As w1 (n:=(rs.length:Int)) bH.pr
 generalize h1.next=P4 at*
 have hR:=hr.GD;have hA:=hr.q9;have IR:=G.jD hR hA;have p:=TG IR;have fc:(rs.length:Int)<=200:=hr.n1;have fe:es.length<=594:=hr.len;have aK:=l1.trans l2
 obtain⟨h3,e3,l3,w3,o3⟩:∃h3,h2.alloc (.map [])=h3/\Le h2 h3/\WF h3/\h3.own h2.next=some (.map []):=⟨_,rfl,(Le.refl h2).alloc w2 _,w2.alloc _,AHeap.zT _ _⟩
 have dA:h2.own h2.next=none:=(Le.refl h2).next w2 (Ny _)
 have lr:=fun g=>hv.len (P:=Tryz.prog) UP g;have H:∀v,v<rs.length->(rs.getD v []).length<rs.length:=fun v hv=>Gt hR hA G hv;simp only[HO,Nat.reduceLT,↓reduceIte,Nat.reduceEqDiff,reduceCtorEq,e2,aJ,e3,lr]
 generalize h2.next=A at*
 refine gU.intro (fun k fr R=>∃(i:Nat) (l:List (Pr×Pr)),k=rs.length-i/\i<=rs.length/\fr=mkF [(4,.pointer (some ⟨P4,0,none⟩)),(6,.map (some A)),(28,Y),(29,.int .i64 rs.length),(30,.int .i64 i)]/\
   R.own A=some (.map (Au l))/\Le h2 R/\∀d:H8,d.1∈Xl rs d.2->d.2<i->lookV l (Qi d)=some (Qi (Nv (Xl rs) d)))
  rs.length [(4,.pointer (some ⟨P4,0,none⟩)),(6,.map (some A)),(28,Y),(29,.int .i64 rs.length),(30,.int .i64 (0:Nat))] fD ⟨0,[],rfl,vZ _,rfl,o3,l3,fun d _ h=>by omega⟩ ?_
 clear o3 w3 l3 e3;clear h3;rintro k fr R bI ⟨i,l,rfl,hi,rfl,oB,lq,hl⟩;refine Uy ?_;refine Kl.intro (fun S=>?_) (fun hf=>?_)
 .have C : i < rs.length := CC S
  clear S;have ar:=hv.qP6 i C;obtain⟨ru,bW,aP⟩:=hv.NS i C;have b0:=bW R (aK.trans lq);rw[<-D4 (d:=[]) C]at aP;have fp:=H i C;have av:=fun j (hj:j<(rs.getD i []).length)=>G.row hR i hj;have hlen:(Xl rs i).length=(rs.getD i []).length:=by grind [Xl.eq_1]
  generalize rs.getD i []=row at*;have ay:=fun g=>aP.Uc g;refine Sk (Yb ar b0 ay) ?_;refine gU.intro (fun k fr u=>∃(j:Nat) (l:List (Pr×Pr)),k=row.length-j/\j<=row.length/\fr=mkF [(4,.pointer (some ⟨P4,0,none⟩)),(6,.map (some A)),(7,.int .i64 i),(8,ru),(28,Y),(29,.int .i64 rs.length),(30,.int .i64 i),(35,ru),(36,.int .i64 row.length),(37,.int .i64 j)]/\
    u.own A=some (.map (Au l))/\Le h2 u/\(∀d:H8,d.1∈Xl rs d.2->d.2<i->lookV l (Qi d)=some (Qi (Nv (Xl rs) d)))/\∀(m:Nat) (X:m<(Xl rs i).length),m<j->lookV l (Qi ((Xl rs i)[m],i))=some (Qi (Nv (Xl rs) ((Xl rs i)[m],i))))
   row.length [(4,.pointer (some ⟨P4,0,none⟩)),(6,.map (some A)),(7,.int .i64 i),(8,ru),(28,Y),(29,.int .i64 rs.length),(30,.int .i64 i),(35,ru),(36,.int .i64 row.length),(37,.int .i64 (0:Nat))] fD ⟨0,l,rfl,vZ _,rfl,oB,lq,hl,fun m _ h=>by omega⟩ ?_
  clear oB hl b0;rintro k fr u Z ⟨j,l,rfl,hj,rfl,oB,lz,hl,fq⟩;refine Uy ?_;refine Kl.intro (fun S=>?_) (fun hf=>?_)
  .have r : j < row.length := CC S
   clear S;have HZ:=aP.le Nn.RP (aK.trans lz);have ad:=HZ.TA j r;have ld:=HZ.DH j r;have T:(j+1)%row.length<row.length:=Cg _ NH;have dB:=HZ.TA ((j+1)%row.length) T;have b1:=HZ.DH ((j+1)%row.length) T;obtain⟨dE,ej⟩:=av j r;obtain⟨fs,em⟩:=av _ T;rw[ej]at ld;rw[em]at b1;have dF:=Qy (IR.nd i) dE;simp only[hlen]at dF;have ag:=Tw j NH;have tm:=tm_nat (j+1) row.length;have dz:((row.length:Int)=0)=False:=eq_false NH;have aD:Nv (Xl rs) ((Xl rs i)[j],i)=(i,(Xl rs i)[(j+1)%row.length]):=by grind [Nv.eq_1]
   have st:=pS oB (Qi ((Xl rs i)[j],i)) (Qi (Nv (Xl rs) ((Xl rs i)[j],i)));simp only[aD,Qi]at st;simp only[HO,Nat.reduceLT,↓reduceIte,Nat.reduceEqDiff,reduceCtorEq,ad,ld,xe,ag,ay,tm,dz,dB,b1,uQ,st];refine tn (row.length-(j+1)) [(4,.pointer (some ⟨P4,0,none⟩)),(6,.map (some A)),(7,.int .i64 i),(8,ru),(28,Y),(29,.int .i64 rs.length),(30,.int .i64 i),(35,ru),(36,.int .i64 row.length),(37,.int .i64 (j+1:Nat))] (JS r) fD
    ⟨j+1,_,rfl,r,rfl,AHeap.Y3 _ _ _,lz.put _ dA,fun d hd dI=>?_,fun m X ft=>?_⟩
   .rw [CT, if_neg]
    .grind
    .intro e
     have:=fi (a:=((Xl rs i)[j],i)) (b:=d) e
     grind
   .rw [CT]
    by_cases e:m=j
    .subst e
     exact(if_pos rfl).trans (by rw[aD];rfl)
    .rw [if_neg]
     .grind
     .intro e2
      have:=fi (a:=((Xl rs i)[j],i)) (b:=((Xl rs i)[m],i)) e2;simp only[yM,and_true]at this;have nd:=IR.nd i;rw[EU,fj]at nd
      grind
  .have al : row.length <= j := vp hf
   have aT:=Tw i NH;refine Sk aT ?_;refine tn (rs.length-(i+1)) [(4,.pointer (some ⟨P4,0,none⟩)),(6,.map (some A)),(28,Y),(29,.int .i64 rs.length),(30,.int .i64 (i+1:Nat))] (JS C) fD
    ⟨i+1,l,rfl,C,rfl,oB,lz,fun d hd dI=>?_⟩
   by_cases e:d.2=i
   .obtain ⟨a, b⟩ := d
    simp only at e hd;subst e;obtain⟨m,X,em⟩:=bC.1 hd
    grind
   grind
 have al:rs.length<=i:=vp hf;have b2:∀d:H8,d∈dl rs.length (Xl rs)->lookV l (Qi d)=some (Qi (Nv (Xl rs) d)):=fun d hd=>by grind [IP,V7.sy,V7.lt]
 clear hl hf al hi;obtain⟨hb,eb,lb,wb,ob⟩:=Tt bI []
 obtain⟨M,ec,lc,wc,oc⟩:∃M,hb.alloc (.map [])=M/\Le hb M/\WF M/\M.own hb.next=some (.map []):=⟨_,rfl,(Le.refl hb).alloc wb _,wb.alloc _,AHeap.zT _ _⟩
 have dL:R.own R.next=none:=(Le.refl R).next bI (Ny _)
 have dM:hb.own hb.next=none:=(Le.refl hb).next wb (Ny _)
 have dQ:R.next≠hb.next:=fun e=>by grind
 have b3:aBuildSlice Tryz.prog R 27 0 []=some (.slice (some ⟨R.next,0,none⟩) 0 0,hb):=by rw[<-eb];exact Sf R
 have dS:=(L2 M ((lq.trans lb).trans lc)).1;refine Sk (Yb b3 ec dS) ?_
 generalize R.next=F0 at*
 generalize hb.next=c at*
 have b4:(M.kill c).own F0=some (.cells []):=by grind [AHeap.xJ,Le.own]
 have b6:Le R ((M.kill c).kill F0):=((lb.trans lc).Oo (lb.none dM)).Oo dL;refine TC.intro PJ ⟨zj,rfl,WY⟩ (AC.frame oc (AC.frame b4 (oe W0 _ rs.length es ((M.kill c).kill F0) ⟨ev,rfl,(bH.pr.le l2).le (lq.trans b6)⟩ hr))) ?_;rintro bv h5 w5 ⟨g1,⟨g,⟨aW,lg⟩,nF,rfl⟩,fx,rfl⟩;have nM:g.own c=none:=by grind [AHeap.By]
 have b8:=b6.trans lg;have dT:g.own A=some (.map (Au l)):=b8.own _ _ oB;have fF:A≠c:=fun e=>by grind
 have dV:=Xq rs.length es;have b9:=fun g=>aW.fy g;rw[dV]at b9;have cc:Le g ((g.put F0 (.cells [])).put c (.map [])):=((Le.refl g).put _ nF).put _ nM;have g0:Lj (RL RP) (rem [c] ((g.put F0 (.cells [])).put c (.map []))) (.slice (some ⟨F0,0,none⟩) 0 0) (RD (Xl rs) (Ss rs.length (Xl rs) 0)):=by
  have:RD (Xl rs) (Ss rs.length (Xl rs) 0)=[]:=by grind [RD,Ss]
  grind [Lj.empty,Th,AHeap.By,AHeap.Y3]
 have cd:Z2 g (.slice (some ⟨F0,0,none⟩) 0 0):=fun b hb=>by injection hb with hb;grind
 have cf:blk (.slice (some ⟨F0,0,none⟩) 0 0)≠some c:=fun e=>by injection e with e;exact dQ e
 generalize Value.slice (some ⟨F0,0,none⟩) 0 0=cg at*;have K:rs.length<=200:=NH;refine Sk b9 ?_;refine gU.intro (fun k fr z=>∃(i:Nat) (f:Value) (m:List (Pr×Int)),k=rs.length-i/\i<=rs.length/\fr=mkF [(6,.map (some A)),(11,f),(12,.map (some c)),(61,bv),(62,.int .i64 rs.length),(63,.int .i64 i)]/\
   z.own c=some (.map (wy m))/\Lj (RL RP) (rem [c] z) f (RD (Xl rs) (Ss rs.length (Xl rs) i))/\blk f≠some c/\Le g z/\Z2 g f/\∀d∈dl rs.length (Xl rs),((lookK m (Qi d)).getD 0≠0↔An (Xl rs) (Ss rs.length (Xl rs) i) d))
  rs.length [(6,.map (some A)),(11,cg),(12,.map (some c)),(61,bv),(62,.int .i64 rs.length),(63,.int .i64 (0:Nat))] fD
  ⟨0,cg,[],rfl,vZ _,rfl,AHeap.Y3 _ _ _,g0,cf,cc,cd,fun d _=>by simp[lookK,An,Ss]⟩ ?_
 clear g0 cf cd cc w5 b3;rintro k fr z N ⟨i,f,m,rfl,hi,rfl,oM,gf,bf,I,af,X⟩;refine Uy ?_;refine Kl.intro (fun S=>?_) (fun hf=>?_)
 rotate_left
 .have al : rs.length <= i := vp hf
  obtain rfl:i=rs.length:=NH;rw[tD,BC]at gf;refine Uy ?_;exact⟨aK.trans (lq.trans (b8.trans I)),.inr ⟨es,f,hr,G,rfl,(gf.rl (Nn.RL Nn.RP)).le (Nn.RL Nn.RP) (Sa _ _)⟩⟩
 have C:i<rs.length:=CC S;clear S;have ab:=aW.Wm i NH;obtain⟨bu,cp,aX⟩:=aW.NS i NH;have cq:=cp z I;rw[<-D4 (d:=[]) NH]at aX;have fL:=DY hR hA G i;have ef:=fun j hj eg=>Pz hR hA G i (j:=j) hj eg;have eh:=fun j hj=>ddl_at (n:=rs.length) (Xl rs) (v:=i) (j:=j) C hj;have a1:=Ht rs.length (Xl rs) i;have ei:=bV rs.length es _ (EP (show i<(Zh rs.length es).length by omega));rw[<-D4 (d:=[]) NH]at ei;generalize (Zh rs.length es).getD i []=O at*;generalize bZ rs.length (Xl rs) i=D at*;have lR:=fun g=>aX.Uc g;simp only[HO,Nat.reduceLT,↓reduceIte,Nat.reduceEqDiff,reduceCtorEq,ab,cq,lR];refine gU.intro (fun k fr u=>∃(j:Nat) (f:Value) (m:List (Pr×Int)),k=O.length-j/\j<=O.length/\fr=mkF [(6,.map (some A)),(11,f),(12,.map (some c)),(13,.int .i64 i),(61,bv),(62,.int .i64 rs.length),(63,.int .i64 i),(68,bu),(69,.int .i64 O.length),(70,.int .i64 j)]/\
   u.own c=some (.map (wy m))/\Lj (RL RP) (rem [c] u) f (RD (Xl rs) (Ss rs.length (Xl rs) i++D.take j))/\blk f≠some c/\Le g u/\Z2 g f/\∀d∈dl rs.length (Xl rs),((lookK m (Qi d)).getD 0≠0↔An (Xl rs) (Ss rs.length (Xl rs) i++D.take j) d))
  O.length [(6,.map (some A)),(11,f),(12,.map (some c)),(13,.int .i64 i),(61,bv),(62,.int .i64 rs.length),(63,.int .i64 i),(68,bu),(69,.int .i64 O.length),(70,.int .i64 (0:Nat))] fD
  ⟨0,f,m,rfl,vZ _,rfl,oM,pw,bf,I,af,pw⟩ ?_
 clear oM gf bf I af X cq N;clear z f m;rintro k fr z N ⟨j,f,m,rfl,hj,rfl,oM,gf,bf,I,af,X⟩;refine Uy ?_;refine Kl.intro (fun S=>?_) (fun hf=>?_)
 rotate_left
 .have al : O.length <= j := vp hf
  rw[AE NH,<-a1]at gf X;have aT:=Tw i NH;refine Sk aT ?_;exact tn (rs.length-(i+1)) [(6,.map (some A)),(11,f),(12,.map (some c)),(61,bv),(62,.int .i64 rs.length),(63,.int .i64 (i+1:Nat))] (JS C) fD
   ⟨i+1,f,m,rfl,C,rfl,oM,gf,bf,I,af,X⟩
 have r:j<O.length:=CC S;clear S;have a6:j<D.length:=NH;obtain⟨w,ew,ed,ek⟩:=ef j r a6;obtain⟨Q,hQ⟩:=eh j a6;have tk:D.take (j+1)=D.take j++[D[j]]:=EL a6;rw[ed]at hQ tk;have cr:Ss rs.length (Xl rs) i++D.take (j+1)=(Ss rs.length (Xl rs) i++D.take j)++[(i,w)]:=pw;generalize Ss rs.length (Xl rs) i++D.take j=P at*;have J:((i,w):H8)∈dl rs.length (Xl rs):=(IP IR).2 ek;have fN:=hd_met IR hQ;have cx:=zw K hQ;have fP:=wO (Xl rs) P (i,w);have HB:=aX.le Nn.RP I;have aj:=HB.TA j r;have lj:=HB.DH j r;rw[ew]at lj;have ag:=Tw j NH;obtain⟨fU,F,eE,sE,lE,wE,oE⟩:=Ut N ((i:Int),(w:Int))
 have nE:z.own z.next=none:=(Le.refl z).next N (Ny _)
 generalize z.next=E0 at*
 have a7:=lE.own _ _ oM;have lk:=SA a7 ((i:Int),(w:Int));have cz:=X _ J;have cC:=uM oE;have bb:=I.trans lE;have bh:=gf.le (Nn.RL Nn.RP) (lE.Xm (l:=[c]));by_cases cm:(lookK m ((i:Int),(w:Int))).getD 0=0
 rotate_left
 .have dm : decide ((lookK m ((i : Int), (w : Int))).getD 0 = 0) = false := decide_eq_false cm
  refine Sk (rk aj lj @xe eE sE cC @wD lk @bne.eq_1.{0} dm ag) ?_
  have U:=cz.1 cm;exact tn (O.length-(j+1)) [(6,.map (some A)),(11,f),(12,.map (some c)),(13,.int .i64 i),(61,bv),(62,.int .i64 rs.length),(63,.int .i64 i),(68,bu),(69,.int .i64 O.length),(70,.int .i64 (j+1:Nat))] (JS r) fD
   ⟨j+1,f,m,rfl,r,rfl,a7,pw,bf,bb,af,fun e he=>by
    rw[cr,YU,X e he];exact⟨.inl,fun x=>x.elim id fun o=>by obtain⟨y,hy,o'⟩:=U;exact⟨y,hy,o'.trans o⟩⟩⟩
 have dm:decide ((lookK m ((i:Int),(w:Int))).getD 0=0)=true:=decide_eq_true cm;have en:¬An (Xl rs) P (i,w):=fun h=>cz.2 h cm;obtain⟨o0,o1,o2⟩:=bk p J;have fg:bt (Nv (Xl rs)) (i,w)<=40000:=by
  have h1:=tf (Ri p J) (B:=QV rs.length (Xl rs)) fun y hy=>(Ks IR).2 ((IP IR).1 (p.sP J ((vA p J).1 hy)));rw[oN]at h1;have h2:=Ep rs.length (Xl rs) rs.length;rw[tD]at h2;have h3:rs.length*rs.length<=200*200:=Gg K K;omega
 obtain⟨hF,eF,lF,wF,oF⟩:=Tt wE []
 have nC:F.own F.next=none:=(Le.refl F).next wE (Ny _)
 have cN:aBuildSlice Tryz.prog F 49 0 []=some (.slice (some ⟨F.next,0,none⟩) 0 0,hF):=by rw[<-eF];exact mkI0 F
 generalize F.next=C0 at*
 have bo:GI hF (.slice (some ⟨C0,0,none⟩) 0 0) []:=GS.full (k:=1) (n:=0) oF rfl WY;have br:Z2 F (.slice (some ⟨C0,0,none⟩) 0 0):=GL nC;generalize Value.slice (some ⟨C0,0,none⟩) 0 0=V at*;have ldF:=uM (lF.own _ _ oE);obtain⟨eo,hG,eG,sG,lG,wG,oG⟩:=Ut wF ((i:Int),(w:Int))
 have nG:hF.own hF.next=none:=(Le.refl hF).next wF (Ny _)
 generalize hF.next=E1 at*
 have K0:Le (rem [c] F) hG:=(Sa _ _).trans (lF.trans lG);have kM:(rem [c] F).own c=none:=by grind [DC]
 have kB:(rem [c] F).own A=some (.map (Au l)):=Th.2 ⟨bb.own _ _ dT,pw⟩;have cU:Z2 (rem [c] F) V:=fun b hb=>(Sa [c] F).none (br b hb);have c0:=lG.own _ _ (lF.own _ _ a7);have cM:blk V≠some c:=fun e=>by have:=br _ e;grind
 have cE:blk V≠some E1:=fun e=>GS.Sy bo e nG;have eM:E1≠c:=fun e=>by grind
 have kE:(rem [c] F).own E1=none:=(Sa [c] F).none (lF.none nG);have ep:Le g (rem [c] F):=bb.iV (l:=[c]) fun b hb=>by grind
 have er:=fun g=>(bh.rl (Nn.RL Nn.RP)).fy g;have c3:=aw_len cx;simp only[HO,Nat.reduceLT,↓reduceIte,Nat.reduceEqDiff,reduceCtorEq,aj,lj,xe,eE,sE,cC,wD,lk,bne,dm,cN,ldF,eG,sG];refine gU.intro (fun kk fr u=>∃(k:Nat) (cv:Value) (E:Nat) (L:List (Pr×Int)),kk=bt (Nv (Xl rs)) (i,w)-k/\k<=bt (Nv (Xl rs)) (i,w)/\fr=mkF [(6,.map (some A)),(11,f),(12,.map (some c)),(13,.int .i64 i),(18,cv),(19,.pointer (some ⟨E,0,none⟩)),(61,bv),(62,.int .i64 rs.length),(63,.int .i64 i),(68,bu),(69,.int .i64 O.length),(70,.int .i64 j)]/\
   u.own E=some (.cells (xM (Qi (it (Nv (Xl rs)) k (i,w)))))/\u.own c=some (.map (wy L))/\GI u cv ((List.range k).map fun x=>(((it (Nv (Xl rs)) x (i,w)).1:Nat):Int))/\Le (rem [c] F) u/\Z2 (rem [c] F) cv/\blk cv≠some c/\blk cv≠some E/\E≠c/\
   ∀e∈dl rs.length (Xl rs),((lookK L (Qi e)).getD 0≠0↔An (Xl rs) P e\/∃x,x<k/\it (Nv (Xl rs)) x (i,w)=e))
  (bt (Nv (Xl rs)) (i,w)) [(6,.map (some A)),(11,f),(12,.map (some c)),(13,.int .i64 i),(18,V),(19,.pointer (some ⟨E1,0,none⟩)),(61,bv),(62,.int .i64 rs.length),(63,.int .i64 i),(68,bu),(69,.int .i64 O.length),(70,.int .i64 j)] fD
  ⟨0,V,E1,m,rfl,vZ _,rfl,oG,c0,GI.le bo lG,K0,cU,cM,cE,eM,fun e he=>by grind⟩ ?_
 clear K0 cU c0 cM cE eM kE bo br oG nG wG lG sG eG ldF cN nC oF wF lF eF;clear hG eo hF;rintro kk fr u Z ⟨k,cv,E,L,rfl,hk,rfl,et,W,gc,lz,ac,cM,cE,eM,bx⟩;have c4:=p.uN J k;have c5:=bx _ c4;have c9:=SA W (Qi (it (Nv (Xl rs)) k (i,w)));have da:=uM et;by_cases ck:k=bt (Nv (Xl rs)) (i,w)
 .have U : (lookK L (Qi (it (Nv (Xl rs)) k (i, w)))).getD 0 ≠ 0 := c5.2 (.inr ⟨0, NH, by rw [ck, o1]; rfl⟩)
  have dk:decide ((lookK L (Qi (it (Nv (Xl rs)) k (i,w)))).getD 0=0)=false:=decide_eq_false U;refine Sk (xU da @wD c9 dk) ?_;rw[ck,Vv]at gc;have eu:Le (rem [c] F) (rem [c] u):=lz.iV fun b hb=>by grind
  have ey:=bh.le (Nn.RL Nn.RP) eu;have hb:∀b,blk f=some b->b∉[c]:=fun b hb X=>by grind
  have eA:∀b,blk f=some b->blk cv≠some b:=fun b hb M=>by
   obtain⟨us,g1,_⟩:=bh;exact GS.Sy g1 hb (ac b M)
  have gu:RL RP (rem [c] (rem (bl f) u)) cv (kz (zu (Xl rs) (i,w))):=by
   have q:GI (rem [c] (rem (bl f) u)) cv (kz (zu (Xl rs) (i,w))):=GS.Fi (GS.Fi gc (l:=bl f) fun b hb M=>eA b (Zr.1 M) hb) (l:=[c]) fun b sZ M=>by grind
   exact q.rl
  obtain⟨h7,db,h8,e7,e8,fV,l7,w7,f8,k8⟩:=Lj.mG (P:=Tryz.prog) (t:=27) (Nn.RL Nn.RP) Ji ey Z gu gu.sl.one (le_big cx) hb (fun b hb=>by rw[j9]at hb;subst hb;rw[W];simp);obtain⟨eB,eC⟩:=k8 c _ W bf;obtain⟨l8,a8⟩:=f8 g (ep.trans lz) af;refine Sk (xU (mkL52 u gu.sl) e7 e8 ag) ?_;refine tn (O.length-(j+1)) [(6,.map (some A)),(11,db),(12,.map (some c)),(13,.int .i64 i),(61,bv),(62,.int .i64 rs.length),(63,.int .i64 i),(68,bu),(69,.int .i64 O.length),(70,.int .i64 (j+1:Nat))] (JS r) fD
   ⟨j+1,db,L,rfl,r,rfl,eB,pw,eC,l8,a8,fun e he=>?_⟩
  rw[cr,YU,bx e he];constructor
  .rintro (h | ⟨x, _, h⟩)
   .exact .inl h
   .exact .inr ⟨x,h⟩
  .rintro (h | ⟨x, h⟩)
   .exact .inl h
   .refine .inr ⟨x % bt (Nv (Xl rs)) (i, w), by rw [ck]; exact Cg _ o0, ?_⟩
    rw[<-QF p J];exact h
 .have dc := lt_next hk ck
  have dd:¬((lookK L (Qi (it (Nv (Xl rs)) k (i,w)))).getD 0≠0):=fun h=>by
   rcases c5.1 h with⟨y,hy,o⟩|⟨x,hx,e⟩
   .have fY : y ∈ dl rs.length (Xl rs) := (IP IR).2 ((Ks IR).1 pw)
    exact en ⟨y,hy,o.trans (p.xw J ⟨k,rfl⟩)⟩
   grind [zk]
  have dk:decide ((lookK L (Qi (it (Nv (Xl rs)) k (i,w)))).getD 0=0)=true:=decide_eq_true (fR dd);have aH:=b2 _ c4;have bB:Nv (Xl rs) (it (Nv (Xl rs)) k (i,w))=it (Nv (Xl rs)) (k+1) (i,w):=rfl;rw[bB]at aH;have aq:=KJ (Nv (Xl rs)) (i,w) k;have st1:=pW W (Qi (it (Nv (Xl rs)) k (i,w))) ((RD (Xl rs) P).length+1:Nat);generalize hD:it (Nv (Xl rs)) k (i,w)=s at*;have eI:=AHeap.Y3 u c (.map (wy (setK L (Qi s) ((RD (Xl rs) P).length+1:Nat))));have eL:Le (rem [c] F) (u.put c (.map (wy (setK L (Qi s) ((RD (Xl rs) P).length+1:Nat))))):=lz.put _ kM;have eO:WF (u.put c (.map (wy (setK L (Qi s) ((RD (Xl rs) P).length+1:Nat))))):=Z.put _ (Z.lt W);have de:(u.put c (.map (wy (setK L (Qi s) ((RD (Xl rs) P).length+1:Nat))))).own E=some (.cells (xM (Qi s))):=by grind [AHeap.By]
  have eS:GI (u.put c (.map (wy (setK L (Qi s) ((RD (Xl rs) P).length+1:Nat))))) cv ((List.range k).map fun x=>(((it (Nv (Xl rs)) x (i,w)).1:Nat):Int)):=GS.put gc _ cM;generalize u.put c (.map (wy (setK L (Qi s) ((RD (Xl rs) P).length+1:Nat))))=eT at*;have m0:aload Tryz.prog eT 3 ⟨E,0,none⟩=some (.int .i64 (s.1:Int)):=lK de;obtain⟨bF,h4,h5,e4,e5,g5,w5,l4,f5,k5⟩:=eS.push eO ((s.1:Nat):Int) pw;obtain⟨l5,a5⟩:=f5 _ eL ac;obtain⟨eU,eV⟩:=k5 c _ eI cM;obtain⟨eW,ga⟩:=k5 E _ de cE;have eZ:=uM eW;obtain⟨gg,h6,e6,s6,l6,w6,o6⟩:=Ut w5 (Qi s)
  have dj:h5.own h5.next=none:=(Le.refl h5).next w5 (Ny _)
  generalize h5.next=E' at*
  have e0:=uM o6;have dq:=l5.trans l6;have e1:=Sx (dq.own _ _ kB) aH;have st2:=gD (p:=Qi (it (Nv (Xl rs)) (k+1) (i,w))) o6;have dr:E'≠c:=fun e=>by grind
  have dw:blk bF≠some E':=fun e=>GS.Sy g5 e dj;have e9:=AHeap.Y3 h6 E' (.cells (xM (Qi (it (Nv (Xl rs)) (k+1) (i,w)))));have fb:(h6.put E' (.cells (xM (Qi (it (Nv (Xl rs)) (k+1) (i,w)))))).own c=some (.map (wy (setK L (Qi s) ((RD (Xl rs) P).length+1:Nat)))):=by rw[AHeap.By _ _ _ _ (uV dr)];exact l6.own _ _ eU
  simp only[HO,Nat.reduceLT,↓reduceIte,Nat.reduceEqDiff,reduceCtorEq,da,wD,c9,dk,er,c3,nN,st1,Dh,Ip,XJ,m0,e4,e5,eZ,e6,s6,XO,e0,e1,st2];refine tn (bt (Nv (Xl rs)) (i,w)-(k+1)) [(6,.map (some A)),(11,f),(12,.map (some c)),(13,.int .i64 i),(18,bF),(19,.pointer (some ⟨E',0,none⟩)),(61,bv),(62,.int .i64 rs.length),(63,.int .i64 i),(68,bu),(69,.int .i64 O.length),(70,.int .i64 j)] (JS dc) fD
   ⟨k+1,bF,E',_,rfl,dc,rfl,e9,fb,by rw[aq];exact GS.put (GI.le g5 l6) _ dw,dq.put _ (l5.none dj),a5,eV,dw,dr,fun e he=>?_⟩
  rw[XR];by_cases ee:Qi s=Qi e
  .have := fi ee
   subst this;rw[if_pos rfl,Option.getD_some];exact⟨fun _=>.inr ⟨k,u3 k,hD⟩,fun _=>JC _⟩
  .rw [if_neg ee, bx e he]
   constructor
   .rintro (h | ⟨x, hx, h⟩)
    .exact .inl h
    .exact .inr ⟨x,Xz hx,h⟩
   .rintro (h | ⟨x, hx, h⟩)
    .exact .inl h
    .refine .inr ⟨x, Fz (Nat.le_of_lt_succ hx) fun e2 => ee ?_, h⟩
     grind
end
section
attribute [local instance] Classical.propDecidable
open Go.Proofs
variable {A B C T a b i j n q v:Nat} {L:RZ} {es:List Pr} {h h' hh:AHeap} {r:Nat->II} {rs:AM} {x:List Value} {α:Type}
noncomputable def VF {α:Type} (P:Nat->α->Prop) (l:List α) (a:Nat):Nat:=(l.filter fun e=>decide (P a e)).length
theorem xV (P:Nat->α->Prop) (l:List α) (a:Nat):VF P l a<=l.length:=qQ _ _
theorem LW (P:Nat->α->Prop) (l:List α) (e:α) (a:Nat):VF P (l++[e]) a=VF P l a+if P a e then 1 else 0:=by grind [VF]
theorem QA {P:Nat->α->Prop} {l:List α} {e:α} {hs:II} (b:q<hs.length) (c:P hs[q] e) (h2:∀i (h:i<hs.length),P hs[i] e->i=q):
  (hs.map fun a=>((VF P (l++[e]) a:Nat):Int))=(hs.map fun a=>((VF P l a:Nat):Int)).set q (((VF P l hs[q]:Nat):Int)+1):=by
 apply qk
 all_goals grind [LW]
noncomputable def Gn (es l:List Pr) (a:Nat):Nat:=VF (fun a (e:Pr)=>Pu es a e.1.toNat) l a
noncomputable def sA (es:List Pr) (l:AM) (a:Nat):Nat:=VF (fun a (f:RZ)=>Pu es a (f.headD 0).toNat) l a
def z8 (n:Nat) (es:List Pr) (rs:AM):Prop:=∀a∈Es n es,0<Gn es es a->(Ic n es a).length+sA es (IN n rs) a=Gn es es a+2
def G4 (n:Nat) (es:List Pr) (i:Nat) (L:RZ):Prop:=L.length=n/\∀(j a v:Nat),j<i->(Es n es)[j]?=some a->v<n->Pu es a v->L[v]?=some (j:Int)
theorem G4.zero:G4 n es 0 (List.replicate n 0):=⟨Ma,fun j a v h=>by omega⟩
theorem sj (k:aV n es) (hi:(Es n es)[i]?=some a) (c:(Es n es)[j]?=some b) (ha:Pu es a v) (hb:Pu es b v):i=j:=by
 obtain⟨d,e⟩:=vT.1 hi;obtain⟨f,g⟩:=vT.1 c;have h:a=b:=rf (Gc hi) (Gc c) (ha.trans (hb.symm))
 grind [qD,List.pairwise_iff_getElem]
theorem G4.put (g:aV n es) (H:G4 n es i L) (hi:(Es n es)[i]?=some a) (h:Pu es a v):G4 n es i (L.set v (i:Int)):=by
 refine⟨by rw[mg];exact H.1,fun j b w f hb hw c=>?_⟩;have d:v≠w:=fun e=>by grind [sj]
 rw[ti d];exact H.2 j b w f hb hw c
theorem G4.next (H:G4 n es i L) (hi:(Es n es)[i]?=some a) (h:∀v∈Ic n es a,L[v]?=some (i:Int)):G4 n es (i+1) L:=by
 refine⟨H.1,fun j b w e hb hw d=>?_⟩;by_cases c:j=i
 .grind [mY]
 .exact H.2 j b w NH hb hw d
theorem G4.get (e:aV n es) (H:G4 n es (Es n es).length L) (b:v<n):∃q,∃h:q<(Es n es).length,L[v]?=some (q:Int)/\Pu es (Es n es)[q] v:=by
 obtain⟨a,ha,f⟩:=B6 e v b;obtain⟨q,c⟩:=qy.1 ha;obtain⟨d,h2⟩:=vT.1 c;exact⟨q,d,H.2 q a v d c b f,pw⟩
def wT (b:aV n es) (h:q<(Es n es).length) (c:Pu es (Es n es)[q] v):∀i (h:i<(Es n es).length),Pu es (Es n es)[i] v->i=q:=fun i hi a=>
 sj b (BS hi) (BS h) a c
theorem JE (R:V7 n r) {d:H8} (a:d∈dl n r):(kz (zu r d)).headD 0=(d.1:Int)/\0<(kz (zu r d)).length:=by
 have:=(bk (TG R) a).1;have e:List.range (bt (Nv r) d)=0::(List.range' 1 (bt (Nv r) d-1)):=by rw[List.range_eq_range',show bt (Nv r) d=(bt (Nv r) d-1)+1 from by omega,zd];simp
 refine⟨?_,by grind [kz,zu,AA]⟩;simp only[kz,zu,AA,e,QD,Fk];rfl
theorem Uj (a:aV n es) (ha:D3 es) (G:Av n es rs) {f:RZ} (hf:f∈IN n rs):0<f.length/\∃v:Nat,v<n/\f.headD 0=(v:Int):=by
 have R:=G.jD a ha;rw[IN,Eh]at hf
 grind [vf.eq_1,gQ,dl,IP,JE]
theorem ED {es:List Pr} (a:n<=200):(IN n rs).length<=40000:=by
 have b:QV n (Xl rs)=QV n (Xl rs)++[]:=(JR _).symm
 grind [zw,BC]
def M0 (o:hh.own T=some (.cells (Bp L))) (hi:i<L.length) (x:Int):
  aStore Tryz.prog hh 3 (.pointer (some ⟨T,i,none⟩)) (.int .i64 x)=some (hh.put T (.cells (Bp (L.set i x)))):=by rw[QB (P:=Tryz.prog) (t:=3) (x:=.int .i64 x) Ac Ji o (off:=i) (by rw[uE];exact hi) rfl rfl,yy]
def XP {l:Int} (o:hh.own T=some (.cells (Bp L))) (a:L[i]?=some l):aload Tryz.prog hh 3 ⟨T,i,none⟩=some (.int .i64 l):=by rw[Fq Ac rfl o];simp[Bp,a]
def Kx (T m:Nat) (k:IntKind) (j:Nat) (a:j<m):aIndexAddr Tryz.prog 49 (.slice (some ⟨T,0,none⟩) m m) (.int k j)=some (.pointer (some ⟨T,j,none⟩)):=by rw[Wc Mb Ac Ji j a];simp[Ip]
structure Yh (h h':AHeap) (A B C:Nat) (x:List Value):Prop where
 le:Le h h'
 wf:WF h'
 oA:h'.own A=some (.cells x)
 oB:h'.own B=some (.cells x)
 oC:h'.own C=some (.cells x)
 nA:h.own A=none
 nB:h.own B=none
 nC:h.own C=none
 ab:A≠B
 ac:A≠C
 bc:B≠C
theorem new3 (hw:WF h) (x:List Value):Yh h (((h.alloc (.cells x)).alloc (.cells x)).alloc (.cells x)) h.next (h.next+1) (h.next+1+1) x:=by
 have a:∀x,h.next<=x->h.own x=none:=fun x b=>(Le.refl h).next hw b
 have c:h.next+1+1≠h.next:=NH
 have d:h.next+1+1≠h.next+1:=NH
 have e:h.next+1≠h.next:=NH
 exact⟨(((Le.refl h).alloc hw _).alloc (hw.alloc _) _).alloc ((hw.alloc _).alloc _) _,((hw.alloc _).alloc _).alloc _,by grind [Mh],by simp[Mh,om],by simp[Mh,om],a _ (Ny _),a _ NH,a _ NH,NH,NH,NH⟩
def Yh.s12 (N:Yh h h' A B C x):Yh h h' B A C x:=⟨N.le,N.wf,N.oB,N.oA,N.oC,N.nB,N.nA,N.nC,N.ab.symm,N.bc,N.ac⟩
def Yh.s23 (N:Yh h h' A B C x):Yh h h' A C B x:=⟨N.le,N.wf,N.oA,N.oC,N.oB,N.nA,N.nC,N.nB,N.ac,N.ab,N.bc.symm⟩
end
end Go.Fw
