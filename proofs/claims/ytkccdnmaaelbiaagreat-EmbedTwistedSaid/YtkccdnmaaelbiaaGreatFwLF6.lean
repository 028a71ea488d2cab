/- A text. -/
import Derived.Test.YtkccdnmaaelbiaaGreatFwLC1
set_option linter.all false
set_option maxRecDepth 99999
set_option maxHeartbeats 9999999
namespace Go.Fw
section
attribute [local irreducible] Kp MQ lU rS KO KN KX KE VK Kl ZJ TC gU
attribute [local irreducible] toldE dO IN RD Ss bZ
open Go.Proofs
variable {M a c id j n:Nat} {P:List H8} {es:List Pr} {h:AHeap} {r:Nat->II} {rs:AM}
def tm_nat (a b:Nat):((a:Int)).tmod (b:Int)=((a%b:Nat):Int):=rfl
theorem Av.row (a:aV n es) (G:Av n es rs) (v:Nat) (b:j<(rs.getD v []).length):∃h:j<(Xl rs v).length,(rs.getD v [])[j]=(((Xl rs v)[j]:Nat):Int):=by grind [Av.back]
theorem DY (a:aV n es) (ha:D3 es) (G:Av n es rs) (v:Nat):(bZ n (Xl rs) v).length=((Zh n es).getD v []).length:=by grind [VE,bZ]
theorem Pz (b:aV n es) (ha:D3 es) (G:Av n es rs) (v:Nat) (c:j<((Zh n es).getD v []).length) (a:j<(bZ n (Xl rs) v).length):
  ∃w:Nat,((Zh n es).getD v [])[j]=(w:Int)/\(bZ n (Xl rs) v)[j]=(v,w)/\w∈Xl rs v:=by grind [VE,bZ]
def SA {l:List (Pr×Int)} (a:h.own M=some (.map (aah l))) (k:Pr):aLookupA Tryz.prog h 88 (.map (some M)) (UI k) false=some (.int .i64 ((lookK l k).getD 0)):=Il a k false
theorem GL (a:h.own id=none):Z2 h (.slice (some ⟨id,0,none⟩) n c):=fun b hb=>by injection hb with hb;grind
theorem Ep (n:Nat) (r:Nat->II):∀k,(Ss n r k).length<=k*n
 |0=>by grind [Ss]
 |k+1=>by
  have a:=Ep n r k
  grind [bZ,Ht]
theorem zw (a:n<=200) {P Q:List H8} (h:QV n r=P++Q):(RD r P).length+1<=40001:=by
 have b:=Ep n r n;rw[tD,h,Eh]at b;have h2:n*n<=200*200:=aax a a
 grind [RD]
theorem YU {d e:H8}:An r (P++[d]) e↔An r P e\/WD (Nv r) d e:=by grind [An]
theorem KJ (f:H8->H8) (d:H8) (k:Nat):((List.range (k+1)).map fun i=>(((it f i d).1:Nat):Int))=((List.range k).map fun i=>(((it f i d).1:Nat):Int))++[(((it f k d).1:Nat):Int)]:=by grind [List.range_succ]
def Vv (r:Nat->II) (d:H8):((List.range (bt (Nv r) d)).map fun i=>(((it (Nv r) i d).1:Nat):Int))=aab (zu r d):=by rw[aab,zu,AA,FD,FD];rfl
def lt_next {k o:Nat} (h:k<=o) (a:k≠o):k<o:=NH
def aw_len (h:a+1<=40001):awrap .i64 ((a:Int)+1)=((a+1:Nat):Int):=Tw a NH
def JC (a:Nat):(((a+1:Nat):Int))≠0:=NH
def le_big (h:a+1<=40001):a<=100000000:=NH
open Classical in
theorem Zq (W0:LA) (Y:Value) (rs:AM) (h:AHeap) (hv:RL (RL RP) h Y rs):
  AC Tryz.prog W0 68 [Y] h fun x h'=>Le h h'/\((x=.tuple #[.slice none 0 0,.int .i64 70]/\¬∃es,bX ⟨(rs.length:Int),es⟩/\Av rs.length es rs)\/
   ∃es f,bX ⟨(rs.length:Int),es⟩/\Av rs.length es rs/\x=.tuple #[f,.int .i64 0]/\RL (RL RP) h' f (IN rs.length rs)):=by
 refine AC.vE ⟨Tryz.func68,rfl,WY⟩ Tryz.ntmps68 Tryz.results68 fun e0=>?_;simp only[Br,Nat.reduceAdd];refine Uy ?_;refine TC.intro PJ ⟨Tryz.func118,rfl,WY⟩ (r7 W0 Y rs h hv) ?_;rintro x h1 w1 ⟨l1,⟨rfl,e1⟩|⟨es,ev,hr,G,rfl,bx,-⟩⟩
 .obtain ⟨de, h2, e2, aH, l2, w2⟩ := newE4 w1
  refine Sk (XC e2 aH) ?_
  grind [Le.trans]
 obtain⟨de,h2,e2,aH,l2,w2,L2⟩:=newG w1 (n:=(rs.length:Int)) bx.pr
 generalize h1.next=P4 at*
 have hR:=hr.GD;have hA:=hr.q9;have IR:=G.jD hR hA;have p:=TG IR;have eV:(rs.length:Int)<=200:=hr.n1;have eW:es.length<=594:=hr.len;have aJ:=l1.trans l2
 obtain⟨h3,e3,l3,w3,o3⟩:∃h3,h2.alloc (.map [])=h3/\Le h2 h3/\WF h3/\h3.own h2.next=some (.map []):=⟨_,rfl,(Le.refl h2).alloc w2 _,w2.alloc _,AHeap.zT _ _⟩
 have dj:h2.own h2.next=none:=(Le.refl h2).next w2 (vT _)
 have lr:=fun g=>hv.len (P:=Tryz.prog) sU g;have H:∀v,v<rs.length->(rs.getD v []).length<rs.length:=fun v hv=>Gt hR hA G hv;simp only[HO,Nat.reduceLT,↓reduceIte,Nat.reduceEqDiff,reduceCtorEq,e2,aH,e3,lr]
 generalize h2.next=A at*
 refine gU.intro (fun k fr R=>∃(i:Nat) (l:List (Pr×Pr)),k=rs.length-i/\i<=rs.length/\fr=mkF [(4,.pointer (some ⟨P4,0,none⟩)),(6,.map (some A)),(28,Y),(29,.int .i64 rs.length),(30,.int .i64 i)]/\
   R.own A=some (.map (Au l))/\Le h2 R/\∀d:H8,d.1∈Xl rs d.2->d.2<i->lookV l (Qi d)=some (Qi (Nv (Xl rs) d)))
  rs.length [(4,.pointer (some ⟨P4,0,none⟩)),(6,.map (some A)),(28,Y),(29,.int .i64 rs.length),(30,.int .i64 (0:Nat))] fD ⟨0,[],rfl,qy _,rfl,o3,l3,fun d _ h=>by omega⟩ ?_
 clear o3 w3 l3 e3;clear h3;rintro k fr R bB ⟨i,l,rfl,hi,rfl,oB,lq,hl⟩;refine Uy ?_;refine Kl.intro (fun S=>?_) (fun hf=>?_)
 .have C : i < rs.length := CC S
  clear S;have ar:=hv.qP6 i C;obtain⟨ru,bF,aK⟩:=hv.NS i C;have bH:=bF R (aJ.trans lq);rw[<-D4 (d:=[]) C]at aK;have e9:=H i C;have av:=fun j (hj:j<(rs.getD i []).length)=>G.row hR i hj;have hlen:(Xl rs i).length=(rs.getD i []).length:=by grind [Xl.eq_1]
  generalize rs.getD i []=row at*;have ay:=fun g=>aK.Uc g;refine Sk (Yb ar bH ay) ?_;refine gU.intro (fun k fr u=>∃(j:Nat) (l:List (Pr×Pr)),k=row.length-j/\j<=row.length/\fr=mkF [(4,.pointer (some ⟨P4,0,none⟩)),(6,.map (some A)),(7,.int .i64 i),(8,ru),(28,Y),(29,.int .i64 rs.length),(30,.int .i64 i),(35,ru),(36,.int .i64 row.length),(37,.int .i64 j)]/\
    u.own A=some (.map (Au l))/\Le h2 u/\(∀d:H8,d.1∈Xl rs d.2->d.2<i->lookV l (Qi d)=some (Qi (Nv (Xl rs) d)))/\∀(m:Nat) (X:m<(Xl rs i).length),m<j->lookV l (Qi ((Xl rs i)[m],i))=some (Qi (Nv (Xl rs) ((Xl rs i)[m],i))))
   row.length [(4,.pointer (some ⟨P4,0,none⟩)),(6,.map (some A)),(7,.int .i64 i),(8,ru),(28,Y),(29,.int .i64 rs.length),(30,.int .i64 i),(35,ru),(36,.int .i64 row.length),(37,.int .i64 (0:Nat))] fD ⟨0,l,rfl,qy _,rfl,oB,lq,hl,fun m _ h=>by omega⟩ ?_
  clear oB hl bH;rintro k fr u Z ⟨j,l,rfl,hj,rfl,oB,lz,hl,fb⟩;refine Uy ?_;refine Kl.intro (fun S=>?_) (fun hf=>?_)
  .have r : j < row.length := CC S
   clear S;have HZ:=aK.le Nn.RP (aJ.trans lz);have ad:=HZ.TA j r;have ld:=HZ.DH j r;have T:(j+1)%row.length<row.length:=Cg _ NH;have dq:=HZ.TA ((j+1)%row.length) T;have bI:=HZ.DH ((j+1)%row.length) T;obtain⟨dw,ej⟩:=av j r;obtain⟨fc,em⟩:=av _ T;rw[ej]at ld;rw[em]at bI;have dx:=Qy (IR.nd i) dw;simp only[hlen]at dx;have ag:=Tw j NH;have tm:=tm_nat (j+1) row.length;have dz:((row.length:Int)=0)=False:=eq_false NH;have aC:Nv (Xl rs) ((Xl rs i)[j],i)=(i,(Xl rs i)[(j+1)%row.length]):=by grind [Nv.eq_1]
   have st:=abg oB (Qi ((Xl rs i)[j],i)) (Qi (Nv (Xl rs) ((Xl rs i)[j],i)));simp only[aC,Qi]at st;simp only[HO,Nat.reduceLT,↓reduceIte,Nat.reduceEqDiff,reduceCtorEq,ad,ld,xe,ag,ay,tm,dz,dq,bI,uQ,st];refine tn (row.length-(j+1)) [(4,.pointer (some ⟨P4,0,none⟩)),(6,.map (some A)),(7,.int .i64 i),(8,ru),(28,Y),(29,.int .i64 rs.length),(30,.int .i64 i),(35,ru),(36,.int .i64 row.length),(37,.int .i64 (j+1:Nat))] (JS r) fD
    ⟨j+1,_,rfl,r,rfl,AHeap.Y3 _ _ _,lz.put _ dj,fun d hd dA=>?_,fun m X fe=>?_⟩
   .rw [CT, if_neg]
    .grind
    .intro e
     have:=fi (a:=((Xl rs i)[j],i)) (b:=d) e
     grind
   .rw [CT]
    by_cases e:m=j
    .subst e
     exact(if_pos rfl).trans (by rw[aC];rfl)
    .rw [if_neg]
     .grind
     .intro e2
      have:=fi (a:=((Xl rs i)[j],i)) (b:=((Xl rs i)[m],i)) e2;simp only[IE,and_true]at this;have nd:=IR.nd i;rw[EU,V3]at nd
      grind
  .have al : row.length <= j := vp hf
   have aL:=Tw i NH;refine Sk aL ?_;refine tn (rs.length-(i+1)) [(4,.pointer (some ⟨P4,0,none⟩)),(6,.map (some A)),(28,Y),(29,.int .i64 rs.length),(30,.int .i64 (i+1:Nat))] (JS C) fD
    ⟨i+1,l,rfl,C,rfl,oB,lz,fun d hd dA=>?_⟩
   by_cases e:d.2=i
   .obtain ⟨a, b⟩ := d
    simp only at e hd;subst e;obtain⟨m,X,em⟩:=Bx.1 hd
    grind
   grind
 have al:rs.length<=i:=vp hf;have bW:∀d:H8,d∈dl rs.length (Xl rs)->lookV l (Qi d)=some (Qi (Nv (Xl rs) d)):=fun d hd=>by grind [IP,V7.sy,V7.lt]
 clear hl hf al hi;obtain⟨hb,eb,lb,wb,ob⟩:=Tt bB []
 obtain⟨M,ec,lc,wc,oc⟩:∃M,hb.alloc (.map [])=M/\Le hb M/\WF M/\M.own hb.next=some (.map []):=⟨_,rfl,(Le.refl hb).alloc wb _,wb.alloc _,AHeap.zT _ _⟩
 have dB:R.own R.next=none:=(Le.refl R).next bB (vT _)
 have dE:hb.own hb.next=none:=(Le.refl hb).next wb (vT _)
 have dF:R.next≠hb.next:=fun e=>by grind
 have b0:aBuildSlice Tryz.prog R 27 0 []=some (.slice (some ⟨R.next,0,none⟩) 0 0,hb):=by rw[<-eb];exact Sf R
 have dI:=(L2 M ((lq.trans lb).trans lc)).1;refine Sk (Yb b0 ec dI) ?_
 generalize R.next=F0 at*
 generalize hb.next=c at*
 have b1:(M.kill c).own F0=some (.cells []):=by grind [AHeap.xJ,Le.own]
 have b2:Le R ((M.kill c).kill F0):=((lb.trans lc).Oo (lb.none dE)).Oo dB;refine TC.intro PJ ⟨zC,rfl,WY⟩ (AC.frame oc (AC.frame b1 (oe W0 _ rs.length es ((M.kill c).kill F0) ⟨ev,rfl,(bx.pr.le l2).le (lq.trans b2)⟩ hr))) ?_;rintro bv h5 w5 ⟨g1,⟨g,⟨aN,lg⟩,nF,rfl⟩,fg,rfl⟩;have nM:g.own c=none:=by grind [AHeap.By]
 have b3:=b2.trans lg;have dJ:g.own A=some (.map (Au l)):=b3.own _ _ oB;have fh:A≠c:=fun e=>by grind
 have dL:=Xq rs.length es;have b4:=fun g=>aN.fy g;rw[dL]at b4;have b6:Le g ((g.put F0 (.cells [])).put c (.map [])):=((Le.refl g).put _ nF).put _ nM;have g0:Lj (RL RP) (rem [c] ((g.put F0 (.cells [])).put c (.map []))) (.slice (some ⟨F0,0,none⟩) 0 0) (RD (Xl rs) (Ss rs.length (Xl rs) 0)):=by
  have:RD (Xl rs) (Ss rs.length (Xl rs) 0)=[]:=by grind [RD,Ss]
  grind [Lj.empty,Th,AHeap.By,AHeap.Y3]
 have b8:Z2 g (.slice (some ⟨F0,0,none⟩) 0 0):=fun b hb=>by injection hb with hb;grind
 have b9:blk (.slice (some ⟨F0,0,none⟩) 0 0)≠some c:=fun e=>by injection e with e;exact dF e
 generalize Value.slice (some ⟨F0,0,none⟩) 0 0=cc at*;have K:rs.length<=200:=NH;refine Sk b4 ?_;refine gU.intro (fun k fr z=>∃(i:Nat) (f:Value) (m:List (Pr×Int)),k=rs.length-i/\i<=rs.length/\fr=mkF [(6,.map (some A)),(11,f),(12,.map (some c)),(61,bv),(62,.int .i64 rs.length),(63,.int .i64 i)]/\
   z.own c=some (.map (aah m))/\Lj (RL RP) (rem [c] z) f (RD (Xl rs) (Ss rs.length (Xl rs) i))/\blk f≠some c/\Le g z/\Z2 g f/\∀d∈dl rs.length (Xl rs),((lookK m (Qi d)).getD 0≠0↔An (Xl rs) (Ss rs.length (Xl rs) i) d))
  rs.length [(6,.map (some A)),(11,cc),(12,.map (some c)),(61,bv),(62,.int .i64 rs.length),(63,.int .i64 (0:Nat))] fD
  ⟨0,cc,[],rfl,qy _,rfl,AHeap.Y3 _ _ _,g0,b9,b6,b8,fun d _=>by simp[lookK,An,Ss]⟩ ?_
 clear g0 b9 b8 b6 w5 b0;rintro k fr z N ⟨i,f,m,rfl,hi,rfl,oM,gf,bf,I,af,X⟩;refine Uy ?_;refine Kl.intro (fun S=>?_) (fun hf=>?_)
 rotate_left
 .have al : rs.length <= i := vp hf
  obtain rfl:i=rs.length:=NH;rw[tD,BC]at gf;refine Uy ?_;exact⟨aJ.trans (lq.trans (b3.trans I)),.inr ⟨es,f,hr,G,rfl,(gf.rl (Nn.RL Nn.RP)).le (Nn.RL Nn.RP) (Sa _ _)⟩⟩
 have C:i<rs.length:=CC S;clear S;have ab:=aN.Wm i NH;obtain⟨bu,cd,aP⟩:=aN.NS i NH;have cf:=cd z I;rw[<-D4 (d:=[]) NH]at aP;have fm:=DY hR hA G i;have dM:=fun j hj dQ=>Pz hR hA G i (j:=j) hj dQ;have dS:=fun j hj=>ddl_at (n:=rs.length) (Xl rs) (v:=i) (j:=j) C hj;have aT:=Ht rs.length (Xl rs) i;have dT:=bV rs.length es _ (VU (show i<(Zh rs.length es).length by omega));rw[<-D4 (d:=[]) NH]at dT;generalize (Zh rs.length es).getD i []=O at*;generalize bZ rs.length (Xl rs) i=D at*;have lR:=fun g=>aP.Uc g;simp only[HO,Nat.reduceLT,↓reduceIte,Nat.reduceEqDiff,reduceCtorEq,ab,cf,lR];refine gU.intro (fun k fr u=>∃(j:Nat) (f:Value) (m:List (Pr×Int)),k=O.length-j/\j<=O.length/\fr=mkF [(6,.map (some A)),(11,f),(12,.map (some c)),(13,.int .i64 i),(61,bv),(62,.int .i64 rs.length),(63,.int .i64 i),(68,bu),(69,.int .i64 O.length),(70,.int .i64 j)]/\
   u.own c=some (.map (aah m))/\Lj (RL RP) (rem [c] u) f (RD (Xl rs) (Ss rs.length (Xl rs) i++D.take j))/\blk f≠some c/\Le g u/\Z2 g f/\∀d∈dl rs.length (Xl rs),((lookK m (Qi d)).getD 0≠0↔An (Xl rs) (Ss rs.length (Xl rs) i++D.take j) d))
  O.length [(6,.map (some A)),(11,f),(12,.map (some c)),(13,.int .i64 i),(61,bv),(62,.int .i64 rs.length),(63,.int .i64 i),(68,bu),(69,.int .i64 O.length),(70,.int .i64 (0:Nat))] fD
  ⟨0,f,m,rfl,qy _,rfl,oM,pw,bf,I,af,pw⟩ ?_
 clear oM gf bf I af X cf N;clear z f m;rintro k fr z N ⟨j,f,m,rfl,hj,rfl,oM,gf,bf,I,af,X⟩;refine Uy ?_;refine Kl.intro (fun S=>?_) (fun hf=>?_)
 rotate_left
 .have al : O.length <= j := vp hf
  rw[AE NH,<-aT]at gf X;have aL:=Tw i NH;refine Sk aL ?_;exact tn (rs.length-(i+1)) [(6,.map (some A)),(11,f),(12,.map (some c)),(61,bv),(62,.int .i64 rs.length),(63,.int .i64 (i+1:Nat))] (JS C) fD
   ⟨i+1,f,m,rfl,C,rfl,oM,gf,bf,I,af,X⟩
 have r:j<O.length:=CC S;clear S;have aW:j<D.length:=NH;obtain⟨w,ew,ed,dV⟩:=dM j r aW;obtain⟨Q,hQ⟩:=dS j aW;have tk:D.take (j+1)=D.take j++[D[j]]:=EL aW;rw[ed]at hQ tk;have cg:Ss rs.length (Xl rs) i++D.take (j+1)=(Ss rs.length (Xl rs) i++D.take j)++[(i,w)]:=pw;generalize Ss rs.length (Xl rs) i++D.take j=P at*;have J:((i,w):H8)∈dl rs.length (Xl rs):=(IP IR).2 dV;have fp:=hd_met IR hQ;have cp:=zw K hQ;have fq:=wO (Xl rs) P (i,w);have HB:=aP.le Nn.RP I;have aj:=HB.TA j r;have lj:=HB.DH j r;rw[ew]at lj;have ag:=Tw j NH;obtain⟨fs,F,eE,sE,lE,wE,oE⟩:=Ut N ((i:Int),(w:Int))
 have nE:z.own z.next=none:=(Le.refl z).next N (vT _)
 generalize z.next=E0 at*
 have aX:=lE.own _ _ oM;have lk:=SA aX ((i:Int),(w:Int));have cq:=X _ J;have cr:=uM oE;have a1:=I.trans lE;have a6:=gf.le (Nn.RL Nn.RP) (lE.Xm (l:=[c]));by_cases cm:(lookK m ((i:Int),(w:Int))).getD 0=0
 rotate_left
 .have dm : decide ((lookK m ((i : Int), (w : Int))).getD 0 = 0) = false := decide_eq_false cm
  refine Sk (rk aj lj @xe eE sE cr @wD lk @bne.eq_1.{0} dm ag) ?_
  have U:=cq.1 cm;exact tn (O.length-(j+1)) [(6,.map (some A)),(11,f),(12,.map (some c)),(13,.int .i64 i),(61,bv),(62,.int .i64 rs.length),(63,.int .i64 i),(68,bu),(69,.int .i64 O.length),(70,.int .i64 (j+1:Nat))] (JS r) fD
   ⟨j+1,f,m,rfl,r,rfl,aX,pw,bf,a1,af,fun e he=>by
    rw[cg,YU,X e he];exact⟨.inl,fun x=>x.elim id fun o=>by obtain⟨y,hy,o'⟩:=U;exact⟨y,hy,o'.trans o⟩⟩⟩
 have dm:decide ((lookK m ((i:Int),(w:Int))).getD 0=0)=true:=decide_eq_true cm;have ef:¬An (Xl rs) P (i,w):=fun h=>cq.2 h cm;obtain⟨o0,o1,o2⟩:=bk p J;have eZ:bt (Nv (Xl rs)) (i,w)<=40000:=by
  have h1:=tf (Ri p J) (B:=QV rs.length (Xl rs)) fun y hy=>(Ks IR).2 ((IP IR).1 (p.sP J ((vA p J).1 hy)));rw[oN]at h1;have h2:=Ep rs.length (Xl rs) rs.length;rw[tD]at h2;have h3:rs.length*rs.length<=200*200:=aax K K;omega
 obtain⟨hF,eF,lF,wF,oF⟩:=Tt wE []
 have nC:F.own F.next=none:=(Le.refl F).next wE (vT _)
 have cx:aBuildSlice Tryz.prog F 49 0 []=some (.slice (some ⟨F.next,0,none⟩) 0 0,hF):=by rw[<-eF];exact mkI0 F
 generalize F.next=C0 at*
 have a7:GI hF (.slice (some ⟨C0,0,none⟩) 0 0) []:=GS.full (k:=1) (n:=0) oF rfl WY;have bb:Z2 F (.slice (some ⟨C0,0,none⟩) 0 0):=GL nC;generalize Value.slice (some ⟨C0,0,none⟩) 0 0=V at*;have ldF:=uM (lF.own _ _ oE);obtain⟨eg,hG,eG,sG,lG,wG,oG⟩:=Ut wF ((i:Int),(w:Int))
 have nG:hF.own hF.next=none:=(Le.refl hF).next wF (vT _)
 generalize hF.next=E1 at*
 have K0:Le (rem [c] F) hG:=(Sa _ _).trans (lF.trans lG);have kM:(rem [c] F).own c=none:=by grind [DC]
 have kB:(rem [c] F).own A=some (.map (Au l)):=Th.2 ⟨a1.own _ _ dJ,pw⟩;have cz:Z2 (rem [c] F) V:=fun b hb=>(Sa [c] F).none (bb b hb);have cC:=lG.own _ _ (lF.own _ _ aX);have cM:blk V≠some c:=fun e=>by have:=bb _ e;grind
 have cE:blk V≠some E1:=fun e=>GS.Sy a7 e nG;have eM:E1≠c:=fun e=>by grind
 have kE:(rem [c] F).own E1=none:=(Sa [c] F).none (lF.none nG);have eh:Le g (rem [c] F):=a1.iV (l:=[c]) fun b hb=>by grind
 have ei:=fun g=>(a6.rl (Nn.RL Nn.RP)).fy g;have cN:=aw_len cp;simp only[HO,Nat.reduceLT,↓reduceIte,Nat.reduceEqDiff,reduceCtorEq,aj,lj,xe,eE,sE,cr,wD,lk,bne,dm,cx,ldF,eG,sG];refine gU.intro (fun kk fr u=>∃(k:Nat) (cv:Value) (E:Nat) (L:List (Pr×Int)),kk=bt (Nv (Xl rs)) (i,w)-k/\k<=bt (Nv (Xl rs)) (i,w)/\fr=mkF [(6,.map (some A)),(11,f),(12,.map (some c)),(13,.int .i64 i),(18,cv),(19,.pointer (some ⟨E,0,none⟩)),(61,bv),(62,.int .i64 rs.length),(63,.int .i64 i),(68,bu),(69,.int .i64 O.length),(70,.int .i64 j)]/\
   u.own E=some (.cells (xM (Qi (it (Nv (Xl rs)) k (i,w)))))/\u.own c=some (.map (aah L))/\GI u cv ((List.range k).map fun x=>(((it (Nv (Xl rs)) x (i,w)).1:Nat):Int))/\Le (rem [c] F) u/\Z2 (rem [c] F) cv/\blk cv≠some c/\blk cv≠some E/\E≠c/\
   ∀e∈dl rs.length (Xl rs),((lookK L (Qi e)).getD 0≠0↔An (Xl rs) P e\/∃x,x<k/\it (Nv (Xl rs)) x (i,w)=e))
  (bt (Nv (Xl rs)) (i,w)) [(6,.map (some A)),(11,f),(12,.map (some c)),(13,.int .i64 i),(18,V),(19,.pointer (some ⟨E1,0,none⟩)),(61,bv),(62,.int .i64 rs.length),(63,.int .i64 i),(68,bu),(69,.int .i64 O.length),(70,.int .i64 j)] fD
  ⟨0,V,E1,m,rfl,qy _,rfl,oG,cC,GI.le a7 lG,K0,cz,cM,cE,eM,fun e he=>by grind⟩ ?_
 clear K0 cz cC cM cE eM kE a7 bb oG nG wG lG sG eG ldF cx nC oF wF lF eF;clear hG eg hF;rintro kk fr u Z ⟨k,cv,E,L,rfl,hk,rfl,ek,W,gc,lz,ac,cM,cE,eM,bh⟩;have cR:=p.uN J k;have cU:=bh _ cR;have c0:=SA W (Qi (it (Nv (Xl rs)) k (i,w)));have c3:=uM ek;by_cases ck:k=bt (Nv (Xl rs)) (i,w)
 .have U : (lookK L (Qi (it (Nv (Xl rs)) k (i, w)))).getD 0 ≠ 0 := cU.2 (.inr ⟨0, NH, by rw [ck, o1]; rfl⟩)
  have dk:decide ((lookK L (Qi (it (Nv (Xl rs)) k (i,w)))).getD 0=0)=false:=decide_eq_false U;refine Sk (xU c3 @wD c0 dk) ?_;rw[ck,Vv]at gc;have en:Le (rem [c] F) (rem [c] u):=lz.iV fun b hb=>by grind
  have eo:=a6.le (Nn.RL Nn.RP) en;have hb:∀b,blk f=some b->b∉[c]:=fun b hb X=>by grind
  have ep:∀b,blk f=some b->blk cv≠some b:=fun b hb M=>by
   obtain⟨us,g1,_⟩:=a6;exact GS.Sy g1 hb (ac b M)
  have gu:RL RP (rem [c] (rem (bl f) u)) cv (aab (zu (Xl rs) (i,w))):=by
   have q:GI (rem [c] (rem (bl f) u)) cv (aab (zu (Xl rs) (i,w))):=GS.Fi (GS.Fi gc (l:=bl f) fun b hb M=>ep b (Zr.1 M) hb) (l:=[c]) fun b sZ M=>by grind
   exact q.rl
  obtain⟨h7,c4,h8,e7,e8,ft,l7,w7,f8,k8⟩:=Lj.mG (P:=Tryz.prog) (t:=27) (Nn.RL Nn.RP) Ji eo Z gu gu.sl.one (le_big cp) hb (fun b hb=>by rw[ZT]at hb;subst hb;rw[W];simp);obtain⟨er,et⟩:=k8 c _ W bf;obtain⟨l8,a8⟩:=f8 g (eh.trans lz) af;refine Sk (xU (mkL52 u gu.sl) e7 e8 ag) ?_;refine tn (O.length-(j+1)) [(6,.map (some A)),(11,c4),(12,.map (some c)),(13,.int .i64 i),(61,bv),(62,.int .i64 rs.length),(63,.int .i64 i),(68,bu),(69,.int .i64 O.length),(70,.int .i64 (j+1:Nat))] (JS r) fD
   ⟨j+1,c4,L,rfl,r,rfl,er,pw,et,l8,a8,fun e he=>?_⟩
  rw[cg,YU,bh e he];constructor
  .rintro (h | ⟨x, _, h⟩)
   .exact .inl h
   .exact .inr ⟨x,h⟩
  .rintro (h | ⟨x, h⟩)
   .exact .inl h
   .refine .inr ⟨x % bt (Nv (Xl rs)) (i, w), by rw [ck]; exact Cg _ o0, ?_⟩
    rw[<-QF p J];exact h
 .have c5 := lt_next hk ck
  have c6:¬((lookK L (Qi (it (Nv (Xl rs)) k (i,w)))).getD 0≠0):=fun h=>by
   rcases cU.1 h with⟨y,hy,o⟩|⟨x,hx,e⟩
   .have fx : y ∈ dl rs.length (Xl rs) := (IP IR).2 ((Ks IR).1 pw)
    exact ef ⟨y,hy,o.trans (p.xw J ⟨k,rfl⟩)⟩
   grind [zk]
  have dk:decide ((lookK L (Qi (it (Nv (Xl rs)) k (i,w)))).getD 0=0)=true:=decide_eq_true (si c6);have aD:=bW _ cR;have bo:Nv (Xl rs) (it (Nv (Xl rs)) k (i,w))=it (Nv (Xl rs)) (k+1) (i,w):=rfl;rw[bo]at aD;have aq:=KJ (Nv (Xl rs)) (i,w) k;have st1:=pW W (Qi (it (Nv (Xl rs)) k (i,w))) ((RD (Xl rs) P).length+1:Nat);generalize hD:it (Nv (Xl rs)) k (i,w)=s at*;have eu:=AHeap.Y3 u c (.map (aah (setK L (Qi s) ((RD (Xl rs) P).length+1:Nat))));have ey:Le (rem [c] F) (u.put c (.map (aah (setK L (Qi s) ((RD (Xl rs) P).length+1:Nat))))):=lz.put _ kM;have ez:WF (u.put c (.map (aah (setK L (Qi s) ((RD (Xl rs) P).length+1:Nat))))):=Z.put _ (Z.lt W);have c9:(u.put c (.map (aah (setK L (Qi s) ((RD (Xl rs) P).length+1:Nat))))).own E=some (.cells (xM (Qi s))):=by grind [AHeap.By]
  have eA:GI (u.put c (.map (aah (setK L (Qi s) ((RD (Xl rs) P).length+1:Nat))))) cv ((List.range k).map fun x=>(((it (Nv (Xl rs)) x (i,w)).1:Nat):Int)):=GS.put gc _ cM;generalize u.put c (.map (aah (setK L (Qi s) ((RD (Xl rs) P).length+1:Nat))))=eB at*;have m0:aload Tryz.prog eB 3 ⟨E,0,none⟩=some (.int .i64 (s.1:Int)):=lK c9;obtain⟨br,h4,h5,e4,e5,g5,w5,l4,f5,k5⟩:=eA.push ez ((s.1:Nat):Int) pw;obtain⟨l5,a5⟩:=f5 _ ey ac;obtain⟨eC,eI⟩:=k5 c _ eu cM;obtain⟨eL,fz⟩:=k5 E _ c9 cE;have eO:=uM eL;obtain⟨fF,h6,e6,s6,l6,w6,o6⟩:=Ut w5 (Qi s)
  have da:h5.own h5.next=none:=(Le.refl h5).next w5 (vT _)
  generalize h5.next=E' at*
  have eQ:=uM o6;have db:=l5.trans l6;have eS:=Sx (db.own _ _ kB) aD;have st2:=gD (p:=Qi (it (Nv (Xl rs)) (k+1) (i,w))) o6;have dc:E'≠c:=fun e=>by grind
  have dd:blk br≠some E':=fun e=>GS.Sy g5 e da;have eT:=AHeap.Y3 h6 E' (.cells (xM (Qi (it (Nv (Xl rs)) (k+1) (i,w)))));have eU:(h6.put E' (.cells (xM (Qi (it (Nv (Xl rs)) (k+1) (i,w)))))).own c=some (.map (aah (setK L (Qi s) ((RD (Xl rs) P).length+1:Nat)))):=by rw[AHeap.By _ _ _ _ (uV dc)];exact l6.own _ _ eC
  simp only[HO,Nat.reduceLT,↓reduceIte,Nat.reduceEqDiff,reduceCtorEq,c3,wD,c0,dk,ei,cN,nN,st1,Dh,Ip,BS,m0,e4,e5,eO,e6,s6,XO,eQ,eS,st2];refine tn (bt (Nv (Xl rs)) (i,w)-(k+1)) [(6,.map (some A)),(11,f),(12,.map (some c)),(13,.int .i64 i),(18,br),(19,.pointer (some ⟨E',0,none⟩)),(61,bv),(62,.int .i64 rs.length),(63,.int .i64 i),(68,bu),(69,.int .i64 O.length),(70,.int .i64 j)] (JS c5) fD
   ⟨k+1,br,E',_,rfl,c5,rfl,eT,eU,by rw[aq];exact GS.put (GI.le g5 l6) _ dd,db.put _ (l5.none da),a5,eI,dd,dc,fun e he=>?_⟩
  rw[XR];by_cases ee:Qi s=Qi e
  .have := fi ee
   subst this;rw[if_pos rfl,Option.getD_some];exact⟨fun _=>.inr ⟨k,V9 k,hD⟩,fun _=>JC _⟩
  .rw [if_neg ee, bh e he]
   constructor
   .rintro (h | ⟨x, hx, h⟩)
    .exact .inl h
    .exact .inr ⟨x,M1 hx,h⟩
   .rintro (h | ⟨x, hx, h⟩)
    .exact .inl h
    .refine .inr ⟨x, oY (Nat.le_of_lt_succ hx) fun e2 => ee ?_, h⟩
     grind
end
section
attribute [local instance] Classical.propDecidable
open Go.Proofs
variable {A B C T a b i j n q v:Nat} {L:RZ} {es:List Pr} {h h' hh:AHeap} {r:Nat->II} {rs:AM} {x:List Value} {α:Type}
noncomputable def VF {α:Type} (P:Nat->α->Prop) (l:List α) (a:Nat):Nat:=(l.filter fun e=>decide (P a e)).length
theorem xV (P:Nat->α->Prop) (l:List α) (a:Nat):VF P l a<=l.length:=IK _ _
theorem LW (P:Nat->α->Prop) (l:List α) (e:α) (a:Nat):VF P (l++[e]) a=VF P l a+if P a e then 1 else 0:=by grind [VF]
theorem QA {P:Nat->α->Prop} {l:List α} {e:α} {hs:II} (b:q<hs.length) (c:P hs[q] e) (h2:∀i (h:i<hs.length),P hs[i] e->i=q):
  (hs.map fun a=>((VF P (l++[e]) a:Nat):Int))=(hs.map fun a=>((VF P l a:Nat):Int)).set q (((VF P l hs[q]:Nat):Int)+1):=by
 apply Cj
 all_goals grind [LW]
noncomputable def Gn (es l:List Pr) (a:Nat):Nat:=VF (fun a (e:Pr)=>Pu es a e.1.toNat) l a
noncomputable def sA (es:List Pr) (l:AM) (a:Nat):Nat:=VF (fun a (f:RZ)=>Pu es a (f.headD 0).toNat) l a
def z8 (n:Nat) (es:List Pr) (rs:AM):Prop:=∀a∈Es n es,0<Gn es es a->(Ic n es a).length+sA es (IN n rs) a=Gn es es a+2
def G4 (n:Nat) (es:List Pr) (i:Nat) (L:RZ):Prop:=L.length=n/\∀(j a v:Nat),j<i->(Es n es)[j]?=some a->v<n->Pu es a v->L[v]?=some (j:Int)
theorem G4.zero:G4 n es 0 (List.replicate n 0):=⟨Ma,fun j a v h=>by omega⟩
theorem sj (k:aV n es) (hi:(Es n es)[i]?=some a) (c:(Es n es)[j]?=some b) (ha:Pu es a v) (hb:Pu es b v):i=j:=by
 obtain⟨d,e⟩:=Ny.1 hi;obtain⟨f,g⟩:=Ny.1 c;have h:a=b:=rf (Gc hi) (Gc c) (ha.trans (hb.symm))
 grind [qD,List.pairwise_iff_getElem]
theorem G4.put (g:aV n es) (H:G4 n es i L) (hi:(Es n es)[i]?=some a) (h:Pu es a v):G4 n es i (L.set v (i:Int)):=by
 refine⟨by rw[P2];exact H.1,fun j b w f hb hw c=>?_⟩;have d:v≠w:=fun e=>by grind [sj]
 rw[LN d];exact H.2 j b w f hb hw c
theorem G4.next (H:G4 n es i L) (hi:(Es n es)[i]?=some a) (h:∀v∈Ic n es a,L[v]?=some (i:Int)):G4 n es (i+1) L:=by
 refine⟨H.1,fun j b w e hb hw d=>?_⟩;by_cases c:j=i
 .grind [mY]
 .exact H.2 j b w NH hb hw d
theorem G4.get (e:aV n es) (H:G4 n es (Es n es).length L) (b:v<n):∃q,∃h:q<(Es n es).length,L[v]?=some (q:Int)/\Pu es (Es n es)[q] v:=by
 obtain⟨a,ha,f⟩:=B6 e v b;obtain⟨q,c⟩:=yM.1 ha;obtain⟨d,h2⟩:=Ny.1 c;exact⟨q,d,H.2 q a v d c b f,pw⟩
def wT (b:aV n es) (h:q<(Es n es).length) (c:Pu es (Es n es)[q] v):∀i (h:i<(Es n es).length),Pu es (Es n es)[i] v->i=q:=fun i hi a=>
 sj b (XJ hi) (XJ h) a c
theorem JE (R:V7 n r) {d:H8} (a:d∈dl n r):(aab (zu r d)).headD 0=(d.1:Int)/\0<(aab (zu r d)).length:=by
 have:=(bk (TG R) a).1;have e:List.range (bt (Nv r) d)=0::(List.range' 1 (bt (Nv r) d-1)):=by rw[List.range_eq_range',show bt (Nv r) d=(bt (Nv r) d-1)+1 from by omega,VX];simp
 refine⟨?_,by grind [aab,zu,AA]⟩;simp only[aab,zu,AA,e,Uz,abj];rfl
theorem Uj (a:aV n es) (ha:D3 es) (G:Av n es rs) {f:RZ} (hf:f∈IN n rs):0<f.length/\∃v:Nat,v<n/\f.headD 0=(v:Int):=by
 have R:=G.jD a ha;rw[IN,eR]at hf
 grind [vf.eq_1,gQ,dl,IP,JE]
theorem ED {es:List Pr} (a:n<=200):(IN n rs).length<=40000:=by
 have b:QV n (Xl rs)=QV n (Xl rs)++[]:=(Gq _).symm
 grind [zw,BC]
def M0 (o:hh.own T=some (.cells (Bp L))) (hi:i<L.length) (x:Int):
  aStore Tryz.prog hh 3 (.pointer (some ⟨T,i,none⟩)) (.int .i64 x)=some (hh.put T (.cells (Bp (L.set i x)))):=by rw[QB (P:=Tryz.prog) (t:=3) (x:=.int .i64 x) Ac Ji o (off:=i) (by rw[uE];exact hi) rfl rfl,yy]
def XP {l:Int} (o:hh.own T=some (.cells (Bp L))) (a:L[i]?=some l):aload Tryz.prog hh 3 ⟨T,i,none⟩=some (.int .i64 l):=by rw[Fq Ac rfl o];simp[Bp,a]
def Kx (T m:Nat) (k:IntKind) (j:Nat) (a:j<m):aIndexAddr Tryz.prog 49 (.slice (some ⟨T,0,none⟩) m m) (.int k j)=some (.pointer (some ⟨T,j,none⟩)):=by rw[Wc Mb Ac Ji j a];simp[Ip]
structure Yh (h h':AHeap) (A B C:Nat) (x:List Value):Prop where
 le:Le h h'
 wf:WF h'
 oA:h'.own A=some (.cells x)
 oB:h'.own B=some (.cells x)
 oC:h'.own C=some (.cells x)
 nA:h.own A=none
 nB:h.own B=none
 nC:h.own C=none
 ab:A≠B
 ac:A≠C
 bc:B≠C
theorem new3 (hw:WF h) (x:List Value):Yh h (((h.alloc (.cells x)).alloc (.cells x)).alloc (.cells x)) h.next (h.next+1) (h.next+1+1) x:=by
 have a:∀x,h.next<=x->h.own x=none:=fun x b=>(Le.refl h).next hw b
 have c:h.next+1+1≠h.next:=NH
 have d:h.next+1+1≠h.next+1:=NH
 have e:h.next+1≠h.next:=NH
 exact⟨(((Le.refl h).alloc hw _).alloc (hw.alloc _) _).alloc ((hw.alloc _).alloc _) _,((hw.alloc _).alloc _).alloc _,by grind [Mh],by simp[Mh,om],by simp[Mh,om],a _ (vT _),a _ NH,a _ NH,NH,NH,NH⟩
def Yh.s12 (N:Yh h h' A B C x):Yh h h' B A C x:=⟨N.le,N.wf,N.oB,N.oA,N.oC,N.nB,N.nA,N.nC,N.ab.symm,N.bc,N.ac⟩
def Yh.s23 (N:Yh h h' A B C x):Yh h h' A C B x:=⟨N.le,N.wf,N.oA,N.oC,N.oB,N.nA,N.nC,N.nB,N.ac,N.ab,N.bc.symm⟩
end
end Go.Fw
