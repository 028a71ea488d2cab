/- A text. -/
import Derived.Test.YtkccdnmaaelbiaaGreatFwLJ22
set_option linter.all false
set_option maxRecDepth 99999
set_option maxHeartbeats 9999999
open Go.Proofs
namespace Go.Fw
section
attribute [local irreducible] Kp MQ lU rS KO KN KX KE VK Kl ZJ TC aab
attribute [local irreducible] Jz JL vq cQ
def aju(k id n:Nat)(a:n<1000000):okc k (.slice (some ⟨id,0,none⟩) n n):=⟨_,_,_,rfl,.inl ⟨qL0 _,V9 a WY⟩⟩
theorem ah1(c:LA)(h:aae):AC Tryz.prog c 17 [] h fun x h'=>x=.bool true/\Le h h':=by
 refine AC.vE ⟨qS31,rfl,WY⟩ Tryz.ntmps17 Tryz.results17 fun N=>?_;simp only[Br,seval];have bP:∀a b:Int,ag1 Tryz.prog 38 [(0,.int .i64 a),(1,.int .i64 b)]=some (UI (a,b)):=fun _ _=>rfl;have fV:∀x e:Value,ai4 Tryz.prog 24 (.agg #[x,e]) 1=some e:=fun _ _=>rfl;obtain⟨h1,e1,l1,w1,o1⟩:=Tt N (Iu c4E);have m1:=mkP4 h (0,1) (0,3) (1,2) (2,3);have O:Iu [(0,1),(0,3),(1,2),(2,3)]=Iu c4E:=rfl;rw[O,e1]at m1
 have P:PR h1 (.slice (some ⟨h.next,0,none⟩) 4 4) c4E:=PR.made o1 rfl
 obtain⟨h2,h3,a2,s2,l3,w3,lG⟩:=newG (n:=4) w1 P;have Q:=Wj (n:=4) P.sl;refine Sk (bG @bP m1 Q a2 s2 ((lG h3 (Le.refl _)).1)) ?_
 generalize h1.next=G1 at*
 have g1:GRc h3 (.agg #[.int .i64 4,.slice (some ⟨h.next,0,none⟩) 4 4]) ⟨((4:Nat):Int),c4E⟩:=⟨_,rfl,P.le l3,aju _ _ _ WY⟩
 refine kCi yo (Im c _ ⟨((4:Nat):Int),c4E⟩ h3 g1) ?_;rintro x h4 w4 ⟨l4,r1,aE,rfl,I1⟩;obtain⟨d,-,M,F1,rfl,f⟩:=I1.XK c4R c4T c4P;refine Uy ?_;refine kCi Tryz.func30 (akM c h4) ?_;rintro x h5 w5 ⟨⟨aF,rfl,p5,c5⟩,l5⟩;obtain⟨R,l,o,S⟩:=p5.cut c5 (i:=1) WY;have T:=Wj (n:=5) o.sl;simp only[amr]at l;refine Sk (Yb fV l T) ?_;refine kCi yo (Im c _ ⟨((5:Nat):Int),m5E⟩ h5 ⟨R,rfl,o,S⟩) ?_;rintro x h6 w6 ⟨l6,r2,aH,rfl,I2⟩;obtain⟨U,-,R2,F2,rfl,V⟩:=I2.XK m5R m5T m5P;refine Uy ?_;refine kCi Tryz.func30 (akM c h6) ?_;rintro x h7 w7 ⟨g7,l7⟩;refine Uy ?_;refine kCi yo (Im c _ ⟨((5:Nat):Int),k5L⟩ h7 g7) ?_;rintro x h8 w8 ⟨l8,r3,aJ,rfl,I3⟩;obtain⟨rfl,rfl⟩:=I3.bad k5R k5T k5N;refine Uy ?_;refine kCi Tryz.func31 (six_any c h8) ?_;rintro x h9 w9 ⟨g9,l9⟩;refine Uy ?_;refine kCi yo (Im c _ ⟨((6:Nat):Int),E9⟩ h9 g9) ?_;rintro x p W ⟨q,r4,aK,rfl,I4⟩;obtain⟨rfl,rfl⟩:=I4.bad k33R k33T k33N;obtain⟨r,X,s,aP,aa⟩:=Tt W (Iu p3E);have t:=mkP2 p (0,1) (1,2);have ae:Iu [(0,1),(1,2)]=Iu p3E:=rfl;rw[ae,X]at t
 have w:PR r (.slice (some ⟨p.next,0,none⟩) 2 2) p3E:=PR.made aa rfl
 have y:=Wj (n:=3) w.sl;refine Sk (Yb @bP t y) ?_;refine kCi yo (Im c _ ⟨((3:Nat):Int),p3E⟩ r ⟨_,rfl,w,aju _ _ _ WY⟩) ?_;rintro x z ag ⟨A,r5,aT,rfl,I5⟩;obtain⟨rfl,rfl⟩:=I5.no p3R p3T;obtain⟨B,aj,C,aV,al⟩:=Tt ag (Iu akL);have D:=mkP6 z (0,1) (0,2) (1,2) (2,3) (2,4) (3,4);have aq:Iu [(0,1),(0,2),(1,2),(2,3),(2,4),(3,4)]=Iu akL:=rfl;rw[aq,aj]at D
 have E:PR B (.slice (some ⟨z.next,0,none⟩) 6 6) akL:=PR.made al rfl
 have F:=Wj (n:=5) E.sl;refine Sk (Yb @bP D F) ?_;refine kCi yo (Im c _ ⟨((5:Nat):Int),akL⟩ B ⟨_,rfl,E,aju _ _ _ WY⟩) ?_;rintro x j aW ⟨G,r6,aX,rfl,I6⟩;obtain⟨rfl,rfl⟩:=I6.no bowR bowT;have k:Le h4 j:=l5.trans (l6.trans (l7.trans (l8.trans (l9.trans (q.trans (s.trans (A.trans (C.trans G))))))));have a1:Le h6 j:=l7.trans (l8.trans (l9.trans (q.trans (s.trans (A.trans (C.trans G))))));have H:=(lG j (l4.trans k)).1;have ar:adA .i64 (0+0)=0:=by decide
 have d0:decide ((0:Int)=0)=true:=by decide
 have av:decide ((90:Int)=90)=true:=by decide
 have ay:decide ((60:Int)=60)=true:=by decide
 refine Sk (IX ar d0 av ay H) ?_;refine kCi Tryz.func27 (al3 c _ r1 ⟨((4:Nat):Int),c4E⟩ d j ((g1.gr.le l4).le k) (f.le (Nn.RL Nn.RP) k)) ?_;rintro x az a6 ⟨⟨bb,rfl,aB⟩,aC⟩;have hb:bb=true:=aB.2 ⟨c4R,M,(En c4R.GD c4R.q9 M).2 F1⟩;subst hb;have I:=fun g=>f.qP6 g;have J:=fun g=>V.qP6 g;have m:0<d.length:=by grind[Av.len]
 have K:=f.qP7 0 m;obtain⟨u,lu,hu⟩:=f.Wm 0 m;have aD:d[0].length=2:=by have:=M.akX (v:=0) WY;rw[D4 m]at this;rw[this];decide+kernel
 have L:=fun g=>hu.DH g;rw[aD]at L;have e4:d.length=4:=M.len;have e5:U.length=5:=R2.len;rw[e4]at I;rw[e5]at J;simp only[P2]at K;have d4:decide (((4:Nat):Int)=4)=true:=by decide
 have d5:decide (((5:Nat):Int)=5)=true:=by decide
 have d2:decide (((2:Nat):Int)=2)=true:=by decide
 simp only[HO,seval,I,J,d4,d5,d2,K,lu az (k.trans aC),L];grind[Le.trans]
variable {h:aae} {v:Value}
theorem GRC.c{G:GM}(g:GRC h v G):GRc h v G:=by
 obtain⟨ev,d,h2,a,cap,h3,b⟩:=g;refine⟨ev,d,h2,a,_,cap,h3,?_⟩;rcases b with⟨e,f⟩|b
 .exact .inl ⟨f,e⟩
 .exact .inr b
def allocG(hw:WF h):∃a,agH Tryz.prog h 24=some (.pointer (some ⟨h.next,0,none⟩),a)/\Le h a/\WF a/\a.own h.next=some (.cells [.int .i64 0,.slice none 0 0]):=by obtain⟨a,b,l1,w1,c⟩:=Tt hw [.int .i64 0,.slice none 0 0];exact⟨a,by rw[Lo,b],l1,w1,c⟩
end
section
attribute [local irreducible] Kp MQ lU rS KO KN KX KE VK Kl ZJ TC aab
def ag4(es:List Pr)(w:RZ):Nat->List Pr
 |0=>es
 |i+1=>ais (ag4 es w i) (w.getD i 0) (w.getD (i+1) 0)
def aiT(es:List Pr)(w:RZ):∀i,(ag4 es w i).length<=es.length
 |0=>qL0 _
 |i+1=>Tn (ajF _ _) (aiT es w i)
theorem ai0(I:LA)(v D:Value)(n:Int)(es:List Pr)(w:RZ)(h:aae)(hg:GR h v ⟨n,es⟩)(hw:RL RP h D w)(U:es.length<=1000)(V:w.length<=1000):
  AC Tryz.prog I 146 [v,D] h fun x h'=>∃ev,x=.agg #[.int .i64 n,ev]/\PR h' ev (ag4 es w (w.length-1))/\Le h h':=by
 obtain⟨ev,rfl,J⟩:=hg.open
 refine AC.vE ⟨Tryz.func146,rfl,WY⟩ Tryz.ntmps146 Tryz.results146 fun q=>?_;simp only[Br,seval];obtain⟨r,K,s,t,oB,-⟩:=r8 (n:=n) q J
 have nB:h.own h.next=none:=(Le.refl h).next q (qL0 _)
 obtain⟨h2,L,l2,w2,oR⟩:=allocG t
 have W:r.own r.next=none:=(Le.refl r).next t (qL0 _)
 have X:h.next≠r.next:=fun e=>by grind
 have E:=s.none W;have u:=l2.own _ _ oB
 generalize h.next=B at*
 generalize r.next=R at*
 have y:=s.trans l2;refine Sk (XC K L) ?_;refine lIn (fun k fr f=>∃(i:Nat)(o:Value),k=w.length-i/\fr=mkF [(1,D),(2,.pointer (some ⟨B,0,none⟩)),(4,.pointer (some ⟨R,0,none⟩)),(5,.int .i64 (i+1:Nat))]/\(i=0\/i+1<=w.length)/\
   Le h f/\f.own B=some (.cells [.int .i64 n,o])/\f.own R=some (.cells [.int .i64 0,.slice none 0 0])/\∃g,Le g f/\g.own R=none/\g.own B=none/\PR g o (ag4 es w i)) ⟨0,ev,rfl,rfl,.inl rfl,y,u,oR,h,y,E,nB,J⟩ ?_
 clear u oR L K;rintro k fr f wq ⟨i,o,rfl,rfl,hi,M,oB,oR,g,lg,gR,gB,pg⟩;have F:=pg.le lg;have lw:=fun g=>hw.DH g;obtain⟨_,_,ex,-⟩:=F.sl;have p:∀g,Le f g->acd Tryz.prog g 24 ⟨B,0,none⟩=some (.agg #[.int .i64 n,o]):=fun g l=>tY (l.own _ _ oB) ⟨_,_,_,ex⟩;simp only[HO,seval,lw];refine Kl.intro (fun N=>?_) (fun hf=>?_)
 .have c:i+1<w.length:=CC N;clear N;have a:i<w.length:=NH;have j:=hw.le Nn.RP M;have O:=hw.TA i a;have P:=hw.TA (i+1) c;have Q:=j.Uc i a;have S:=j.Uc (i+1) c;rw[<-D4 (d:=0) a]at Q;rw[<-D4 (d:=0) c]at S;have ws:adA .i64 (((i+1:Nat):Int)-1)=(i:Int):=by grind[ie]
  have wa:=Tw (i+1) NH;refine Uy ?_;refine gh (tA [0,1,2,3,4,5,6,7,8,9] (JQ 10 [0,5,9] (JQ 11 [0,1,2,3,4,5,6,7,8,9,10] .done))) ?_;refine CO (bG O P Q S ws (p f (Le.refl _))) ?_;refine kGi Tryz.func74 (ajK I _ n _ _ _ f ⟨o,rfl,F⟩ (Tn (aiT es w i) U)) ?_;rintro x h3 w3 ⟨m,rfl,G,l3,T⟩;have z:=(j.le Nn.RP l3).Uc i a;have A:=(j.le Nn.RP l3).Uc (i+1) c;rw[<-D4 (d:=0) a]at z;rw[<-D4 (d:=0) c]at A;obtain⟨_,_,e3,-⟩:=G.pr.sl;have st:=DG (n:=n) (l3.own _ _ oB) G.pr.sl.one (by rw[e3];rfl);have nb:blk m≠some B:=fun e=>by have:=T _ e;grind
  have aa:blk m≠some R:=fun e=>by have:=T _ e;grind
  have g4:GP (rem [R,B] h3) m (ag4 es w (i+1)):=GS.Fi G fun b hb hm=>by grind
  have C:(rem [R,B] h3).own B=none:=by grind[DC]
  have H:(rem [R,B] h3).own R=none:=by grind[DC]
  simp only[HO,seval,Qg,O,P,z,A,ws,p h3 l3,st,wa];exact lgA NH ⟨i+1,m,rfl,rfl,.inr c,(M.trans l3).put _ nB,aae.Y3 _ _ _,by grind[aae.By,Le.own],_,(Sa _ _).put _ C,H,C,g4.pr⟩
 .have ae:w.length<=i+1:=vp hf;have ei:i=w.length-1:=NH;have st:=DG (n:=n) oR F.sl.one (by rw[ex];rfl);have ld:=tY (n:=n) (ev:=o) (aae.Y3 f R (.cells [.int .i64 n,o])) ⟨_,_,_,ex⟩;simp only[HO,seval,p f (Le.refl _),st,ld];grind[PR.le,Le.put]
theorem alJ(B:LA)(v:Value)(f:II)(i j:Nat)(h:aae)(r:RL RP h v (aaa f))(hi:i<f.length)(C:j<f.length)(P:f.length<=1000):
  AC Tryz.prog B 172 [v,.int .i64 (i:Int),.int .i64 (j:Int)] h fun x h'=>GI h' x (aaa (Qk f i j))/\Le h h'/\Z2 h x:=by
 refine AC.vE ⟨Tryz.func172,rfl,WY⟩ Tryz.ntmps172 Tryz.results172 fun e=>?_;simp only[Br,seval];have E:(aaa f).length=f.length:=y6 f;have s:=fun g=>r.DH g;rw[E]at s;have ad:∀c,c<f.length->abX Tryz.prog 49 v (.int .i64 (c:Int))=some (.pointer (some (abv v c))):=fun c u=>r.TA c NH;have ld:∀g,Le h g->∀c,c<f.length->acd Tryz.prog g 3 (abv v c)=some (.int .i64 ((f.getD c 0:Nat):Int)):=fun g F c u=>by rw[(r.le Nn.RP F).Uc c NH,sY u,D4 u]
 obtain⟨G,H,l1,w1,I⟩:=Tt e [.int .i64 ((f.getD i 0:Nat):Int)];simp only[HO,seval,ad i hi,ld h (Le.refl _) i hi,DQ,H]
 have nB:h.own h.next=none:=(Le.refl h).next e (qL0 _)
 have D:(j+f.length-i)%f.length<f.length:=OM _ NH;let L:Nat->II:=fun t=>(List.range (t+1)).map fun t=>f.getD ((i+t)%f.length) 0;have J:L 0=[f.getD i 0]:=by grind[Nat.mod_eq_of_lt]
 have K:GI G (.slice (some ⟨h.next,0,none⟩) 1 1) (aaa (L 0)):=by rw[J];exact GS.full I rfl (show 1<1000000000000 by decide)
 refine aab.intro (fun k fr l=>∃(t:Nat)(o:Value),k=(j+f.length-i)%f.length-t/\t<=(j+f.length-i)%f.length/\fr=mkF [(0,v),(1,.int .i64 (((i+t)%f.length:Nat):Int)),(2,.int .i64 (j:Int)),(7,o)]/\GI l o (aaa (L t))/\Le h l/\Z2 h o)
  ((j+f.length-i)%f.length) [(0,v),(1,.int .i64 (i:Int)),(2,.int .i64 (j:Int)),(7,.slice (some ⟨h.next,0,none⟩) 1 1)] hAs
  ⟨0,_,rfl,WA _,by rw[Qn,AQ hi],K,l1,fun b hb=>by grind[blk]⟩ ?_
 rintro k fr l w ⟨t,o,rfl,M,rfl,g,leq,ap⟩;have st:=ke hi C M;have Q:(i+t)%f.length<f.length:=OM _ NH;by_cases c:(i+t)%f.length=j
 .have d:decide ((((i+t)%f.length:Nat):Int)=(j:Int))=true:=XJ NH;refine Sk (XC @bne.eq_1.{0} d) ?_
  grind[Qk]
 .have d:decide ((((i+t)%f.length:Nat):Int)=(j:Int))=false:=Sb NH;have m:t<(j+f.length-i)%f.length:=pw;have aw:=Tw ((i+t)%f.length) NH;have R:((i+t)%f.length+1)%f.length=(i+(t+1))%f.length:=by rw[aeH];rfl
  have N:(i+(t+1))%f.length<f.length:=OM _ NH;obtain⟨a,S,O,p,z,T,U,l4,hf,-⟩:=g.push w ((f.getD ((i+(t+1))%f.length) 0:Nat):Int) (by grind[y6]);obtain⟨l5,A⟩:=hf h leq ap;have fin:GI O a (aaa (L (t+1))):=by
   have:L (t+1)=L t++[f.getD ((i+(t+1))%f.length) 0]:=by grind[List.range_succ]
   grind[aaa]
  by_cases V:(i+t)%f.length+1=f.length
  .have n:(i+(t+1))%f.length=0:=by grind[Nat.mod_self]
   have y:decide ((((i+t)%f.length+1:Nat):Int)=(f.length:Int))=true:=XJ NH;have q:=ad 0 NH;have l0:=ld l leq 0 NH;rw[n]at p;simp only[P2]at q;simp only[HO,seval,bne,d,aw,s,y,q,l0,p,z];exact tn ((j+f.length-i)%f.length-(t+1)) [(0,v),(1,.int .i64 (0:Int)),(2,.int .i64 (j:Int)),(7,a)] NH hAs ⟨t+1,a,rfl,m,by rw[n];rfl,fin,l5,A⟩
  .have n:(i+(t+1))%f.length=(i+t)%f.length+1:=by grind[Nat.mod_eq_of_lt]
   have y:decide ((((i+t)%f.length+1:Nat):Int)=(f.length:Int))=false:=Sb NH;have q:=ad ((i+t)%f.length+1) NH;have l0:=ld l leq ((i+t)%f.length+1) NH;rw[n]at p;simp only[HO,seval,bne,d,aw,s,y,q,l0,p,z];exact tn ((j+f.length-i)%f.length-(t+1)) [(0,v),(1,.int .i64 (((i+t)%f.length+1:Nat):Int)),(2,.int .i64 (j:Int)),(7,a)] NH hAs ⟨t+1,a,rfl,m,by rw[n];rfl,fin,l5,A⟩
variable {fv u v:Value} {h r:aae} {i:Nat} {us:List Value} {x:RZ} {xs:AM}
structure ag0 (r h:aae) (v:Value) (us:List Value) (xs:AM):Prop where
 g:GS 1 h v us.length us
 lr:Le r h
 ap:Z2 r v
 ln:us.length=xs.length
 rd:∀(i:Nat)(x:RZ)(u:Value),xs[i]?=some x->us[i]?=some u->RL RP r u x
theorem ag0.one{r h:aae}{v:Value}{us:List Value}{xs:AM}(o:ag0 r h v us xs):us.all (·.oneCell')=true:=by rw[DF];intro u a;obtain⟨i,hi⟩:=qy.1 a;have b:=(Ny.1 hi).1;exact(o.rd i _ u (yY (by grind[ag0.ln])) hi).one
theorem ag0.rl(o:ag0 r h v us xs):RL (RL RP) h v xs:=by
 refine⟨us,⟨?_,fun i x a=>?_⟩,o.ln,fun i x u b h2=>(o.rd i x u b h2).le Nn.RP o.lr⟩
 .exact o.g.cs.sl
 .have:=o.g.cs.get i x a;grind
theorem ag0.copy(c:WF h)(g:RL (RL RP) h fv xs)(r:xs.length<=100000):
  ∃a d h2 us,abB Tryz.prog h 27 0 []=some (.slice (some ⟨h.next,0,none⟩) 0 0,a)/\adg Tryz.prog a 27 27 (.slice (some ⟨h.next,0,none⟩) 0 0) fv=some (d,h2)/\ag0 h h2 d us xs/\WF h2:=by
 obtain⟨a,j,l1,w1,l⟩:=Tt c []
 have s:h.own h.next=none:=(Le.refl h).next c (qL0 _)
 have bl:abB Tryz.prog h 27 0 []=some (.slice (some ⟨h.next,0,none⟩) 0 0,h.alloc (.cells [])):=Ji
 obtain⟨us,rs,ln,rd⟩:=g
 have m:GS 1 a (.slice (some ⟨h.next,0,none⟩) 0 0) 0 []:=GS.full l rfl WY
 have n:CS 1 a fv us.length us:=rs.cs.le l1;have one:us.all (·.oneCell')=true:=by rw[DF];intro u o;obtain⟨i,hi⟩:=qy.1 o;have v:=(Ny.1 hi).1;exact(rd i _ u (yY pw) hi).one
 obtain⟨d,h2,f,w,hf⟩:=GS.append (P:=Tryz.prog) (t:=27) (xt:=27) (k:=1) Ji m (fun e p=>CS.src p n) rfl one Ma NH;obtain⟨l2,q⟩:=hf h w1 l1 fun b hb=>by grind[blk]
 refine⟨a,d,h2,us,by rw[bl,j],f,⟨?_,l2,q,ln,rd⟩,xr w1 f⟩;grind
theorem ag0.push(o:ag0 r h v us xs)(f:WF h)(j:RL RP r u x)(B:xs.length<=100000):
  ∃b v' d,abB Tryz.prog h 27 1 [(0,u)]=some (.slice (some ⟨h.next,0,none⟩) 1 1,b)/\adg Tryz.prog b 27 27 v (.slice (some ⟨h.next,0,none⟩) 1 1)=some (v',d)/\ag0 r d v' (us++[u]) (xs++[x])/\WF d:=by
 obtain⟨b,p,l4,l,q⟩:=Tt f [u];have u1:=j.one
 have bl:abB Tryz.prog h 27 1 [(0,u)]=some (.slice (some ⟨h.next,0,none⟩) 1 1,h.alloc (.cells [u])):=by obtain⟨a,c,rfl,-⟩:=j.sl;rfl
 have s:CS 1 b (.slice (some ⟨h.next,0,none⟩) 1 1) 1 [u]:=CS.own (k:=1) (off:=0) (n:=1) (cap:=1) q Ma
 obtain⟨v',d,m,C,hf⟩:=GS.append (P:=Tryz.prog) (t:=27) (xt:=27) (k:=1) Ji (o.g.le l4) (fun e z=>CS.src z s) o.one (by simp[u1]) Ma (by have:=o.ln;omega);obtain⟨l5,A⟩:=hf r l (o.lr.trans l4) o.ap;refine⟨b,v',d,by rw[bl,p],m,⟨?_,l5,A,by simp[o.ln],fun i y w D h2=>?_⟩,xr l m⟩
 .grind
 .by_cases c:i<us.length
  .grind[ag0.ln,ag0.rd]
  grind[ag0.ln]
theorem ag0.store(o:ag0 r h v us xs)(d:WF h)(e:RL RP r u x)(hi:i<xs.length):
  ∃h',abX Tryz.prog 27 v (.int .i64 (i:Int))=some (.pointer (some (abv v i)))/\acs Tryz.prog h 49 (.pointer (some (abv v i))) u=some h'/\ag0 r h' v (us.set i u) (xs.set i x)/\WF h':=by
 have ad:=o.rl.NS i hi;obtain⟨q,⟨rfl,s⟩|⟨id,c,cap,rfl,f,z,A⟩⟩:=o.g
 .grind[ag0.ln]
 have k:i<us.length:=by grind[ag0.ln]
 have l:us.length<=c.length:=pw;have m:u.cells=#[u]:=by obtain⟨a,n,rfl,-⟩:=e.sl;rfl
 have st:=QB (P:=Tryz.prog) (t:=49) (x:=u) Mb Ji f (off:=i) NH m e.one;have ea:abv (.slice (some ⟨id,0,none⟩) us.length cap) i=⟨id,i,none⟩:=by grind[fA,Ip]
 have p:r.own id=none:=o.ap id rfl;refine⟨_,ad,by rw[ea];exact st,⟨⟨Ma,.inr ⟨id,_,cap,Ma,aae.Y3 _ _ _,?_,pw⟩⟩,o.lr.put _ p,fun b hb=>?_,by simp[o.ln],fun j y w B h2=>?_⟩,d.put _ (d.lt f)⟩
 .grind[List.take_set]
 .exact o.ap b hb
 grind[ag0.rd]
attribute [local instance] Classical.propDecidable
variable {F:Cs} {f:II} {j n:Nat}
theorem aik{v:Nat}{x:Value}(a:v∈f)(h:((v:Int)∉aaa f/\x=.int .i64 (-1))\/∃i:Nat,x=.int .i64 (i:Int)/\(aaa f)[i]?=some (v:Int)/\∀j,j<i->(aaa f)[j]?≠some (v:Int)):
  x=.int .i64 ((Dn f v:Nat):Int)/\Dn f v<f.length:=by
 rcases h with⟨h,-⟩|⟨i,rfl,b,h2⟩
 .exact absurd (List.mem_map_of_mem a) h
 grind[y6,Dn,List.findIdx_eq,sY]
theorem aiC(f:II)(i j:Nat)(h:0<f.length):(Qk f i j).length<=f.length:=by unfold Qk;rw[vY,GK];exact OM _ h
theorem l5a{C:II}{w:II}{fl n j:Nat}(h:C.length<=fl)(a:fl<=1000->True)(b:fl<=1000)(h2:j+1<n-1)(h3:n<=1000):(aaa (C++w.take j)).length<=100000:=by grind[y6]
def l5b(h:j+1<n-1):j+1<n:=NH
def l5c(h:j+1<n-1)(h2:n<=1000):j+1<4611686018427387904:=NH
def l5d{j n l:Nat}(h:j+1<n-1)(h2:l=n-2):j<l:=NH
def l5e(h:j+1<n-1):j<n-2:=NH
def l5f(h:j+1<n-1):n-(j+1)<n-j:=NH
def l5g(h:j<=n-2)(h2:n-1<=j+1)(h3:2<=n):j=n-2:=NH
theorem l5h(h:F.length<=1000):(F.map aaa).length<=100000:=pw
theorem laid_any(D:LA)(S E:Value)(F:Cs)(f:Nat)(way:II)(h:aae)(W:RL (RL RP) h S (F.map aaa))(hw:RL RP h E (aaa way))(G:f<F.length)(h2:2<=way.length)(ha:way.headD 0∈F.getD f [])(hb:Ni way∈F.getD f [])(hF:F.length<=1000)(H:way.length<=1000)(aC:∀x∈F,x.length<=1000):
  AC Tryz.prog D 149 [S,.int .i64 (f:Int),E] h fun x h'=>RL (RL RP) h' x ((kY F f way).map aaa)/\Le h h':=by
 refine AC.vE ⟨Tryz.func149,rfl,WY⟩ Tryz.ntmps149 Tryz.results149 fun aD=>?_;simp only[Br,seval];have X:=W.NS f (by simpa using G);obtain⟨T,aa,c⟩:=W.Wm f (by simpa using G);have er:(F.map aaa)[f]'(by grind)=aaa (F.getD f []):=pw
 rw[er]at c;have n:(F.getD f []).length<=1000:=pw;generalize aE:F.getD f []=a at*;have lw:=fun g=>hw.DH g;rw[y6]at lw;have w0:0<way.length:=NH;have r:=fun i (hi:i<way.length)=>hw.TA i (by rw[y6];exact hi);have s:∀g,Le h g->∀i (hi:i<way.length),acd Tryz.prog g 3 (abv E i)=some (.int .i64 ((way.getD i 0:Nat):Int)):=fun g l i hi=>by rw[(hw.le Nn.RP l).Uc i (by rw[y6];exact hi),sY hi,D4 hi]
 have t:=r 0 w0;simp only[P2]at t;have u:=s h (Le.refl _) 0 w0;have e0:way.getD 0 0=way.headD 0:=by cases way<;>rfl
 rw[e0]at u;have y:=r (way.length-1) NH;have ld1:=s h (Le.refl _) (way.length-1) NH;have w1:adA .i64 ((way.length:Int)-1)=((way.length-1:Nat):Int):=by grind[ie]
 have w2:adA .i64 ((way.length:Int)-2)=((way.length-2:Nat):Int):=by grind[ie]
 refine Sk (XC X (aa h (Le.refl _))) ?_;refine gh (tA [0,1,2,3,5,6,7,8,9,10,11] (JQ 4 [0,3] (JQ 12 [4,5,11] (tA [13,14] .done)))) ?_;simp only[HO,seval,Qg,t,u,lw,w1,y,ld1];refine kGi alN (ahD D T _ _ h c (by rw[y6];omega)) ?_;rintro x h' aF ⟨hp,rfl⟩;obtain⟨rfl,i1⟩:=aik ha hp;simp only[HO,seval,Qg,t,u,lw,w1,y,ld1];refine kGi alN (ahD D T _ _ h' c (by rw[y6];omega)) ?_;rintro x h' aB ⟨ae,rfl⟩;obtain⟨rfl,i2⟩:=aik hb ae;simp only[HO,seval,Qg,t,u,lw,w1,y,ld1];have ag:Ni way=way.getD (way.length-1) 0:=rfl;refine kCi Tryz.func172 (alJ D T a _ _ h' c i1 i2 n) ?_;rintro ov h1 aH ⟨g1,l1,a1⟩;refine Uy ?_;refine kCi Tryz.func172 (alJ D T a _ _ h1 (c.le Nn.RP l1) i2 i1 n) ?_;rintro m aJ aK ⟨g2,l2,a2⟩;simp only[HO,seval,lw,w2];have hd:∀b,blk ov=some b->blk m≠some b:=fun b hb e=>by have:=a2 b e;exact GS.Sy g1 hb this
 have aP:=aiC a (Dn a (way.headD 0)) (Dn a (Ni way)) NH;have aj:=aiC a (Dn a (Ni way)) (Dn a (way.headD 0)) NH;have eO:Ee a way=Qk a (Dn a (way.headD 0)) (Dn a (Ni way))++(jc way).reverse:=rfl;have eT:kP a way=Qk a (Dn a (Ni way)) (Dn a (way.headD 0))++jc way:=rfl;generalize Qk a (Dn a (way.headD 0)) (Dn a (Ni way))=A at*;generalize Qk a (Dn a (Ni way)) (Dn a (way.headD 0))=C at*;have I:=l1.trans l2;have J:(jc way).length=way.length-2:=by grind[jc]
 have K:∀j,j<way.length-2->(jc way)[j]?=some (way.getD (j+1) 0):=fun j L=>by unfold jc;rw[mg,AE L,im,Nat.add_comm 1 j,D4 (show j+1<way.length by omega)];grind
 have n0:h'.own=h'.own:=rfl;refine lIn (fun k fr M=>∃(j:Nat)(v:Value),k=j/\j<=way.length-2/\fr=mkF [(0,S),(1,.int .i64 (f:Int)),(2,E),(10,v),(11,m),(12,.int .i64 (j:Nat))]/\GI M v (aaa (A++((jc way).drop j).reverse))/\GI M m (aaa C)/\Le h' M/\Z2 h' v/\Z2 h' m/\∀b,blk v=some b->blk m≠some b) ⟨way.length-2,ov,rfl,qL0 _,rfl,by grind[List.reverse_nil,GI.le],g2,I,a1,fun b hb=>l1.none (a2 b hb),hd⟩ ?_;clear g1 g2 hd a1 l1 l2 a2 I;rintro j fr M wq ⟨_,v,rfl,L,rfl,w,gt,U,ax,p,hd⟩;refine Uy ?_;by_cases j0:j=0
 rotate_left
 .obtain⟨i,al⟩:∃i,j=i+1:=⟨j-1,NH⟩;subst al;have dj:decide (((i+1:Nat):Int)>0)=true:=XJ NH;have q:=r (i+1) NH;have z:=s M U (i+1) NH;have ws:adA .i64 (((i+1:Nat):Int)-1)=(i:Int):=by grind[ie]
  obtain⟨aq,h4,h5,N,O,P,w5,l4,f5,k5⟩:=w.push wq ((way.getD (i+1) 0:Nat):Int) (by grind[y6,List.length_append,List.length_reverse,List.length_drop]);obtain⟨l5,a5⟩:=f5 h' U ax;have ed:(jc way).drop i=way.getD (i+1) 0::(jc way).drop (i+1):=by have hi:i<(jc way).length:=NH;have:=K i NH;grind[List.drop_eq_getElem_cons]
  have en:aaa (A++((jc way).drop (i+1)).reverse)++[((way.getD (i+1) 0:Nat):Int)]=aaa (A++((jc way).drop i).reverse):=by rw[ed,Jj];simp[aaa]
  rw[en]at P;refine Sk (bG dj q z N O ws) ?_;refine lgA (FD i) ⟨i,aq,rfl,NH,rfl,P,?_,l5,a5,p,fun b hb e=>?_⟩
  .exact GS.kept gt fun b o hb Q=>(k5 b o Q fun e=>hd b e hb).1
  .obtain⟨o,Q⟩:=iy.1 (GS.Sy gt e);grind
 subst j0;have d0:decide (((0:Nat):Int)>0)=false:=by decide
 rw[ti]at w;refine Sk d0 ?_;refine lIn (fun k fr B=>∃(j:Nat)(m:Value),k=way.length-j/\j<=way.length-2/\fr=mkF [(0,S),(1,.int .i64 (f:Int)),(2,E),(10,v),(11,m),(13,.int .i64 (j+1:Nat))]/\GI B v (aaa (A++(jc way).reverse))/\GI B m (aaa (C++(jc way).take j))/\Le h' B/\Z2 h' m/\∀b,blk m=some b->blk v≠some b) ⟨0,m,rfl,WA _,rfl,w,pw,U,p,fun b hb e=>hd b e hb⟩ ?_;clear w gt U ax p hd;clear m;rintro k fr B wz ⟨j,m,rfl,L,rfl,w,gt,V,p,hd⟩;have wj:adA .i64 ((way.length:Int)-1)=((way.length-1:Nat):Int):=w1;simp only[HO,seval,lw,wj];refine Kl.intro (fun ht=>?_) (fun hf=>?_)
 .have d:j+1<way.length-1:=CC ht;clear ht;have q:=r (j+1) (l5b d);have z:=s B V (j+1) (l5b d);have wa:=Tw (j+1) (l5c d H);obtain⟨ar,h4,h5,N,O,P,w5,l4,f5,k5⟩:=gt.push wz ((way.getD (j+1) 0:Nat):Int) (l5a aj (fun _=>trivial) n d H);obtain⟨l5,a5⟩:=f5 h' V p;have et:(jc way).take (j+1)=(jc way).take j++[way.getD (j+1) 0]:=by
   have hi:j<(jc way).length:=l5d d J;have:=K j (l5e d);grind[List.take_succ_eq_append_getElem]
  have en:aaa (C++(jc way).take j)++[((way.getD (j+1) 0:Nat):Int)]=aaa (C++(jc way).take (j+1)):=by rw[et];simp[aaa]
  rw[en]at P;refine Sk (IX q z N O wa) ?_;refine lgA (l5f d) ⟨j+1,ar,rfl,l5e d,rfl,?_,P,l5,a5,fun b hb e=>?_⟩
  .exact GS.kept w fun b o hb Q=>(k5 b o Q fun e=>hd b e hb).1
  .obtain⟨o,Q⟩:=iy.1 (GS.Sy w e);grind
 have R:way.length-1<=j+1:=vp hf;have ej:j=way.length-2:=l5g L R h2;rw[ej,HV (Nat.le_of_eq J)]at gt;clear ej R hf L;have av:=W.le (Nn.RL Nn.RP) V;obtain⟨z1,v2,z2,us,e1,e2,O2,ay⟩:=ag0.copy wz av (l5h hF);have r1:RL RP B v (aaa (A++(jc way).reverse)):=w.rl;have r2:RL RP B m (aaa (C++jc way)):=gt.rl;obtain⟨z3,ad3,st3,O3,az⟩:=O2.store ay r1 (i:=f) pw;obtain⟨z4,v5,z5,N,O,O5,aT⟩:=O3.push az r2 pw;simp only[HO,seval,e1,e2,ad3,st3,N,O];refine⟨?_,V.trans O5.lr⟩;have ef:(kY F f way).map aaa=(F.map aaa).set f (aaa (A++(jc way).reverse))++[aaa (C++jc way)]:=by unfold kY;grind[List.map_set]
 grind[ag0.rl]
variable {m:Nat} {w:II}
theorem RL.tail{x:RZ}{xs:AM}(r:RL (RL RP) h v (x::xs))(o:okc 1 v):
  ∃v',afp Tryz.prog 27 v (some (.int .i64 1)) none none=some v'/\RL (RL RP) h v' xs/\okc 1 v':=by
 obtain⟨vs,rs,ln,rd⟩:=r;obtain⟨a,n,c,rfl,f⟩:=o;obtain⟨a',c',e,hs⟩:=rs.sl;injection e with p s t;subst p s;have k:0<vs.length:=by rw[ln];simp
 obtain⟨a,rfl⟩:=EP.1 (hs k);have g:UA Tryz.prog 49=1:=Ji;have rest:∀c',RL (RL RP) h (.slice (some (Ip a 1)) (vs.length-1) c') xs:=fun c'=>by have l:=rs.part (cap':=c') (lo:=1) (hi:=vs.length) k (qL0 _) rfl;rw[HV Ma]at l;refine⟨vs.drop 1,l,pw,fun i y u m h2=>?_⟩;grind
 have b:(1:Int)<=(vs.length:Int):=NH;rcases f with⟨m,h2⟩|⟨rfl,-⟩
 .have d:¬UNK<=c:=M1.2 h2;by_cases q:c=1
  .subst q;have e:vs.length=1:=NH;refine⟨.slice (some a) 0 0,?_,?_,⟨_,_,_,rfl,.inl ⟨qL0 _,WY⟩⟩⟩
   .simp[afp,pE,Mb,g,afB,af4,d,e]
   .have:xs=[]:=aml.1 pw;rw[this];exact⟨[],⟨⟨_,_,rfl,Ma⟩,fun i x j=>by cases j⟩,rfl,fun i x u j=>by cases j⟩
  .refine⟨.slice (some (Ip a 1)) (vs.length-1) (c-1),?_,rest _,⟨_,_,_,rfl,.inl ⟨NH,NH⟩⟩⟩;simp[afp,pE,Mb,g,afB,af4,d,m,q,b]
 .refine⟨.slice (some (Ip a 1)) (vs.length-1) (UNK+1),?_,rest _,⟨_,_,_,rfl,.inr ⟨rfl,rfl⟩⟩⟩;simp[afp,pE,Mb,g,afB,af4,b]
def aid:Cs->Cs->Prop
 |[],_=>True
 |w::ws,F=>∃i,i<F.length/\w.headD 0∈F.getD i []/\Ni w∈F.getD i []/\aid ws (kY F i w)
theorem oneM_len(a:0<f.length)(h:f.length<=m)(hw:w.length<=20):(Ee f w).length<=m+20/\(kP f w).length<=m+20:=by grind[aiC,jc,Ee,kP]
theorem akO(hi:i<F.length)(a:w.headD 0∈F.getD i [])(c:∀x∈F,x.length<=m)(hw:w.length<=20):∀x∈kY F i w,x.length<=m+20:=by have b:0<(F.getD i []).length:=aaL a;have hf:(F.getD i []).length<=m:=pw;have:=oneM_len b hf hw;grind[kY]
def aka(c:LA)(ws:Cs):Prop:=∀(F:Cs)(m:Nat)(b a:Value)(h:aae),RL (RL RP) h b (F.map aaa)->RL (RL RP) h a (ws.map aaa)->okc 1 a->(∀w∈ws,2<=w.length/\w.length<=20)->(∀x∈F,x.length<=m)->m+20*ws.length<=1000->F.length+ws.length<=1000->
  AC Tryz.prog c 107 [b,a] h fun x h'=>afK (aid ws F) x/\Le h h'
theorem amc(a:LA):aka a []:=by
 intro F m c e h f hw _ _ _ _ _;refine AC.vE ⟨qS39,rfl,WY⟩ Tryz.ntmps107 Tryz.results107 fun b=>?_;simp only[Br,seval];have lw:=fun g=>hw.qP5 g;have l0:((([]:Cs).map aaa).length:Int)=0:=rfl;have d:decide (((([]:Cs).map aaa).length:Int)=0)=true:=by decide
 simp only[HO,seval,lw,d];exact⟨afK.t trivial,Le.refl _⟩
theorem ald(G:LA)(w:II)(ws:Cs)(ih:aka G ws):aka G (w::ws):=by
 intro F m fv wv h B hw hc H C P Q;refine AC.vE ⟨qS39,rfl,WY⟩ Tryz.ntmps107 Tryz.results107 fun aj=>?_;simp only[Br,seval];have lw:=fun g=>hw.qP5 g;have lf:=fun g=>B.qP5 g;rw[vY]at lf;have dw:decide ((((w::ws).map aaa).length:Int)=0)=false:=Sb (by simp;omega);have I:=hw.NS 0 Ma;simp only[P2]at I;obtain⟨J,R,c⟩:=hw.Wm 0 Ma;have S:((w::ws).map aaa)[0]'(by simp)=aaa w:=rfl
 rw[S]at c;obtain⟨h2,T⟩:=H w Ma;simp only[HO,seval,lw,dw,I,R h (Le.refl _)];refine lIn (fun k fr K=>∃i:Nat,k=F.length-i/\i<=F.length/\fr=mkF [(0,fv),(1,wv),(5,J),(6,.int .i64 (i:Nat))]/\Le h K/\∀j,j<i->¬(w.headD 0∈F.getD j []/\Ni w∈F.getD j []/\aid ws (kY F j w))) ⟨0,rfl,WA _,rfl,Le.refl _,fun j u=>absurd u (Ki j)⟩ ?_;rintro k fr K wq ⟨i,rfl,hi,rfl,a,U⟩;refine Sk lf ?_;refine Kl.intro (fun ht=>?_) (fun hf=>?_)
 rotate_left
 .have V:F.length<=i:=vp hf;refine Uy ?_;exact⟨afK.f fun⟨j,h1,h2⟩=>U j (V9 h1 V) h2,a⟩
 have d:i<F.length:=CC ht;clear ht;have n:=B.NS i (by rw[vY];exact d);obtain⟨rv,o,W⟩:=B.Wm i (by rw[vY];exact d);have S:(F.map aaa)[i]'(by grind)=aaa (F.getD i []):=pw
 rw[S]at W;have al:(F.getD i []).length<=1000:=pw;have s:=fun g=>c.DH g;rw[y6]at s;have L:=fun j (u:j<w.length)=>c.TA j (by rw[y6];exact u);have M:∀g,Le h g->∀j (u:j<w.length),acd Tryz.prog g 3 (abv J j)=some (.int .i64 ((w.getD j 0:Nat):Int)):=fun g l j u=>by rw[(c.le Nn.RP l).Uc j (by rw[y6];exact u),sY u,D4 u]
 have z:=L 0 NH;simp only[P2]at z;have l0:∀g,Le h g->acd Tryz.prog g 3 (abv J 0)=some (.int .i64 ((w.headD 0:Nat):Int)):=fun g l=>by have:=M g l 0 NH;rwa[show w.getD 0 0=w.headD 0 by cases w<;>rfl]at this
 have D:=L (w.length-1) NH;have l1:∀g,Le h g->acd Tryz.prog g 3 (abv J (w.length-1))=some (.int .i64 ((Ni w:Nat):Int)):=fun g l=>M g l (w.length-1) NH;have w1:adA .i64 ((w.length:Int)-1)=((w.length-1:Nat):Int):=by grind[ie]
 have X:=Tw i NH;have dn:decide ((-1:Int)>=0)=false:=by decide
 have next:¬(w.headD 0∈F.getD i []/\Ni w∈F.getD i []/\aid ws (kY F i w))->∀j,j<i+1->¬(w.headD 0∈F.getD j []/\Ni w∈F.getD j []/\aid ws (kY F j w)):=fun hn j u=>by grind
 refine Uy ?_;refine gh (tA [0,1,2,3,4,5,6] (JQ 7 [3,6] (tA [8,9,10,11,12,13,14,15,16,17,18,19] (JQ 20 [9,13,19] (tA [21,22,23,24,25,26,28,29] (JQ 27 [23,24,25,26] (JQ 30 [23,27,29] (tA [31] .done)))))))) ?_;simp only[HO,seval,Qg,n,o K a,z,l0 K a];refine kGi alN (ahD G rv _ _ K (W.le Nn.RP a) (by rw[y6];omega)) ?_;rintro x h' aq ⟨hp,rfl⟩;by_cases c1:w.headD 0∈F.getD i []
 rotate_left
 .have:x=.int .i64 (-1):=by
   rcases hp with⟨-,q⟩|⟨j,-,q,-⟩
   .exact q
   .refine absurd (BS q) fun C=>c1 ?_;obtain⟨y,hy,e⟩:=N8.1 C;have:y=w.headD 0:=NH;grind
  subst this;simp only[HO,seval,Qg,n,o h' a,z,l0 h' a,dn,X]
  exact lgA NH ⟨i+1,rfl,d,rfl,a,next fun q=>c1 q.1⟩
 obtain⟨rfl,i1⟩:=aik c1 hp;have d1:decide (((Dn (F.getD i []) (w.headD 0):Nat):Int)>=0)=true:=XJ NH;simp only[HO,seval,Qg,n,o h' a,z,l0 h' a,d1,s,w1,D,l1 h' a];refine kGi alN (ahD G rv _ _ h' (W.le Nn.RP a) (by rw[y6];omega)) ?_;rintro x p ag ⟨N,rfl⟩;by_cases c2:Ni w∈F.getD i []
 rotate_left
 .have:x=.int .i64 (-1):=by
   rcases N with⟨-,q⟩|⟨j,-,q,-⟩
   .exact q
   .refine absurd (BS q) fun C=>c2 ?_;obtain⟨y,hy,e⟩:=N8.1 C;have:y=Ni w:=NH;grind
  subst this;simp only[HO,seval,Qg,n,o p a,z,l0 p a,d1,s,w1,D,l1 p a,dn,X]
  exact lgA NH ⟨i+1,rfl,d,rfl,a,next fun q=>c2 q.2.1⟩
 obtain⟨rfl,i2⟩:=aik c2 N;have d2:decide (((Dn (F.getD i []) (Ni w):Nat):Int)>=0)=true:=XJ NH;have aa:RL (RL RP) p wv ((w::ws).map aaa):=hw.le (Nn.RL Nn.RP) a;obtain⟨ae,O,rt,ot⟩:=RL.tail (x:=aaa w) (xs:=ws.map aaa) aa hc;simp only[HO,seval,Qg,n,o p a,z,l0 p a,d1,s,w1,D,l1 p a,d2,O];refine kGi Tryz.func149 (laid_any G fv J F i w p (B.le (Nn.RL Nn.RP) a) (c.le Nn.RP a) d h2 c1 c2 NH NH (fun x hx=>by have:=C x hx;omega)) ?_;rintro nv h3 w3 ⟨gn,l3⟩;have A:=a.trans l3;simp only[HO,seval,Qg,n,o h3 A,z,l0 h3 A,d1,s,w1,D,l1 h3 A,d2,O];refine kGi qS39 (ih (kY F i w) (m+20) nv ae h3 gn (rt.le (Nn.RL Nn.RP) l3) ot (fun v B=>H v (by simp[B])) (akO d c1 C T) (by simp at P;omega) (by rw[Yz];simp at Q;omega)) ?_;rintro bv E w4 ⟨⟨b,rfl,hb⟩,l4⟩;have r:=A.trans l4;cases b with
 |true=>simp only[HO,seval,Qg,n,o E r,z,l0 E r,d1,s,w1,D,l1 E r,d2,O];exact⟨afK.t ⟨i,d,c1,c2,hb.1 rfl⟩,r⟩
 |false=>
  simp only[HO,seval,Qg,n,o E r,z,l0 E r,d1,s,w1,D,l1 E r,d2,O,X]
  exact lgA NH ⟨i+1,rfl,d,rfl,r,next fun q=>by cases hb.2 q.2.2⟩
theorem amd(a:LA)(ws:Cs):aka a ws:=by
 induction ws<;>grind[amc,ald]
def pathOf(w:Way):II:=aaq w.1 w.2.1 w.2.2
theorem ai1{F:Cs}{i:Nat}(hi:i<F.length)(w:II):(Ee (F.getD i []) w::kP (F.getD i []) w::F.erase (F.getD i [])).Perm (kY F i w):=by grind[kY]
def ajv(E:Nat->II)(H:Nat->Nat->Prop)(F:Cs):Prop:=∀f∈F,f.Nodup/\∀x∈f,∃w∈E x,H x w
section
variable{n:Nat}{E:Nat->II}(hE:V7 n E){H:Nat->Nat->Prop}{F:Cs}{a b:Nat}{inn:II}
include hE
theorem akP(V:ajv E H F)(W:Ka E H a inn b){f A B:II}(hf:f∈F)(cy:Cyc f ((a::A)++(b::B))):
  ((half a A b inn).Nodup/\∀x∈half a A b inn,∃w∈E x,H x w\/Ay a inn b x w)/\((Go.Fw.half b B a inn.reverse).Nodup/\∀x∈Go.Fw.half b B a inn.reverse,∃w∈E x,H x w\/Ay a inn b x w):=by
 obtain⟨m,s⟩:=V f hf;have g:=(cy.perm.nodup_iff).1 m;have hw:=W.nd;rw[aaq,jz,ZT]at hw;obtain⟨-,o,-,-⟩:=hw;have mem:∀x,x∈f↔x=a\/x∈A\/x=b\/x∈B:=fun x=>by rw[cy.perm.mem_iff];grind
 have off:∀x∈inn,x∉f:=fun x c p=>by grind[Ka.off]
 have d:∀x∈inn,∃w∈E x,H x w\/Ay a inn b x w:=fun x c=>by
  obtain⟨i,hi,rfl⟩:=fj.1 c;have k:(aaq a inn b)[i+1]?=some inn[i]:=by show(inn++[b])[i]?=_;grind
  have q:i<(aaq a inn b).length:=pw;have l:=CA q;have r:=(W.UQ i _ _ l k).1;exact⟨_,hE.sy _ _ r,.inr (.inr ⟨i,l,k⟩)⟩
 have qi:∀x∈f,∃w∈E x,H x w\/Ay a inn b x w:=fun x c=>by grind
 have j:(a::(A++b::inn.reverse)).Nodup/\(b::(B++a::inn)).Nodup:=by have e:=off;simp only[mem]at e;have t:inn.reverse.Nodup:=(IC inn).nodup_iff.2 o;simp only[WZ,jz,ZT,yM,vZ,uu]at g ⊢;grind
 refine⟨⟨j.1,fun x c=>?_⟩,⟨by grind[half],fun x c=>?_⟩⟩
 .rw[dg]at c;rcases c with h|h|h|h
  .exact qi x ((mem x).2 (.inl h))
  .exact qi x ((mem x).2 (.inr (.inl h)))
  .exact qi x ((mem x).2 (.inr (.inr (.inl h))))
  .exact d x h
 .rw[dg,uu]at c;rcases c with h|h|h|h
  .exact qi x ((mem x).2 (.inr (.inr (.inl h))))
  .exact qi x ((mem x).2 (.inr (.inr (.inr h))))
  .exact qi x ((mem x).2 (.inl h))
  .exact d x h
theorem ai2(V:ajv E H F)(W:Ka E H a inn b){i:Nat}(hi:i<F.length)(ha:a∈F.getD i [])(hb:b∈F.getD i []):
  ∃A B,Cyc (F.getD i []) ((a::A)++(b::B))/\(half a A b inn::Go.Fw.half b B a inn.reverse::F.erase (F.getD i [])).Perm (kY F i (aaq a inn b))/\ajv E (fun x y=>H x y\/Ay a inn b x y) (kY F i (aaq a inn b)):=by
 have hf:F.getD i []∈F:=pw;obtain⟨A,B,cy⟩:=alv ha hb W.ab;have e:=(V _ hf).1;obtain⟨g,h⟩:=Gf (inn:=inn) e cy;have c:=ai1 hi (aaq a inn b);rw[g,h]at c;refine⟨A,B,cy,c,fun f d=>?_⟩;have h2:=akP hE V W hf cy;rcases vZ.1 (c.mem_iff.2 d)with rfl|q
 .exact h2.1
 rcases vZ.1 q with rfl|q
 .exact h2.2
 obtain⟨k1,k2⟩:=V f (List.mem_of_mem_erase q);grind
theorem drawn_eq:∀{ws:List Way}{H:Nat->Nat->Prop},ahO E H ws->∀{F G:Cs},ajv E H G->F.Perm G->(aid (ws.map pathOf) G↔aiw F ws):=fun W=>by
 induction W with
 |nil _=>intro F G _ _;exact⟨fun _=>.nil,fun _=>trivial⟩
 |@cons H a b inn ws W _ j=>
  intro F G V d;obtain⟨t,k,l⟩:=Oy a b inn;show(∃i,i<G.length/\(aaq a inn b).headD 0∈G.getD i []/\Ni (aaq a inn b)∈G.getD i []/\aid (ws.map pathOf) (kY G i (aaq a inn b)))↔_;rw[k,l];constructor
  .rintro⟨i,hi,m,h2,h3⟩;obtain⟨A,B,cy,pm,g⟩:=ai2 hE V W hi m h2;have hf:G.getD i []∈G:=pw;refine .cons (d.mem_iff.2 hf) cy ?_ ((j g (.refl _)).1 h3);grind
  .intro D;cases D with
   |@cons _ u f A B _ _ _ _ hf cy pm D=>
    obtain⟨i,hi,e⟩:=fj.1 (d.mem_iff.1 hf);have h:G.getD i []=f:=pw;have ha:a∈G.getD i []:=by rw[h,cy.perm.mem_iff];simp
    have hb:b∈G.getD i []:=by rw[h,cy.perm.mem_iff];simp
    refine⟨i,hi,ha,hb,?_⟩;obtain⟨v,w,o,p,g⟩:=ai2 hE V W hi ha hb;have q:=(V f (d.mem_iff.1 hf)).1;refine(j g ?_).2 D;have c:=ai1 hi (aaq a inn b);obtain⟨r,s⟩:=Gf (inn:=inn) q cy;rw[h,r,s]at c;exact(pm.symm.trans (((d.erase _).cons _).cons _)).trans c
end
end
section
attribute [local irreducible] Kp MQ lU rS KO KN KX KE VK Kl ZJ TC aab
attribute [local irreducible] Jz JL vq cQ
theorem RTwo_any(e:LA)(v:Value)(n:Nat)(es:List Pr)(h:aae)(hg:GR h v ⟨(n:Int),es⟩)(m:bX ⟨(n:Int),es⟩):
  AC Tryz.prog e 56 [v] h fun x h'=>afK (zW n es) x/\Le h h':=by
 have c:=hg
 obtain⟨ev,rfl,r⟩:=hg.open
 refine AC.vE ⟨Tryz.func56,rfl,WY⟩ Tryz.ntmps56 Tryz.results56 fun i=>?_;simp only[Br,seval];obtain⟨o,s,d,t,-,p⟩:=r8 (n:=(n:Int)) i r
 generalize h.next=B at*
 have j:=p o (Le.refl _);refine Sk (XC s j.1) ?_;refine kCi Tryz.func105 (alQ e _ ⟨(n:Int),es⟩ o (c.le d)) ?_;rintro x h2 y ⟨l2,⟨u,-⟩|⟨-,cv,rfl,gc,-⟩⟩
 .exact absurd m u
 simp only[af8]at gc;have a:=p h2 l2;have b:=d.trans l2;have lc:=fun g=>gc.rl.DH g;rw[y6]at lc;have k:decide ((0:Int)=0)=true:=by decide
 by_cases l:(n:Int)>=3
 rotate_left
 .have d3:decide ((n:Int)>=3)=false:=Sb l;refine Sk (bG k @Ii @Ip.eq_1 @Gc a.2.1 d3) ?_;exact⟨afK.f fun T=>l (by have:=T.n3;omega),b⟩
 have d3:decide ((n:Int)>=3)=true:=XJ l;by_cases q:((JL n es).length:Int)=0
 rotate_left
 .have dc:decide (((JL n es).length:Int)=0)=false:=Sb q;simp only[HO,seval,k,Ii,Ip,Gc,a.2.1,d3,lc,dc];grind[afK.f,ajr,zW.one]
 have dc:decide (((JL n es).length:Int)=0)=true:=XJ q;simp only[HO,seval,k,Ii,Ip,Gc,a.2.1,a.1,d3,lc,dc];refine kCi iZ (aiz e _ n es h2 (c.le b) m) ?_;rintro pv h3 z ⟨w,l3⟩;refine Sk w ?_;refine⟨⟨_,rfl,?_⟩,b.trans l3⟩;grind[List.length_eq_zero_iff,ajr,zW.one]
end
section
attribute [local irreducible] Kp MQ lU rS KO KN KX KE VK Kl ZJ TC aab
structure afA (es:List Pr) (s t:Nat) (c:II):Prop where
 ne:0<c.length
 hd:c[0]?=some s
 lst:c[c.length-1]?=some t
 ad:∀x y,Vj c x y->Jp es x y
theorem afA.one(es:List Pr)(s:Nat):afA es s s [s]:=⟨Ma,rfl,rfl,fun x y ⟨i,a,h2⟩=>by simp at h2⟩
theorem afA.snoc{es:List Pr}{s t w:Nat}{c:II}(h:afA es s t c)(ha:Jp es t w):afA es s w (c++[w]):=by
 refine⟨Ma,?_,Ma,fun x y ⟨i,a,h2⟩=>?_⟩
 .grind[afA.ne,afA.hd]
 .have b:=(Ny.1 h2).1;rw[eR,qH]at b;rw[kc NH]at a;by_cases c1:i+1<c.length
  .rw[kc c1]at h2;exact h.ad x y ⟨i,a,h2⟩
  .have e:i=c.length-1:=NH;subst e;rw[h.lst]at a;grind
def ale(es:List Pr)(s:Nat)(L:RZ)(u:Nat)(x:RZ):Prop:=∃c,x=aaa c/\afA es s u c/\(c.length:Int)=L.getD u 0+1
section
variable{n:Nat}{es:List Pr}{s:Nat}{L:RZ}(hr:InR n es)(R:RA n es s L)(hc:∀p∈es,ajf L p)
include hr R hc
omit hr R in
theorem akQ{u w:Nat}(ha:Jp es u w)(b:0<=L.getD u 0):0<=L.getD w 0/\L.getD w 0<=L.getD u 0+1:=by
 have a:ag7 L u w=false:=by
  rcases ha with ha|ha
  .have:=(hc _ ha).1;grind
  .have:=(hc _ ha).2;grind
 grind[ag7]
theorem far_min{t:Nat}{c:II}(h:afA es s t c):L.getD t 0+1<=(c.length:Int):=by
 have key:∀(i x:Nat),c[i]?=some x->0<=L.getD x 0/\L.getD x 0<=(i:Int):=by
  intro i
  induction i with
  |zero=>intro x a;rw[h.hd]at a;grind[RA.s0]
  |succ i b=>intro x a;have e:=(Ny.1 a).1;have hi:=CA (show i<c.length by omega);obtain⟨d,f⟩:=b _ hi;have:=akQ hc (h.ad _ _ ⟨i,hi,a⟩) d;omega
 have:=(key _ t h.lst).2;grind[afA.ne]
theorem far_pre{w:Nat}(hw:w<n){k:Int}(a:L.getD w 0=k)(c:1<=k):∃v,v<n/\Jp es v w/\L.getD v 0=k-1:=by
 have d:w<L.length:=pw;have b:L[w]?=some k:=pw;rcases R.pre w k b NH with⟨-,q⟩|⟨v,y,ha,f,g,hle⟩
 .omega
 .have e:L.getD v 0=y:=pw;have:=akQ hc ha.symm pw;rw[e,a]at this;exact⟨v,(ha.lt hr).2,ha.symm,NH⟩
end
theorem Rlt_any(r:LA)(m bv:Value)(a b:RZ)(h:aae)(ha:RL RP h m a)(hb:RL RP h bv b)(w:a.length=b.length)(z:a.length<=100000):
  AC Tryz.prog r 171 [m,bv] h fun x h'=>(∃c,x=.bool c)/\h'=h:=by
 refine AC.vE ⟨Tryz.func171,rfl,WY⟩ Tryz.ntmps171 Tryz.results171 fun t=>?_;simp only[Br,seval];have u:=fun g=>ha.DH g;refine Uy ?_;refine lIn (fun k fr o=>∃i:Nat,k=a.length-i/\i<=a.length/\fr=mkF [(0,m),(1,bv),(5,.int .i64 i)]/\o=h) ⟨0,rfl,WA _,rfl,rfl⟩ ?_;rintro k fr o v ⟨i,rfl,hi,rfl,rfl⟩;refine Sk u ?_;refine Kl.intro (fun q=>?_) (fun hf=>?_)
 rotate_left
 .refine Uy ?_;grind
 have d:i<a.length:=CC q;clear q;have e:=ha.TA i d;have f:=ha.Uc i d;have j:=hb.TA i NH;have l:=hb.Uc i NH;generalize a[i]=x at*;generalize b[i]'(by omega)=y at*
 have aw:=Tw i NH;refine Uy ?_;refine gh (tA [0,1,2,3,4,5,6,7,8] .done) ?_;by_cases c:x=y
 .have dc:decide (x=y)=true:=XJ c;simp only[HO,seval,Qg,e,f,j,l,bne,dc,aw];exact lgA (JS d) ⟨i+1,rfl,d,rfl,rfl⟩
 .have dc:decide (x=y)=false:=Sb c;refine CO (bG e f j l @bne.eq_1.{0} dc) ?_
  refine gh (tA [0,1,2,3,4,5,6,7,8,9] .done) ?_;refine CO (xU e f j l) ?_;grind
theorem ag0.grow{r h h':aae}{W n c:Nat}{us:List Value}{xs:AM}(o:ag0 r h (.slice (some ⟨W,0,none⟩) n c) us xs)(l:Le h h'):ag0 (h'.kill W) h' (.slice (some ⟨W,0,none⟩) n c) us xs:=by have a:r.own W=none:=o.ap W rfl;exact⟨o.g.le l,Le.Qz h' W,fun b hb=>by injection hb with hb;grind[aae.Dg],o.ln,fun i x u d h2=>(o.rd i x u d h2).le Nn.RP ((o.lr.trans l).aii a)⟩
theorem ag0.row{r h:aae}{v:Value}{us:List Value}{xs:AM}(o:ag0 r h v us xs){i:Nat}(hi:i<xs.length):∃u,us[i]?=some u/\(∀g,Le h g->acd Tryz.prog g 49 (abv v i)=some u)/\RL RP h u xs[i]:=by
 have a:i<us.length:=by grind[ag0.ln]
 have rs:RS h v us:=by have:=o.g.cs.rs;grind
 refine⟨us[i],CA a,fun g l=>?_,(o.rd i _ _ (CA hi) (CA a)).le Nn.RP o.lr⟩;rw[Bj Mb rfl];grind[Le.read,RS.get]
theorem ag0.new{h h':aae}{W n:Nat}(a:h'.own W=some (.cells (List.replicate n (.slice none 0 0))))(l:Le h h')(c:h.own W=none)(h2:n<1000000000000):ag0 h h' (.slice (some ⟨W,0,none⟩) n n) (List.replicate n (.slice none 0 0)) (List.replicate n []):=by
 refine⟨?_,l,fun b hb=>by injection hb with hb;grind,Ma,fun i x u d h2=>?_⟩
 all_goals grind[GS.full,RL.nil]
structure ahF (n:Nat) (es:List Pr) (s:Nat) (L:RZ) (D:Nat->Prop) (xs:AM):Prop where
 ln:xs.length=n
 ok:∀(u:Nat) x,xs[u]?=some x->x=[]\/ale es s L u x
 dn:∀(u:Nat) x,D u->xs[u]?=some x->ale es s L u x
theorem ahF.mono{n:Nat}{es:List Pr}{s:Nat}{L:RZ}{D D':Nat->Prop}{xs:AM}(I:ahF n es s L D xs)(h:∀u,u<n->D' u->D u):ahF n es s L D' xs:=⟨I.ln,I.ok,fun u x hd a=>I.dn u x (h u (by grind[ahF.ln]) hd) a⟩
theorem ahF.set{n:Nat}{es:List Pr}{s:Nat}{L:RZ}{D:Nat->Prop}{xs:AM}(I:ahF n es s L D xs){w:Nat}{x:RZ}(b:ale es s L w x):ahF n es s L (fun u=>D u\/u=w) (xs.set w x):=by
 refine⟨by grind[ahF.ln],fun u y a=>?_,fun u y hd a=>?_⟩
 all_goals grind[ahF.ok,ahF.dn]
theorem ale.ne{es:List Pr}{s:Nat}{L:RZ}{u:Nat}{x:RZ}(h:ale es s L u x):(x.length:Int)=L.getD u 0+1/\0<x.length:=by obtain⟨c,rfl,a,h2⟩:=h;grind[y6,afA.ne]
theorem ahF.keep{n:Nat}{es:List Pr}{s:Nat}{L:RZ}{D:Nat->Prop}{xs:AM}(I:ahF n es s L D xs){w:Nat}{x:RZ}(a:xs[w]?=some x)(b:x≠[]):ahF n es s L (fun u=>D u\/u=w) xs:=⟨I.ln,I.ok,fun u y hd c=>by grind[ahF.dn,ahF.ok]⟩
theorem ajT(W0:LA)(v:Value)(n s t:Nat)(es:List Pr)(h:aae)(hg:GR h v ⟨(n:Int),es⟩)(hr:bX ⟨(n:Int),es⟩)(hs:s<n)(a:t<n):
  AC Tryz.prog W0 145 [v,.int .i64 (s:Int),.int .i64 (t:Int)] h fun x h'=>Le h h'/\((¬Pu es s t/\x=.tuple #[.slice none 0 0,.int .i64 60])\/(Pu es s t/\∃d c,x=.tuple #[d,.int .i64 0]/\RL RP h' d (aaa c)/\Z2 h d/\afA es s t c/\c.length<=n/\∀c',afA es s t c'->c.length<=c'.length)):=by
 have S:=hg
 obtain⟨ev,rfl,hp⟩:=hg.open
 have cq:(n:Int)<=200:=hr.n1;have hR:=hr.GD;refine AC.vE ⟨Tryz.func145,rfl,WY⟩ Tryz.ntmps145 Tryz.results145 fun bY=>?_;simp only[Br,seval];obtain⟨h1,b1,j,cr,-,lA⟩:=r8 (n:=(n:Int)) bY hp
 generalize h.next=B at*
 have bZ:=lA h1 (Le.refl _);have d0:decide ((0:Int)=0)=true:=by decide
 refine Sk (XC b1 bZ.1) ?_;refine kCi qS35 (aiy W0 _ n s es h1 (S.le j) hr hs) ?_;rintro x h2 w2 ⟨rfl,l2⟩;refine Sk (XC d0 ((lA h2 l2).1)) ?_;refine kCi qS35 (aiy W0 _ n t es h2 (S.le (j.trans l2)) hr a) ?_;rintro x h3 w3 ⟨rfl,l3⟩;have ag:=l2.trans l3;refine Sk (Yb @bne.eq_1.{0} d0 ((lA h3 ag).1)) ?_
 refine kCi qS36 (ajg W0 _ n s es h3 (S.le (j.trans ag)) hr hs) ?_;rintro x m w4 ⟨dv,L,rfl,gd,hL,aH,l4,-,RR,aJ⟩;have A:=ag.trans l4;have rd:=gd.rl;have aj:=fun(u:Nat)(C:u<n)=>rd.TA u (by rw[hL];exact C);have G:=fun(g:aae)(lg:Le m g)(u:Nat)(C:u<n)=>show acd Tryz.prog g 3 (abv dv u)=some (.int .i64 (L.getD u 0)) by rw[(rd.le Nn.RP lg).Uc u (by rw[hL];exact C),D4]
 have T:∀u,u<n->L[u]?=some (L.getD u 0):=fun u C=>by grind
 have b0:∀u,u<n->-1<=L.getD u 0/\L.getD u 0<(n:Int):=fun u C=>by have h1:=(RR.bp u _ (T u C)).1;have h2:=RR.bd u _ (T u C);grind[aiF]
 have aT:=aj t a;have b2:=aH t _ (T t a);have cx:=b0 t a;by_cases c0:L.getD t 0<0
 .have dc:decide (L.getD t 0<0)=true:=XJ c0;have tc:(L.getD t 0<0)=True:=eq_true c0;refine Sk (xU aT (G m (Le.refl _) t a) dc tc) ?_;grind[Le.trans]
 have dc:decide (L.getD t 0<0)=false:=Sb c0;have tc:(L.getD t 0<0)=False:=eq_false c0;have mk:=Ye (P:=Tryz.prog) (t:=27) (z:=.slice none 0 0) m pE rfl rfl rfl rfl Ji Mb Ji n NH;obtain⟨h5,e5,l5,w5,o5⟩:=Tt w4 (List.replicate n (.slice none 0 0));rw[e5]at mk
 have nW:m.own m.next=none:=(Le.refl m).next w4 (qL0 _)
 have O5:=ag0.new o5 l5 nW NH
 generalize m.next=W at*
 obtain⟨h6,e6,l6,w6,o6⟩:=Tt w5 [.int .i64 s];have bs:=DQ h5 (s:Int);rw[e6]at bs
 have aK:RL RP h6 (.slice (some ⟨h5.next,0,none⟩) 1 1) (aaa [s]):=RL.Wh (RS.whole o6 rfl)
 have aP:h5.next≠W:=fun e=>by have:=w5.lt o5;omega
 have O6:=O5.grow l6;obtain⟨h7,a7,s7,O7,w7⟩:=O6.store w6 (aK.akt (F:=W) fun hb=>by injection hb with hb;exact aP hb) (i:=s) pw;have aX:Le m h7:=((l5.trans l6).aii nW).trans O7.lr;have a1:ale es s L s (aaa [s]):=⟨[s],rfl,afA.one es s,by grind[RA.s0]⟩;have I0:ahF n es s L (fun _=>False) (List.replicate n []):=⟨Ma,(fun u x hx=>by grind),fun u x hd _=>hd.elim⟩;have I7:=(I0.set a1).mono (D':=fun u=>0<=L.getD u 0/\L.getD u 0<1) fun u C ⟨q1,q2⟩=>by
  have hx:=T u C;rcases RR.pre u _ hx q1 with⟨q,-⟩|⟨w,y,-,-,q3,q4⟩
  all_goals grind
 have a6:=lA m A;simp only[HO,seval,aT,G m (Le.refl _) t a,dc,tc,Ii,Ip,Gc,a6.2.1,mk,bs,a7,s7]
 have a8:∀u∈(List.replicate n (Value.slice none 0 0)).set s (.slice (some ⟨h5.next,0,none⟩) 1 1),Z2 h u:=fun u C=>by
  rcases zx C with q|q
  .rw[IK q];intro b hb;cases hb
  .rw[q];intro b hb;simp only[blk,PN]at hb;rw[<-hb]
   exact(j.trans (A.trans l5)).none ((Le.refl h5).next w5 (qL0 _))
 clear O6 O5 I0 a1 aK bs o6 w6 l6 e6 o5 w5 l5 e5 mk a7 s7 a6;generalize ba:(Value.slice (some ⟨W,0,none⟩) n n)=d at*;have bW:blk d=some W:=by rw[<-ba];rfl
 have grow:∀{r h h':aae}{us:List Value}{xs:AM},ag0 r h d us xs->Le h h'->ag0 (h'.kill W) h' d us xs:=fun o l=>by grind[ag0.grow]
 clear ba;have cz:∀{f:Nat},(f:Int)<=L.getD t 0+1->f<=n:=fun h=>by omega
 have bb:∀{w:Nat},w<n->∀{k:Int},L.getD w 0=k->1<=k->∃v,v<n/\Jp es v w/\L.getD v 0=k-1:=fun hw k h1 hk=>far_pre hR RR aJ hw h1 hk;refine aab.intro (fun k fr hq=>∃(f:Nat)(us:List Value)(xs:AM)(r:aae),k=(L.getD t 0+1-f).toNat/\1<=f/\(f:Int)<=L.getD t 0+1/\fr=mkF [(2,.int .i64 (t:Int)),(3,.pointer (some ⟨B,0,none⟩)),(9,dv),(11,d),(12,.int .i64 (f:Int))]/\ag0 r hq d us xs/\(∀u∈us,Z2 h u)/\Le m hq/\ahF n es s L (fun u=>0<=L.getD u 0/\L.getD u 0<(f:Int)) xs)
  (L.getD t 0).toNat [(2,.int .i64 (t:Int)),(3,.pointer (some ⟨B,0,none⟩)),(9,dv),(11,d),(12,.int .i64 (1:Nat))] hAs
  ⟨1,_,_,_,NH,qL0 _,NH,rfl,O7,a8,aX,I7⟩ ?_
 clear O7 a8 aX I7 w7 aP;clear h7 h6 h5;rintro k fr hq b3 ⟨f,us,xs,r,rfl,cC,cE,rfl,O,D,lq,I⟩;have al:=G hq lq t a;by_cases cf:(f:Int)<=L.getD t 0
 rotate_left
 .have df:decide ((f:Int)<=L.getD t 0)=false:=Sb cf;have tf:((f:Int)<=L.getD t 0)=False:=eq_false cf;have aq:t<xs.length:=by grind[ahF.ln]
  have b4:=O.rl.NS t aq;obtain⟨u1,b5,U,H⟩:=O.row aq;obtain⟨c,e1,ar,b6⟩:=I.dn t _ ⟨NH,NH⟩ (CA aq);rw[e1]at H;refine Sk (bG aT al df tf b4 (U hq (Le.refl _))) ?_;exact⟨(j.trans A).trans lq,.inr ⟨b2.1 NH,u1,c,rfl,H,D u1 (BS b5),ar,NH,fun c' b8=>by have:=far_min hR RR aJ b8;omega⟩⟩
 have df:decide ((f:Int)<=L.getD t 0)=true:=XJ cf;have tf:((f:Int)<=L.getD t 0)=True:=eq_true cf;have b9:=Tw f NH;have bg:adA .i64 ((f:Int)-1)=(f:Int)-1:=ie _ NH NH;refine Sk (xU aT al df tf) ?_;refine lIn (fun k fr hz=>∃(w:Nat)(us:List Value)(xs:AM)(r:aae),k=n-w/\w<=n/\fr=mkF [(2,.int .i64 (t:Int)),(3,.pointer (some ⟨B,0,none⟩)),(9,dv),(11,d),(12,.int .i64 (f:Int)),(13,.int .i64 (w:Int))]/\ag0 r hz d us xs/\(∀u∈us,Z2 h u)/\Le m hz/\ahF n es s L (fun u=>(0<=L.getD u 0/\L.getD u 0<(f:Int))\/(L.getD u 0=(f:Int)/\u<w)) xs) ⟨0,us,xs,r,rfl,WA _,rfl,O,D,lq,I.mono fun u _ q=>q.resolve_right fun q=>absurd q.2 (Ki _)⟩ ?_;clear O D lq I b3 al;clear hq us xs r;rintro k fr hz cd ⟨w,us,xs,r,rfl,hw,rfl,O,D,lz,I⟩;have av:=lA hz (A.trans lz);by_cases cw:w<n
 rotate_left
 .have dw:decide ((w:Int)<(n:Int))=false:=Sb NH;have tw:((w:Int)<(n:Int))=False:=eq_false NH;refine Sk (rE @Ii @Ip.eq_1 @Gc av.2.1 dw tw b9) ?_;exact tn (L.getD t 0+1-(f+1:Nat)).toNat [(2,.int .i64 (t:Int)),(3,.pointer (some ⟨B,0,none⟩)),(9,dv),(11,d),(12,.int .i64 (f+1:Nat))] NH hAs
   ⟨f+1,us,xs,r,rfl,NH,NH,rfl,O,D,lz,I.mono fun u C ⟨q1,q2⟩=>by grind⟩
 have dw:decide ((w:Int)<(n:Int))=true:=XJ NH;have tw:((w:Int)<(n:Int))=True:=eq_true NH;have aW:=aj w cw;have bh:=Tw w NH;refine Sk (bG @Ii @Ip.eq_1 @Gc av.2.1 dw tw) ?_;refine lIn (fun k fr hy=>∃(v:Nat)(us:List Value)(xs:AM)(r:aae),k=n-v/\v<=n/\fr=mkF [(2,.int .i64 (t:Int)),(3,.pointer (some ⟨B,0,none⟩)),(9,dv),(11,d),(12,.int .i64 (f:Int)),(13,.int .i64 (w:Int)),(14,.int .i64 (v:Int))]/\ag0 r hy d us xs/\(∀u∈us,Z2 h u)/\Le m hy/\ahF n es s L (fun u=>(0<=L.getD u 0/\L.getD u 0<(f:Int))\/(L.getD u 0=(f:Int)/\u<w)) xs/\((∃v',v'<v/\L.getD v' 0=(f:Int)-1/\Jp es v' w)->∃x,xs[w]?=some x/\x≠[])) ⟨0,us,xs,r,rfl,WA _,rfl,O,D,lz,I,fun⟨v',q,_⟩=>absurd q (Ki _)⟩ ?_;clear O D lz I cd av;clear hz us xs r;rintro k fr hy cM ⟨v,us,xs,r,rfl,hv,rfl,O,D,X,I,bk⟩;have J:=lA hy (A.trans X);have lW:=G hy X w cw;have K:w<xs.length:=by grind[ahF.ln]
 have fin:(L.getD w 0=(f:Int)->v=n)->ahF n es s L (fun u=>(0<=L.getD u 0/\L.getD u 0<(f:Int))\/(L.getD u 0=(f:Int)/\u<w+1)) xs:=fun cN=>by
  by_cases e:L.getD w 0=(f:Int)
  .obtain⟨v',q1,q2,q3⟩:=bb cw e NH;obtain⟨x,hx,h0⟩:=bk ⟨v',pw,q3,q2⟩;exact(I.keep hx h0).mono fun u _ q=>by
    rcases q with q|⟨q,q'⟩
    .grind
    grind
  .exact I.mono fun u _ q=>by
    rcases q with q|⟨q,q'⟩
    .exact .inl q
    grind
 by_cases cv:v<n
 rotate_left
 .have M:decide ((v:Int)<(n:Int))=false:=Sb NH;have tv:((v:Int)<(n:Int))=False:=eq_false NH;refine Sk (rE @Ii @Ip.eq_1 @Gc J.2.1 M tv bh) ?_;exact lgA (JS cw) ⟨w+1,us,xs,r,rfl,cw,rfl,O,D,X,fin fun _=>by omega⟩
 have M:decide ((v:Int)<(n:Int))=true:=XJ NH;have tv:((v:Int)<(n:Int))=True:=eq_true NH;by_cases ce:L.getD w 0=(f:Int)
 rotate_left
 .have de:decide (L.getD w 0=(f:Int))=false:=Sb ce;refine Sk (Pj @Ii @Ip.eq_1 @Gc J.2.1 M tv aW lW de bh) ?_;exact lgA (JS cw) ⟨w+1,us,xs,r,rfl,cw,rfl,O,D,X,fin fun q=>absurd q ce⟩
 have de:decide (L.getD w 0=(f:Int))=true:=XJ ce;have aV:=aj v cv;have lV:=G hy X v cv;have Q:=Tw v NH;have skip:¬(L.getD v 0=(f:Int)-1/\Jp es v w)->((∃v',v'<v+1/\L.getD v' 0=(f:Int)-1/\Jp es v' w)->∃x,xs[w]?=some x/\x≠[]):=fun hn ⟨v',q1,q2⟩=>by
  rcases Nat.lt_succ_iff_lt_or_eq.1 q1 with c|c
  .exact bk ⟨v',c,q2⟩
  grind
 by_cases cl:L.getD v 0=(f:Int)-1
 rotate_left
 .have dl:decide (L.getD v 0=(f:Int)-1)=false:=Sb cl;simp only[HO,seval,Ii,Ip,Gc,J.2.1,M,tv,aW,lW,de,aV,lV,bg,bne,dl,Q];exact lgA (JS cv) ⟨v+1,us,xs,r,rfl,cv,rfl,O,D,X,I,skip fun q=>cl q.1⟩
 have dl:decide (L.getD v 0=(f:Int)-1)=true:=XJ cl;simp only[HO,seval,Ii,Ip,Gc,J.2.1,J.1,M,tv,aW,lW,de,aV,lV,bg,bne,dl];refine kCi Tryz.func108 (akr W0 _ n v w es hy (S.le (j.trans (A.trans X))) hr) ?_;rintro x E w8 ⟨rfl,l8⟩;have ay:=X.trans l8;have O8:=grow O l8;by_cases ca:Jp es v w
 rotate_left
 .have da:decide (Jp es v w)=false:=Sb ca;refine Sk (XC da Q) ?_;exact lgA (JS cv) ⟨v+1,us,xs,_,rfl,cv,rfl,O8,D,ay,I,skip fun q=>ca q.2⟩
 have da:decide (Jp es v w)=true:=XJ ca;have az:v<xs.length:=by grind[ahF.ln]
 have bm:=O8.rl.NS v az;obtain⟨u1,U,H⟩:=O8.rl.Wm v az;obtain⟨c,ec,ar,b6⟩:=I.dn v _ (.inl ⟨NH,NH⟩) (CA az);rw[ec]at H;have cP:c.length<=n:=pw;obtain⟨hA,eA,V,wA,oA⟩:=Tt w8 []
 have bo:abB Tryz.prog E 49 0 []=some (.slice (some ⟨E.next,0,none⟩) 0 0,hA):=by rw[<-eA];rfl
 have nB:E.own E.next=none:=(Le.refl E).next w8 (qL0 _)
 have g0:GI hA (.slice (some ⟨E.next,0,none⟩) 0 0) []:=GS.full oA rfl WY
 have cg:Z2 E (.slice (some ⟨E.next,0,none⟩) 0 0):=fun b hb=>by simp only[blk,PN]at hb;grind
 generalize E.next=N at*
 obtain⟨j1,hB,eB,gB,wB,fB,-⟩:=GI.join g0 wA (H.le Nn.RP V) (by simp[aaa];omega);obtain⟨lB,aB⟩:=fB E V cg;obtain⟨j2,hC,hD,eC,eD,gD,wD,lC,fD,-⟩:=gB.push wB (w:Int) (by simp[aaa];omega);obtain⟨lD,aD⟩:=fD E lB aB;have aa:ale es s L w (aaa (c++[w])):=⟨c++[w],rfl,ar.snoc ca,by rw[eR,qH];omega⟩;have ck:[]++aaa c++[(w:Int)]=aaa (c++[w]):=by simp[aaa]
 rw[ck]at gD;have br:=ay.trans lD;have OD:=grow O8 lD;have cm:E.own W≠none:=by
  obtain⟨hl,⟨q,-⟩|⟨id,c',cap,q,ho,-⟩⟩:=O8.g
  .rw[q]at bW;cases bW
  .rw[q]at bW;injection bW with bW;grind
 have bj:blk j2≠some W:=fun hb=>cm (aD W hb);have hj:=gD.rl.akt bj;have bx:=OD.rl.NS w K;obtain⟨u2,bB,bF⟩:=OD.rl.Wm w K;have bH:=fun g=>bF.DH g;obtain⟨hE,aE,sE,OE,wE⟩:=OD.store wD hj (i:=w) K;have nE:m.own W=none:=nW;have bI:Le m hE:=(br.aii nW).trans OE.lr;have bN:∀u∈us.set w j2,Z2 h u:=fun u C=>by
  rcases zx C with q|q
  .exact D u q
  .rw[q];intro b hb;exact(j.trans (A.trans ay)).none (aD b hb)
 have IE:=(I.set aa).mono (D':=fun u=>(0<=L.getD u 0/\L.getD u 0<(f:Int))\/(L.getD u 0=(f:Int)/\u<w)) fun u _ q=>.inl q;have bQ:((∃v',v'<v+1/\L.getD v' 0=(f:Int)-1/\Jp es v' w)->∃x,(xs.set w (aaa (c++[w])))[w]?=some x/\x≠[]):=fun _=>⟨_,by rw[VU,AE rfl,AE K],by simp[aaa]⟩;have bT:=CA K;generalize xs[w]=x2 at*;by_cases cp:x2.length=0
 .have aC:decide ((x2.length:Int)=0)=true:=XJ NH;refine Sk (Da da bo bm (U hA V) eB eC eD bx (bB hD (Le.refl _)) bH aC aE sE Q) ?_;exact lgA (JS cv) ⟨v+1,_,_,_,rfl,cv,rfl,OE,bN,bI,IE,bQ⟩
 have aC:decide ((x2.length:Int)=0)=false:=Sb NH;have ae:x2≠[]:=fun e=>cp (by rw[e];rfl);have aF:=(I.ok w x2 bT).resolve_left ae;refine Sk (rk da bo bm (U hA V) eB eC eD bx (bB hD (Le.refl _)) bH aC) ?_;refine kCi Tryz.func171 (Rlt_any W0 j2 u2 _ x2 hD gD.rl bF (by have h1:=aF.ne.1;have h2:=aa.ne.1;omega) (by rw[y6,eR,qH];omega)) ?_;rintro y h9 w9 ⟨⟨cc,rfl⟩,rfl⟩;cases cc with
 |true=>refine Sk (Yb aE sE Q) ?_;exact lgA (JS cv) ⟨v+1,_,_,_,rfl,cv,rfl,OE,bN,bI,IE,bQ⟩
 |false=>refine Sk Q ?_;exact lgA (JS cv) ⟨v+1,_,_,_,rfl,cv,rfl,OD,D,br,I,fun _=>⟨x2,bT,ae⟩⟩
end
end Go.Fw
