/- A text. -/
import Derived.Test.YtkccdnmaaelbiaaGreatFwLM1
set_option linter.all false
set_option maxRecDepth 99999
set_option maxHeartbeats 9999999
namespace Go.Fw
section
attribute [local irreducible] Kp MQ lU rS KO KN KX KE VK Kl ZJ TC gU
open Go.Proofs
variable {P:Program} {R id m n:Nat} {c:List Value} {ev x:Value} {h:AHeap} {ps:List Pr}
theorem uj {t xt:TypeId} {k n n' id cap:Nat} {c news:List Value} (a:apT P t xt k=true) (C:h.own id=some (.cells c)) (b:cap*k<=c.length) (d:cap<1000000000000) (hf:n+n'<=cap)
  (hs:∀e,UA P e=k->srcCells P h e x=some (n',news)) (p:news.all (·.oneCell')=true) (f:news.length=n'*k) (hb:n+n'<=1000000000) (D:n'≠0):
  aAppend P h t xt (.slice (some ⟨id,0,none⟩) n cap) x=some (.slice (some ⟨id,0,none⟩) (n+n') cap,h.put id (.cells (putCells c (n*k) news))):=by
 unfold apT at a;split at a
 .rename_i e q r s
  split at a
  .rename_i z u
   simp only[KG,beq_iff_eq,decide_eq_true_eq]at a;obtain⟨⟨⟨⟨⟨g,i⟩,v⟩,j⟩,w⟩,l⟩:=a;have hs:=hs e w;have y:(n+n')*P.bytesOf e<=140737488355328:=Db (mn hb l) WY;have A:n+n'<=140737488355328:=NH;have o:z.cells.size=UA P e/\z.cells.toList.all (·.oneCell')/\(P.underlying e).isSome/\notIntD q/\news.all (·.oneCell')/\(n+n')*P.bytesOf e<=140737488355328/\n+n'<=140737488355328/\news.length=n'*UA P e:=
    ⟨g,i,v,j,p,y,A,pw⟩
   have B:¬RA<=cap:=iB.2 (CG d WY);have m:n*k+news.length<=c.length:=by rw[f,<-iU];exact Db (wV _ hf) b
   simp only[aAppend,r,s,u,hs]
   grind
  .cases a
 .cases a
theorem mkCapP (h:AHeap) (n:Nat) (f:n<=100000):∃c,aMakeSlice Tryz.prog h 22 (.int .i64 0) (.int .i64 (n:Int))=some (.slice (some ⟨h.next,0,none⟩) 0 n,h.alloc (.cells c))/\c.length=n*2:=by
 have g:azero Tryz.prog 38=some (.agg #[.int .i64 0,.int .i64 0]):=Ji;have b:(Value.agg #[.int .i64 0,.int .i64 0]).cells=#[.int .i64 0,.int .i64 0]:=rfl;have hb:Tryz.prog.bytesOf 38=16:=Ji;have d:(16:Int)*n<=140737488355328:=NH;have e:(n:Int)<=140737488355328:=NH;have a:(zrow [Value.int .i64 0,.int .i64 0] n).all (·.oneCell')=true:=by
  clear d e f
  induction n with
  |zero=>rfl
  |succ n i=>simp only[zrow,TN,i,vK];rfl
 refine⟨zrow [.int .i64 0,.int .i64 0] n,?_,by grind [jY]⟩;simp[aMakeSlice,Uh,yU,g,b,hb,WE,flat,d,e,IF,a]
theorem push_in (hw:WF h) (l:h.own id=some (.cells c)) (B:c.length=m*2) (C:c.take (ps.length*2)=Iu ps) (q:ps.length<m) (D:m<=100000) (p:Pr):
  ∃a d,aBuildSlice Tryz.prog h 22 1 [(0,UI p)]=some (.slice (some ⟨h.next,0,none⟩) 1 1,a)/\aAppend Tryz.prog a 22 22 (.slice (some ⟨id,0,none⟩) ps.length m) (.slice (some ⟨h.next,0,none⟩) 1 1)=some (.slice (some ⟨id,0,none⟩) (ps.length+1) m,d)/\WF d/\
   (∃c',d.own id=some (.cells c')/\c'.length=m*2/\c'.take ((ps++[p]).length*2)=Iu (ps++[p]))/\(∀f,Le f h->f.own id=none->Le f d)/\(∀b o,h.own b=some o->b≠id->d.own b=some o):=by
 obtain⟨a,r,l4,j,s⟩:=Tt hw (xM p)
 have u:PR a (.slice (some ⟨h.next,0,none⟩) 1 1) [p]:=by
  have:=CS.own (k:=2) (off:=0) (n:=1) (cap:=1) s (by simp[xM]);exact this
 have g:=l4.own _ _ l
 have key:=uj (P:=Tryz.prog) (t:=22) (xt:=22) (k:=2) (n:=ps.length) (n':=1) (cap:=m) (x:=.slice (some ⟨h.next,0,none⟩) 1 1) Ji g NH NH NH (fun e v=>CS.src v u) (WI [p]) (Ta [p]) NH NH
 have w:Iu [p]=xM p:=by simp[Iu]
 have i:ps.length*2+(Iu [p]).length<=c.length:=by grind [Ta]
 refine⟨a,_,by rw[mkP1,r],key,j.put _ (j.lt g),⟨_,AHeap.Y3 _ _ _,by grind [O7],?_⟩,fun f y z=>(y.trans l4).put _ z,fun b o hb A=>?_⟩
 all_goals grind [Ta,IW,mZ,AHeap.By,Le.own]
def DG {x y:Value} {n:Int} (d:h.own R=some (.cells [x,y])) (one:ev.oneCell'=true) (b:ev.cells=#[ev]):aStore Tryz.prog h 24 (.pointer (some ⟨R,0,none⟩)) (.agg #[.int .i64 n,ev])=some (h.put R (.cells [.int .i64 n,ev])):=by
 have a:UA Tryz.prog 24=2:=Ji;have e:(Value.agg #[.int .i64 n,ev]).cells=#[.int .i64 n,ev]:=by
  have c:(Value.int IntKind.i64 n).cells=#[.int .i64 n]:=rfl;simp[Value.cells,b]
 have c:(Value.int IntKind.i64 n).oneCell'=true:=rfl;simp[aStore,d,e,a,putCells,pE,one,c]
def tY {n:Int} (e:h.own R=some (.cells [.int .i64 n,ev])) (d:∃a l c,ev=.slice a l c):aload Tryz.prog h 24 ⟨R,0,none⟩=some (.agg #[.int .i64 n,ev]):=by
 have b:UA Tryz.prog 24=2:=Ji;obtain⟨a,l,c,rfl⟩:=d;rw[Wx pE rfl b e Ma];rfl
def lZ (p:Pr):Pr:=(min p.1 p.2,max p.1 p.2)
structure YG (n:Int) (ps:List Pr):Prop where
 n0:0<=n
 n1:n<=200
 len:ps.length<=594
 ok:∀p∈ps,0<=(lZ p).1/\(lZ p).1≠(lZ p).2/\(lZ p).2<n
 nd:(ps.map lZ).Nodup
def CZ:Value:=.agg #[.int .i64 0,.slice none 0 0]
def jQ:aBuild Tryz.prog 24 []=some CZ:=Ji
def Ap (n:Int) (id m c:Nat):aBuild Tryz.prog 24 [(0,.int .i64 n),(1,.slice (some ⟨id,0,none⟩) m c)]=some (.agg #[.int .i64 n,.slice (some ⟨id,0,none⟩) m c]):=Ji
theorem YG.right (k:YG (n:Int) ps):bX ⟨(n:Int),sortP (ps.map lZ)⟩:=by
 have nd:(sortP (ps.map lZ)).Nodup:=(YA _).nodup_iff.2 k.nd;have hle:=VH (ps.map lZ);refine bX.of (by have:=k.n1;omega) (by grind [ZS,YG.len]) (fun q a=>?_) (Nl.2 ?_)
 .rw [Wb, jf] at a
  obtain⟨p,b,rfl⟩:=a;obtain⟨c,h2,h3⟩:=k.ok p b
  grind [lZ]
 .refine (hle.and nd).imp fun {x y} h => ?_
  grind
theorem gZ (W0:LA) (n:Int) (v:Value) (ps:List Pr) (h:AHeap) (hp:PR h v ps) (C:ps.length<=100000):
  AC Tryz.prog W0 29 [.int .i64 n,v] h fun x h'=>Le h h'/\((¬YG n ps/\∃k:Int,k≠0/\x=.tuple #[CZ,.int .i64 k])\/(YG n ps/\∃ev,x=.tuple #[.agg #[.int .i64 n,ev],.int .i64 0]/\GP h' ev (sortP (ps.map lZ))/\Z2 h ev)):=by
 refine AC.vE ⟨Tryz.func29,rfl,WY⟩ Tryz.ntmps29 Tryz.results29 fun K=>?_;simp only[Br,Nat.reduceAdd];obtain⟨j,e1,l1,w1,L⟩:=Tt K [.int .i64 0,.slice none 0 0];have l:=Lo h;rw[e1]at l
 have nR:h.own h.next=none:=(Le.refl h).next K (vT _)
 generalize h.next=R at*
 have hlen:=fun g=>hp.len g;have r:∀g:AHeap,g.own R=some (.cells [.int .i64 0,.slice none 0 0])->aStore Tryz.prog g 24 (.pointer (some ⟨R,0,none⟩)) CZ=some (g.put R (.cells [.int .i64 0,.slice none 0 0])):=fun g o=>DG o rfl rfl;have ldE:∀g:AHeap,aload Tryz.prog (g.put R (.cells [.int .i64 0,.slice none 0 0])) 24 ⟨R,0,none⟩=some CZ:=fun g=>tY (AHeap.Y3 _ _ _) ⟨_,_,_,rfl⟩;have fail:∀(g:AHeap) (k:Int),k≠0->Le h g->¬YG n ps->Le h (g.put R (.cells [.int .i64 0,.slice none 0 0]))/\((¬YG n ps/\∃k':Int,k'≠0/\Value.tuple #[CZ,.int .i64 k]=.tuple #[CZ,.int .i64 k'])\/(YG n ps/\∃ev,Value.tuple #[CZ,.int .i64 k]=.tuple #[.agg #[.int .i64 n,ev],.int .i64 0]/\GP (g.put R (.cells [.int .i64 0,.slice none 0 0])) ev (sortP (ps.map lZ))/\Z2 h ev)):=
  fun g k hk lg aH=>⟨lg.put _ nR,.inl ⟨aH,k,hk,rfl⟩⟩
 by_cases c1:n>200
 .have d1 : decide (n > 200) = true := decide_eq_true c1
  simp only[HO,Nat.reduceLT,↓reduceIte,Nat.reduceEqDiff,reduceCtorEq,l,d1,jQ,r j L,ldE j];exact fail j 21 WY l1 (fun k=>by have:=k.n1;omega)
 have d1:decide (n>200)=false:=decide_eq_false c1;by_cases c2:(ps.length:Int)>594
 .have d2 : decide ((ps.length : Int) > 594) = true := decide_eq_true c2
  simp only[HO,Nat.reduceLT,↓reduceIte,Nat.reduceEqDiff,reduceCtorEq,l,d1,hlen,d2,jQ,r j L,ldE j];exact fail j 21 WY l1 (fun k=>by grind [YG.len])
 have d2:decide ((ps.length:Int)>594)=false:=decide_eq_false c2;by_cases c3:n<0
 .have d3 : decide (n < 0) = true := decide_eq_true c3
  simp only[HO,Nat.reduceLT,↓reduceIte,Nat.reduceEqDiff,reduceCtorEq,l,d1,hlen,d2,d3,jQ,r j L,ldE j];exact fail j 20 WY l1 (fun k=>by have:=k.n0;omega)
 have d3:decide (n<0)=false:=decide_eq_false c3
 obtain⟨h2,e2,l2,w2,o2⟩:∃h2,j.alloc (.map [])=h2/\Le j h2/\WF h2/\h2.own j.next=some (.map []):=⟨_,rfl,(Le.refl j).alloc w1 _,w1.alloc _,AHeap.zT _ _⟩
 have nM:j.own j.next=none:=(Le.refl j).next w1 (vT _)
 have N:R≠j.next:=fun e=>by grind
 obtain⟨c0,mk,O⟩:=mkCapP h2 ps.length C;obtain⟨h3,e3,l3,w3,o3⟩:=Tt w2 c0;rw[e3]at mk
 have nI:h2.own h2.next=none:=(Le.refl h2).next w2 (vT _)
 simp only[HO,Nat.reduceLT,↓reduceIte,Nat.reduceEqDiff,reduceCtorEq,l,d1,hlen,d2,d3,e2,mk];have P:=l3.own _ _ o2;have Q:=l3.own _ _ (l2.own _ _ L)
 have D:h2.next≠j.next:=fun e=>by grind
 have S:h2.next≠R:=fun e=>by grind [Le.own]
 have aJ:h.own h2.next=none:=(l1.trans l2).none nI
 have aK:h.own j.next=none:=l1.none nM
 have T:=(l1.trans l2).trans l3
 generalize j.next=M at*
 generalize h2.next=I at*
 refine gU.intro (fun k fr t=>∃(i:Nat) (l:List (Pr×Int)) (c:List Value),k=ps.length-i/\i<=ps.length/\fr=mkF [(0,.int .i64 n),(4,.pointer (some ⟨R,0,none⟩)),(6,.map (some M)),(7,.slice (some ⟨I,0,none⟩) ((ps.take i).map lZ).length ps.length),(28,v),(29,.int .i64 ps.length),(30,.int .i64 i)]/\
   t.own R=some (.cells [.int .i64 0,.slice none 0 0])/\t.own M=some (.map (wy l))/\(∀q,q∈l.map (·.1)↔q∈(ps.take i).map lZ)/\t.own I=some (.cells c)/\c.length=ps.length*2/\c.take (((ps.take i).map lZ).length*2)=Iu ((ps.take i).map lZ)/\
   (∀p∈ps.take i,0<=(lZ p).1/\(lZ p).1≠(lZ p).2/\(lZ p).2<n)/\((ps.take i).map lZ).Nodup/\Le h t)
  ps.length [(0,.int .i64 n),(4,.pointer (some ⟨R,0,none⟩)),(6,.map (some M)),(7,.slice (some ⟨I,0,none⟩) 0 ps.length),(28,v),(29,.int .i64 ps.length),(30,.int .i64 (0:Nat))] fD
  ⟨0,[],c0,rfl,yM _,rfl,Q,P,Ma,o3,O,rfl,Ma,Ma,T⟩ ?_
 clear o3 O P Q w3 l3 T e3 mk o2 w2 l2 e2 nI nM l L w1 l1 e1;clear h3 h2 j c0;rintro k fr t U ⟨i,l,c,rfl,hi,rfl,oR,oM,V,oI,aP,X,Y,F,leq⟩;have Z:((ps.take i).map lZ).length=i:=pw;refine Uy ?_;refine Kl.intro (fun ht=>?_) (fun hf=>?_)
 rotate_left
 .have bW : ps.length <= i := vp hf
  obtain rfl:i=ps.length:=NH;rw[Z,EU (vT _)]at X;rw[EU (vT _)]at Y F;have aT:YG n ps:=⟨NH,NH,NH,Y,F⟩;have g:GP t (.slice (some ⟨I,0,none⟩) ps.length ps.length) (ps.map lZ):=by grind [GS.full,GP.eq_1]
  have ag:Z2 h (.slice (some ⟨I,0,none⟩) ps.length ps.length):=fun b hb=>by injection hb with hb;grind
  have bs:=Ap n I ps.length ps.length;have bI:blk (.slice (some ⟨I,0,none⟩) ps.length ps.length)=some I:=rfl;rw[Z];refine Uy ?_;generalize G:Value.slice (some ⟨I,0,none⟩) ps.length ps.length=sv at*;refine TC.intro PJ ⟨Tryz.func69,rfl,WY⟩ (Lr W0 g (by rw[QD];omega) 63 (enters_of Tryz.func63 Ji rfl) fun W p q=>(DU _ p q _).mono fun _ _ h=>h.1) ?_;rintro x h4 w4 ⟨rfl,g4,f4⟩;have l4:=f4 h leq ag;have aW:h4.own R=some (.cells [.int .i64 0,.slice none 0 0]):=(aG (v':=sv) (fun f _ lf af=>⟨f4 f lf af,af⟩) U oR pw).1;have st:=DG (n:=n) (ev:=sv) aW (by rw[<-G];rfl) (by rw[<-G];rfl);have ld:=tY (n:=n) (ev:=sv) (AHeap.Y3 h4 R _) ⟨_,_,_,G.symm⟩;simp only[HO,Nat.reduceLT,↓reduceIte,Nat.reduceEqDiff,reduceCtorEq,bs,st,ld];exact⟨l4.put _ nR,.inr ⟨aT,sv,rfl,GS.put g4 _ pw,ag⟩⟩
 have u:i<ps.length:=CC ht;clear ht;have aj:=CA u;have A:ps.take (i+1)=ps.take i++[ps[i]]:=EL u;have aq:=Eh u;generalize ps[i]=p at aj A aq;have ad:=hp.addr (k:=.i64) i u;have ld:=(hp.le leq).load aj;obtain⟨b0,h7,e7,aX,l7,w7,o7⟩:=Ut U p;obtain⟨b1,m,e8,a1,l8,w8,o8⟩:=Ut w7 (lZ p);have bn:aBuild Tryz.prog 38 [(0,.int .i64 (min p.1 p.2)),(1,.int .i64 (max p.1 p.2))]=some (UI (lZ p)):=bP2 _ _;simp only[HO,Nat.reduceLT,↓reduceIte,Nat.reduceEqDiff,reduceCtorEq,ad,ld,e7,aX,Dh,Z0,Ip,XJ,lK o7,HY o7,Dv,z6,bn,e8,a1];have w:=leq.trans (l7.trans l8);have y:=(l7.trans l8).own _ _ oR;have H:=(l7.trans l8).own _ _ oM;have a6:=(l7.trans l8).own _ _ oI
 have a7:h7.next≠M:=fun e=>by grind
 have b2:h7.next≠I:=fun e=>by grind [Le.next]
 generalize hE:h7.next=E at*
 have m0:=lK o8;have m1:=HY o8;have bad:¬(0<=(lZ p).1/\(lZ p).1≠(lZ p).2/\(lZ p).2<n)->¬YG n ps:=fun hn k=>hn (k.ok p aq);by_cases q1:(lZ p).1<0
 .have d : decide ((lZ p).1 < 0) = true := decide_eq_true q1
  simp only[HO,Nat.reduceLT,↓reduceIte,Nat.reduceEqDiff,reduceCtorEq,Dh,Z0,Ip,XJ,m0,m1,d,jQ,r m y,ldE m];exact fail m 20 WY w (bad NH)
 have B:decide ((lZ p).1<0)=false:=decide_eq_false q1;by_cases q2:(lZ p).1=(lZ p).2
 .have d : decide ((lZ p).1 = (lZ p).2) = true := decide_eq_true q2
  simp only[HO,Nat.reduceLT,↓reduceIte,Nat.reduceEqDiff,reduceCtorEq,Dh,Z0,Ip,XJ,m0,m1,B,d,jQ,r m y,ldE m];exact fail m 20 WY w (bad NH)
 have J:decide ((lZ p).1=(lZ p).2)=false:=decide_eq_false q2;by_cases q3:(lZ p).2>=n
 .have d : decide ((lZ p).2 >= n) = true := decide_eq_true q3
  simp only[HO,Nat.reduceLT,↓reduceIte,Nat.reduceEqDiff,reduceCtorEq,Dh,Z0,Ip,XJ,m0,m1,B,J,d,jQ,r m y,ldE m];exact fail m 20 WY w (bad NH)
 have ar:decide ((lZ p).2>=n)=false:=decide_eq_false q3;have lp:=uM o8;have lk:=Il H (lZ p) true;by_cases q4:lZ p∈(ps.take i).map lZ
 .have hs:(lookK l (lZ p)).isSome=true:=by
   have:=HU.2 ((V _).2 q4);cases hh:lookK l (lZ p)with
   |none=>grind
   |some x=>rfl
  rw[hs]at lk;simp only[HO,Nat.reduceLT,↓reduceIte,Nat.reduceEqDiff,reduceCtorEq,Dh,Z0,Ip,XJ,m0,m1,B,J,ar,lp,wD,lk,jQ,r m y,ldE m];refine fail m 20 WY w fun k=>?_;have nd:=k.nd;rw[<-qL74 (i+1) ps,A,b5,b5]at nd;have:=(Z6.1 nd).1;rw[Z6]at this
  grind
 have hs:lookK l (lZ p)=none:=by
  cases hh:lookK l (lZ p)with
  |none=>rfl
  |some x=>grind [HU]
 rw[hs]at lk;simp only[Option.isSome_none,Option.getD_none]at lk;have sm:=pW H (lZ p) (i:Int);have w9:=w8.put (.map (wy (setK l (lZ p) (i:Int)))) (w8.lt H);have a8:=AHeap.Y3 m M (.map (wy (setK l (lZ p) (i:Int))));have s:∀b o,m.own b=some o->b≠M->(m.put M (.map (wy (setK l (lZ p) (i:Int))))).own b=some o:=fun b o ho hb=>by grind [AHeap.By]
 have bb:=s R _ y N;have bh:=s I _ a6 D;have bo:=s E _ o8 a7;have l9:=w.put (.map (wy (setK l (lZ p) (i:Int)))) aK;refine Sk (Da @Dh @Z0 @Ip.eq_1 @XJ m0 m1 B J ar lp @wD lk @nN sm) ?_;generalize m.put M (.map (wy (setK l (lZ p) (i:Int))))=h9 at*;have br:=uM bo;obtain⟨b3,b4,bx,bB,b6,⟨c',av,ay,bH⟩,bF,aD⟩:=push_in w9 bh aP X pw C (lZ p);have z:(ps.take (i+1)).map lZ=(ps.take i).map lZ++[lZ p]:=by rw[A,b5];rfl
 refine Sk (xU br bx bB (Tw i NH)) ?_;refine tn (ps.length-(i+1)) [(0,.int .i64 n),(4,.pointer (some ⟨R,0,none⟩)),(6,.map (some M)),(7,.slice (some ⟨I,0,none⟩) (((ps.take i).map lZ).length+1) ps.length),(28,v),(29,.int .i64 ps.length),(30,.int .i64 (i+1:Nat))] NH fD
  ⟨i+1,_,c',rfl,u,by rw[z,EP];rfl,aD R _ bb (uV S),aD M _ a8 (uV D),fun q=>?_,av,ay,pw,fun q t=>?_,?_,bF h l9 aJ⟩
 .rw[Kf,V,z,Sb];simp;exact or_comm
 .rw [A, Sb] at t
  rcases t with t|t
  .grind
  .simp at t;grind
 .rw [z, Z6]
  refine⟨F,Ma,fun a ha b hb e=>?_⟩;simp at hb;grind
variable {a b x:Nat} {es:List Pr} {ps:RZ}
structure Q5 (ps:RZ):Prop where
 len:ps.length<=200
 rD:∀x∈ps,0<=x/\x<(ps.length:Int)
 nd:ps.Nodup
theorem kT (K:LA) (pv:Value) (ps:RZ) (h:AHeap) (v:RL RP h pv ps):AC Tryz.prog K 89 [pv] h fun x h'=>RR (Q5 ps) x/\Le h h':=by
 refine AC.vE ⟨Tryz.func89,rfl,WY⟩ Tryz.ntmps89 Tryz.results89 fun l=>?_;simp only[Br,Nat.reduceAdd];have n:=fun g=>v.DH g;by_cases c1:(ps.length:Int)>200
 .have d1 : decide ((ps.length : Int) > 200) = true := decide_eq_true c1
  refine Sk (XC n d1) ?_
  grind [RR.f,Q5.len,Le.refl]
 have d1:decide ((ps.length:Int)>200)=false:=decide_eq_false c1;generalize Q:ps.length=m at*;have mk:=Ye (P:=Tryz.prog) (t:=59) (z:=.bool false) h eY rfl rfl rfl rfl Ji AV Ji m NH;obtain⟨D,E,l1,w1,F⟩:=Tt l (List.replicate m (.bool false));rw[E]at mk
 have nM:h.own h.next=none:=(Le.refl h).next l (vT _)
 generalize h.next=M at*
 have oM:D.own M=some (.cells (Bo (List.replicate m false))):=by rw[F];simp[Bo]
 have o:∀(k:IntKind) (j:Nat),j<m->aIndexAddr Tryz.prog 59 (.slice (some ⟨M,0,none⟩) m m) (.int k j)=some (.pointer (some ⟨M,j,none⟩)):=fun k j G=>by rw[Wc eY AV Ji j G];simp[Ip]
 simp only[HO,Nat.reduceLT,↓reduceIte,Nat.reduceEqDiff,reduceCtorEq,n,d1,mk];refine gU.intro (fun k fr s=>∃(i:Nat) (met:List Bool),k=m-i/\i<=m/\fr=mkF [(0,pv),(3,.slice (some ⟨M,0,none⟩) m m),(12,pv),(13,.int .i64 m),(14,.int .i64 i)]/\s.own M=some (.cells (Bo met))/\met.length=m/\
   (∀x∈ps.take i,0<=x/\x<(m:Int))/\(ps.take i).Nodup/\(∀j:Nat,j<m->(met[j]?=some true↔(j:Int)∈ps.take i))/\Le h s)
  m [(0,pv),(3,.slice (some ⟨M,0,none⟩) m m),(12,pv),(13,.int .i64 m),(14,.int .i64 (0:Nat))] fD
  ⟨0,_,rfl,yM _,rfl,oM,Ma,Ma,Ma,pw,l1⟩ ?_
 clear mk oM F w1 l1 E;clear D;rintro k fr s L ⟨i,met,rfl,hi,rfl,oM,p,w,q,N,leq⟩;refine Uy ?_;refine Kl.intro (fun H=>?_) (fun hf=>?_)
 rotate_left
 .have O : m <= i := vp hf
  rw[EU NH]at w q;refine Uy ?_;exact⟨.t ⟨NH,pw,q⟩,leq⟩
 have A:i<m:=CC H;clear H;have a:i<ps.length:=NH;have u:=v.TA i a;have ld:=(v.le Nn.RP leq).Uc i a;have c:ps.take (i+1)=ps.take i++[ps[i]]:=EL a;have B:=Eh a;generalize ps[i]=x at*;by_cases I:x<0
 .have d : decide (x < 0) = true := decide_eq_true I
  simp only[HO,Nat.reduceLT,↓reduceIte,Nat.reduceEqDiff,reduceCtorEq,u,ld,d];exact⟨.f fun k=>by have:=(k.rD x B).1;omega,leq⟩
 have e:decide (x<0)=false:=decide_eq_false I;by_cases J:x>=(m:Int)
 .have d : decide (x >= (m : Int)) = true := decide_eq_true J
  simp only[HO,Nat.reduceLT,↓reduceIte,Nat.reduceEqDiff,reduceCtorEq,u,ld,e,n,d]
  grind [RR.f,Q5.rD]
 have r:decide (x>=(m:Int))=false:=decide_eq_false J;obtain⟨z,rfl⟩:=WA (show 0<=x by omega);have C:z<m:=NH;have b:aload Tryz.prog s 4 ⟨M,z,none⟩=some (.bool (met[z]'(by omega))):=by rw[Fq AV rfl oM];simp[Bo,p,C]
 by_cases R:(z:Int)∈ps.take i
 .have hb : met[z]'(by omega) = true := pw
  rw[hb]at b;simp only[HO,Nat.reduceLT,↓reduceIte,Nat.reduceEqDiff,reduceCtorEq,u,ld,e,n,r,o _ z C,b];refine⟨.f fun k=>?_,leq⟩;have nd:=k.nd;rw[<-qL74 (i+1) ps,c]at nd;have:=(Z6.1 nd).1;rw[Z6]at this
  grind
 have hb:met[z]'(by omega)=false:=by
  cases hh:met[z]'(by omega)<;>grind
 rw[hb]at b;have st:=QB (P:=Tryz.prog) (t:=4) (x:=.bool true) AV Ji oM (off:=z) (by simp[Bo];omega) rfl rfl;rw[Tr]at st;simp only[HO,Nat.reduceLT,↓reduceIte,Nat.reduceEqDiff,reduceCtorEq,u,ld,e,n,r,o _ z C,b,st,Tw i NH];refine tn (m-(i+1)) [(0,pv),(3,.slice (some ⟨M,0,none⟩) m m),(12,pv),(13,.int .i64 m),(14,.int .i64 (i+1:Nat))] NH fD
  ⟨i+1,met.set z true,rfl,A,rfl,AHeap.Y3 _ _ _,by simp[p],fun y S=>?_,?_,fun j G=>?_,leq.put _ nM⟩
 .grind
 .rw [c, Z6]
  grind
 .rw [c, Sb, jz]
  grind
def sT (ps:RZ) (a:Nat):Nat:=(ps.getD a 0).toNat
theorem Q5.get (k:Q5 ps) (ha:a<ps.length):ps.getD a 0=(sT ps a:Int)/\sT ps a<ps.length:=by
 have hg:ps.getD a 0=ps[a]:=D4 ha;obtain⟨b,h2⟩:=k.rD _ (Eh ha)
 grind [sT.eq_1]
theorem Q5.inj (k:Q5 ps) (ha:a<ps.length) (hb:b<ps.length) (e:sT ps a=sT ps b):a=b:=by
 have c:=(k.get ha).1;have h2:=(k.get hb).1;rw[D4 ha]at c;rw[D4 hb]at h2;have nd:=k.nd
 grind [List.pairwise_iff_getElem]
theorem Q5.UB (k:Q5 ps) (f:x<ps.length):∃a,a<ps.length/\sT ps a=x:=by
 have c:(x:Int)∈ps:=si fun d=>by
  have nd:((x:Int)::ps).Nodup:=iy.2 ⟨d,k.nd⟩;have hs:((x:Int)::ps)⊆(List.range ps.length).map fun(i:Nat)=>(i:Int):=fun y b=>by
   rw[jf];rcases vZ.1 b with rfl|b
   .grind
   .have:=k.rD y b;exact⟨y.toNat,fR.2 NH,NH⟩
  have:=nd.length_le_of_subset hs
  grind
 obtain⟨a,ha,e⟩:=OM.1 c;have:=(k.get ha).1
 grind
def Qh (ps:RZ) (p:Pr):Pr:=(ps.getD p.1.toNat 0,ps.getD p.2.toNat 0)
def uc (ps:RZ) (es:List Pr):List Pr:=sortP ((es.map (Qh ps)).map lZ)
def ZE (G:GM) (ps:RZ):Prop:=bX G/\Q5 ps/\(ps.length:Int)=G.n
theorem zt (k:Q5 ps) (ha:a<ps.length) (hb:b<ps.length):Qh ps ((a:Int),(b:Int))=((sT ps a:Int),(sT ps b:Int)):=by grind [Qh,Q5.get]
theorem ZE.new (A:ZE ⟨(n:Int),es⟩ ps):YG (n:Int) (es.map (Qh ps)):=by
 obtain⟨g,k,s⟩:=A;have l:ps.length=n:=pw;have nat:∀p∈es,∃a b:Nat,p=((a:Int),(b:Int))/\a<b/\b<n:=fun p f=>by
  have:=g.GD p f;exact⟨p.1.toNat,p.2.toNat,Gp pw pw,NH,NH⟩
 refine⟨NH,g.n1,by rw[QD];exact g.len,fun q h=>?_,?_⟩
 .obtain ⟨p, f, rfl⟩ := jf.1 h
  obtain⟨a,b,rfl,i,hb⟩:=nat p f;have m:=(k.get (show a<ps.length by omega)).2;have o:=(k.get (show b<ps.length by omega)).2;have ne:sT ps a≠sT ps b:=fun e=>by have:=k.inj NH NH e;omega
  grind [zt,lZ]
 .rw [Ki, qy, DF]
  have nd:=g.nodup;rw[qy]at nd;refine nd.imp_of_mem fun{p q} f h j e=>j ?_;obtain⟨a,b,rfl,i,hb⟩:=nat p f;obtain⟨c,d,rfl,r,t⟩:=nat q h;simp only[Function.comp]at e;rw[zt k NH NH,zt k NH NH]at e;simp only[lZ,Og]at e;have inj:=fun{x y:Nat} (u:x<n) (v:y<n)=>k.inj (show x<ps.length by omega) (show y<ps.length by omega)
  grind
theorem Sc:∀(a:List Pr) (i:Nat) (q:Pr),((Iu a).set (i*2) (.int .i64 q.1)).set (i*2+1) (.int .i64 q.2)=Iu (a.set i q)
 |[],i,q=>by simp[Iu]
 |p::r,0,q=>rfl
 |p::r,i+1,q=>by
  have b:=Sc r i q;have e:∀x:Pr,∀l,Iu (x::l)=.int .i64 x.1::.int .i64 x.2::Iu l:=fun x l=>rfl
  grind
def stP {E i:Nat} {a:List Pr} (b:h.own E=some (.cells (Iu a))) (hi:i<a.length) (q:Pr):
  aStore Tryz.prog h 38 (.pointer (some ⟨E,i*2,none⟩)) (UI q)=some (h.put E (.cells (Iu (a.set i q)))):=by
 have c:(UI q).cells=#[.int .i64 q.1,.int .i64 q.2]:=rfl;have d:(Value.int IntKind.i64 q.1).oneCell'=true:=rfl;have h2:(Value.int IntKind.i64 q.2).oneCell'=true:=rfl;have e:i*2+2<=(Iu a).length:=by rw[Ta];omega
 rw[<-Sc];simp[aStore,b,c,WE,putCells,yU,d,h2,e]
def mkFullP (h:AHeap) (n:Nat) (i:n<=100000):aMakeSlice Tryz.prog h 22 (.int .i64 (n:Int)) (.int .i64 (n:Int))=some (.slice (some ⟨h.next,0,none⟩) n n,h.alloc (.cells (Iu (List.replicate n (0,0))))):=by
 have d:azero Tryz.prog 38=some (.agg #[.int .i64 0,.int .i64 0]):=Ji;have c:(Value.agg #[.int .i64 0,.int .i64 0]).cells=#[.int .i64 0,.int .i64 0]:=rfl;have hb:Tryz.prog.bytesOf 38=16:=Ji;have e:(16:Int)*n<=140737488355328:=NH;have f:(n:Int)<=140737488355328:=NH;have a:∀n:Nat,zrow [Value.int .i64 0,.int .i64 0] n=Iu (List.replicate n (0,0)):=fun n=>by
  induction n with
  |zero=>rfl
  |succ n g=>rw[dr];simp only[zrow,g];rfl
 have b:=WI (List.replicate n ((0:Int),(0:Int)));simp[aMakeSlice,Uh,yU,d,c,hb,WE,flat,e,f,IF,a,b]
def idxP (E m i:Nat) (hi:i<m):aIndexAddr Tryz.prog 22 (.slice (some ⟨E,0,none⟩) m m) (.int .i64 (i:Int))=some (.pointer (some ⟨E,i*2,none⟩)):=by
 have a:(i:Int)<(m:Int):=NH;simp[aIndexAddr,Uh,yU,a,WE,Ip]
theorem D5 (V:LA) (v pv:Value) (G:GM) (ps:RZ) (h:AHeap) (hg:GR h v G) (D:RL RP h pv ps):
  AC Tryz.prog V 49 [v,pv] h fun x h'=>Le h h'/\((¬ZE G ps/\∃k:Int,k≠0/\x=.tuple #[CZ,.int .i64 k])\/(ZE G ps/\∃ev,x=.tuple #[.agg #[.int .i64 G.n,ev],.int .i64 0]/\GP h' ev (uc ps G.es)/\Z2 h ev)):=by
 have Z:=hg;obtain⟨gn,es⟩:=G
 obtain⟨ev,rfl,r⟩:=hg.open
 refine AC.vE ⟨Tryz.func49,rfl,WY⟩ Tryz.ntmps49 Tryz.results49 fun ag=>?_;simp only[Br,Nat.reduceAdd];obtain⟨h1,b1,H,I,-,J⟩:=r8 (n:=gn) ag r
 generalize h.next=B at*
 obtain⟨h2,e2,l2,w2,o2⟩:=Tt I [.int .i64 0,.slice none 0 0];have al:=Lo h1;rw[e2]at al
 have W:h.own h1.next=none:=H.next I (vT _)
 generalize h1.next=R at*
 have hl:=fun g=>D.DH g;have K:=H.trans l2;have u:∀g:AHeap,g.own R=some (.cells [.int .i64 0,.slice none 0 0])->aStore Tryz.prog g 24 (.pointer (some ⟨R,0,none⟩)) CZ=some (g.put R (.cells [.int .i64 0,.slice none 0 0])):=fun g o=>DG o rfl rfl;have ldE:∀g:AHeap,aload Tryz.prog (g.put R (.cells [.int .i64 0,.slice none 0 0])) 24 ⟨R,0,none⟩=some CZ:=fun g=>tY (AHeap.Y3 _ _ _) ⟨_,_,_,rfl⟩;have aj:=J h2 l2;refine Sk (Yb b1 al aj.1) ?_;refine TC.intro PJ ⟨YW,rfl,WY⟩ (ak V _ _ h2 (Z.le K)) ?_;rintro x h3 w3 ⟨⟨bb,rfl,f⟩,l3⟩;have w:=K.trans l3;have o3:=l3.own _ _ o2;have fT:=J h3 (l2.trans l3);cases bb with
 |false=>
  simp only[HO,Nat.reduceLT,↓reduceIte,Nat.reduceEqDiff,reduceCtorEq,jQ,u h3 o3,ldE h3];exact⟨w.put _ W,.inl ⟨fun A=>Bool.noConfusion (f.2 A.1),20,WY,rfl⟩⟩
 |true=>
 have X:=f.1 rfl;clear f;have h0:0<=gn:=X.n0;obtain⟨n,rfl⟩:=WA h0;have a8:es.length<=594:=X.len;refine Uy ?_;refine TC.intro PJ ⟨Tryz.func89,rfl,WY⟩ (kT V pv ps h3 (D.le Nn.RP w)) ?_;rintro x m w4 ⟨⟨bb,rfl,f⟩,l4⟩;have s:=w.trans l4;have o4:=l4.own _ _ o3;have y:=J m ((l2.trans l3).trans l4);cases bb with
 |false=>
  simp only[HO,Nat.reduceLT,↓reduceIte,Nat.reduceEqDiff,reduceCtorEq,jQ,u m o4,ldE m];exact⟨s.put _ W,.inl ⟨fun A=>Bool.noConfusion (f.2 A.2.1),30,WY,rfl⟩⟩
 |true=>
 have hk:=f.1 rfl;clear f;by_cases t:(ps.length:Int)=(n:Int)
 rotate_left
 .have d : decide ((ps.length : Int) = (n : Int)) = false := decide_eq_false t
  simp only[HO,Nat.reduceLT,↓reduceIte,Nat.reduceEqDiff,reduceCtorEq,hl,Ii,Ip,XJ,y.2.1,bne,d,jQ,u m o4,ldE m];exact⟨s.put _ W,.inl ⟨fun A=>t A.2.2,30,WY,rfl⟩⟩
 have d:decide ((ps.length:Int)=(n:Int))=true:=decide_eq_true t;have A:ZE ⟨(n:Int),es⟩ ps:=⟨X,hk,t⟩;have hN:=A.new;have hlen:=fun g=>r.len g;obtain⟨h5,e5,l5,w5,o5⟩:=Tt w4 (Iu (List.replicate es.length (0,0)));have mk:=mkFullP m es.length NH;rw[e5]at mk
 have nE:m.own m.next=none:=(Le.refl m).next w4 (vT _)
 simp only[HO,Nat.reduceLT,↓reduceIte,Nat.reduceEqDiff,reduceCtorEq,hl,Ii,Di,Ip,XJ,y.2.1,y.2.2,bne,d,hlen,mk,(J h5 (((l2.trans l3).trans l4).trans l5)).2.2]
 have bh:R≠m.next:=fun e=>by grind
 generalize m.next=E at*
 have bo:h.own E=none:=s.none nE;have aq:=(l2.trans l3).trans l4;refine gU.intro (fun k fr z=>∃(i:Nat) (L:List Pr),k=es.length-i/\i<=es.length/\fr=mkF [(1,pv),(2,.pointer (some ⟨B,0,none⟩)),(4,.pointer (some ⟨R,0,none⟩)),(6,.slice (some ⟨E,0,none⟩) es.length es.length),(29,ev),(30,.int .i64 es.length),(31,.int .i64 i)]/\
   z.own E=some (.cells (Iu L))/\L.length=es.length/\L.take i=(es.take i).map (Qh ps)/\Le m z)
  es.length [(1,pv),(2,.pointer (some ⟨B,0,none⟩)),(4,.pointer (some ⟨R,0,none⟩)),(6,.slice (some ⟨E,0,none⟩) es.length es.length),(29,ev),(30,.int .i64 es.length),(31,.int .i64 (0:Nat))] fD
  ⟨0,_,rfl,yM _,rfl,o5,Ma,Ma,l5⟩ ?_
 clear mk o5 w5 l5 e5;clear h5;rintro k fr z av ⟨i,L,rfl,hi,rfl,oE,M,C,leq⟩;have q:=s.trans leq;refine Uy ?_;refine Kl.intro (fun ht=>?_) (fun hf=>?_)
 .have j : i < es.length := CC ht
  clear ht;have N:=CA j;have O:es.take (i+1)=es.take i++[es[i]]:=EL j;have P:=Eh j;generalize es[i]=p at N O P;have ay:=X.GD p P;obtain⟨a,ea⟩:=WA ay.1;obtain⟨b,eb⟩:=WA (show 0<=p.2 by omega);have Q:a<ps.length:=NH;have S:b<ps.length:=NH;have ad:=r.addr (k:=.i64) i j;have ld:=(r.le q).load N;obtain⟨br,h7,e7,aD,Y,w7,o7⟩:=Ut av p;have m0:=lK o7;have m1:=HY o7;rw[ea]at m0;rw[eb]at m1;have aH:=D.TA a Q;have aJ:=D.TA b S;have aK:=(D.le Nn.RP (q.trans Y)).Uc a Q;have aP:=(D.le Nn.RP (q.trans Y)).Uc b S;have T:Qh ps p=(ps[a],ps[b]):=by grind [Qh.eq_1,Int.toNat_natCast]
  have bn:aBuild Tryz.prog 38 [(0,.int .i64 ps[a]),(1,.int .i64 ps[b])]=some (UI (Qh ps p)):=by rw[T];exact bP2 _ _
  have aT:=Y.own _ _ oE;have st:=stP aT (i:=i) NH (Qh ps p);have ix:=idxP E es.length i j
  generalize z.next=Ev at*
  generalize ps[a]=pa at*;generalize ps[b]=pb at*;simp only[HO,Nat.reduceLT,↓reduceIte,Nat.reduceEqDiff,reduceCtorEq,ad,ld,e7,aD];refine gh (tA [0,1,2,3,4,5,6,7,8,9,10,11,12,13] (JQ 14 [0,1,2,3,4,5,6,7,8,9,10,11,12,13] .done)) ?_;simp only[HO,Nat.reduceLT,↓reduceIte,Nat.reduceEqDiff,reduceCtorEq,Nat.reduceBEq,Qg,Dh,Z0,Ip,XJ,m0,m1,aH,aJ,aK,aP,bn,ix,st,Tw i NH];refine tn (es.length-(i+1)) [(1,pv),(2,.pointer (some ⟨B,0,none⟩)),(4,.pointer (some ⟨R,0,none⟩)),(6,.slice (some ⟨E,0,none⟩) es.length es.length),(29,ev),(30,.int .i64 es.length),(31,.int .i64 (i+1:Nat))] NH fD
   ⟨i+1,_,rfl,j,rfl,AHeap.Y3 _ _ _,by simp[M],?_,(leq.trans Y).put _ nE⟩
  rw[O,b5,<-C,qL175,EL NH,dZ _ _ pw];congr 1;have:i-(L.take i).length=0:=pw
  grind
 have bx:es.length<=i:=vp hf;rw[EU NH,EU NH]at C;subst C;have aW:PR z (.slice (some ⟨E,0,none⟩) es.length es.length) (es.map (Qh ps)):=by
  have:=CS.own (k:=2) (off:=0) (n:=es.length) (cap:=es.length) oE (by grind [Ta])
  grind [Ta,PR.eq_1]
 have aX:=J z (aq.trans leq);refine Sk (xU @Ii @Ip.eq_1 @XJ aX.2.1) ?_;refine TC.intro PJ ⟨Tryz.func29,rfl,WY⟩ (gZ V (n:Int) _ (es.map (Qh ps)) z aW (by rw[M];omega)) ?_;rintro x h9 w9 ⟨l9,⟨a1,_⟩|⟨_,F,rfl,gr,ar⟩⟩
 .exact absurd hN a1
 have a6:=l9.own _ _ (leq.own _ _ o4);have one:=gr.pr.sl.one;have U:∃a l c,F=.slice a l c:=by obtain⟨a,c,rfl,_⟩:=gr.pr.sl;grind
 have a7:F.cells=#[F]:=by obtain⟨a,l,c,rfl⟩:=U;rfl
 have st:=DG (n:=(n:Int)) (ev:=F) a6 one a7;have ld:=tY (n:=(n:Int)) (ev:=F) (AHeap.Y3 h9 R _) U;simp only[HO,Nat.reduceLT,↓reduceIte,Nat.reduceEqDiff,reduceCtorEq,st,ld];refine⟨(q.trans l9).put _ W,.inr ⟨A,F,rfl,GS.put gr _ ?_,fun b hb=>q.none (ar b hb)⟩⟩;intro e;have:=ar R e
 grind [Le.own]
end
end Go.Fw
