/- A text. -/
import Derived.Test.YtnakkbhjoiheoaaGreatFwLT3
set_option linter.all false
set_option maxRecDepth 99999
set_option maxHeartbeats 9999999
open Go.Proofs
open Option renaming some→Z,none→Y
open Bool renaming true→tT,false→fF
open List renaming replicate→rP,range→rG
open Go.Value renaming slice→sL,pointer→pT
open Go renaming Value→vV
open Go.Proofs.Tryz renaming prog→pG
open Go.Proofs.Tryz
open List
namespace Go.Fw
section
attribute [local irreducible] Kp MQ lU KO1 KO KN KX KE VK Kl ZJ TC aab
variable {P:Program} {R id m n:Nat} {c:List Value} {ev x:Value} {h:aai} {ps:List Pr}
theorem append_in{t xt:TypeId}{k n n' id cap:Nat}{c news:xLV}(a:apT P t xt k=tT)(A:h.own id=Z (.cells c))(b:cap*k<=c.length)(d:cap<1000000000000)(hf:n+n'<=cap)(hs:∀e,UA P e=k->aby P h e x=Z (n',news))(p:news.all (·.oneCell')=tT)(f:news.length=n'*k)(hb:n+n'<=1000000000)(B:n'≠0):
  aaR P h t xt (sL (Z id) n cap) x=Z (sL (Z id) (n+n') cap,h.put id (.cells (putCells c (n*k) news))):=by
 unfold apT at a;split at a
 .rename_i e dx q r;split at a
  .rename_i z s;simp only[Cg,beq_iff_eq,abV]at a;obtain⟨⟨⟨⟨⟨g,i⟩,hd⟩,j⟩,u⟩,l⟩:=a;have hs:=hs e u;have v:(n+n')*P.bytesOf e<=140737488355328:=ff (af7 hb l) WY;have w:n+n'<=140737488355328:=NH;have o:z.cells.size=UA P e/\z.cells.toList.all (·.oneCell')/\(P.underlying e).isSome/\acL dx/\news.all (·.oneCell')/\(n+n')*P.bytesOf e<=140737488355328/\n+n'<=140737488355328/\news.length=n'*UA P e:=
    ⟨g,i,hd,j,p,v,w,hGr⟩
   have y:¬UNK<=cap:=aku.2 (ahD d WY);have m:n*k+news.length<=c.length:=by rw[f,<-dU];exact ff (WS _ hf) b
   simp only[aaR,q,r,s,hs];grind
  .cases a
 .cases a
theorem mkCapP(h:aai)(n:Nat)(f:n<=100000):∃c,abl pG h 22 (.int .i64 0) n=Z (sL (Z h.next) 0 n,h.alloc (.cells c))/\c.length=n*2:=by
 have g:acd pG 49=Z (.agg #[.int .i64 0,.int .i64 0]):=Ji;have b:(vV.agg #[.int .i64 0,.int .i64 0]).cells=#[.int .i64 0,.int .i64 0]:=rfl;have hb:pG.bytesOf 49=16:=Ji;have d:(16:Int)*n<=140737488355328:=NH;have e:(n:Int)<=140737488355328:=NH;have a:(acY [vV.int .i64 0,.int .i64 0] n).all (·.oneCell')=tT:=by
  clear d e f
  induction n with
  |zero=>rfl
  |succ n i=>simp only[acY,akb,i,amg];rfl
 refine⟨acY [.int .i64 0,.int .i64 0] n,?_,by grind[jY]⟩;simp[abl,eY,qS5,g,b,hb,WE,flat,d,e,IF,a]
theorem push_in(hw:WF h)(l:h.own id=Z (.cells c))(A:c.length=m*2)(B:c.take (ps.length*2)=Iu ps)(q:ps.length<m)(C:m<=100000)(p:Pr):
  ∃a d,aas pG h 22 1 [(0,UI p)]=Z (sL (Z h.next) 1 1,a)/\aaR pG a 22 22 (sL (Z id) ps.length m) (sL (Z h.next) 1 1)=Z (sL (Z id) (ps.length+1) m,d)/\WF d/\
   (∃c',d.own id=Z (.cells c')/\c'.length=m*2/\c'.take ((ps++[p]).length*2)=Iu (ps++[p]))/\(∀f,Le f h->f.own id=Y->Le f d)/\(∀b o,h.own b=Z o->b≠id->d.own b=Z o):=by
 have⟨a,e4,l4,j,r⟩:=Tt hw (xM p)
 have s:PR a (sL (Z h.next) 1 1) [p]:=by have:=CS.own (k:=2) (off:=0) (n:=1) (cap:=1) r (by simp[xM]);exact this
 have g:=l4.own _ _ l
 have key:=append_in (P:=pG) (t:=22) (xt:=22) (k:=2) (n:=ps.length) (n':=1) (cap:=m) (x:=sL (Z h.next) 1 1) Ji g NH NH NH (fun e u=>CS.src u s) (WI [p]) (Ta [p]) NH NH
 have v:Iu [p]=xM p:=by simp[Iu]
 have i:ps.length*2+(Iu [p]).length<=c.length:=by grind[Ta]
 refine⟨a,_,by rw[mkP1,e4],key,j.put _ (j.lt g),⟨_,aai.Y3 _ _ _,by grind[O7],?_⟩,fun f w y=>(w.trans l4).put _ y,fun b o hb z=>?_⟩
 all_goals grind[Ta,IW,mZ,aai.By,Le.own]
def aib{x y:vV}{n:Int}(d:h.own R=Z (.cells [x,y]))(one:ev.oneCell'=tT)(b:ev.cells=#[ev]):aaK pG h 24 (pT (Z ⟨R,0,Y⟩)) (.agg #[.int .i64 n,ev])=Z (h.put R (.cells [.int .i64 n,ev])):=by
 have a:UA pG 24=2:=Ji;have e:(vV.agg #[.int .i64 n,ev]).cells=#[.int .i64 n,ev]:=by have c:(vV.int IntKind.i64 n).cells=#[.int .i64 n]:=rfl;simp[vV.cells,b]
 have c:(vV.int IntKind.i64 n).oneCell'=tT:=rfl;simp[aaK,d,e,a,putCells,qS7,one,c]
def ai2{n:Int}(e:h.own R=Z (.cells [n,ev]))(d:∃a l c,ev=.slice a l c):aaC pG h 24 ⟨R,0,Y⟩=Z (.agg #[n,ev]):=by have b:UA pG 24=2:=Ji;obtain⟨a,l,c,rfl⟩:=d;rw[Wx qS7 rfl b e Ma];rfl
def lZ(p:Pr):Pr:=(min p.1 p.2,max p.1 p.2)
structure YG (n:Int) (ps:xLP):Prop where
 n0:0<=n
 n1:n<=200
 len:ps.length<=594
 ok:∀p∈ps,0<=(lZ p).1/\(lZ p).1≠(lZ p).2/\(lZ p).2<n
 nd:(ps.map lZ).Nodup
def agO:vV:=.agg #[.int .i64 0,.slice Y 0 0]
def aew:acB pG 24 []=Z agO:=Ji
def build24s(n:Int)(id m c:Nat):acB pG 24 [(0,n),(1,sL (Z id) m c)]=Z (.agg #[n,sL (Z id) m c]):=Ji
theorem YG.right(k:YG (n:Int) ps):bX ⟨(n:Int),aa5 (ps.map lZ)⟩:=by
 have nd:(aa5 (ps.map lZ)).Nodup:=(YA _).nodup_iff.2 k.nd;have hle:=VH (ps.map lZ);refine bX.of (by have:=k.n1;omega) (by grind[ZS,YG.len]) (fun q a=>?_) (Nl.2 ?_)
 .rw[Wb,si]at a;obtain⟨p,b,rfl⟩:=a;have⟨c,h2,h3⟩:=k.ok p b;grind[lZ]
 .refine(hle.and nd).imp fun{x y} h=>?_;grind
theorem amk(W0:LA)(n:Int)(v:vV)(ps:xLP)(h:aai)(hp:PR h v ps)(B:ps.length<=100000):
  AC pG W0 26 [n,v] h fun x h'=>Le h h'/\((¬YG n ps/\∃k:Int,k≠0/\x=.tuple #[agO,.int .i64 k])\/(YG n ps/\∃ev,x=.tuple #[.agg #[n,ev],.int .i64 0]/\GP h' ev (aa5 (ps.map lZ))/\Z2 h ev)):=by
 refine AC.vF func26 ntmps26 results26 fun J=>?_;have⟨j,e1,l1,w1,K⟩:=Tt J [.int .i64 0,.slice Y 0 0];have al:=Lo h;rw[e1]at al
 have nR:h.own h.next=Y:=(Le.refl h).next J (qL0 _)
 generalize h.next=R at*
 have hlen:=fun g=>hp.len g;have m:∀g:aai,g.own R=Z (.cells [.int .i64 0,.slice Y 0 0])->aaK pG g 24 (pT (Z R)) agO=Z (g.put R (.cells [.int .i64 0,.slice Y 0 0])):=fun g o=>aib o rfl rfl;have ldE:∀g:aai,aaC pG (g.put R (.cells [.int .i64 0,.slice Y 0 0])) 24 ⟨R,0,Y⟩=Z agO:=fun g=>ai2 (aai.Y3 _ _ _) ⟨_,_,_,rfl⟩;have fail:∀(g:aai)(k:Int),k≠0->Le h g->¬YG n ps->Le h (g.put R (.cells [.int .i64 0,.slice Y 0 0]))/\((¬YG n ps/\∃k':Int,k'≠0/\vV.tuple #[agO,.int .i64 k]=.tuple #[agO,k'])\/(YG n ps/\∃ev,vV.tuple #[agO,.int .i64 k]=.tuple #[.agg #[n,ev],.int .i64 0]/\GP (g.put R (.cells [.int .i64 0,.slice Y 0 0])) ev (aa5 (ps.map lZ))/\Z2 h ev)):=fun g k hk lg ay=>⟨lg.put _ nR,.inl ⟨ay,k,hk,rfl⟩⟩;by_cases c1:n>200
 .have d1:decide (n>200)=tT:=Z6 c1;simp only[HO,seval,al,d1,aew,m j K,ldE j];exact fail j 21 WY l1 (fun k=>by have:=k.n1;omega)
 have d1:decide (n>200)=fF:=IE c1;by_cases c2:(ps.length:Int)>594
 .have d2:decide ((ps.length:Int)>594)=tT:=Z6 c2;simp only[HO,seval,al,d1,hlen,d2,aew,m j K,ldE j];exact fail j 21 WY l1 (fun k=>by grind[YG.len])
 have d2:decide ((ps.length:Int)>594)=fF:=IE c2;by_cases c3:n<0
 .have d3:decide (n<0)=tT:=Z6 c3;simp only[HO,seval,al,d1,hlen,d2,d3,aew,m j K,ldE j];exact fail j 20 WY l1 (fun k=>by have:=k.n0;omega)
 have d3:decide (n<0)=fF:=IE c3
 obtain⟨h2,e2,l2,w2,o2⟩:∃h2,j.alloc (.map [])=h2/\Le j h2/\WF h2/\h2.own j.next=Z (.map []):=⟨_,rfl,(Le.refl j).alloc w1 _,w1.alloc _,aai.zT _ _⟩
 have nM:j.own j.next=Y:=(Le.refl j).next w1 (qL0 _)
 have L:R≠j.next:=fun e=>by grind
 have⟨c0,mk,N⟩:=mkCapP h2 ps.length B;have⟨h3,e3,l3,w3,o3⟩:=Tt w2 c0;rw[e3]at mk
 have nI:h2.own h2.next=Y:=(Le.refl h2).next w2 (qL0 _)
 simp only[HO,seval,al,d1,hlen,d2,d3,e2,mk];have O:=l3.own _ _ o2;have P:=l3.own _ _ (l2.own _ _ K)
 have C:h2.next≠j.next:=fun e=>by grind
 have Q:h2.next≠R:=fun e=>by grind[Le.own]
 have az:h.own h2.next=Y:=(l1.trans l2).none nI
 have aC:h.own j.next=Y:=l1.none nM
 have S:=(l1.trans l2).trans l3
 generalize j.next=M at*
 generalize h2.next=I at*
 refine aab.intro (fun k fr s=>∃(i:Nat)(al:List (Pr×Int))(c:xLV),k=ps.length-i/\i<=ps.length/\fr=mkF [(0,n),(4,pT (Z R)),(6,.map (Z M)),(7,sL (Z I) ((ps.take i).map lZ).length ps.length),(28,v),(29,.int .i64 ps.length),(30,.int .i64 i)]/\
   s.own R=Z (.cells [.int .i64 0,.slice Y 0 0])/\s.own M=Z (.map (wy al))/\(∀q,q∈al.map (·.1)↔q∈(ps.take i).map lZ)/\s.own I=Z (.cells c)/\c.length=ps.length*2/\c.take (((ps.take i).map lZ).length*2)=Iu ((ps.take i).map lZ)/\
   (∀p∈ps.take i,0<=(lZ p).1/\(lZ p).1≠(lZ p).2/\(lZ p).2<n)/\((ps.take i).map lZ).Nodup/\Le h s)
  ps.length [(0,n),(4,pT (Z R)),(6,.map (Z M)),(7,sL (Z I) 0 ps.length),(28,v),(29,.int .i64 ps.length),(30,(0:Nat))] fD
  ⟨0,[],c0,rfl,aax _,rfl,P,O,Ma,o3,N,rfl,Ma,Ma,S⟩ ?_
 clear o3 N O P w3 l3 S e3 mk o2 w2 l2 e2 nI nM al K w1 l1 e1;clear h3 h2 j c0;rintro k fr s T ⟨i,al,c,rfl,hi,rfl,oR,oM,U,oI,aD,V,X,D,leq⟩;have aa:((ps.take i).map lZ).length=i:=hGr;refine Uy ?_;refine Kl.intro (fun ht=>?_) (fun hf=>?_)
 rotate_left
 .have bh:ps.length<=i:=vp hf;obtain rfl:i=ps.length:=NH;rw[aa,abe (qL0 _)]at V;rw[abe (qL0 _)]at X D;have aF:YG n ps:=⟨NH,NH,NH,X,D⟩;have g:GP s (sL (Z I) ps.length ps.length) (ps.map lZ):=by grind[GS.full,GP.eq_1]
  have ag:Z2 h (sL (Z I) ps.length ps.length):=fun b hb=>by injection hb with hb;grind
  have bs:=build24s n I ps.length ps.length;have bI:blk (sL (Z I) ps.length ps.length)=Z I:=rfl;rw[aa];refine Uy ?_;generalize F:vV.slice (Z I) ps.length ps.length=sv at*;refine kCi func49 (ai1 W0 g (by rw[vg];omega) 50 (enters_of func50 Ji rfl) fun W p q=>(DU _ p q _).mono fun _ _ h=>h.1) ?_;rintro x h4 w4 ⟨rfl,g4,f4⟩;have l4:=f4 h leq ag;have aH:h4.own R=Z (.cells [.int .i64 0,.slice Y 0 0]):=(aG (v':=sv) (fun f _ lf af=>⟨f4 f lf af,af⟩) T oR hGr).1;have st:=aib (n:=n) (ev:=sv) aH (by rw[<-F];rfl) (by rw[<-F];rfl);have ld:=ai2 (n:=n) (ev:=sv) (aai.Y3 h4 R _) ⟨_,_,_,F.symm⟩;simp only[HO,seval,bs,st,ld];exact⟨l4.put _ nR,.inr ⟨aF,sv,rfl,GS.put g4 _ hGr,ag⟩⟩
 have t:i<ps.length:=acb ht;clear ht;have ae:=CA t;have z:ps.take (i+1)=ps.take i++[ps[i]]:=XJ t;have ai:=aev t;generalize ps[i]=p at ae z ai;have ad:=hp.addr (k:=.i64) i t;have ld:=(hp.le leq).load ae;have⟨bk,h7,e7,aJ,l7,w7,o7⟩:=Ut T p;have⟨bm,l,e8,aK,l8,w8,o8⟩:=Ut w7 (lZ p);have bn:acB pG 49 [(0,.int .i64 (min p.1 p.2)),(1,.int .i64 (max p.1 p.2))]=Z (UI (lZ p)):=bP2 _ _;simp only[HO,seval,ad,ld,e7,aJ,Dh,Z0,Ip,EL,lK o7,HY o7,Dv,z6,bn,e8,aK];have u:=leq.trans (l7.trans l8);have w:=(l7.trans l8).own _ _ oR;have G:=(l7.trans l8).own _ _ oM;have aL:=(l7.trans l8).own _ _ oI
 have aN:h7.next≠M:=fun e=>by grind
 have bo:h7.next≠I:=fun e=>by grind[Le.next]
 generalize hE:h7.next=E at*
 have m0:=lK o8;have m1:=HY o8;have bad:¬(0<=(lZ p).1/\(lZ p).1≠(lZ p).2/\(lZ p).2<n)->¬YG n ps:=fun hn k=>hn (k.ok p ai);by_cases q1:(lZ p).1<0
 .have d:decide ((lZ p).1<0)=tT:=Z6 q1;simp only[HO,seval,Dh,Z0,Ip,EL,m0,m1,d,aew,m l w,ldE l];exact fail l 20 WY u (bad NH)
 have A:decide ((lZ p).1<0)=fF:=IE q1;by_cases q2:(lZ p).1=(lZ p).2
 .have d:decide ((lZ p).1=(lZ p).2)=tT:=Z6 q2;simp only[HO,seval,Dh,Z0,Ip,EL,m0,m1,A,d,aew,m l w,ldE l];exact fail l 20 WY u (bad NH)
 have H:decide ((lZ p).1=(lZ p).2)=fF:=IE q2;by_cases q3:(lZ p).2>=n
 .have d:decide ((lZ p).2>=n)=tT:=Z6 q3;simp only[HO,seval,Dh,Z0,Ip,EL,m0,m1,A,H,d,aew,m l w,ldE l];exact fail l 20 WY u (bad NH)
 have aj:decide ((lZ p).2>=n)=fF:=IE q3;have lp:=uM o8;have lk:=Il G (lZ p) tT;by_cases q4:lZ p∈(ps.take i).map lZ
 .have hs:(abo al (lZ p)).isSome=tT:=by
   have:=ahW.2 ((U _).2 q4);cases hh:abo al (lZ p)with
   |none=>grind
   |some x=>rfl
  rw[hs]at lk;simp only[HO,seval,Dh,Z0,Ip,EL,m0,m1,A,H,aj,lp,acS,lk,aew,m l w,ldE l];refine fail l 20 WY u fun k=>?_;have nd:=k.nd;rw[<-qL79 (i+1) ps,z,abZ,abZ]at nd;have:=(ZT.1 nd).1;rw[ZT]at this;grind
 have hs:abo al (lZ p)=Y:=by
  cases hh:abo al (lZ p)with
  |none=>rfl
  |some x=>grind[ahW]
 rw[hs]at lk;simp only[Option.isSome_none,Option.getD_none]at lk;have sm:=ajb G (lZ p) (i:Int);have w9:=w8.put (.map (wy (acs al (lZ p) (i:Int)))) (w8.lt G);have aP:=aai.Y3 l M (.map (wy (acs al (lZ p) (i:Int))));have r:∀b o,l.own b=Z o->b≠M->(l.put M (.map (wy (acs al (lZ p) (i:Int))))).own b=Z o:=fun b o ho hb=>by grind[aai.By]
 have aT:=r R _ w L;have aW:=r I _ aL C;have aX:=r E _ o8 aN;have l9:=u.put (.map (wy (acs al (lZ p) (i:Int)))) aC;refine Sk (Da @Dh @Z0 @Ip.eq_1 @EL m0 m1 A H aj lp @acS lk @aiP sm) ?_;generalize l.put M (.map (wy (acs al (lZ p) (i:Int))))=h9 at*;have a6:=uM aX;have⟨br,bx,a7,a8,bB,⟨c',aq,ar,bg⟩,bb,av⟩:=push_in w9 aW aD V hGr B (lZ p);have y:(ps.take (i+1)).map lZ=(ps.take i).map lZ++[lZ p]:=by rw[z,abZ];rfl
 refine Sk (xU a6 a7 a8 (aaa i NH)) ?_;refine tn (ps.length-(i+1)) [(0,n),(4,pT (Z R)),(6,.map (Z M)),(7,sL (Z I) (((ps.take i).map lZ).length+1) ps.length),(28,v),(29,.int .i64 ps.length),(30,(i+1:Nat))] NH fD
  ⟨i+1,_,c',rfl,t,by rw[y,aaf];rfl,av R _ aT (wI Q),av M _ aP (wI C),fun q=>?_,aq,ar,hGr,fun q s=>?_,?_,bb h l9 az⟩
 .rw[setK_keys,U,y,vZ];simp;exact or_comm
 .rw[z,vZ]at s;rcases s with s|s
  .grind
  .simp at s;grind
 .rw[y,ZT];refine⟨D,Ma,fun a ha b hb e=>?_⟩;simp at hb;grind
variable {a b x:Nat} {es:List Pr} {ps:RZ}
structure aey (ps:RZ):Prop where
 len:ps.length<=200
 rD:∀x∈ps,0<=x/\x<(ps.length:Int)
 nd:ps.Nodup
theorem ak2(J:LA)(pv:vV)(ps:RZ)(h:aai)(u:RL RP h pv ps):AC pG J 55 [pv] h fun x h'=>RR (aey ps) x/\Le h h':=by
 refine AC.vF func55 ntmps55 results55 fun l=>?_;have n:=fun g=>u.TA g;by_cases c1:(ps.length:Int)>200
 .have d1:decide ((ps.length:Int)>200)=tT:=Z6 c1;refine Sk (XC n d1) ?_;grind[RR.f,aey.len,Le.refl]
 have d1:decide ((ps.length:Int)>200)=fF:=IE c1;generalize O:ps.length=m at*;have mk:=Ye (P:=pG) (t:=41) (z:=.bool fF) h Uh rfl rfl rfl rfl Ji AV Ji m NH;have⟨C,D,l1,w1,E⟩:=Tt l (rP m (.bool fF));rw[D]at mk
 have nM:h.own h.next=Y:=(Le.refl h).next l (qL0 _)
 generalize h.next=M at*
 have oM:C.own M=Z (.cells (Bo (rP m fF))):=by rw[E];simp[Bo]
 have o:∀(k:IntKind)(j:Nat),j<m->aao pG 41 (sL (Z M) m m) (.int k j)=Z (pT (Z ⟨M,j,Y⟩)):=fun k j F=>by rw[Wc Uh AV Ji j F];simp[Ip]
 simp only[HO,seval,n,d1,mk];refine lIn (fun k fr s=>∃(i:Nat)(met:List Bool),k=m-i/\i<=m/\fr=mkF [(0,pv),(3,sL (Z M) m m),(12,pv),(13,m),(14,.int .i64 i)]/\s.own M=Z (.cells (Bo met))/\met.length=m/\
   (∀x∈ps.take i,0<=x/\x<(m:Int))/\(ps.take i).Nodup/\(∀j:Nat,j<m->(met[j]?=Z tT↔(j:Int)∈ps.take i))/\Le h s) ⟨0,_,rfl,aax _,rfl,oM,Ma,Ma,Ma,hGr,l1⟩ ?_
 clear mk oM E w1 l1 D;clear C;rintro k fr s K ⟨i,met,rfl,hi,rfl,oM,p,v,q,L,leq⟩;refine Uy ?_;refine Kl.intro (fun G=>?_) (fun hf=>?_)
 rotate_left
 .have N:m<=i:=vp hf;rw[abe NH]at v q;refine Uy ?_;exact⟨.t ⟨NH,hGr,q⟩,leq⟩
 have w:i<m:=acb G;clear G;have a:i<ps.length:=NH;have ad:=u.DH i a;have ld:=(u.le Nn.RP leq).Uc i a;have c:ps.take (i+1)=ps.take i++[ps[i]]:=XJ a;have A:=aev a;generalize ps[i]=x at*;by_cases H:x<0
 .have d:decide (x<0)=tT:=Z6 H;simp only[HO,seval,ad,ld,d];exact⟨.f fun k=>by have:=(k.rD x A).1;omega,leq⟩
 have e:decide (x<0)=fF:=IE H;by_cases I:x>=(m:Int)
 .have d:decide (x>=(m:Int))=tT:=Z6 I;simp only[HO,seval,ad,ld,e,n,d];grind[RR.f,aey.rD]
 have r:decide (x>=(m:Int))=fF:=IE I;obtain⟨z,rfl⟩:=qL7 (show 0<=x by omega);have B:z<m:=NH;have b:aaC pG s 4 ⟨M,z,Y⟩=Z (.bool (met[z]'(by omega))):=by rw[Fq AV rfl oM];simp[Bo,p,B]
 by_cases Q:(z:Int)∈ps.take i
 .have hb:met[z]'(by omega)=tT:=hGr
  rw[hb]at b;simp only[HO,seval,ad,ld,e,n,r,o _ z B,b];refine⟨.f fun k=>?_,leq⟩;have nd:=k.nd;rw[<-qL79 (i+1) ps,c]at nd;have:=(ZT.1 nd).1;rw[ZT]at this;grind
 have hb:met[z]'(by omega)=fF:=by
  cases hh:met[z]'(by omega)<;>grind
 rw[hb]at b;have st:=QB (P:=pG) (t:=4) (x:=.bool tT) AV Ji oM (off:=z) (by simp[Bo];omega) rfl rfl;rw[Tr]at st;simp only[HO,seval,ad,ld,e,n,r,o _ z B,b,st,aaa i NH];refine lgA NH ⟨i+1,met.set z tT,rfl,w,rfl,aai.Y3 _ _ _,by simp[p],fun y R=>?_,?_,fun j F=>?_,leq.put _ nM⟩
 .grind
 .rw[c,ZT];grind
 .rw[c,vZ,K4];grind
def abW(ps:RZ)(a:Nat):Nat:=(ps.getD a 0).toNat
theorem aey.get(k:aey ps)(ha:a<ps.length):ps.getD a 0=(abW ps a:Int)/\abW ps a<ps.length:=by have hg:ps.getD a 0=ps[a]:=D4 ha;have⟨b,h2⟩:=k.rD _ (aev ha);grind[abW.eq_1]
theorem aey.inj(k:aey ps)(ha:a<ps.length)(hb:b<ps.length)(e:abW ps a=abW ps b):a=b:=by have c:=(k.get ha).1;have h2:=(k.get hb).1;rw[D4 ha]at c;rw[D4 hb]at h2;have nd:=k.nd;grind[pairwise_iff_getElem]
theorem aey.ak7(k:aey ps)(f:x<ps.length):∃a,a<ps.length/\abW ps a=x:=by
 have c:(x:Int)∈ps:=j9 fun d=>by
  have nd:((x:Int)::ps).Nodup:=eR.2 ⟨d,k.nd⟩;have hs:((x:Int)::ps)⊆(rG ps.length).map fun(i:Nat)=>(i:Int):=fun y b=>by
   rw[si];rcases HV.1 b with rfl|b
   .grind
   .have:=k.rD y b;exact⟨y.toNat,Db.2 NH,NH⟩
  have:=nd.length_le_of_subset hs;grind
 have⟨a,ha,e⟩:=Bx.1 c;have:=(k.get ha).1;grind
def agr(ps:RZ)(p:Pr):Pr:=(ps.getD p.1.toNat 0,ps.getD p.2.toNat 0)
def ae1(ps:RZ)(es:xLP):xLP:=aa5 ((es.map (agr ps)).map lZ)
def afb(G:GM)(ps:RZ):Prop:=bX G/\aey ps/\(ps.length:Int)=G.n
theorem afH(k:aey ps)(ha:a<ps.length)(hb:b<ps.length):agr ps ((a:Int),(b:Int))=((abW ps a:Int),(abW ps b:Int)):=by grind[agr,aey.get]
theorem afb.new(A:afb ⟨(n:Int),es⟩ ps):YG (n:Int) (es.map (agr ps)):=by
 have⟨g,k,s⟩:=A;have l:ps.length=n:=hGr;have nat:∀p∈es,∃a b:Nat,p=((a:Int),(b:Int))/\a<b/\b<n:=fun p f=>by have:=g.GD p f;exact⟨p.1.toNat,p.2.toNat,akv hGr hGr,NH,NH⟩
 refine⟨NH,g.n1,by rw[vg];exact g.len,fun q h=>?_,?_⟩
 .obtain⟨p,f,rfl⟩:=si.1 h;obtain⟨a,b,rfl,i,hb⟩:=nat p f;have m:=(k.get (show a<ps.length by omega)).2;have o:=(k.get (show b<ps.length by omega)).2;have ne:abW ps a≠abW ps b:=fun e=>by have:=k.inj NH NH e;omega
  grind[afH,lZ]
 .rw[Lm,AE,V3];have nd:=g.nodup;rw[AE]at nd;refine nd.imp_of_mem fun{p q} f h j e=>j ?_;obtain⟨a,b,rfl,i,hb⟩:=nat p f;obtain⟨c,d,rfl,r,hd⟩:=nat q h;simp only[Function.comp]at e;rw[afH k NH NH,afH k NH NH]at e;simp only[lZ,Gw]at e;have inj:=fun{x y:Nat}(t:x<n)(u:y<n)=>k.inj (show x<ps.length by omega) (show y<ps.length by omega);grind
theorem ah2:∀(a:xLP)(i:Nat)(q:Pr),((Iu a).set (i*2) q.1).set (i*2+1) q.2=Iu (a.set i q)
 |[],i,q=>by simp[Iu]
 |p::r,0,q=>rfl
 |p::r,i+1,q=>by have b:=ah2 r i q;have e:∀x:Pr,∀l,Iu (x::l)=.int .i64 x.1::.int .i64 x.2::Iu l:=fun x l=>rfl;grind
def stP{E i:Nat}{a:xLP}(b:h.own E=Z (.cells (Iu a)))(hi:i<a.length)(q:Pr):
  aaK pG h 49 (pT (Z ⟨E,i*2,Y⟩)) (UI q)=Z (h.put E (.cells (Iu (a.set i q)))):=by
 have c:(UI q).cells=#[.int .i64 q.1,.int .i64 q.2]:=rfl;have d:(vV.int IntKind.i64 q.1).oneCell'=tT:=rfl;have h2:(vV.int IntKind.i64 q.2).oneCell'=tT:=rfl;have e:i*2+2<=(Iu a).length:=by rw[Ta];omega
 rw[<-ah2];simp[aaK,b,c,WE,putCells,qS5,d,h2,e]
def mkFullP(h:aai)(n:Nat)(i:n<=100000):abl pG h 22 (.int .i64 (n:Int)) (.int .i64 (n:Int))=Z (sL (Z h.next) n n,h.alloc (.cells (Iu (rP n (0,0))))):=by
 have d:acd pG 49=Z (.agg #[.int .i64 0,.int .i64 0]):=Ji;have c:(vV.agg #[.int .i64 0,.int .i64 0]).cells=#[.int .i64 0,.int .i64 0]:=rfl;have hb:pG.bytesOf 49=16:=Ji;have e:(16:Int)*n<=140737488355328:=NH;have f:(n:Int)<=140737488355328:=NH;have a:∀n:Nat,acY [vV.int .i64 0,.int .i64 0] n=Iu (rP n (0,0)):=fun n=>by
  induction n with
  |zero=>rfl
  |succ n g=>rw[alP];simp only[acY,g];rfl
 have b:=WI (rP n ((0:Int),(0:Int)));simp[abl,eY,qS5,d,c,hb,WE,flat,e,f,IF,a,b]
def idxP(E m i:Nat)(hi:i<m):aao pG 22 (sL (Z E) m m) i=Z (pT (Z ⟨E,i*2,Y⟩)):=by have a:(i:Int)<(m:Int):=NH;simp[aao,eY,qS5,a,WE,Ip]
theorem aia(V:LA)(v pv:vV)(G:GM)(ps:RZ)(h:aai)(hg:GR h v G)(D:RL RP h pv ps):
  AC pG V 31 [v,pv] h fun x h'=>Le h h'/\((¬afb G ps/\∃k:Int,k≠0/\x=.tuple #[agO,.int .i64 k])\/(afb G ps/\∃ev,x=.tuple #[.agg #[G.n,ev],.int .i64 0]/\GP h' ev (ae1 ps G.es)/\Z2 h ev)):=by
 have aa:=hg;have⟨gn,es⟩:=G
 obtain⟨ev,rfl,r⟩:=hg.open
 refine AC.vF func31 ntmps31 results31 fun ae=>?_;obtain⟨h1,b1,H,I,-,J⟩:=r8 (n:=gn) ae r
 generalize h.next=B at*
 have⟨h2,e2,l2,w2,o2⟩:=Tt I [.int .i64 0,.slice Y 0 0];have al:=Lo h1;rw[e2]at al
 have W:h.own h1.next=Y:=H.next I (qL0 _)
 generalize h1.next=R at*
 have hl:=fun g=>D.TA g;have K:=H.trans l2;have u:∀g:aai,g.own R=Z (.cells [.int .i64 0,.slice Y 0 0])->aaK pG g 24 (pT (Z R)) agO=Z (g.put R (.cells [.int .i64 0,.slice Y 0 0])):=fun g o=>aib o rfl rfl;have ldE:∀g:aai,aaC pG (g.put R (.cells [.int .i64 0,.slice Y 0 0])) 24 ⟨R,0,Y⟩=Z agO:=fun g=>ai2 (aai.Y3 _ _ _) ⟨_,_,_,rfl⟩;have ai:=J h2 l2;simp only[HO,seval,b1,al,ai.1];refine kCi qS6 (ak V _ _ h2 (aa.le K)) ?_;rintro x h3 w3 ⟨⟨bb,rfl,f⟩,l3⟩;have w:=K.trans l3;have o3:=l3.own _ _ o2;have fT:=J h3 (l2.trans l3);cases bb with
 |false=>simp only[HO,seval,aew,u h3 o3,ldE h3];exact⟨w.put _ W,.inl ⟨fun A=>Bool.noConfusion (f.2 A.1),20,WY,rfl⟩⟩
 |true=>
 have X:=f.1 rfl;clear f;have h0:0<=gn:=X.n0;obtain⟨n,rfl⟩:=qL7 h0;have aT:es.length<=594:=X.len;refine Uy ?_;refine kCi func55 (ak2 V pv ps h3 (D.le Nn.RP w)) ?_;rintro x m w4 ⟨⟨bb,rfl,f⟩,l4⟩;have s:=w.trans l4;have o4:=l4.own _ _ o3;have y:=J m ((l2.trans l3).trans l4);cases bb with
 |false=>simp only[HO,seval,aew,u m o4,ldE m];exact⟨s.put _ W,.inl ⟨fun A=>Bool.noConfusion (f.2 A.2.1),30,WY,rfl⟩⟩
 |true=>
 have hk:=f.1 rfl;clear f;by_cases t:(ps.length:Int)=(n:Int)
 rotate_left
 .have d:decide ((ps.length:Int)=(n:Int))=fF:=IE t;simp only[HO,seval,hl,Ii,Ip,EL,y.2.1,bne,d,aew,u m o4,ldE m];exact⟨s.put _ W,.inl ⟨fun A=>t A.2.2,30,WY,rfl⟩⟩
 have d:decide ((ps.length:Int)=(n:Int))=tT:=Z6 t;have A:afb ⟨(n:Int),es⟩ ps:=⟨X,hk,t⟩;have hN:=A.new;have hlen:=fun g=>r.len g;have⟨h5,e5,l5,w5,o5⟩:=Tt w4 (Iu (rP es.length (0,0)));have mk:=mkFullP m es.length NH;rw[e5]at mk
 have nE:m.own m.next=Y:=(Le.refl m).next w4 (qL0 _)
 simp only[HO,seval,hl,Ii,Di,Ip,EL,y.2.1,y.2.2,bne,d,hlen,mk,(J h5 (((l2.trans l3).trans l4).trans l5)).2.2]
 have aW:R≠m.next:=fun e=>by grind
 generalize m.next=E at*
 have aX:h.own E=Y:=s.none nE;have aj:=(l2.trans l3).trans l4;refine lIn (fun k fr z=>∃(i:Nat)(L:xLP),k=es.length-i/\i<=es.length/\fr=mkF [(1,pv),(2,pT (Z B)),(4,pT (Z R)),(6,sL (Z E) es.length es.length),(29,ev),(30,es.length),(31,i)]/\
   z.own E=Z (.cells (Iu L))/\L.length=es.length/\L.take i=(es.take i).map (agr ps)/\Le m z) ⟨0,_,rfl,aax _,rfl,o5,Ma,Ma,l5⟩ ?_
 clear mk o5 w5 l5 e5;clear h5;rintro k fr z aq ⟨i,L,rfl,hi,rfl,oE,M,C,leq⟩;have q:=s.trans leq;refine Uy ?_;refine Kl.intro (fun ht=>?_) (fun hf=>?_)
 .have j:i<es.length:=acb ht;clear ht;have N:=CA j;have O:es.take (i+1)=es.take i++[es[i]]:=XJ j;have P:=aev j;generalize es[i]=p at N O P;have av:=X.GD p P;have⟨a,ea⟩:=qL7 av.1;have⟨b,eb⟩:=qL7 (show 0<=p.2 by omega);have Q:a<ps.length:=NH;have S:b<ps.length:=NH;have ad:=r.addr (k:=.i64) i j;have ld:=(r.le q).load N;have⟨a6,h7,e7,ay,l7,w7,o7⟩:=Ut aq p;have m0:=lK o7;have m1:=HY o7;rw[ea]at m0;rw[eb]at m1;have az:=D.DH a Q;have aC:=D.DH b S;have aD:=(D.le Nn.RP (q.trans l7)).Uc a Q;have aF:=(D.le Nn.RP (q.trans l7)).Uc b S;have T:agr ps p=(ps[a],ps[b]):=by grind[agr.eq_1,Int.toNat_natCast]
  have bn:acB pG 49 [(0,.int .i64 ps[a]),(1,.int .i64 ps[b])]=Z (UI (agr ps p)):=by rw[T];exact bP2 _ _
  have aH:=l7.own _ _ oE;have st:=stP aH (i:=i) NH (agr ps p);have ix:=idxP E es.length i j
  generalize z.next=Ev at*
  generalize ps[a]=pa at*;generalize ps[b]=pb at*;simp only[HO,seval,ad,ld,e7,ay];refine gh (fRn 0 14 (JQ 14 [0,1,2,3,4,5,6,7,8,9,10,11,12,13] .done)) ?_;simp only[HO,seval,Qg,Dh,Z0,Ip,EL,m0,m1,az,aC,aD,aF,bn,ix,st,aaa i NH];refine lgA NH ⟨i+1,_,rfl,j,rfl,aai.Y3 _ _ _,by simp[M],?_,(leq.trans l7).put _ nE⟩;rw[O,abZ,<-C,qL220,XJ NH,adN _ _ hGr];congr 1;have:i-(L.take i).length=0:=hGr;grind
 have a7:es.length<=i:=vp hf;rw[abe NH,abe NH]at C;subst C;have aJ:PR z (sL (Z E) es.length es.length) (es.map (agr ps)):=by have:=CS.own (k:=2) (off:=0) (n:=es.length) (cap:=es.length) oE (by grind[Ta]);grind[Ta,PR.eq_1]
 have aK:=J z (aj.trans leq);refine Sk (xU @Ii @Ip.eq_1 @EL aK.2.1) ?_;refine kCi func26 (amk V (n:Int) _ (es.map (agr ps)) z aJ (by rw[M];omega)) ?_;rintro x h9 w9 ⟨l9,⟨aL,_⟩|⟨_,F,rfl,gr,ar⟩⟩
 .exact absurd hN aL
 have aN:=l9.own _ _ (leq.own _ _ o4);have one:=gr.pr.sl.one;have U:∃a l c,F=.slice a l c:=by obtain⟨a,c,rfl,_⟩:=gr.pr.sl;grind
 have aP:F.cells=#[F]:=by obtain⟨a,l,c,rfl⟩:=U;rfl
 have st:=aib (n:=(n:Int)) (ev:=F) aN one aP;have ld:=ai2 (n:=(n:Int)) (ev:=F) (aai.Y3 h9 R _) U;simp only[HO,seval,st,ld];refine⟨(q.trans l9).put _ W,.inr ⟨A,F,rfl,GS.put gr _ ?_,fun b hb=>q.none (ar b hb)⟩⟩;intro e;have:=ar R e;grind[Le.own]
def endP(p:Pr)(y:Int):RZ:=(if p.1=y then[p.2]else[])++if p.2=y then[p.1]else[]
def endsK(ps:xLP)(y:Int):RZ:=ps.flatMap fun p=>endP p y
end
end Go.Fw
namespace Go.Fw
namespace Fo
variable{n:Nat}{es:List Pr}{num:Nat->Nat}{up:Nat->Option Nat}{hd:Nat->Nat}
theorem Io{a b:Nat}(h:pJ up a b)(ne:a≠b):up b≠Y:=by grind[pJ.last]
def beg(n:Nat)(up:Nat->Option Nat)(hd:Nat->Nat):II:=(rG n).filter fun c=>decide (up c≠Y/\hd c=c)
theorem AF{c:Nat}:c∈beg n up hd↔c<n/\up c≠Y/\hd c=c:=by simp[beg]
theorem beg_nd:(beg n up hd).Nodup:=Hs.sublist Tn
def JB(n:Nat)(up:Nat->Option Nat)(hd:Nat->Nat)(v:Nat):II:=(beg n up hd).filter fun c=>decide (up c=Z v)
theorem mF(F:Fo n es num up)(H:abi n es num up hd){v:Nat}(h:v<n)(c:Nat):(∃a,Jp es v a/\hd (lower num v a)=c)↔c∈JB n up hd v\/(up v≠Y/\c=hd v):=by
 rw[JB,xD,AF,abV];constructor
 .rintro⟨a,ha,rfl⟩;have i:=F.JD ha;have e:=(ha.lt F.rD).2;unfold lower;by_cases q:num a<num v
  .rw[Sb q];exact .inr ⟨Io (F.anc a v ha.symm q) hGr,rfl⟩
  .rw[WA q];have⟨c,f,b⟩:=(F.anc v a ha NH).child hGr;have d:=(F.yO b e).1;rw[F.zP H f b ha];by_cases hb:ym es num up v c
   all_goals grind[Fo.CJ,Fo.Io,Fo.abi.on,Fo.abi.new]
 .rintro(⟨⟨d,_,hh⟩,f⟩|⟨g,rfl⟩)
  .obtain⟨j,h2⟩:=F.Kd c v d f;grind[Fo.lower]
  .obtain⟨u,g⟩:=uV.1 g;have⟨j,h2⟩:=F.Kd v u h g;grind[Jp.symm,Fo.lower]
theorem hd_notAt(F:Fo n es num up)(H:abi n es num up hd){v:Nat}(a:v<n):hd v∉JB n up hd v:=by intro h;rw[JB,xD,AF,abV]at h;have b:=(F.US H (num v) v (qL0 _) a).1;have h2:=(F.Kd _ v h.1.1 h.2).2;grind[Fo.yO]
end Fo
open Classical in
theorem incN_eq{n:Nat}{es:xLP}{num:Nat->Nat}{up:Nat->Option Nat}(S:aay n es (Jz n es).1 (Jz n es).2 num up){v:Nat}(h:v<n):
  Sq n es v=(Fo.JB n up (Cl n es) v).length+(if up v=Y then 0 else 1):=by
 have F:=S.fo;have H:=(FY S).1;have d:=F.rD;have b:∀k:Int,k∈I7 n es v↔∃c:Nat,k=(c:Int)/\(c∈Fo.JB n up (Cl n es) v\/(up v≠Y/\c=Cl n es v)):=by
  intro k;rw[dG d];constructor
  .rintro⟨a,ha,rfl⟩;exact⟨_,jm S ha,(by grind[Fo.mF])⟩
  grind[Fo.mF,jm]
 have e:(Fo.JB n up (Cl n es) v).Nodup:=Fo.beg_nd.sublist Tn;rw[JW];by_cases f:up v=Y
 .rw[Sb f];have:(I7 n es v).Perm (kz (Fo.JB n up (Cl n es) v)):=by grind[PS,kz.eq_1]
  rw[this.length_eq,y6];rfl
 .have g:(Cl n es v::Fo.JB n up (Cl n es) v).Nodup:=by grind[Fo.hd_notAt]
  have:(I7 n es v).Perm (kz (Cl n es v::Fo.JB n up (Cl n es) v)):=(ajX (PS n es v) (by grind[kz.eq_1])).2 (by grind[kz.eq_1]);grind[List.Perm.length_eq,y6]
theorem VV{n:Nat}{es:xLP}{num:Nat->Nat}{up:Nat->Option Nat}(S:aay n es (Jz n es).1 (Jz n es).2 num up):(vq n es).length=(Fo.beg n up (Cl n es)).length:=by
 have F:=S.fo;have H:=(FY S).1;have i:=F.rD;have⟨l,mk⟩:=ahE (cQ n es) _ es rfl;have:(CY (cQ n es) es).Perm (kz (Fo.beg n up (Cl n es))):=(ajX l (by grind[kz.eq_1,Fo.beg_nd])).2 fun k=>by
  rw[mk,kz,si];constructor
  .rintro⟨p,m,rfl⟩;obtain⟨a,c,rfl,o,d,b⟩:=ends i m;have q:((a:Int),(c:Int))=GW a c:=by grind[bj]
   have w:=jm S b;have r:=F.JD b;have e:Fo.lower num a c<n:=by grind[Fo.lower]
   have s:up (Cl n es (Fo.lower num a c))≠Y:=by have key:=fun x y f g=>F.link H (fun _ _=>()) (fun _ _=>rfl) hGr (num x) x y (qL0 _) f g;grind[Fo.lower,Jp.symm]
   have t:=F.US H _ (Fo.lower num a c) (qL0 _) e;grind[Fo.AF,Fo.yO]
  .rintro⟨c,v,rfl⟩;have⟨d,h,hh⟩:=Fo.AF.1 v;have⟨u,h⟩:=uV.1 h;have⟨j,h2⟩:=F.Kd c u d h;refine⟨GW c u,T0 i j.symm,?_⟩;rw[jm S j.symm];grind[Fo.lower]
 grind[aaB,List.Perm.length_eq,y6]
end Go.Fw
namespace Go.Fw
theorem sum_add(f g:Nat->Nat):∀l:II,(l.map fun x=>f x+g x).sum=(l.map f).sum+(l.map g).sum
 |[]=>rfl
 |x::l=>by simp only[AQ,ahe,sum_add f g l];omega
theorem aj7(u:Nat):∀n,((rG n).map fun v=>if u=v then 1 else 0).sum=if u<n then 1 else 0
 |0=>rfl
 |n+1=>by rw[rY,abZ,qL242,aj7 u n];grind
def Rp:∀n,((rG n).map fun _=>0).sum=0
 |0=>rfl
 |n+1=>by rw[rY,abZ,qL242,Rp n];rfl
theorem akg(n:Nat)(up:Nat->Option Nat):∀(l:II),(∀c∈l,∃u,up c=Z u/\u<n)->((rG n).map fun v=>(l.filter fun c=>decide (up c=Z v)).length).sum=l.length
 |[],_=>by exact Rp n
 |c::l,h=>by
  have⟨u,a,b⟩:=h c Ma;have d:=akg n up l hGr
  have e:(fun v=>((c::l).filter fun c=>decide (up c=Z v)).length)=fun v=>(l.filter fun c=>decide (up c=Z v)).length+(if u=v then 1 else 0):=hGr
  grind[sum_add,aj7]
theorem akr(p:Nat->Prop)[DecidablePred p]:∀l:II,(l.map fun v=>if p v then 0 else 1).sum=(l.filter fun v=>decide (¬p v)).length
 |[]=>rfl
 |x::l=>by rw[AQ,ahe,akr p l,ahH];grind
theorem yA(inc:Nat->Nat):∀l:II,(l.map inc).sum+(l.filter fun v=>decide (1<inc v)).length=((l.filter fun v=>decide (1<inc v)).map inc).sum+(l.filter fun v=>decide (0<inc v)).length
 |[]=>rfl
 |x::l=>by have a:=yA inc l;grind
theorem Yu{A B:II}{R:Nat->Nat->Prop}(c:A.Nodup)(h:∀a∈A,∃b∈B,R a b)(inj:∀a∈A,∀a'∈A,∀b,R a b->R a' b->a=a'):A.length<=B.length:=by
 classical
 let f:Nat->Nat:=fun a=>if h:∃b∈B,R a b then Classical.choose h else 0
 have nd:(A.map f).Nodup:=by grind[List.Pairwise.imp_of_mem]
 have:=nd.length_le_of_subset (l₂:=B) hGr;grind
namespace Fo
variable{n:Nat}{es:List Pr}{num:Nat->Nat}{up:Nat->Option Nat}
def root_ex(F:Fo n es num up):∀(k v:Nat),num v<=k->v<n->∃r,r<n/\up r=Y/\pJ up r v/\Pu es r v:=by
 intro k
 induction k with
 |zero=>
  intro v d b;cases a:up v with
  |none=>exact⟨v,b,a,.refl v,Pu.refl _ _⟩
  |some u=>have:=(F.Kd v u b a).2;omega
 |succ k e=>
  intro v d b;cases a:up v with
  |none=>exact⟨v,b,a,.refl v,Pu.refl _ _⟩
  |some u=>have⟨c,h2⟩:=F.Kd v u b a;have⟨r,f,h3,g,h⟩:=e u NH (c.lt F.rD).1;exact⟨r,f,h3,g.step a,.step h c rfl⟩
theorem root_con(F:Fo n es num up){r u v:Nat}(a:up r=Y)(h:pJ up r u)(c:Pu es u v):pJ up r v:=by
 induction c<;>grind[Fo.JD,pJ.trans,Fo.anc,Jp.symm,pJ.chain,Fo.Io]
theorem root_uniq(F:Fo n es num up){r s:Nat}(a:up r=Y)(hs:up s=Y)(c:Pu es r s):r=s:=by have h:=F.root_con a (.refl r) c;grind[Fo.Io]
end Fo
open Classical in
theorem HJ{n:Nat}{es:xLP}(b:aV n es){v:Nat}:0<Sq n es v↔∃a,Jp es v a:=by
 rw[JW,length_pos_iff_exists_mem];constructor
 .grind[dG]
 .rintro⟨a,ha⟩;exact⟨_,(dG b).2 ⟨a,ha,rfl⟩⟩
theorem FV{es:xLP}{u v:Nat}(h:Pu es u v)(ne:u≠v):(∃a,Jp es u a)/\∃a,Jp es v a:=by
 constructor
 .induction h<;>grind
 .cases h<;>grind[Jp.symm]
open Classical in
theorem tZ{n:Nat}{es:xLP}(f:aV n es):
  (vq n es).length+(JL n es).length=((JL n es).map (Sq n es)).sum+((Es n es).filter fun h=>decide (0<Sq n es h)).length:=by
 have⟨num,up,S⟩:=Ob f;have F:=S.fo;have s:JL n es=(rG n).filter fun v=>decide (1<Sq n es v):=by grind[JL.eq_1,filter_congr,YH,Cv]
 have j:=yA (Sq n es) (rG n);have h2:((rG n).map (Sq n es)).sum=(Fo.beg n up (Cl n es)).length+((rG n).filter fun v=>decide (¬up v=Y)).length:=by
  have e:(rG n).map (Sq n es)=(rG n).map fun v=>(Fo.JB n up (Cl n es) v).length+(if up v=Y then 0 else 1):=(by grind[map_congr_left,incN_eq])
  rw[e,sum_add,akr (fun v=>up v=Y)];congr 1;exact akg n up _ fun c g=>by have⟨i,d,_⟩:=Fo.AF.1 g;have⟨u,d⟩:=uV.1 d;exact⟨u,d,((F.Kd c u i d).1.lt f).1⟩
 have h3:=MS (fun v=>decide (¬up v=Y)) ((rG n).filter fun v=>decide (0<Sq n es v));rw[adE,adE]at h3;have t:(rG n).filter (fun v=>decide (¬up v=Y)&&decide (0<Sq n es v))=(rG n).filter fun v=>decide (¬up v=Y):=by
  refine vY fun v k=>?_;rw[Db]at k;by_cases q:up v=Y
  .simp[q]
  .obtain⟨u,d⟩:=uV.1 q;have:0<Sq n es v:=(HJ f).2 ⟨u,(F.Kd v u k d).1.symm⟩;simp[this]
 have w:((rG n).filter fun v=>(!decide (¬up v=Y))&&decide (0<Sq n es v)).length=((Es n es).filter fun h=>decide (0<Sq n es h)).length:=by
  have l:∀v,v∈((rG n).filter fun v=>(!decide (¬up v=Y))&&decide (0<Sq n es v))↔v<n/\up v=Y/\0<Sq n es v:=fun v=>by simp
  have m:∀v,v∈((Es n es).filter fun h=>decide (0<Sq n es h))↔v∈Es n es/\0<Sq n es v:=fun v=>by simp
  have move:∀{a b:Nat},Pu es a b->0<Sq n es a->0<Sq n es b:=fun{a b} c h=>by
   by_cases e:a=b
   all_goals grind[HJ,FV]
  refine Nat.le_antisymm ?_ ?_
  .refine Yu (R:=fun a b=>Pu es a b) (by grind[nodup_range]) (fun a ha=>?_) (fun a ha a' mi b j h2=>?_)
   .obtain⟨k1,k2,o⟩:=(l a).1 ha;have⟨h,hh,g⟩:=B6 f a k1;grind[Cn.symm]
   grind[Fo.root_uniq,Cn.trans,Cn.symm]
  .refine Yu (R:=fun a b=>Pu es a b) (by grind[qD]) (fun a ha=>?_) (fun a ha a' mi b j h2=>?_)
   .obtain⟨k1,o⟩:=(m a).1 ha;have⟨r,p,x,y,g⟩:=F.root_ex (num a) a (qL0 _) (QO.1 k1).1;grind[Cn.symm]
   grind[rf,Cn.trans,Cn.symm]
 grind[VV]
end Go.Fw
namespace Go.Fw
section
attribute [local irreducible] Kp MQ lU KO1 KO KN KX KE VK Kl ZJ TC aab
structure TM where
 bs:List xLP
 cs:RZ
 ls:xLP
structure LinkOK (b n:Nat) (p:Pr):Prop where
 x0:0<=p.1
 x1:p.1<(b:Int)
 y0:0<=p.2
 y1:(b:Int)+p.2<(n:Int)
end
end Go.Fw
namespace Go.Fw
attribute [local instance] Classical.propDecidable
structure H9 (n:Nat) (es fs:xLP) (π:Nat->Nat):Prop where
 r1:aV n es
 r2:aV n fs
 lt:∀a,a<n->π a<n
 inj:∀a b,a<n->b<n->π a=π b->a=b
 ak7:∀x,x<n->∃a,a<n/\π a=x
 Jp:∀a b,a<n->b<n->(Jp fs (π a) (π b)↔Jp es a b)
namespace H9
variable{n:Nat}{es fs:List Pr}{π:Nat->Nat}
theorem inv(I:H9 n es fs π):∃σ,H9 n fs es σ/\(∀a,a<n->σ (π a)=a)/\∀x,x<n->π (σ x)=x:=by
 let σ:Nat->Nat:=fun x=>if h:∃a,a<n/\π a=x then Classical.choose h else 0
 have hs:∀x,x<n->σ x<n/\π (σ x)=x:=by grind[H9.ak7]
 have b:∀a,a<n->σ (π a)=a:=by grind[H9.inj,H9.lt]
 exact⟨σ,⟨I.r2,I.r1,hGr,hGr,fun x c=>⟨π x,I.lt x c,b x c⟩,
  (by grind[H9.Jp])⟩,b,hGr⟩
theorem cn{on on':Nat->Bool}(I:H9 n es fs π)(f:∀x,x<n->on' (π x)=on x){a b:Nat}(ha:a<n)(h:Cn on es a b):Cn on' fs (π a) (π b):=by
 induction h with
 |refl h=>exact .refl hGr
 |@step x y k e o c=>have⟨d,h2⟩:=e.lt I.r1;exact .step c ((I.Jp _ _ d h2).2 e) hGr
theorem cn_iff{on on':Nat->Bool}(I:H9 n es fs π)(c:∀x,x<n->on' (π x)=on x){a b:Nat}(ha:a<n)(hb:b<n):Cn on' fs (π a) (π b)↔Cn on es a b:=by refine⟨fun h=>?_,I.cn c ha⟩;have⟨σ,J,d,h2⟩:=I.inv;have:=J.cn (on:=on') (on':=on) (fun x e=>by grind[H9.lt]) (I.lt a ha) h;grind
theorem wo(I:H9 n es fs π){v a b:Nat}(c:v<n)(ha:a<n)(hb:b<n):Cn (Go.Fw.wo (π v)) fs (π a) (π b)↔Cn (Go.Fw.wo v) es a b:=I.cn_iff (fun x d=>by grind[H9.inj]) ha hb
end H9
def ae6(π:Nat->Nat)(p:Pr):Pr:=GW (π p.1.toNat) (π p.2.toNat)
def aeL{π:Nat->Nat}{a b:Nat}:ae6 π (GW a b)=GW (π a) (π b):=by
 rw[bj,ae6];simp only[yM];rcases agm a b with h|h
 .rw[air h,qL231 h]
 .rw[aka h,qL243 h,so]
theorem aiu{n:Nat}{es:xLP}(d:aV n es){p:Pr}(e:p∈es):∃a b:Nat,a<n/\b<n/\Jp es a b/\p=GW a b:=by obtain⟨a,c,rfl,f,g,h⟩:=ends d e;exact(by grind[bj])
namespace H9
variable{n:Nat}{es fs:List Pr}{π:Nat->Nat}
theorem mem(I:H9 n es fs π){p:Pr}(c:p∈es):ae6 π p∈fs:=by obtain⟨a,b,ha,hb,h,rfl⟩:=aiu I.r1 c;rw[aeL];exact H4 I.r2 ((I.Jp _ _ ha hb).2 h)
def key1(I:H9 n es fs π){p q:Pr}(e:p∈es)(f:q∈es)(h:cQ n es p=cQ n es q):cQ n fs (ae6 π p)=cQ n fs (ae6 π q):=by refine adg I.r1 (fun p=>cQ n fs (ae6 π p)) (fun v a b ha hb k=>?_) e f h;have c:=(ha.lt I.r1).1;have d:=(ha.lt I.r1).2;have h2:=(hb.lt I.r1).2;show cQ n fs (ae6 π (GW v a))=cQ n fs (ae6 π (GW v b));rw[aeL,aeL];exact(dR I.r2 ((I.Jp _ _ c d).2 ha) ((I.Jp _ _ c h2).2 hb)).2 ((I.wo c d h2).2 k)
theorem back{σ:Nat->Nat}(I:H9 n es fs π)(c:∀a,a<n->σ (π a)=a){p:Pr}(d:p∈es):ae6 σ (ae6 π p)=p:=by obtain⟨a,b,ha,hb,h,rfl⟩:=aiu I.r1 d;rw[aeL,aeL,c a ha,c b hb]
def key(I:H9 n es fs π){p q:Pr}(a:p∈es)(b:q∈es):cQ n fs (ae6 π p)=cQ n fs (ae6 π q)↔cQ n es p=cQ n es q:=by refine⟨fun h=>?_,I.key1 a b⟩;have⟨σ,J,c,h2⟩:=I.inv;have:=J.key1 (I.mem a) (I.mem b) h;rwa[I.back c a,I.back c b]at this
def inj_E(I:H9 n es fs π){p q:Pr}(b:p∈es)(c:q∈es)(e:ae6 π p=ae6 π q):p=q:=by have⟨σ,J,a,h2⟩:=I.inv;rw[<-I.back a b,<-I.back a c,e]
def sur_E(I:H9 n es fs π){q:Pr}(a:q∈fs):∃p∈es,ae6 π p=q:=by have⟨σ,J,b,h2⟩:=I.inv;exact⟨ae6 σ q,J.mem a,J.back h2 a⟩
theorem perm(I:H9 n es fs π)(f:es.Nodup)(g:fs.Nodup):fs.Perm (es.map (ae6 π)):=by
 have nd:(es.map (ae6 π)).Nodup:=by rw[AE,V3];exact(AE.1 f).imp_of_mem fun{a b} ha hb c e=>c (I.inj_E ha hb e)
 refine(ajX g nd).2 fun q=>?_;rw[si];constructor
 .intro h;have⟨p,d,e⟩:=I.sur_E h;exact⟨p,d,e⟩
 .rintro⟨p,d,rfl⟩;exact I.mem d
def block_len(I:H9 n es fs π)(a:es.Nodup)(b:fs.Nodup){p:Pr}(c:p∈es):(fs.filter fun q=>decide (cQ n fs q=cQ n fs (ae6 π p))).length=(es.filter fun q=>decide (cQ n es q=cQ n es p)).length:=by rw[((I.perm a b).filter _).length_eq,amc,vg];congr 1;refine vY fun q d=>?_;simp only[Function.comp];rw[agN];exact I.key d c
end H9
namespace H9
variable{n:Nat}{es fs:List Pr}{π:Nat->Nat}
end H9
theorem afb.iso{n:Nat}{es:xLP}{ps:RZ}(A:afb ⟨(n:Int),es⟩ ps):H9 n es (ae1 ps es) (abW ps):=by
 have w:=A.new;have⟨s,k,H⟩:=A;have z:ps.length=n:=hGr;have f:∀{a b:Nat},a<n->b<n->(((a:Int),(b:Int))∈es->GW (abW ps a) (abW ps b)∈ae1 ps es):=fun{a b} ha hb h=>by rw[ae1,Wb];refine si.2 ⟨_,si.2 ⟨_,h,rfl⟩,?_⟩;rw[afH k NH NH];rfl
 have j:∀{q},q∈ae1 ps es->∃a b:Nat,a<n/\b<n/\((a:Int),(b:Int))∈es/\q=GW (abW ps a) (abW ps b):=fun{q} t=>by rw[ae1,Wb]at t;obtain⟨r,l,rfl⟩:=si.1 t;obtain⟨p,u,rfl⟩:=si.1 l;obtain⟨a,b,rfl,B,m,_⟩:=ends s.GD u;exact⟨a,b,NH,m,u,by rw[afH k NH NH];rfl⟩
 have g:aV n (ae1 ps es):=w.right.GD;refine⟨s.GD,g,fun a ha=>by have:=(k.get (show a<ps.length by omega)).2;omega,fun a b ha hb e=>k.inj NH NH e,fun x C=>?_,fun a b ha hb=>⟨fun h=>?_,fun h=>?_⟩⟩
 .grind[aey.ak7]
 .obtain⟨c,d,v,hd,i,e⟩:=j (H4 g h);rw[bj,bj,Gw]at e;have inj:=fun{x y:Nat}(C:x<n)(I:y<n)=>k.inj (show x<ps.length by omega) (show y<ps.length by omega);have D:=fun h=>inj (x:=a) (y:=c) ha v h;have E:=fun h=>inj (x:=b) (y:=d) hb hd h;have F:=fun h=>inj (x:=a) (y:=d) ha hd h;have G:=fun h=>inj (x:=b) (y:=c) hb v h;rcases(show(abW ps a=abW ps c/\abW ps b=abW ps d)\/(abW ps a=abW ps d/\abW ps b=abW ps c) by omega)with⟨o,h2⟩|⟨o,h2⟩
  .rw[D o,E h2];exact .inl i
  .rw[F o,G h2];exact .inr i
 .rcases h with h|h
  .have:=f ha hb h;rw[bj]at this;rcases agm (abW ps a) (abW ps b)with q|q
   .rw[air q,qL231 q]at this;exact .inl this
   .rw[aka q,qL243 q]at this;exact .inr this
  .have:=f hb ha h;rw[bj]at this;rcases agm (abW ps a) (abW ps b)with q|q
   .rw[aka q,qL243 q]at this;exact .inl this
   .rw[air q,qL231 q]at this;exact .inr this
def afb.right{n:Nat}{es:xLP}{ps:RZ}(A:afb ⟨(n:Int),es⟩ ps):bX ⟨(n:Int),ae1 ps es⟩:=A.new.right
end Go.Fw
namespace Go.Fw
section
attribute [local instance] Classical.propDecidable
def bU(b:Nat)(ls:xLP):xLP:=ls.map fun p=>(p.1,(b:Int)+p.2)
structure Lk (b n:Nat) (ls:xLP):Prop where
 n0:n≠0
 len:ls.length+1=n
 ok:∀p∈ls,LinkOK b n p
 bp:∀v,v<n->Pu (bU b ls) 0 v
def JS{a j:Nat}(h:j<a):a-(j+1)<a-j:=NH
section
variable{n:Nat}{es:List Pr}{rs:AM}
theorem ajd(a:aV n es)(ha:D3 es){v:Nat}{l:RZ}:qC l=(Zh n es).getD v []↔l.Perm ((Zh n es).getD v []):=by
 constructor
 .intro h;rw[<-h];exact(alO _ _).symm
 .intro p;have hb:=KW es a ha v;have nd:l.Nodup:=by grind[List.Pairwise.imp]
  have b:=aQ l;have h2:(qC l).Nodup:=(alO _ _).nodup_iff.2 nd;exact afY _ _ ((b.and h2).imp fun h=>by omega) hb (by grind[Wv])
def ahy(v:Nat)(l:RZ):xLP:=(l.filter fun w=>decide ((v:Int)<w)).map fun w=>((v:Int),w)
def abT(rs:AM):Nat->xLP
 |0=>[]
 |k+1=>abT rs k++ahy k (rs.getD k [])
theorem aiQ{k:Nat}{p:Pr}:p∈abT rs k↔∃v:Nat,v<k/\p.1=(v:Int)/\p.2∈rs.getD v []/\p.1<p.2:=by
 induction k with
 |zero=>simp[abT]
 |succ k a=>grind[abT.eq_2,ahy.eq_1]
theorem aiw(hR:bX ⟨(n:Int),es⟩)(G:Av n es rs):YG (n:Int) (abT rs n)/\aa5 ((abT rs n).map lZ)=es:=by
 have d:=hR.GD;have l:∀p,p∈abT rs n↔p∈es:=fun p=>by
  rw[aiQ];constructor
  .rintro⟨v,m,g,h2,h3⟩;have⟨_,w,e,hw,ha⟩:=G.nat d h2;have:=H4 d ha;grind[bj]
  .intro f;obtain⟨a,c,rfl,o,q,ha⟩:=ends d f;exact⟨a,NH,rfl,(G.perm a NH).mem_iff.2 (by grind[EW]),hGr⟩
 have nd:(abT rs n).Nodup:=by
  have key:∀k,k<=n->(abT rs k).Nodup:=by
   intro k
   induction k with
   |zero=>grind[abT]
   |succ k r=>
    intro s;rw[abT,ZT];refine⟨r NH,?_,fun a ha b hb e=>?_⟩
    .rw[ahy,AE,V3];have nd:(rs.getD k []).Nodup:=(G.perm k NH).nodup_iff.2 (AE.2 ((KW es d hR.q9 k).imp hGr));grind[List.Pairwise.imp]
    .subst e;have⟨v,m,g,_⟩:=aiQ.1 ha;obtain⟨w,_,rfl⟩:=si.1 hb;grind
  grind
 have i:(abT rs n).map lZ=abT rs n:=by
  conv=>rhs;rw[<-alJ (abT rs n)]
  refine Uz fun p f=>?_;have:=d p ((l p).1 f);grind[lZ]
 have j:aa5 (abT rs n)=es:=by
  have g:=VH (abT rs n);have h2:(aa5 (abT rs n)).Nodup:=by grind[YA]
  rw[AE]at h2;refine aiv _ _ ((g.and h2).imp fun{x y} h=>?_) (Nl.1 hR.q9) (by grind[Wb]);grind
 have hlen:(abT rs n).length=es.length:=by grind[ZS]
 refine⟨⟨hR.n0,hR.n1,by rw[hlen];exact hR.len,fun p f=>?_,hGr⟩,hGr⟩;have:=d p ((l p).1 f);grind[lZ]
end
end
section
attribute [local irreducible] Jz JL vq cQ ae1 abW
variable {h:aai}
def newE(hw:WF h):∃a h2,abO pG h 24=Z (pT (Z h.next),a)/\aaK pG a 24 (pT (Z h.next)) agO=Z h2/\Le h h2/\WF h2:=by
 have⟨a,c,l1,w1,b⟩:=Tt hw [.int .i64 0,.slice Y 0 0]
 have d:h.own h.next=Y:=(Le.refl h).next hw (qL0 _)
 have st:=aib (n:=0) (ev:=.slice Y 0 0) b rfl rfl;exact⟨a,_,by rw[Lo,c],st,l1.put _ d,w1.put _ (w1.lt b)⟩
end
section
attribute [local irreducible] Jz JL vq cQ
variable {es:List Pr} {n:Nat}
def lkU(i:Nat)(b:xLP)(cs:II)(k:Nat):xLP:=((rG k).filter fun j=>atB ((cs.getD j 0:Nat):Int) b).map fun(j:Nat)=>((i:Int),(j:Int))
def Rb(bs:List xLP)(cs:II)(i:Nat):xLP:=(rG i).flatMap fun k=>lkU k (bs.getD k []) cs cs.length
theorem lkU_succ(i:Nat)(b:xLP)(cs:II)(k:Nat):lkU i b cs (k+1)=lkU i b cs k++if atB ((cs.getD k 0:Nat):Int) b then[((i:Int),(k:Int))]else[]:=by grind[lkU.eq_1,range_succ]
theorem DK(bs:List xLP)(cs:II)(i:Nat):Rb bs cs (i+1)=Rb bs cs i++lkU i (bs.getD i []) cs cs.length:=by grind[Rb.eq_1,range_succ]
def acF(n:Nat)(es:xLP):TM:=⟨vq n es,kz (JL n es),Rb (vq n es) (JL n es) (vq n es).length⟩
def JoinG(n:Nat)(es:xLP):Prop:=es≠[]/\(Es n es).length=1
theorem u5(b:bX ⟨(n:Int),es⟩)(a:es≠[]):0<(vq n es).length:=by obtain⟨p,l,rfl⟩:=N8 a;grind[Zg,mem_cons_self]
end
def mk57(h:aai)(n:Nat)(a:n<=1000):abl pG h 25 n n=Z (sL (Z h.next) n n,h.alloc (.cells (rP n (.slice Y 0 0)))):=Ye (P:=pG) (t:=25) (z:=.slice Y 0 0) h qS8 Ji rfl rfl rfl Ji Mb Ji n NH
def mk100(h:aai)(n:Nat)(a:n<=1000):abl pG h 41 n n=Z (sL (Z h.next) n n,h.alloc (.cells (rP n (.bool fF)))):=Ye (P:=pG) (t:=41) (z:=.bool fF) h Uh rfl rfl rfl rfl Ji AV Ji n NH
def mk35(h:aai)(n:Nat)(a:n<=1000):abl pG h 28 n n=Z (sL (Z h.next) n n,h.alloc (.cells (rP n (.int .i64 0)))):=Ye (P:=pG) (t:=28) (z:=.int .i64 0) h Mb rfl rfl rfl rfl Ji Ac Ji n NH
def rB(ls:xLP)(v:Nat):RZ:=(ls.filter fun p=>decide (p.1=(v:Int))).map (·.2)
def rC(ls:xLP)(v:Nat):RZ:=(ls.filter fun p=>decide (p.2=(v:Int))).map (·.1)
def nbU(b:Nat)(ls:xLP)(v:Nat):II:=if v<b then(rB ls v).map fun x=>b+x.toNat else(rC ls (v-b)).map fun x=>x.toNat
section
variable{b n:Nat}{ls:List Pr}
end
end Go.Fw
