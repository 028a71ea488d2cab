/- A text. -/
import Derived.Test.YtnakkbhjoiheoaaGreatFwLT3
set_option linter.all false
set_option maxRecDepth 99999
set_option maxHeartbeats 9999999
open Go.Proofs
open Option renaming some→Z,none→Y
open Bool renaming true→tT,false→fF
open List renaming replicate→rP,range→rG
open Go.Value renaming slice→sL,pointer→pT
open Go renaming Value→vV
open Go.Proofs.Tryz renaming prog→pG
open Go.Proofs.Tryz
open List
namespace Go.Fw
section
attribute [local irreducible] Kp MQ lU KO1 KO KN KX KE VK Kl ZJ TC aab
variable {P:Program} {R id m n:Nat} {c:List Value} {ev x:Value} {h:aai} {ps:List Pr}
theorem append_in{t xt:TypeId}{k n n' id cap:Nat}{c news:xLV}(a:apT P t xt k=tT)(A:h.own id=Z (.cells c))(b:cap*k<=c.length)(d:cap<1000000000000)(hf:n+n'<=cap)(hs:∀e,UA P e=k->aby P h e x=Z (n',news))(p:news.all (·.oneCell')=tT)(f:news.length=n'*k)(hb:n+n'<=1000000000)(B:n'≠0):
  aaR P h t xt (sL (Z id) n cap) x=Z (sL (Z id) (n+n') cap,h.put id (.cells (putCells c (n*k) news))):=by
 unfold apT at a;split at a
 .rename_i e dx q r;split at a
  .rename_i z s;simp only[ae7,beq_iff_eq,uV]at a;obtain⟨⟨⟨⟨⟨g,i⟩,hd⟩,j⟩,u⟩,l⟩:=a;have hs:=hs e u;have v:(n+n')*P.bytesOf e<=140737488355328:=ff (WS hb l) WY;have w:n+n'<=140737488355328:=NH;have o:z.cells.size=UA P e/\z.cells.toList.all (·.oneCell')/\(P.underlying e).isSome/\acL dx/\news.all (·.oneCell')/\(n+n')*P.bytesOf e<=140737488355328/\n+n'<=140737488355328/\news.length=n'*UA P e:=
    ⟨g,i,hd,j,p,v,w,hGr⟩
   have y:¬UNK<=cap:=TN.2 (aiq d WY);have m:n*k+news.length<=c.length:=by rw[f,<-kS];exact ff (WZ _ hf) b
   simp only[aaR,q,r,s,hs];grind
  .cases a
 .cases a
theorem mkCapP(h:aai)(n:Nat)(f:n<=100000):∃c,abl pG h 22 (.int .i64 0) n=Z (sL (Z h.next) 0 n,h.alloc (.cells c))/\c.length=n*2:=by
 have g:acd pG 49=Z (.agg #[.int .i64 0,.int .i64 0]):=Ji;have b:(vV.agg #[.int .i64 0,.int .i64 0]).cells=#[.int .i64 0,.int .i64 0]:=rfl;have hb:pG.bytesOf 49=16:=Ji;have d:(16:Int)*n<=140737488355328:=NH;have e:(n:Int)<=140737488355328:=NH;have a:(acY [vV.int .i64 0,.int .i64 0] n).all (·.oneCell')=tT:=by
  clear d e f
  induction n with
  |zero=>rfl
  |succ n i=>simp only[acY,aiK,i,alY];rfl
 refine⟨acY [.int .i64 0,.int .i64 0] n,?_,by grind[jY]⟩;simp[abl,eY,qS7,g,b,hb,WE,flat,d,e,IF,a]
theorem push_in(hw:WF h)(l:h.own id=Z (.cells c))(A:c.length=m*2)(B:c.take (ps.length*2)=Iu ps)(q:ps.length<m)(C:m<=100000)(p:Pr):
  ∃a d,aas pG h 22 1 [(0,UI p)]=Z (sL (Z h.next) 1 1,a)/\aaR pG a 22 22 (sL (Z id) ps.length m) (sL (Z h.next) 1 1)=Z (sL (Z id) (ps.length+1) m,d)/\WF d/\
   (∃c',d.own id=Z (.cells c')/\c'.length=m*2/\c'.take ((ps++[p]).length*2)=Iu (ps++[p]))/\(∀f,Le f h->f.own id=Y->Le f d)/\(∀b o,h.own b=Z o->b≠id->d.own b=Z o):=by
 have⟨a,e4,l4,j,r⟩:=Tt hw (xM p)
 have s:PR a (sL (Z h.next) 1 1) [p]:=by have:=CS.own (k:=2) (off:=0) (n:=1) (cap:=1) r (by simp[xM]);exact this
 have g:=l4.own _ _ l
 have key:=append_in (P:=pG) (t:=22) (xt:=22) (k:=2) (n:=ps.length) (n':=1) (cap:=m) (x:=sL (Z h.next) 1 1) Ji g NH NH NH (fun e u=>CS.src u s) (WI [p]) (Ta [p]) NH NH
 have v:Iu [p]=xM p:=by simp[Iu]
 have i:ps.length*2+(Iu [p]).length<=c.length:=by grind[Ta]
 refine⟨a,_,by rw[mkP1,e4],key,j.put _ (j.lt g),⟨_,aai.Y3 _ _ _,by grind[O7],?_⟩,fun f w y=>(w.trans l4).put _ y,fun b o hb z=>?_⟩
 all_goals grind[Ta,IW,mZ,aai.By,Le.own]
def aib{x y:vV}{n:Int}(d:h.own R=Z (.cells [x,y]))(one:ev.oneCell'=tT)(b:ev.cells=#[ev]):aaK pG h 24 (pT (Z ⟨R,0,Y⟩)) (.agg #[.int .i64 n,ev])=Z (h.put R (.cells [.int .i64 n,ev])):=by
 have a:UA pG 24=2:=Ji;have e:(vV.agg #[.int .i64 n,ev]).cells=#[.int .i64 n,ev]:=by have c:(vV.int IntKind.i64 n).cells=#[.int .i64 n]:=rfl;simp[vV.cells,b]
 have c:(vV.int IntKind.i64 n).oneCell'=tT:=rfl;simp[aaK,d,e,a,putCells,qS8,one,c]
def ai2{n:Int}(e:h.own R=Z (.cells [n,ev]))(d:∃a l c,ev=.slice a l c):aaC pG h 24 ⟨R,0,Y⟩=Z (.agg #[n,ev]):=by have b:UA pG 24=2:=Ji;obtain⟨a,l,c,rfl⟩:=d;rw[Wx qS8 rfl b e Ma];rfl
def lZ(p:Pr):Pr:=(min p.1 p.2,max p.1 p.2)
structure YG (n:Int) (ps:xLP):Prop where
 n0:0<=n
 n1:n<=200
 len:ps.length<=594
 ok:∀p∈ps,0<=(lZ p).1/\(lZ p).1≠(lZ p).2/\(lZ p).2<n
 nd:(ps.map lZ).Nodup
def agO:vV:=.agg #[.int .i64 0,.slice Y 0 0]
def aew:acB pG 24 []=Z agO:=Ji
def build24s(n:Int)(id m c:Nat):acB pG 24 [(0,n),(1,sL (Z id) m c)]=Z (.agg #[n,sL (Z id) m c]):=Ji
theorem YG.right(k:YG (n:Int) ps):bX ⟨(n:Int),aa5 (ps.map lZ)⟩:=by
 have nd:(aa5 (ps.map lZ)).Nodup:=(YA _).nodup_iff.2 k.nd;have hle:=VH (ps.map lZ);refine bX.of (by have:=k.n1;omega) (by grind[ZS,YG.len]) (fun q a=>?_) (Nl.2 ?_)
 .rw[Wb,aev]at a;obtain⟨p,b,rfl⟩:=a;have⟨c,h2,h3⟩:=k.ok p b;grind[lZ]
 .refine(hle.and nd).imp fun{x y} h=>?_;grind
theorem New_any(W0:LA)(n:Int)(v:vV)(ps:xLP)(h:aai)(hp:PR h v ps)(B:ps.length<=100000):
  AC pG W0 26 [n,v] h fun x h'=>Le h h'/\((¬YG n ps/\∃k:Int,k≠0/\x=.tuple #[agO,.int .i64 k])\/(YG n ps/\∃ev,x=.tuple #[.agg #[n,ev],.int .i64 0]/\GP h' ev (aa5 (ps.map lZ))/\Z2 h ev)):=by
 refine AC.vF func26 ntmps26 results26 fun J=>?_;have⟨j,e1,l1,w1,K⟩:=Tt J [.int .i64 0,.slice Y 0 0];have al:=Lo h;rw[e1]at al
 have nR:h.own h.next=Y:=(Le.refl h).next J (qL0 _)
 generalize h.next=R at*
 have hlen:=fun g=>hp.len g;have m:∀g:aai,g.own R=Z (.cells [.int .i64 0,.slice Y 0 0])->aaK pG g 24 (pT (Z R)) agO=Z (g.put R (.cells [.int .i64 0,.slice Y 0 0])):=fun g o=>aib o rfl rfl;have ldE:∀g:aai,aaC pG (g.put R (.cells [.int .i64 0,.slice Y 0 0])) 24 ⟨R,0,Y⟩=Z agO:=fun g=>ai2 (aai.Y3 _ _ _) ⟨_,_,_,rfl⟩;have fail:∀(g:aai)(k:Int),k≠0->Le h g->¬YG n ps->Le h (g.put R (.cells [.int .i64 0,.slice Y 0 0]))/\((¬YG n ps/\∃k':Int,k'≠0/\vV.tuple #[agO,.int .i64 k]=.tuple #[agO,k'])\/(YG n ps/\∃ev,vV.tuple #[agO,.int .i64 k]=.tuple #[.agg #[n,ev],.int .i64 0]/\GP (g.put R (.cells [.int .i64 0,.slice Y 0 0])) ev (aa5 (ps.map lZ))/\Z2 h ev)):=fun g k hk lg ay=>⟨lg.put _ nR,.inl ⟨ay,k,hk,rfl⟩⟩;by_cases c1:n>200
 .have d1:decide (n>200)=tT:=HV c1;simp only[HO,seval,al,d1,aew,m j K,ldE j];exact fail j 21 WY l1 (fun k=>by have:=k.n1;omega)
 have d1:decide (n>200)=fF:=Z6 c1;by_cases c2:(ps.length:Int)>594
 .have d2:decide ((ps.length:Int)>594)=tT:=HV c2;simp only[HO,seval,al,d1,hlen,d2,aew,m j K,ldE j];exact fail j 21 WY l1 (fun k=>by grind[YG.len])
 have d2:decide ((ps.length:Int)>594)=fF:=Z6 c2;by_cases c3:n<0
 .have d3:decide (n<0)=tT:=HV c3;simp only[HO,seval,al,d1,hlen,d2,d3,aew,m j K,ldE j];exact fail j 20 WY l1 (fun k=>by have:=k.n0;omega)
 have d3:decide (n<0)=fF:=Z6 c3
 obtain⟨h2,e2,l2,w2,o2⟩:∃h2,j.alloc (.map [])=h2/\Le j h2/\WF h2/\h2.own j.next=Z (.map []):=⟨_,rfl,(Le.refl j).alloc w1 _,w1.alloc _,aai.zT _ _⟩
 have nM:j.own j.next=Y:=(Le.refl j).next w1 (qL0 _)
 have L:R≠j.next:=fun e=>by grind
 have⟨c0,mk,N⟩:=mkCapP h2 ps.length B;have⟨h3,e3,l3,w3,o3⟩:=Tt w2 c0;rw[e3]at mk
 have nI:h2.own h2.next=Y:=(Le.refl h2).next w2 (qL0 _)
 simp only[HO,seval,al,d1,hlen,d2,d3,e2,mk];have O:=l3.own _ _ o2;have P:=l3.own _ _ (l2.own _ _ K)
 have C:h2.next≠j.next:=fun e=>by grind
 have Q:h2.next≠R:=fun e=>by grind[Le.own]
 have az:h.own h2.next=Y:=(l1.trans l2).none nI
 have aC:h.own j.next=Y:=l1.none nM
 have S:=(l1.trans l2).trans l3
 generalize j.next=M at*
 generalize h2.next=I at*
 refine aab.intro (fun k fr s=>∃(i:Nat)(al:List (Pr×Int))(c:xLV),k=ps.length-i/\i<=ps.length/\fr=mkF [(0,n),(4,pT (Z R)),(6,.map (Z M)),(7,sL (Z I) ((ps.take i).map lZ).length ps.length),(28,v),(29,.int .i64 ps.length),(30,.int .i64 i)]/\
   s.own R=Z (.cells [.int .i64 0,.slice Y 0 0])/\s.own M=Z (.map (wy al))/\(∀q,q∈al.map (·.1)↔q∈(ps.take i).map lZ)/\s.own I=Z (.cells c)/\c.length=ps.length*2/\c.take (((ps.take i).map lZ).length*2)=Iu ((ps.take i).map lZ)/\
   (∀p∈ps.take i,0<=(lZ p).1/\(lZ p).1≠(lZ p).2/\(lZ p).2<n)/\((ps.take i).map lZ).Nodup/\Le h s)
  ps.length [(0,n),(4,pT (Z R)),(6,.map (Z M)),(7,sL (Z I) 0 ps.length),(28,v),(29,.int .i64 ps.length),(30,(0:Nat))] fD
  ⟨0,[],c0,rfl,Og _,rfl,P,O,Ma,o3,N,rfl,Ma,Ma,S⟩ ?_
 clear o3 N O P w3 l3 S e3 mk o2 w2 l2 e2 nI nM al K w1 l1 e1;clear h3 h2 j c0;rintro k fr s T ⟨i,al,c,rfl,hi,rfl,oR,oM,U,oI,aD,V,X,D,leq⟩;have aa:((ps.take i).map lZ).length=i:=hGr;refine Uy ?_;refine Kl.intro (fun ht=>?_) (fun hf=>?_)
 rotate_left
 .have bh:ps.length<=i:=vp hf;obtain rfl:i=ps.length:=NH;rw[aa,abe (qL0 _)]at V;rw[abe (qL0 _)]at X D;have aF:YG n ps:=⟨NH,NH,NH,X,D⟩;have g:GP s (sL (Z I) ps.length ps.length) (ps.map lZ):=by grind[GS.full,GP.eq_1]
  have ag:Z2 h (sL (Z I) ps.length ps.length):=fun b hb=>by injection hb with hb;grind
  have bs:=build24s n I ps.length ps.length;have bI:blk (sL (Z I) ps.length ps.length)=Z I:=rfl;rw[aa];refine Uy ?_;generalize F:vV.slice (Z I) ps.length ps.length=sv at*;refine kCi func49 (ai1 W0 g (by rw[wI];omega) 50 (enters_of func50 Ji rfl) fun W p q=>(DU _ p q _).mono fun _ _ h=>h.1) ?_;rintro x h4 w4 ⟨rfl,g4,f4⟩;have l4:=f4 h leq ag;have aH:h4.own R=Z (.cells [.int .i64 0,.slice Y 0 0]):=(aG (v':=sv) (fun f _ lf af=>⟨f4 f lf af,af⟩) T oR hGr).1;have st:=aib (n:=n) (ev:=sv) aH (by rw[<-F];rfl) (by rw[<-F];rfl);have ld:=ai2 (n:=n) (ev:=sv) (aai.Y3 h4 R _) ⟨_,_,_,F.symm⟩;simp only[HO,seval,bs,st,ld];exact⟨l4.put _ nR,.inr ⟨aF,sv,rfl,GS.put g4 _ hGr,ag⟩⟩
 have t:i<ps.length:=acb ht;clear ht;have ae:=CA t;have z:ps.take (i+1)=ps.take i++[ps[i]]:=EL t;have ai:=AE t;generalize ps[i]=p at ae z ai;have ad:=hp.addr (k:=.i64) i t;have ld:=(hp.le leq).load ae;have⟨bk,h7,e7,aJ,l7,w7,o7⟩:=Ut T p;have⟨bm,l,e8,aK,l8,w8,o8⟩:=Ut w7 (lZ p);have bn:acB pG 49 [(0,.int .i64 (min p.1 p.2)),(1,.int .i64 (max p.1 p.2))]=Z (UI (lZ p)):=bP2 _ _;simp only[HO,seval,ad,ld,e7,aJ,Dh,Z0,Ip,BS,lK o7,HY o7,Dv,z6,bn,e8,aK];have u:=leq.trans (l7.trans l8);have w:=(l7.trans l8).own _ _ oR;have G:=(l7.trans l8).own _ _ oM;have aL:=(l7.trans l8).own _ _ oI
 have aN:h7.next≠M:=fun e=>by grind
 have bo:h7.next≠I:=fun e=>by grind[Le.next]
 generalize hE:h7.next=E at*
 have m0:=lK o8;have m1:=HY o8;have bad:¬(0<=(lZ p).1/\(lZ p).1≠(lZ p).2/\(lZ p).2<n)->¬YG n ps:=fun hn k=>hn (k.ok p ai);by_cases q1:(lZ p).1<0
 .have d:decide ((lZ p).1<0)=tT:=HV q1;simp only[HO,seval,Dh,Z0,Ip,BS,m0,m1,d,aew,m l w,ldE l];exact fail l 20 WY u (bad NH)
 have A:decide ((lZ p).1<0)=fF:=Z6 q1;by_cases q2:(lZ p).1=(lZ p).2
 .have d:decide ((lZ p).1=(lZ p).2)=tT:=HV q2;simp only[HO,seval,Dh,Z0,Ip,BS,m0,m1,A,d,aew,m l w,ldE l];exact fail l 20 WY u (bad NH)
 have H:decide ((lZ p).1=(lZ p).2)=fF:=Z6 q2;by_cases q3:(lZ p).2>=n
 .have d:decide ((lZ p).2>=n)=tT:=HV q3;simp only[HO,seval,Dh,Z0,Ip,BS,m0,m1,A,H,d,aew,m l w,ldE l];exact fail l 20 WY u (bad NH)
 have aj:decide ((lZ p).2>=n)=fF:=Z6 q3;have lp:=uM o8;have lk:=Il G (lZ p) tT;by_cases q4:lZ p∈(ps.take i).map lZ
 .have hs:(abo al (lZ p)).isSome=tT:=by
   have:=ahW.2 ((U _).2 q4);cases hh:abo al (lZ p)with
   |none=>grind
   |some x=>rfl
  rw[hs]at lk;simp only[HO,seval,Dh,Z0,Ip,BS,m0,m1,A,H,aj,lp,acS,lk,aew,m l w,ldE l];refine fail l 20 WY u fun k=>?_;have nd:=k.nd;rw[<-qL85 (i+1) ps,z,KG,KG]at nd;have:=(ZT.1 nd).1;rw[ZT]at this;grind
 have hs:abo al (lZ p)=Y:=by
  cases hh:abo al (lZ p)with
  |none=>rfl
  |some x=>grind[ahW]
 rw[hs]at lk;simp only[Option.isSome_none,Option.getD_none]at lk;have sm:=ajb G (lZ p) (i:Int);have w9:=w8.put (.map (wy (acs al (lZ p) (i:Int)))) (w8.lt G);have aP:=aai.Y3 l M (.map (wy (acs al (lZ p) (i:Int))));have r:∀b o,l.own b=Z o->b≠M->(l.put M (.map (wy (acs al (lZ p) (i:Int))))).own b=Z o:=fun b o ho hb=>by grind[aai.By]
 have aT:=r R _ w L;have aW:=r I _ aL C;have aX:=r E _ o8 aN;have l9:=u.put (.map (wy (acs al (lZ p) (i:Int)))) aC;refine Sk (Da @Dh @Z0 @Ip.eq_1 @BS m0 m1 A H aj lp @acS lk @aiP sm) ?_;generalize l.put M (.map (wy (acs al (lZ p) (i:Int))))=h9 at*;have a6:=uM aX;have⟨br,bx,a7,a8,bB,⟨c',aq,ar,bg⟩,bb,av⟩:=push_in w9 aW aD V hGr B (lZ p);have y:(ps.take (i+1)).map lZ=(ps.take i).map lZ++[lZ p]:=by rw[z,KG];rfl
 refine Sk (xU a6 a7 a8 (aaa i NH)) ?_;refine tn (ps.length-(i+1)) [(0,n),(4,pT (Z R)),(6,.map (Z M)),(7,sL (Z I) (((ps.take i).map lZ).length+1) ps.length),(28,v),(29,.int .i64 ps.length),(30,(i+1:Nat))] NH fD
  ⟨i+1,_,c',rfl,t,by rw[y,aaf];rfl,av R _ aT (Hs Q),av M _ aP (Hs C),fun q=>?_,aq,ar,hGr,fun q s=>?_,?_,bb h l9 az⟩
 .rw[setK_keys,U,y,yM];simp;exact or_comm
 .rw[z,yM]at s;rcases s with s|s
  .grind
  .simp at s;grind
 .rw[y,ZT];refine⟨D,Ma,fun a ha b hb e=>?_⟩;simp at hb;grind
def endP(p:Pr)(y:Int):RZ:=(if p.1=y then[p.2]else[])++if p.2=y then[p.1]else[]
def endsK(ps:xLP)(y:Int):RZ:=ps.flatMap fun p=>endP p y
end
end Go.Fw
namespace Go.Fw
namespace Fo
variable{n:Nat}{es:List Pr}{num:Nat->Nat}{up:Nat->Option Nat}{hd:Nat->Nat}
theorem Io{a b:Nat}(h:pJ up a b)(ne:a≠b):up b≠Y:=by grind[pJ.last]
def beg(n:Nat)(up:Nat->Option Nat)(hd:Nat->Nat):II:=(rG n).filter fun c=>decide (up c≠Y/\hd c=c)
theorem AF{c:Nat}:c∈beg n up hd↔c<n/\up c≠Y/\hd c=c:=by simp[beg]
theorem beg_nd:(beg n up hd).Nodup:=vg.sublist Db
def JB(n:Nat)(up:Nat->Option Nat)(hd:Nat->Nat)(v:Nat):II:=(beg n up hd).filter fun c=>decide (up c=Z v)
theorem mF(F:Fo n es num up)(H:abi n es num up hd){v:Nat}(h:v<n)(c:Nat):(∃a,Jp es v a/\hd (lower num v a)=c)↔c∈JB n up hd v\/(up v≠Y/\c=hd v):=by
 rw[JB,iy,AF,uV];constructor
 .rintro⟨a,ha,rfl⟩;have i:=F.JD ha;have e:=(ha.lt F.rD).2;unfold lower;by_cases q:num a<num v
  .rw[WA q];exact .inr ⟨Io (F.anc a v ha.symm q) hGr,rfl⟩
  .rw[IE q];have⟨c,f,b⟩:=(F.anc v a ha NH).child hGr;have d:=(F.yO b e).1;rw[F.zP H f b ha];by_cases hb:ym es num up v c
   all_goals grind[Fo.CJ,Fo.Io,Fo.abi.on,Fo.abi.new]
 .rintro(⟨⟨d,_,hh⟩,f⟩|⟨g,rfl⟩)
  .obtain⟨j,h2⟩:=F.Kd c v d f;grind[Fo.lower]
  .obtain⟨u,g⟩:=jz.1 g;have⟨j,h2⟩:=F.Kd v u h g;grind[Jp.symm,Fo.lower]
theorem hd_notAt(F:Fo n es num up)(H:abi n es num up hd){v:Nat}(a:v<n):hd v∉JB n up hd v:=by intro h;rw[JB,iy,AF,uV]at h;have b:=(F.US H (num v) v (qL0 _) a).1;have h2:=(F.Kd _ v h.1.1 h.2).2;grind[Fo.yO]
end Fo
open Classical in
theorem incN_eq{n:Nat}{es:xLP}{num:Nat->Nat}{up:Nat->Option Nat}(S:aay n es (Jz n es).1 (Jz n es).2 num up){v:Nat}(h:v<n):
  Sq n es v=(Fo.JB n up (Cl n es) v).length+(if up v=Y then 0 else 1):=by
 have F:=S.fo;have H:=(FY S).1;have d:=F.rD;have b:∀k:Int,k∈I7 n es v↔∃c:Nat,k=(c:Int)/\(c∈Fo.JB n up (Cl n es) v\/(up v≠Y/\c=Cl n es v)):=by
  intro k;rw[dG d];constructor
  .rintro⟨a,ha,rfl⟩;exact⟨_,jm S ha,(by grind[Fo.mF])⟩
  grind[Fo.mF,jm]
 have e:(Fo.JB n up (Cl n es) v).Nodup:=Fo.beg_nd.sublist Db;rw[JW];by_cases f:up v=Y
 .rw[WA f];have:(I7 n es v).Perm (kz (Fo.JB n up (Cl n es) v)):=by grind[PS,kz.eq_1]
  rw[this.length_eq,y6];rfl
 .have g:(Cl n es v::Fo.JB n up (Cl n es) v).Nodup:=by grind[Fo.hd_notAt]
  have:(I7 n es v).Perm (kz (Cl n es v::Fo.JB n up (Cl n es) v)):=(Q9 (PS n es v) (by grind[kz.eq_1])).2 (by grind[kz.eq_1]);grind[List.Perm.length_eq,y6]
theorem VV{n:Nat}{es:xLP}{num:Nat->Nat}{up:Nat->Option Nat}(S:aay n es (Jz n es).1 (Jz n es).2 num up):(vq n es).length=(Fo.beg n up (Cl n es)).length:=by
 have F:=S.fo;have H:=(FY S).1;have i:=F.rD;have⟨l,mk⟩:=ahE (cQ n es) _ es rfl;have:(CY (cQ n es) es).Perm (kz (Fo.beg n up (Cl n es))):=(Q9 l (by grind[kz.eq_1,Fo.beg_nd])).2 fun k=>by
  rw[mk,kz,aev];constructor
  .rintro⟨p,m,rfl⟩;obtain⟨a,c,rfl,o,d,b⟩:=ends i m;have q:((a:Int),(c:Int))=GW a c:=by grind[bj]
   have w:=jm S b;have r:=F.JD b;have e:Fo.lower num a c<n:=by grind[Fo.lower]
   have s:up (Cl n es (Fo.lower num a c))≠Y:=by have key:=fun x y f g=>F.link H (fun _ _=>()) (fun _ _=>rfl) hGr (num x) x y (qL0 _) f g;grind[Fo.lower,Jp.symm]
   have t:=F.US H _ (Fo.lower num a c) (qL0 _) e;grind[Fo.AF,Fo.yO]
  .rintro⟨c,v,rfl⟩;have⟨d,h,hh⟩:=Fo.AF.1 v;have⟨u,h⟩:=jz.1 h;have⟨j,h2⟩:=F.Kd c u d h;refine⟨GW c u,T0 i j.symm,?_⟩;rw[jm S j.symm];grind[Fo.lower]
 grind[aaB,List.Perm.length_eq,y6]
end Go.Fw
namespace Go.Fw
theorem sum_add(f g:Nat->Nat):∀l:II,(l.map fun x=>f x+g x).sum=(l.map f).sum+(l.map g).sum
 |[]=>rfl
 |x::l=>by simp only[QD,ahe,sum_add f g l];omega
theorem sum_one(u:Nat):∀n,((rG n).map fun v=>if u=v then 1 else 0).sum=if u<n then 1 else 0
 |0=>rfl
 |n+1=>by rw[rY,KG,qL238,sum_one u n];grind
def Rp:∀n,((rG n).map fun _=>0).sum=0
 |0=>rfl
 |n+1=>by rw[rY,KG,qL238,Rp n];rfl
theorem sum_fib(n:Nat)(up:Nat->Option Nat):∀(l:II),(∀c∈l,∃u,up c=Z u/\u<n)->((rG n).map fun v=>(l.filter fun c=>decide (up c=Z v)).length).sum=l.length
 |[],_=>by exact Rp n
 |c::l,h=>by
  obtain⟨u,a,b⟩:=h c Ma;have d:=sum_fib n up l hGr
  have e:(fun v=>((c::l).filter fun c=>decide (up c=Z v)).length)=fun v=>(l.filter fun c=>decide (up c=Z v)).length+(if u=v then 1 else 0):=hGr
  grind[sum_add,sum_one]
theorem sum_ind(p:Nat->Prop)[DecidablePred p]:∀l:II,(l.map fun v=>if p v then 0 else 1).sum=(l.filter fun v=>decide (¬p v)).length
 |[]=>rfl
 |x::l=>by rw[QD,ahe,sum_ind p l,akM];grind
theorem yA(inc:Nat->Nat):∀l:II,(l.map inc).sum+(l.filter fun v=>decide (1<inc v)).length=((l.filter fun v=>decide (1<inc v)).map inc).sum+(l.filter fun v=>decide (0<inc v)).length
 |[]=>rfl
 |x::l=>by have a:=yA inc l;grind
theorem Yu{A B:II}{R:Nat->Nat->Prop}(c:A.Nodup)(h:∀a∈A,∃b∈B,R a b)(inj:∀a∈A,∀a'∈A,∀b,R a b->R a' b->a=a'):A.length<=B.length:=by
 classical
 let f:Nat->Nat:=fun a=>if h:∃b∈B,R a b then Classical.choose h else 0
 have nd:(A.map f).Nodup:=by grind[List.Pairwise.imp_of_mem]
 have:=nd.length_le_of_subset (l₂:=B) hGr;grind
namespace Fo
variable{n:Nat}{es:List Pr}{num:Nat->Nat}{up:Nat->Option Nat}
def root_ex(F:Fo n es num up):∀(k v:Nat),num v<=k->v<n->∃r,r<n/\up r=Y/\pJ up r v/\Pu es r v:=by
 intro k
 induction k with
 |zero=>
  intro v d b;cases a:up v with
  |none=>exact⟨v,b,a,.refl v,Pu.refl _ _⟩
  |some u=>have:=(F.Kd v u b a).2;omega
 |succ k e=>
  intro v d b;cases a:up v with
  |none=>exact⟨v,b,a,.refl v,Pu.refl _ _⟩
  |some u=>have⟨c,h2⟩:=F.Kd v u b a;have⟨r,f,h3,g,h⟩:=e u NH (c.lt F.rD).1;exact⟨r,f,h3,g.step a,.step h c rfl⟩
theorem root_con(F:Fo n es num up){r u v:Nat}(a:up r=Y)(h:pJ up r u)(c:Pu es u v):pJ up r v:=by
 induction c<;>grind[Fo.JD,pJ.trans,Fo.anc,Jp.symm,pJ.chain,Fo.Io]
theorem root_uniq(F:Fo n es num up){r s:Nat}(a:up r=Y)(hs:up s=Y)(c:Pu es r s):r=s:=by have h:=F.root_con a (.refl r) c;grind[Fo.Io]
end Fo
open Classical in
theorem HJ{n:Nat}{es:xLP}(b:aV n es){v:Nat}:0<Sq n es v↔∃a,Jp es v a:=by
 rw[JW,length_pos_iff_exists_mem];constructor
 .grind[dG]
 .rintro⟨a,ha⟩;exact⟨_,(dG b).2 ⟨a,ha,rfl⟩⟩
theorem FV{es:xLP}{u v:Nat}(h:Pu es u v)(ne:u≠v):(∃a,Jp es u a)/\∃a,Jp es v a:=by
 constructor
 .induction h<;>grind
 .cases h<;>grind[Jp.symm]
open Classical in
theorem tZ{n:Nat}{es:xLP}(f:aV n es):
  (vq n es).length+(JL n es).length=((JL n es).map (Sq n es)).sum+((Es n es).filter fun h=>decide (0<Sq n es h)).length:=by
 have⟨num,up,S⟩:=Ob f;have F:=S.fo;have s:JL n es=(rG n).filter fun v=>decide (1<Sq n es v):=by grind[JL.eq_1,filter_congr,YH,Cv]
 have j:=yA (Sq n es) (rG n);have h2:((rG n).map (Sq n es)).sum=(Fo.beg n up (Cl n es)).length+((rG n).filter fun v=>decide (¬up v=Y)).length:=by
  have e:(rG n).map (Sq n es)=(rG n).map fun v=>(Fo.JB n up (Cl n es) v).length+(if up v=Y then 0 else 1):=(by grind[map_congr_left,incN_eq])
  rw[e,sum_add,sum_ind (fun v=>up v=Y)];congr 1;exact sum_fib n up _ fun c g=>by have⟨i,d,_⟩:=Fo.AF.1 g;have⟨u,d⟩:=jz.1 d;exact⟨u,d,((F.Kd c u i d).1.lt f).1⟩
 have h3:=MS (fun v=>decide (¬up v=Y)) ((rG n).filter fun v=>decide (0<Sq n es v));rw[aiI,aiI]at h3;have t:(rG n).filter (fun v=>decide (¬up v=Y)&&decide (0<Sq n es v))=(rG n).filter fun v=>decide (¬up v=Y):=by
  refine DF fun v k=>?_;rw[abV]at k;by_cases q:up v=Y
  .simp[q]
  .obtain⟨u,d⟩:=jz.1 q;have:0<Sq n es v:=(HJ f).2 ⟨u,(F.Kd v u k d).1.symm⟩;simp[this]
 have w:((rG n).filter fun v=>(!decide (¬up v=Y))&&decide (0<Sq n es v)).length=((Es n es).filter fun h=>decide (0<Sq n es h)).length:=by
  have l:∀v,v∈((rG n).filter fun v=>(!decide (¬up v=Y))&&decide (0<Sq n es v))↔v<n/\up v=Y/\0<Sq n es v:=fun v=>by simp
  have m:∀v,v∈((Es n es).filter fun h=>decide (0<Sq n es h))↔v∈Es n es/\0<Sq n es v:=fun v=>by simp
  have move:∀{a b:Nat},Pu es a b->0<Sq n es a->0<Sq n es b:=fun{a b} c h=>by
   by_cases e:a=b
   all_goals grind[HJ,FV]
  refine Nat.le_antisymm ?_ ?_
  .refine Yu (R:=fun a b=>Pu es a b) (by grind[nodup_range]) (fun a ha=>?_) (fun a ha a' mi b j h2=>?_)
   .obtain⟨k1,k2,o⟩:=(l a).1 ha;have⟨h,hh,g⟩:=afQ f a k1;grind[Cn.symm]
   grind[Fo.root_uniq,Cn.trans,Cn.symm]
  .refine Yu (R:=fun a b=>Pu es a b) (by grind[qD]) (fun a ha=>?_) (fun a ha a' mi b j h2=>?_)
   .obtain⟨k1,o⟩:=(m a).1 ha;have⟨r,p,x,y,g⟩:=F.root_ex (num a) a (qL0 _) (QO.1 k1).1;grind[Cn.symm]
   grind[rf,Cn.trans,Cn.symm]
 grind[VV]
end Go.Fw
namespace Go.Fw
section
attribute [local irreducible] Kp MQ lU KO1 KO KN KX KE VK Kl ZJ TC aab
structure TM where
 bs:List xLP
 cs:RZ
 ls:xLP
structure LinkOK (b n:Nat) (p:Pr):Prop where
 x0:0<=p.1
 x1:p.1<(b:Int)
 y0:0<=p.2
 y1:(b:Int)+p.2<(n:Int)
attribute [local irreducible] Jz JL vq cQ
def bE(a b:Int):acB pG 49 [(0,a),(1,b)]=Z (UI (a,b)):=Ji
variable {es:List Pr} {n:Nat}
def lkU(i:Nat)(b:xLP)(cs:II)(k:Nat):xLP:=((rG k).filter fun j=>atB ((cs.getD j 0:Nat):Int) b).map fun(j:Nat)=>((i:Int),(j:Int))
def Rb(bs:List xLP)(cs:II)(i:Nat):xLP:=(rG i).flatMap fun k=>lkU k (bs.getD k []) cs cs.length
theorem lkU_succ(i:Nat)(b:xLP)(cs:II)(k:Nat):lkU i b cs (k+1)=lkU i b cs k++if atB ((cs.getD k 0:Nat):Int) b then[((i:Int),(k:Int))]else[]:=by grind[lkU.eq_1,range_succ]
theorem DK(bs:List xLP)(cs:II)(i:Nat):Rb bs cs (i+1)=Rb bs cs i++lkU i (bs.getD i []) cs cs.length:=by grind[Rb.eq_1,range_succ]
def acF(n:Nat)(es:xLP):TM:=⟨vq n es,kz (JL n es),Rb (vq n es) (JL n es) (vq n es).length⟩
def JoinG(n:Nat)(es:xLP):Prop:=es≠[]/\(Es n es).length=1
theorem u5(b:bX ⟨(n:Int),es⟩)(a:es≠[]):0<(vq n es).length:=by obtain⟨p,l,rfl⟩:=N8 a;grind[Zg,mem_cons_self]
end
end Go.Fw
namespace Go.Fw
attribute [local instance] Classical.propDecidable
structure H9 (n:Nat) (es fs:xLP) (π:Nat->Nat):Prop where
 r1:aV n es
 r2:aV n fs
 lt:∀a,a<n->π a<n
 inj:∀a b,a<n->b<n->π a=π b->a=b
 surj:∀x,x<n->∃a,a<n/\π a=x
 Jp:∀a b,a<n->b<n->(Jp fs (π a) (π b)↔Jp es a b)
namespace H9
variable{n:Nat}{es fs:List Pr}{π:Nat->Nat}
theorem inv(I:H9 n es fs π):∃σ,H9 n fs es σ/\(∀a,a<n->σ (π a)=a)/\∀x,x<n->π (σ x)=x:=by
 let σ:Nat->Nat:=fun x=>if h:∃a,a<n/\π a=x then Classical.choose h else 0
 have hs:∀x,x<n->σ x<n/\π (σ x)=x:=by grind[H9.surj]
 have b:∀a,a<n->σ (π a)=a:=by grind[H9.inj,H9.lt]
 exact⟨σ,⟨I.r2,I.r1,hGr,hGr,fun x c=>⟨π x,I.lt x c,b x c⟩,
  (by grind[H9.Jp])⟩,b,hGr⟩
end H9
theorem aiu{n:Nat}{es:xLP}(d:aV n es){p:Pr}(e:p∈es):∃a b:Nat,a<n/\b<n/\Jp es a b/\p=GW a b:=by obtain⟨a,c,rfl,f,g,h⟩:=ends d e;exact(by grind[bj])
namespace H9
variable{n:Nat}{es fs:List Pr}{π:Nat->Nat}
end H9
namespace H9
variable{n:Nat}{es fs:List Pr}{π:Nat->Nat}
end H9
end Go.Fw
namespace Go.Fw
section
attribute [local instance] Classical.propDecidable
def bU(b:Nat)(ls:xLP):xLP:=ls.map fun p=>(p.1,(b:Int)+p.2)
structure Lk (b n:Nat) (ls:xLP):Prop where
 n0:n≠0
 len:ls.length+1=n
 ok:∀p∈ls,LinkOK b n p
 bp:∀v,v<n->Pu (bU b ls) 0 v
def JS{a j:Nat}(h:j<a):a-(j+1)<a-j:=NH
section
variable{n:Nat}{es:List Pr}{rs:AM}
theorem ajd(a:aV n es)(ha:D3 es){v:Nat}{l:RZ}:qC l=(Zh n es).getD v []↔l.Perm ((Zh n es).getD v []):=by
 constructor
 .intro h;rw[<-h];exact(akv _ _).symm
 .intro p;have hb:=KW es a ha v;have nd:l.Nodup:=by grind[List.Pairwise.imp]
  have b:=aQ l;have h2:(qC l).Nodup:=(akv _ _).nodup_iff.2 nd;exact afY _ _ ((b.and h2).imp fun h=>by omega) hb (by grind[Wv])
def ahy(v:Nat)(l:RZ):xLP:=(l.filter fun w=>decide ((v:Int)<w)).map fun w=>((v:Int),w)
def abT(rs:AM):Nat->xLP
 |0=>[]
 |k+1=>abT rs k++ahy k (rs.getD k [])
theorem aiQ{k:Nat}{p:Pr}:p∈abT rs k↔∃v:Nat,v<k/\p.1=(v:Int)/\p.2∈rs.getD v []/\p.1<p.2:=by
 induction k with
 |zero=>simp[abT]
 |succ k a=>grind[abT.eq_2,ahy.eq_1]
theorem aiw(hR:bX ⟨(n:Int),es⟩)(G:Av n es rs):YG (n:Int) (abT rs n)/\aa5 ((abT rs n).map lZ)=es:=by
 have d:=hR.GD;have l:∀p,p∈abT rs n↔p∈es:=fun p=>by
  rw[aiQ];constructor
  .rintro⟨v,m,g,h2,h3⟩;have⟨_,w,e,hw,ha⟩:=G.nat d h2;have:=H4 d ha;grind[bj]
  .intro f;obtain⟨a,c,rfl,o,q,ha⟩:=ends d f;exact⟨a,NH,rfl,(G.perm a NH).mem_iff.2 (by grind[EW]),hGr⟩
 have nd:(abT rs n).Nodup:=by
  have key:∀k,k<=n->(abT rs k).Nodup:=by
   intro k
   induction k with
   |zero=>grind[abT]
   |succ k r=>
    intro s;rw[abT,ZT];refine⟨r NH,?_,fun a ha b hb e=>?_⟩
    .rw[ahy,j9,Uz];have nd:(rs.getD k []).Nodup:=(G.perm k NH).nodup_iff.2 (j9.2 ((KW es d hR.q9 k).imp hGr));grind[List.Pairwise.imp]
    .subst e;have⟨v,m,g,_⟩:=aiQ.1 ha;obtain⟨w,_,rfl⟩:=aev.1 hb;grind
  grind
 have i:(abT rs n).map lZ=abT rs n:=by
  conv=>rhs;rw[<-QU (abT rs n)]
  refine V3 fun p f=>?_;have:=d p ((l p).1 f);grind[lZ]
 have j:aa5 (abT rs n)=es:=by
  have g:=VH (abT rs n);have h2:(aa5 (abT rs n)).Nodup:=by grind[YA]
  rw[j9]at h2;refine aiv _ _ ((g.and h2).imp fun{x y} h=>?_) (Nl.1 hR.q9) (by grind[Wb]);grind
 have hlen:(abT rs n).length=es.length:=by grind[ZS]
 refine⟨⟨hR.n0,hR.n1,by rw[hlen];exact hR.len,fun p f=>?_,hGr⟩,hGr⟩;have:=d p ((l p).1 f);grind[lZ]
end
end
def mk57(h:aai)(n:Nat)(a:n<=1000):abl pG h 25 n n=Z (sL (Z h.next) n n,h.alloc (.cells (rP n (.slice Y 0 0)))):=Ye (P:=pG) (t:=25) (z:=.slice Y 0 0) h qS9 Ji rfl rfl rfl Ji Mb Ji n NH
def mk100(h:aai)(n:Nat)(a:n<=1000):abl pG h 41 n n=Z (sL (Z h.next) n n,h.alloc (.cells (rP n (.bool fF)))):=Ye (P:=pG) (t:=41) (z:=.bool fF) h Uh rfl rfl rfl rfl Ji AV Ji n NH
def mk35(h:aai)(n:Nat)(a:n<=1000):abl pG h 28 n n=Z (sL (Z h.next) n n,h.alloc (.cells (rP n (.int .i64 0)))):=Ye (P:=pG) (t:=28) (z:=.int .i64 0) h Mb rfl rfl rfl rfl Ji Ac Ji n NH
def rB(ls:xLP)(v:Nat):RZ:=(ls.filter fun p=>decide (p.1=(v:Int))).map (·.2)
def rC(ls:xLP)(v:Nat):RZ:=(ls.filter fun p=>decide (p.2=(v:Int))).map (·.1)
def nbU(b:Nat)(ls:xLP)(v:Nat):II:=if v<b then(rB ls v).map fun x=>b+x.toNat else(rC ls (v-b)).map fun x=>x.toNat
section
variable{b n:Nat}{ls:List Pr}
end
section
attribute [local irreducible] Kp MQ lU KO1 KO KN KX KE VK Kl ZJ TC aab
theorem ajx(b:LA)(v:vV)(xs:RZ)(h:aai)(c:RL RP h v xs):AC pG b 75 [v] h fun x h'=>∃B,x=.func (.func 100) #[] #[pT (Z ⟨B,0,Y⟩)]/\h.next<=B/\h'.own B=Z (.cells [v])/\Le h h':=by
 refine AC.vF func75 ntmps75 results75 fun a=>?_;have⟨d,e,l1,w1,g⟩:=Tt a [v]
 have f:zF h v=Z (pT (Z h.next),d):=by rw[<-e];obtain⟨_,_,rfl,_⟩:=c.sl;rfl
 refine Sk f ?_;grind
def aje(m:LA)(e B:Nat)(v:vV)(xs:RZ)(I:Nat->aai->Prop)(h:aai)(u:xs.length<1000000)(c:∀i g,I i g->g.own B=Z (.cells [v])/\RL RP g v xs)(f:I 0 h)(n:∀i g (hi:i<xs.length),WF g->h.next<=g.next->I i g->AY pG m e [.int .i64 xs[i]] g fun x j=>x=.bool tT/\h.next<=j.next/\I (i+1) j):
  AC pG m 100 [Yg e,pT (Z B)] h fun _ h'=>I xs.length h':=by
 have ld:∀i g,I i g->aaC pG g 28 ⟨B,0,Y⟩=Z v:=fun i g hi=>by rw[Fq Mb rfl (c i g hi).1];rfl
 refine AC.vF func100 ntmps100 results100 fun o=>?_;have p:=fun g=>(c _ _ f).2.DH g;simp only[HO,seval,ld _ _ f,p]
 refine lIn (fun k fr g=>∃i:Nat,k=xs.length-i/\i<=xs.length/\fr=mkF [(0,Yg e),(5,v),(6,xs.length),(7,.int .i64 i)]/\h.next<=g.next/\I i g) ⟨0,rfl,Og _,rfl,qL0 _,f⟩ ?_
 rintro k fr g q ⟨i,rfl,hi,rfl,hle,a⟩;refine Uy ?_;refine Kl.intro (fun r=>?_) (fun hf=>?_)
 .have d:i<xs.length:=acb r;have ad:=(c _ _ a).2.addr (k:=.i64) Mb Ac rfl i d;have le:=(c _ _ a).2.Uc i d;simp only[HO,seval,ad,le];refine TC.yield (by simp only[HO,seval,yieldOf]<;>rfl) (n i g d q hle a) ?_;rintro x j s ⟨rfl,b,l⟩;refine Sk (aaa i NH) ?_;exact lgA NH ⟨i+1,rfl,d,rfl,b,l⟩
 .have t:xs.length<=i:=vp hf;obtain rfl:i=xs.length:=NH;refine Uy ?_;exact a
theorem ajy(G:LA)(B:Nat)(v:vV)(xs:RZ)(h:aai)(hB:h.own B=Z (.cells [v]))(H:RL RP h v xs)(W:xs.length<=1000):
  AC pG G 146 [.slice Y 0 0,.func (.func 100) #[] #[pT (Z B)]] h fun x h'=>GI h' x xs/\Le h h'/\Z2 h x:=by
 refine AC.vF func146 ntmps146 results146 fun i=>?_;have⟨o,F,l1,w1,I⟩:=Tt i [.slice Y 0 0]
 have J:zF h (.slice Y 0 0)=Z (pT (Z h.next),o):=by rw[<-F];rfl
 have nS:h.own h.next=Y:=(Le.refl h).next i (qL0 _)
 have p:o.next=h.next+1:=by rw[<-F];rfl
 refine Sk J ?_
 generalize h.next=S at*
 refine VK.rangeFunc (gf:=100) (first:=#[]) (cap:=#[pT (Z B)]) (by simp only[HO,seval]) ⟨func100,rfl,WY⟩ WY fun K L M=>?_
 refine(aje K L B v xs (fun k g=>∃d,g.own S=Z (.cells [d])/\GI g d (xs.take k)/\Le h g/\Z2 h d/\blk d≠Z S) o NH (fun k g ⟨_,_,_,j,_⟩=>⟨j.own _ _ hB,H.le Nn.RP j⟩) ⟨_,I,GI.nil _,l1,(fun b hb=>by cases hb),by simp[blk]⟩ ?_).mono fun _ N q O=>?_
 .intro k g Q R hle r;have⟨d,oS,gx,j,ax,nx⟩:=r;refine M _ _ _ rfl hle ?_;have T:xs.take (k+1)=xs.take k++[xs[k]]:=EL Q;have X:(xs.take k).length=k:=hGr;generalize xs[k]=y at*;have lS:aaC pG g 28 ⟨S,0,Y⟩=Z d:=by rw[Fq Mb rfl oS];rfl
  have⟨v',U,l,s,u,f,w,V,z,A⟩:=gx.push R y hGr;have⟨C,D⟩:=z h j ax;have⟨m,n⟩:=A S _ oS nx;have st:=QB (P:=pG) (t:=28) (x:=v') Mb Ji m (off:=0) Ma (by have⟨a,c,e,_⟩:=(GS.cs f).sl;rw[e];rfl) (GS.cs f).sl.one;have oo:=aai.Y3 l S (.cells [v']);simp only[HO,seval,aeJ,Array.toList,lS,s,u,st,qL212,aB]
  have E:o.next<=(l.put S (.cells [v'])).next:=by rw[p];exact w.lt m
  refine⟨trivial,E,v',oo,?_,C.put _ nS,D,n⟩;rw[T];exact GS.put f _ n
 .obtain⟨d,oS,gx,j,ax,nx⟩:=q;rw[alJ]at gx;have lS:aaC pG N 28 ⟨S,0,Y⟩=Z d:=by rw[Fq Mb rfl oS];rfl
  simp only[HO,seval,lS];grind
theorem ajf(a:LA)(B:Nat)(v:vV)(xs:RZ)(h:aai)(hB:h.own B=Z (.cells [v]))(b:RL RP h v xs)(c:xs.length<=1000):
  AC pG a 99 [.func (.func 100) #[] #[pT (Z B)]] h fun x h'=>GI h' x xs/\Le h h'/\Z2 h x:=by
 refine AC.vF func99 ntmps99 results99 fun d=>?_;refine Uy ?_;refine kCi func146 (ajy a B v xs h hB b c) ?_;rintro x h2 w2 ⟨e,l2,a2⟩;refine Uy ?_;grind
theorem ajz(a:LA)(B:Nat)(v:vV)(xs:RZ)(h:aai)(hB:h.own B=Z (.cells [v]))(b:RL RP h v xs)(c:xs.length<=1000):
  AC pG a 74 [.func (.func 100) #[] #[pT (Z B)]] h fun x h'=>GI h' x (qC xs)/\Le h h'/\Z2 h x:=by
 refine AC.vF func74 ntmps74 results74 fun d=>?_;refine Uy ?_;refine kCi func99 (ajf a B v xs h hB b c) ?_;rintro x h2 w2 ⟨e,l2,a2⟩;refine Uy ?_;refine kCi qS23 (VQ a e NH) ?_;rintro y h3 f ⟨rfl,g,i⟩;refine Uy ?_;grind
theorem Equal_any(o:LA)(v w:vV)(xs ys:RZ)(h:aai)(j:RL RP h v xs)(hw:RL RP h w ys)(s:xs.length<=100000):
  AC pG o 73 [v,w] h fun x h'=>x=.bool (decide (xs=ys))/\h'=h:=by
 refine AC.vF func73 ntmps73 results73 fun p=>?_;have m:=fun g=>j.DH g;have lw:=fun g=>hw.DH g;by_cases c:(xs.length:Int)=ys.length
 rotate_left
 .have d:decide ((xs.length:Int)=ys.length)=fF:=Z6 c;simp only[HO,seval,m,lw,bne,d];exact⟨by rw[Z6 (fun e=>c (by rw[e]))],trivial⟩
 have c':xs.length=ys.length:=NH;have d:decide ((xs.length:Int)=ys.length)=tT:=HV c;simp only[HO,seval,m,lw,bne,d];refine lIn (fun k fr hh=>∃i:Nat,k=xs.length-i/\i<=xs.length/\hh=h/\fr=mkF [(0,v),(1,w),(12,xs.length),(13,i)]/\xs.take i=ys.take i) ⟨0,rfl,Og _,rfl,rfl,rfl⟩ ?_;rintro k fr hh-⟨i,rfl,hi,rfl,rfl,n⟩;refine Uy ?_;refine Kl.intro (fun q=>?_) (fun hf=>?_)
 .have a:i<xs.length:=acb q;have t1:xs.take (i+1)=xs.take i++[xs[i]]:=EL a;have r:ys.take (i+1)=ys.take i++[ys[i]'(by omega)]:=EL NH
  have ad:=j.TA i a;have ld:=j.Uc i a;have b:=hw.TA i NH;have f:=hw.Uc i NH;have t:=CA a;have u:=CA (show i<ys.length by omega);generalize xs[i]=x at*;generalize ys[i]'(by omega)=y at*
  refine Uy ?_;refine gh (fRn 0 9 .done) ?_;by_cases e:x=y
  .have d2:decide (x=y)=tT:=HV e;simp only[HO,seval,Qg,ad,ld,b,f,bne,d2,aaa i NH];exact lgA NH ⟨i+1,rfl,a,rfl,rfl,by rw[t1,r,n,e]⟩
  .have d2:decide (x=y)=fF:=Z6 e;simp only[HO,seval,Qg,ad,ld,b,f,bne,d2];exact by rw[Z6 (fun e'=>e hGr)]
 .have l:xs.length<=i:=vp hf;rw[abe l,abe NH]at n;refine Uy ?_;grind
theorem aix(q:LA)(v K:vV)(G:GM)(rs:AM)(h:aai)(hg:GR h v G)(r:RL (RL RP) h K rs):AC pG q 45 [v,K] h fun x h'=>RR (bX G/\Av G.n.toNat G.es rs) x/\Le h h':=by
 have s:=hg;have⟨V,es⟩:=G
 obtain⟨ev,rfl,hp⟩:=hg.open
 refine AC.vF func45 ntmps45 results45 fun L=>?_;obtain⟨W,b1,c,ai,-,X⟩:=r8 (n:=V) L hp
 generalize h.next=B at*
 have M:=X W (Le.refl _);have lr:=fun g=>r.qP6 g;refine Sk (XC b1 M.1) ?_;refine kCi qS6 (ak q _ _ W (s.le c)) ?_;rintro x h2 aj ⟨⟨bb,rfl,u⟩,j⟩;have l:=X h2 j;cases bb with
 |false=>refine Uy ?_;grind[RR.f,Le.trans]
 |true=>
 have m:=u.1 rfl;clear u;have h0:0<=V:=m.n0;obtain⟨n,rfl⟩:=Sb h0;have hR:=m.GD;have N:(n:Int)<=200:=m.n1;have aa:es.length<=594:=m.len;have hA:=m.q9;simp only[vZ];by_cases c1:(rs.length:Int)=n
 rotate_left
 .have d1:decide ((rs.length:Int)=n)=fF:=Z6 c1;simp only[HO,seval,lr,Ii,Ip,BS,l.2.1,bne,d1];grind[RR.f,Av.len,Le.trans]
 have d1:decide ((rs.length:Int)=n)=tT:=HV c1;have O:rs.length=n:=NH;simp only[HO,seval,lr,Ii,Ip,BS,l.2.1,bne,d1,l.1];refine kCi zj (oe q _ n es h2 (s.le (c.trans j)) m) ?_;rintro x h3 aq ⟨hb,Q⟩;have R:=Xq n es;have lb:=fun g=>hb.qP5 g;rw[R]at lb;have b:=(c.trans j).trans Q;have A:∀v,v<n->((Zh n es).getD v []).length<=1200:=fun v r=>by have:=bV n es _ (AE (show v<(Zh n es).length by omega));grind
 refine Sk lb ?_;refine lIn (fun k fr S=>∃(i:Nat),k=n-i/\i<=n/\fr=mkF [(1,K),(18,x),(19,n),(20,i)]/\Le h3 S/\∀v,v<i->(rs.getD v []).Perm ((Zh n es).getD v [])) ⟨0,rfl,Og _,rfl,Le.refl _,fun v r=>by omega⟩ ?_;rintro k fr S av ⟨i,rfl,hi,rfl,I,T⟩;refine Uy ?_;refine Kl.intro (fun ht=>?_) (fun hf=>?_)
 rotate_left
 .have ay:n<=i:=vp hf;refine Uy ?_;exact⟨.t ⟨m,O,fun v r=>T v NH⟩,b.trans I⟩
 have o:i<n:=acb ht;clear ht;have HB:=hb.le (Nn.RL Nn.RP) I;have ab:=HB.Wm i NH;have⟨bu,C,p⟩:=HB.load (P:=pG) Mb rfl i NH;have HR:=r.le (Nn.RL Nn.RP) (b.trans I);have ar:=HR.qP7 i NH;have⟨ru,D,a⟩:=HR.load (P:=pG) Mb rfl i NH;rw[<-D4 (d:=[]) NH]at p a;have E:=fun g=>p.DH g;have F:=fun g=>a.DH g;have J:=A i o;by_cases c2:((rs.getD i []).length:Int)=((Zh n es).getD i []).length
 rotate_left
 .have d2:decide (((rs.getD i []).length:Int)=((Zh n es).getD i []).length)=fF:=Z6 c2;simp only[HO,seval,ab,C,ar,D,E,F,bne,d2];grind[RR.f,Av.len_eq,Le.trans]
 have d2:decide (((rs.getD i []).length:Int)=((Zh n es).getD i []).length)=tT:=HV c2;have ae:((Zh n es).getD i []).length<=1000:=by
  have H:=KW es hR hA i;have nd:((Zh n es).getD i []).Nodup:=j9.2 (H.imp fun h e=>by omega);have:=tf nd (B:=(rG n).map fun(v:Nat)=>(v:Int)) fun y hy=>by obtain⟨w,rfl,hw⟩:=Ru hR hy;grind
  grind
 simp only[HO,seval,ab,C,ar,D,E,F,bne,d2];refine kCi func75 (ajx q ru _ S a) ?_;rintro y h5 w5 ⟨VB,rfl,-,oV,l5⟩;refine Uy ?_;refine kCi func74 (ajz q VB ru _ h5 oV (a.le Nn.RP l5) NH) ?_;rintro y h6 w6 ⟨g6,l6,-⟩;refine Uy ?_;refine kCi func73 (Equal_any q y bu _ _ h6 g6.rl (p.le Nn.RP (l5.trans l6)) (by rw[OX];omega)) ?_;rintro z h7 w7 ⟨rfl,rfl⟩;have U:=(I.trans l5).trans l6;by_cases c3:qC (rs.getD i [])=(Zh n es).getD i []
 .have d3:decide (qC (rs.getD i [])=(Zh n es).getD i [])=tT:=HV c3;refine Sk (XC d3 (aaa i NH)) ?_;exact lgA (JS o) ⟨i+1,rfl,o,rfl,U,fun v r=>by grind[ajd]⟩
 .have d3:decide (qC (rs.getD i [])=(Zh n es).getD i [])=fF:=Z6 c3;refine Sk d3 ?_;grind[RR.f,ajd,Av.perm,Le.trans]
attribute [local irreducible] Jz JL vq cQ
variable {es:List Pr} {n u v w:Nat}
def join_of(d:aV n es)(e:0<n)(c:es≠[])(h:∀v,v<n->Pu es 0 v):JoinG n es:=by refine⟨c,?_⟩;have⟨a,ha,f⟩:=afQ d 0 e;have:∀b∈Es n es,b=a:=fun b hb=>rf hb ha ((h b (QO.1 hb).1).symm.trans f.symm);exact Cq (qD n es) ha this
def tM(h:Pu es u v)(a:Jp es v w):Pu es u w:=h.step a rfl
attribute [local instance] Classical.propDecidable
variable {b:List Pr} {c i j k:Nat} {p:Pr} {α:Type}
theorem ah{bs:List xLP}{cs:II}:∀k,p∈Rb bs cs k↔∃i j:Nat,i<k/\j<cs.length/\atB ((cs.getD j 0:Nat):Int) (bs.getD i [])=tT/\p=((i:Int),(j:Int)):=by grind[Rb,lkU]
theorem FU(i:Nat)(b:xLP)(cs:II):∀k,k<=cs.length->(lkU i b cs k).length=((cs.take k).filter fun c=>atB ((c:Nat):Int) b).length
 |0,_=>by simp[lkU]
 |k+1,h=>by rw[lkU_succ,aaf,FU i b cs k NH,dU,K4,aaf];grind
theorem Er(bs:List xLP)(cs:II):∀k,k<=bs.length->(Rb bs cs k).length=(cs.map fun c=>((bs.take k).filter (atB ((c:Nat):Int))).length).sum
 |0,_=>by
  rw[Rb]
  induction cs<;>grind
 |k+1,h=>by
  rw[DK,aaf,Er bs cs k NH,FU k _ cs cs.length (qL0 _),alJ];have hb:bs[k]?=Z bs[k]:=Gc h;rw[dU,hb,Option.toList_some,D4 h]
  induction cs<;>grind
theorem uh(h:(Es n es).length=1)(a:u<n)(b:v<n):Pu es u v:=by
 have g:0<n:=NH;have m0:0∈Es n es:=by grind[QO]
 have⟨x,i⟩:=ak2.1 h;have key:∀k v,v<=k->v<n->Pu es 0 v:=by
  intro k
  induction k with
  |zero=>grind[Pu.refl]
  |succ k c=>
   intro v j b;by_cases e:v=0
   .grind
   have d:v∉Es n es:=hGr;rw[QO]at d;have:∃u,u<v/\Pu es u v:=hGr;have⟨u,a,f⟩:=this;exact(c u NH NH).trans f
 exact(key _ u (qL0 _) a).symm.trans (key _ v (qL0 _) b)
theorem nodup_idx{l:List α}(nd:l.Nodup){x:α}(h:l[i]?=Z x)(g:l[j]?=Z x):i=j:=by grind[pairwise_iff_getElem]
theorem bK(h:(vq n es)[k]?=Z b):∃x,(CY (cQ n es) es)[k]?=Z x/\b=es.filter fun p=>decide (cQ n es p=x):=by grind[aaB]
theorem block_at(h:(vq n es)[k]?=Z b)(a:p∈b):p∈es:=by grind[bK]
theorem at_mem{v:Int}(a:p∈b)(h:AN v p=tT):atB v b=tT:=by grind[atB]
theorem tree_two(hR:bX ⟨(n:Int),es⟩)(f:v<n){b c:xLP}(h:(vq n es)[j]?=Z b)(g:(vq n es)[k]?=Z c)(hb:atB (v:Int) b=tT)(d:atB (v:Int) c=tT)(ne:j≠k):
  ∃m:Nat,(JL n es)[m]?=Z v:=by
 have a:=hR.GD;have h2:1<Sq n es v:=by rw[JW,two_len (PS n es v)];obtain⟨x,i,rfl⟩:=bK h;obtain⟨y,l,rfl⟩:=bK g;rw[at_iff a]at hb d;refine⟨x,y,(dG a).2 hb,(dG a).2 d,fun e=>ne ?_⟩;have nd:=(ahE (cQ n es) _ es rfl).1;grind[nodup_idx]
 rw[YH a]at h2;exact aax.1 (by grind[OI])
theorem link_in(h:(vq n es)[i]?=Z b)(g:(JL n es)[j]?=Z c):((i:Int),(j:Int))∈(acF n es).ls↔atB (c:Int) b=tT:=by show _∈Rb _ _ _↔_;grind[ah]
theorem vC(h:(vq n es)[i]?=Z b)(g:(JL n es)[j]?=Z c)(ha:atB (c:Int) b=tT):Jp (bU (vq n es).length (acF n es).ls) i ((vq n es).length+j):=by left;refine aev.2 ⟨_,(link_in h g).2 ha,?_⟩;grind
theorem tree_at(hR:bX ⟨(n:Int),es⟩)(e:v<n){b c:xLP}(h:(vq n es)[j]?=Z b)(g:(vq n es)[k]?=Z c)(hb:atB (v:Int) b=tT)(a:atB (v:Int) c=tT):Pu (bU (vq n es).length (acF n es).ls) j k:=by
 by_cases ne:j=k
 .grind[Pu.refl]
 have⟨m,d⟩:=tree_two hR e h g hb a ne;exact(abu (vC h d hb)).trans (abu (vC g d a)).symm
theorem tree_con(hR:bX ⟨(n:Int),es⟩)(q:u<n)(l:Pu es u v):∀{j k:Nat}{b c:xLP},(vq n es)[j]?=Z b->(vq n es)[k]?=Z c->atB (u:Int) b=tT->atB (v:Int) c=tT->Pu (bU (vq n es).length (acF n es).ls) j k:=by
 have f:=hR.GD
 induction l with
 |refl _=>grind[tree_at]
 |@step w x _ a _ o=>intro j k b c h g hb e;have⟨m,d,i,hd,_⟩:=Zg hR (H4 f a);have p:atB (w:Int) d=tT:=at_mem hd zo;have h2:atB (x:Int) d=tT:=at_mem hd (by rw[so];exact zo);exact(o h i hb p).trans (tree_at hR (a.lt f).2 i g h2 e)
theorem treeM_lk(hR:bX ⟨(n:Int),es⟩)(k:JoinG n es):Lk (vq n es).length ((vq n es).length+(JL n es).length) (acF n es).ls:=by
 have o:=hR.GD;have f:=u5 hR k.1;have y:=XF hR;have e:∀i b,(vq n es)[i]?=Z b->∃a c:Nat,((a:Int),(c:Int))∈b/\a<n/\atB (a:Int) b=tT:=fun i b hb=>by obtain⟨p,l,rfl⟩:=N8 (y.ne b (XJ hb));obtain⟨a,c,rfl,z,q,_⟩:=ends o (block_at hb afb);grind[at_mem,AN]
 have blk:∀i,i<(vq n es).length->Pu (bU (vq n es).length (acF n es).ls) 0 i:=fun i hi=>by have r:(vq n es)[i]?=Z (vq n es)[i]:=Gc hi;have w:(vq n es)[0]?=Z (vq n es)[0]:=Gc f;have⟨a,_,_,ha,ea⟩:=e _ _ w;have⟨c,_,_,s,A⟩:=e _ _ r;exact tree_con hR ha (uh k.2 ha s) w r ea A
 refine⟨NH,?_,fun p B=>?_,fun v F=>?_⟩
 .have G:=tZ o;have H:(acF n es).ls.length=((JL n es).map (Sq n es)).sum:=by
   show(Rb _ _ _).length=_;rw[Er _ _ _ (qL0 _),alJ];rfl
  have r:((Es n es).filter fun h=>decide (0<Sq n es h)).length=1:=by
   have⟨x,C⟩:=ak2.1 k.2;have t:x∈Es n es:=by rw[C];simp
   have D:=(QO.1 t).1;obtain⟨p,l,rfl⟩:=N8 k.1;grind[ends,mem_cons_self,HJ,FV,uh]
  omega
 .obtain⟨i,j,hi,E,_,rfl⟩:=(ah _).1 B;exact⟨Ma,hGr,Ma,hGr⟩
 .by_cases hb:v<(vq n es).length
  .grind
  obtain⟨j,rfl⟩:∃j,v=(vq n es).length+j:=⟨v-(vq n es).length,NH⟩;have u:j<(JL n es).length:=NH;have s:(JL n es)[j]?=Z (JL n es)[j]:=Gc u;have⟨q,g⟩:=(OI o _).1 (XJ s);have⟨a,_,ha,_⟩:=g;have⟨m,d,I,hd,_⟩:=Zg hR (H4 o ha);grind[at_mem,zo,Cn.trans,abu,vC]
end
section
attribute [local irreducible] Kp MQ lU KO1 KO KN KX KE VK Kl ZJ TC aab
attribute [local irreducible] abT ahy
variable {N a i j n v:Nat} {es:List Pr} {h:aai} {rs:AM}
theorem newE4(hw:WF h):∃a h2,abO pG h 24=Z (pT (Z h.next),a)/\aaK pG a 24 (pT (Z h.next)) agO=Z h2/\Le h h2/\WF h2:=by
 have⟨a,d,l1,w1,b⟩:=Tt hw [.int .i64 0,.slice Y 0 0]
 have c:h.own h.next=Y:=(Le.refl h).next hw (qL0 _)
 have st:=aib (n:=0) (ev:=.slice Y 0 0) b rfl rfl;exact⟨a,_,by grind[Lo],st,l1.put _ c,w1.put _ (w1.lt b)⟩
theorem ajA(v:Nat)(l:RZ)(h:j<l.length):ahy v (l.take (j+1))=ahy v (l.take j)++if(v:Int)<l[j]then[((v:Int),l[j])]else[]:=by grind[ahy,take_succ_eq_append_getElem]
theorem aiR(v:Nat)(l:RZ):(ahy v l).length<=l.length:=by grind[ahy]
def ajB(rs:AM)(k:Nat):abT rs (k+1)=abT rs k++ahy k (rs.getD k []):=by rw[abT]
def aiy(rs:AM):abT rs 0=[]:=by rw[abT]
theorem aiS(hR:aV n es)(hA:D3 es)(G:Av n es rs)(a:v<n):(rs.getD v []).length<n:=by
 have IR:=G.jD hR hA;have b:(Xl rs v).length=(rs.getD v []).length:=by grind[Xl.eq_1]
 have h2:=tf (IR.nd v) (B:=(rG n).erase v) fun w hw=>(vg.mem_erase_iff).2 ⟨fun e=>IR.ir v hGr,abV.2 (IR.lt w v (IR.sy _ _ hw))⟩;grind
def len_bd(h:a<=i*N)(hi:i<=200)(b:N<=200):a<=40000:=by have:i*N<=200*200:=WS hi b;omega
theorem told_any(T:LA)(r:vV)(rs:AM)(h:aai)(N:RL (RL RP) h r rs):
  AC pG T 51 [r] h fun x h'=>Le h h'/\((x=.tuple #[agO,.bool fF]/\¬∃es,bX ⟨(rs.length:Int),es⟩/\Av rs.length es rs)\/
   ∃es ev,bX ⟨(rs.length:Int),es⟩/\Av rs.length es rs/\x=.tuple #[.agg #[rs.length,ev],.bool tT]/\GP h' ev es/\Z2 h ev):=by
 refine AC.vF func51 ntmps51 results51 fun B=>?_;have⟨a,e1,l1,w1,o1⟩:=Tt B [.int .i64 0,.slice Y 0 0];have al:=Lo h;rw[e1]at al
 have nR:h.own h.next=Y:=(Le.refl h).next B (qL0 _)
 generalize h.next=R at*
 have lr:=fun g=>N.qP6 g;have m:∀g:aai,Le a g->aaK pG g 24 (pT (Z R)) agO=Z (g.put R (.cells [.int .i64 0,.slice Y 0 0])):=fun g U=>aib (U.own _ _ o1) rfl rfl;have ldE:∀g:aai,aaC pG (g.put R (.cells [.int .i64 0,.slice Y 0 0])) 24 ⟨R,0,Y⟩=Z agO:=fun g=>ai2 (aai.Y3 _ _ _) ⟨_,_,_,rfl⟩;have fin:∀g:aai,Le a g->Le h (g.put R (.cells [.int .i64 0,.slice Y 0 0])):=fun g U=>(l1.trans U).put _ nR;by_cases c1:(rs.length:Int)>200
 .have d1:decide ((rs.length:Int)>200)=tT:=HV c1;simp only[HO,seval,al,lr,d1,aew,m a (Le.refl _),ldE];exact⟨fin a (Le.refl _),.inl ⟨trivial,fun⟨es,A,_⟩=>by have:=A.n1;grind⟩⟩
 have d1:decide ((rs.length:Int)>200)=fF:=Z6 c1;have c:rs.length<=200:=NH;have⟨h2,e2,l2,w2,o2⟩:=Tt w1 []
 have mk:aas pG a 22 0 []=Z (sL (Z a.next) 0 0,h2):=by rw[<-e2];rfl
 have nX:a.own a.next=Y:=(Le.refl a).next w1 (qL0 _)
 have g0:GP h2 (sL (Z a.next) 0 0) (abT rs 0):=by rw[aiy];exact GS.full (k:=2) (n:=0) o2 rfl WY
 have C:Z2 a (sL (Z a.next) 0 0):=fun b hb=>by injection hb with hb;grind
 simp only[HO,seval,al,lr,d1,mk]
 generalize vV.slice (Z a.next) 0 0=aK at*
 refine lIn (fun k fr o=>∃(i:Nat)(E:vV),k=rs.length-i/\i<=rs.length/\fr=mkF [(0,r),(2,pT (Z R)),(4,E),(16,r),(17,rs.length),(18,i)]/\GP o E (abT rs i)/\Le a o/\Z2 a E/\(abT rs i).length<=i*rs.length) ⟨0,_,rfl,Og _,rfl,g0,l2,C,by rw[aiy];exact Og _⟩ ?_;clear g0 C;rintro k fr o aL ⟨i,E,rfl,hi,rfl,gx,s,ax,hlen⟩;refine Uy ?_;refine Kl.intro (fun F=>?_) (fun hf=>?_)
 .have l:i<rs.length:=acb F;clear F;have ar:=N.qP7 i l;have⟨ru,H,t⟩:=N.NS i l;have I:=H o (l1.trans s);rw[<-D4 (d:=[]) l]at t;have hs:=ajB rs i;generalize aJ:rs.getD i []=row at*;have p:=fun g=>t.DH g;by_cases c2:(row.length:Int)>=rs.length
  .have d2:decide ((row.length:Int)>=rs.length)=tT:=HV c2;simp only[HO,seval,ar,I,p,lr,d2,aew,m o s,ldE];refine⟨fin o s,.inl ⟨trivial,fun⟨es,A,G⟩=>?_⟩⟩;have:=aiS A.GD A.q9 G l;grind
  have d2:decide ((row.length:Int)>=rs.length)=fF:=Z6 c2;have aN:row.length<=rs.length:=NH;simp only[HO,seval,ar,I,p,lr,d2];refine lIn (fun k fr O=>∃(j:Nat)(y:vV),k=row.length-j/\j<=row.length/\fr=mkF [(0,r),(2,pT (Z R)),(4,y),(5,i),(16,r),(17,rs.length),(18,i),(29,ru),(30,row.length),(31,j)]/\GP O y (abT rs i++ahy i (row.take j))/\Le a O/\Z2 a y/\Le o o) ⟨0,_,rfl,Og _,rfl,by grind[ahy],s,ax,Le.refl _⟩ ?_;rintro k fr O V ⟨j,y,rfl,hj,rfl,W,P,X,-⟩;have q:RL RP O ru row:=t.le Nn.RP (l1.trans P);refine Uy ?_;refine Kl.intro (fun F=>?_) (fun hf=>?_)
  .have f:j<row.length:=acb F;clear F;have ad:=q.TA j f;have ld:=q.Uc j f;have st:=ajA i row f;have aa:=aiR i (row.take j);rw[uu]at aa;have ae:=len_bd hlen NH c;have J:=aaa j NH;generalize row[j]=w at*;by_cases c3:(i:Int)<w
   .have d3:decide ((i:Int)<w)=tT:=HV c3;have⟨v',z,Q,e4,e5,g5,w5,l4,f5,k5⟩:=W.push V ((i:Int),w) hGr;have⟨l5,a5⟩:=f5 a P X;simp only[HO,seval,ad,ld,d3,xe,e4,e5,J];exact lgA (JS f) ⟨j+1,v',rfl,f,rfl,hGr,l5,a5,Le.refl _⟩
   .have d3:decide ((i:Int)<w)=fF:=Z6 c3;simp only[HO,seval,ad,ld,d3,J];exact lgA (JS f) ⟨j+1,y,rfl,f,rfl,hGr,P,X,Le.refl _⟩
  .have K:row.length<=j:=vp hf;rw[abe K,<-hs]at W;have ai:=aaa i NH;have aP:=aiR i row;refine Sk ai ?_;exact lgA (JS l) ⟨i+1,y,rfl,l,rfl,W,P,X,hGr⟩
 have K:rs.length<=i:=vp hf;obtain rfl:i=rs.length:=NH;have ae:=len_bd hlen c c;simp only[HO,seval,lr];refine kCi func26 (New_any T (rs.length:Int) E (abT rs rs.length) o gx.pr NH) ?_;rintro x h3 w3 ⟨l3,⟨hn,kk,aj,rfl⟩|⟨aq,ev,rfl,L,a3⟩⟩
 .obtain⟨av,z,e4,u,l4,w4⟩:=newE4 w3;have d:decide (kk=0)=fF:=Z6 aj;have S:=(s.trans l3).trans l4;simp only[HO,seval,e4,u,bne,d,aew,m z S,ldE];grind[aiw]
 have⟨av,z,e4,u,l4,w4,L4⟩:=newG w3 (n:=(rs.length:Int)) L.pr;have d0:decide ((0:Int)=0)=tT:=by decide
 have az:=aq.right;have S:=(s.trans l3).trans l4;have gg:GR z (.agg #[rs.length,ev]) ⟨(rs.length:Int),aa5 ((abT rs rs.length).map lZ)⟩:=⟨ev,rfl,L.pr.le l4⟩;generalize aT:aa5 ((abT rs rs.length).map lZ)=fs at*;refine Sk (IX e4 u @bne.eq_1.{0} d0 ((L4 z (Le.refl _)).1)) ?_
 generalize h3.next=D at*
 refine kCi func45 (aix T _ r ⟨(rs.length:Int),fs⟩ rs z gg (N.le (Nn.RL Nn.RP) (l1.trans S))) ?_;rintro x Q w5 ⟨⟨bb,rfl,aC⟩,l5⟩;have v:=S.trans l5;cases bb with
 |false=>simp only[HO,seval,aew,m Q v,ldE];grind[aiw]
 |true=>
  obtain⟨-,hG⟩:=aC.1 rfl;simp only[vZ]at hG;have one:=L.pr.sl.one;have⟨ea,ec,M,_⟩:=L.pr.sl;have aD:ev.cells=#[ev]:=by rw[M];rfl
  have oR:=v.own _ _ o1;have st:=aib (n:=(rs.length:Int)) (ev:=ev) oR one aD;have oo:=aai.Y3 Q R (.cells [rs.length,ev]);have aF:=ai2 (n:=(rs.length:Int)) (ev:=ev) oo ⟨ea,_,ec,M⟩;have aH:blk ev≠Z R:=fun e=>by have:=a3 R e;grind[Le.own]
  simp only[HO,seval,(L4 Q l5).1,st,aF];exact⟨(l1.trans v).put _ nR,.inr ⟨fs,ev,az,hG,rfl,(GS.le L (l4.trans l5)).put _ aH,fun b hb=>(l1.trans s).none (a3 b hb)⟩⟩
end
section
attribute [local instance] Classical.propDecidable
section
variable{α β:Type}[DecidableEq α]
def agG:List (α×β)->α->β->List (α×β)
 |[],k,v=>[(k,v)]
 |(a,b)::r,k,v=>if a=k then(k,v)::r else(a,b)::agG r k v
def aeB:List (α×β)->α->Option β
 |[],_=>Y
 |(a,b)::r,k=>if a=k then Z b else aeB r k
theorem aiT(l:List (α×β))(k a:α)(v:β):aeB (agG l k v) a=if k=a then Z v else aeB l a:=by
 induction l<;>grind[agG,aeB]
theorem setV_at(l:List (α×β))(k:α)(v:β):(aeB l k=Y/\agG l k v=l++[(k,v)])\/∃(j:Nat)(b:β),aeB l k=Z b/\l[j]?=Z (k,b)/\(∀i,i<j->∀x,l[i]?=Z x->x.1≠k)/\agG l k v=l.set j (k,v):=by
 induction l with
 |nil=>exact .inl ⟨rfl,rfl⟩
 |cons x r e=>
  have⟨a,b⟩:=x;simp only[agG,aeB];by_cases h:a=k
  .subst h;rw[WA rfl,WA rfl];exact .inr ⟨0,b,rfl,rfl,NH,rfl⟩
  .rw[IE h,IE h];rcases e with⟨d,h2⟩|⟨j,c,d,h2,h3,f⟩
   .grind
   .refine .inr ⟨j+1,c,d,hGr,fun i hi x g=>?_,by rw[f];rfl⟩;cases i<;>grind
end
def ahb(l:List (Pr×Pr)):List (vV×vV):=l.map fun x=>(UI x.1,UI x.2)
theorem aeF(k:Pr):∀(l:List (Pr×Pr))(i:Nat),(aeB l k=Y->adC pG 49 (UI k) (ahb l) i=Z Y)/\∀(j:Nat) b,l[j]?=Z (k,b)->(∀q,q<j->∀x,l[q]?=Z x->x.1≠k)->adC pG 49 (UI k) (ahb l) i=Z (Z (i+j,UI b))
 |[],i=>⟨fun _=>rfl,hGr⟩
 |(a,b)::r,i=>by
  have⟨g,h2⟩:=aeF k r (i+1)
  have un:adC pG 49 (UI k) (ahb ((a,b)::r)) i=match aEq pG 49 (UI k) (UI a)with|some tT=>Z (Z (i,UI b))|some fF=>adC pG 49 (UI k) (ahb r) (i+1)|none=>Y:=rfl
  rw[un,eqP];constructor
  .grind[aeB]
  .intro j c f d;cases j with
   |zero=>grind
   |succ j=>
    have e:a≠k:=d 0 NH (a,b) rfl;have:decide (k=a)=fF:=by simpa using Ne.symm e
    rw[this];show adC pG 49 (UI k) (ahb r) (i+1)=_;rw[h2 j c (by simpa using f) hGr];congr 3;omega
def ajg{h:aai}{x:vV}(p:Pr)(ok:Bool):acR pG h 84 x (UI p) ok=Y:=by simp only[acR,qS32,UI]
def ajC{h:aai}{x v:vV}(p:Pr):acM pG h 84 x (UI p) v=Y:=by simp only[acM,qS32,UI]
theorem ajD{h:aai}{M:Nat}{l:List (Pr×Pr)}(a:h.own M=Z (.map (ahb l))){k v:Pr}(e:aeB l k=Z v):
  adH pG h 84 (.map (Z M)) (UI k) fF=Z (UI v):=by
 have c:acd pG 49=Z (.agg #[.int .i64 0,.int .i64 0]):=Ji;simp only[adH,qS32,keyP,a,c,if_true];rcases setV_at l k v with⟨d,_⟩|⟨j,b,d,h2,h3,_⟩
 .grind
 grind[aeF]
theorem mapPP_set{h:aai}{M:Nat}{l:List (Pr×Pr)}(a:h.own M=Z (.map (ahb l)))(k v:Pr):aea pG h 84 (.map (Z M)) (UI k) (UI v)=Z (h.put M (.map (ahb (agG l k v)))):=by
 simp only[aea,qS32,keyP,a,if_true];rcases setV_at l k v with⟨c,d⟩|⟨j,b,c,h2,h3,d⟩
 .grind[aeF,ahb]
 grind[aeF,ahb,map_set]
def abA(d:H8):Pr:=((d.1:Int),(d.2:Int))
theorem aif{a b:H8}(h:abA a=abA b):a=b:=by grind[abA]
section
variable{n:Nat}{es:List Pr}{rs:AM}
theorem bes_row(a:aV n es)(ha:D3 es)(G:Av n es rs)(v:Nat):(Zh n es).getD v []=((rG n).filter fun w=>decide (w∈Xl rs v)).map fun(w:Nat)=>(w:Int):=by
 refine afY _ _ (KW es a ha v) ?_ fun x=>?_
 .grind[pairwise_lt_range,List.Pairwise.imp]
 grind[Ru,Av.mem,EW]
noncomputable def aih(n:Nat)(r:Nat->II)(v:Nat):List H8:=((rG n).filter fun w=>decide (w∈r v)).map fun w=>(v,w)
noncomputable def afd(n:Nat)(r:Nat->II)(k:Nat):List H8:=(rG k).flatMap (aih n r)
theorem ahC(n:Nat)(r:Nat->II)(k:Nat):afd n r (k+1)=afd n r k++aih n r k:=by grind[afd.eq_1,range_succ]
theorem ahX(n:Nat)(r:Nat->II):afd n r n=ddl n r:=rfl
theorem rowsD_pre{n:Nat}(r:Nat->II){k m:Nat}(h:k<=m):∃q,afd n r m=afd n r k++q:=by
 induction h with
 |refl=>exact⟨[],Ma⟩
 |step _ a=>grind[ahC]
theorem ddl_at{n:Nat}(r:Nat->II){v j:Nat}(a:v<n)(b:j<(aih n r v).length):∃q,ddl n r=(afd n r v++(aih n r v).take j)++(aih n r v)[j]::q:=by have⟨q,c⟩:=rowsD_pre (n:=n) r (show v+1<=n from a);grind[ahX,ahC,getElem_cons_drop,take_append_drop]
def ai3(r:Nat->II)(P:List H8)(d:H8):Prop:=∃e∈P,WD (Nv r) e d
theorem hd_met{r:Nat->II}(R:V7 n r){P Q:List H8}{d:H8}(h:ddl n r=P++d::Q):Hd r d↔¬ai3 r P d:=by
 have p:=aaG R;have hA:=pI n r;rw[h,ai7,ag1]at hA;have⟨_,⟨h2,_⟩,h3⟩:=hA;have hd:d∈dl n r:=(IP R).2 ((Ks R).1 (by rw[h];simp));constructor
 .rintro hh ⟨e,g,o⟩;have a:e∈dl n r:=(IP R).2 ((Ks R).1 hGr);exact hh e (p.adK a o) hGr
 .intro c e o f;have a:=p.sP hd o;have:e∈ddl n r:=by grind[Ks,IP]
  rw[h,yM,qL7]at this;rcases this with b|b|b
  .exact c ⟨e,b,p.adK hd o⟩
  all_goals grind[JN,Nd]
noncomputable def adR(r:Nat->II)(P:List H8):AM:=(P.filter fun d=>decide (Hd r d)).map fun d=>kz (zu r d)
noncomputable def IN(n:Nat)(rs:AM):AM:=(vf n (Xl rs)).map kz
theorem aiz(n:Nat)(rs:AM):adR (Xl rs) (ddl n (Xl rs))=IN n rs:=by rw[IN,vf,ahN,adR,Vn];rfl
theorem ajh(r:Nat->II)(P:List H8)(d:H8):adR r (P++[d])=adR r P++if Hd r d then[kz (zu r d)]else[]:=by grind[adR.eq_1]
end
end
section
attribute [local irreducible] Kp MQ lU KO1 KO KN KX KE VK Kl ZJ TC aab
attribute [local irreducible] abT ahy IN adR afd aih
variable {M a c id j n:Nat} {P:List H8} {es:List Pr} {h:aai} {r:Nat->II} {rs:AM}
def tm_nat(a b:Nat):((a:Int)).tmod (b:Int)=((a%b:Nat):Int):=rfl
theorem Av.row(a:aV n es)(G:Av n es rs)(v:Nat)(b:j<(rs.getD v []).length):∃h:j<(Xl rs v).length,(rs.getD v [])[j]=(((Xl rs v)[j]:Nat):Int):=by grind[Av.back]
theorem rowD_len(a:aV n es)(ha:D3 es)(G:Av n es rs)(v:Nat):(aih n (Xl rs) v).length=((Zh n es).getD v []).length:=by grind[bes_row,aih]
theorem rowD_get(b:aV n es)(ha:D3 es)(G:Av n es rs)(v:Nat)(c:j<((Zh n es).getD v []).length)(a:j<(aih n (Xl rs) v).length):
  ∃w:Nat,((Zh n es).getD v [])[j]=(w:Int)/\(aih n (Xl rs) v)[j]=(v,w)/\w∈Xl rs v:=by grind[bes_row,aih]
def SA{l:List (Pr×Int)}(a:h.own M=Z (.map (wy l)))(k:Pr):adH pG h 74 (.map (Z M)) (UI k) fF=Z (.int .i64 ((abo l k).getD 0)):=Il a k fF
theorem apart_new(a:h.own id=Y):Z2 h (sL (Z id) n c):=fun b hb=>by injection hb with hb;grind
theorem aii(n:Nat)(r:Nat->II):∀k,(afd n r k).length<=k*n
 |0=>by grind[afd]
 |k+1=>by have a:=aii n r k;grind[aih,ahC]
theorem fac_len(a:n<=200){P Q:List H8}(h:ddl n r=P++Q):(adR r P).length+1<=40001:=by have b:=aii n r n;rw[ahX,h,aaf]at b;have h2:n*n<=200*200:=WS a a;grind[adR]
theorem aji{d e:H8}:ai3 r (P++[d]) e↔ai3 r P e\/WD (Nv r) d e:=by grind[ai3]
theorem range_it(f:H8->H8)(d:H8)(k:Nat):((rG (k+1)).map fun i=>(((it f i d).1:Nat):Int))=((rG k).map fun i=>(((it f i d).1:Nat):Int))++[(((it f k d).1:Nat):Int)]:=by grind[range_succ]
def face_list(r:Nat->II)(d:H8):((rG (bt (Nv r) d)).map fun i=>(((it (Nv r) i d).1:Nat):Int))=kz (zu r d):=by rw[kz,zu,AA,Vn,Vn];rfl
def lt_next{k o:Nat}(h:k<=o)(a:k≠o):k<o:=NH
def aw_len(h:a+1<=40001):aaY .i64 ((a:Int)+1)=((a+1:Nat):Int):=aaa a NH
def dec_succ(a:Nat):(((a+1:Nat):Int))≠0:=NH
def le_big(h:a+1<=40001):a<=100000000:=NH
open Classical in
theorem Faces_any(W0:LA)(rv:vV)(rs:AM)(h:aai)(hv:RL (RL RP) h rv rs):
  AC pG W0 29 [rv] h fun x h'=>Le h h'/\((x=.tuple #[.slice Y 0 0,.int .i64 70]/\¬∃es,bX ⟨(rs.length:Int),es⟩/\Av rs.length es rs)\/
   ∃es r,bX ⟨(rs.length:Int),es⟩/\Av rs.length es rs/\x=.tuple #[r,.int .i64 0]/\RL (RL RP) h' r (IN rs.length rs)):=by
 refine AC.vF func29 ntmps29 results29 fun en=>?_;refine Uy ?_;refine kCi func51 (told_any W0 rv rs h hv) ?_;rintro x h1 w1 ⟨l1,⟨rfl,eo⟩|⟨es,ev,hr,G,rfl,bg,-⟩⟩
 .obtain⟨cN,h2,e2,aC,l2,w2⟩:=newE4 w1;refine Sk (XC e2 aC) ?_;grind[Le.trans]
 have⟨cN,h2,e2,aC,l2,w2,L2⟩:=newG w1 (n:=(rs.length:Int)) bg.pr
 generalize h1.next=P4 at*
 have hR:=hr.GD;have hA:=hr.q9;have IR:=G.jD hR hA;have p:=aaG IR;have eh:(rs.length:Int)<=200:=hr.n1;have ei:es.length<=594:=hr.len;have aD:=l1.trans l2
 obtain⟨h3,e3,l3,w3,o3⟩:∃h3,h2.alloc (.map [])=h3/\Le h2 h3/\WF h3/\h3.own h2.next=Z (.map []):=⟨_,rfl,(Le.refl h2).alloc w2 _,w2.alloc _,aai.zT _ _⟩
 have cP:h2.own h2.next=Y:=(Le.refl h2).next w2 (qL0 _)
 have lr:=fun g=>hv.qP6 g;have F:∀v,v<rs.length->(rs.getD v []).length<rs.length:=fun v hv=>aiS hR hA G hv;simp only[HO,seval,e2,aC,e3,lr]
 generalize h2.next=U at*
 refine lIn (fun k fr N=>∃(i:Nat)(l:List (Pr×Pr)),k=rs.length-i/\i<=rs.length/\fr=mkF [(4,pT (Z P4)),(6,.map (Z U)),(28,rv),(29,.int .i64 rs.length),(30,i)]/\
   N.own U=Z (.map (ahb l))/\Le h2 N/\∀d:H8,d.1∈Xl rs d.2->d.2<i->aeB l (abA d)=Z (abA (Nv (Xl rs) d))) ⟨0,[],rfl,Og _,rfl,o3,l3,fun d _ h=>by omega⟩ ?_
 clear o3 w3 l3 e3;clear h3;rintro k fr N bh ⟨i,l,rfl,hi,rfl,oB,lq,hl⟩;refine Uy ?_;refine Kl.intro (fun O=>?_) (fun hf=>?_)
 .have A:i<rs.length:=acb O;clear O;have ar:=hv.qP7 i A;have⟨ru,bk,aF⟩:=hv.NS i A;have bm:=bk N (aD.trans lq);rw[<-D4 (d:=[]) A]at aF;have ep:=F i A;have aq:=fun j (hj:j<(rs.getD i []).length)=>G.row hR i hj;have hlen:(Xl rs i).length=(rs.getD i []).length:=by grind[Xl.eq_1]
  generalize rs.getD i []=row at*;have av:=fun g=>aF.DH g;refine Sk (Yb ar bm av) ?_;refine lIn (fun k fr u=>∃(j:Nat)(l:List (Pr×Pr)),k=row.length-j/\j<=row.length/\fr=mkF [(4,pT (Z P4)),(6,.map (Z U)),(7,i),(8,ru),(28,rv),(29,.int .i64 rs.length),(30,i),(35,ru),(36,row.length),(37,.int .i64 j)]/\
    u.own U=Z (.map (ahb l))/\Le h2 u/\(∀d:H8,d.1∈Xl rs d.2->d.2<i->aeB l (abA d)=Z (abA (Nv (Xl rs) d)))/\∀(m:Nat)(V:m<(Xl rs i).length),m<j->aeB l (abA ((Xl rs i)[m],i))=Z (abA (Nv (Xl rs) ((Xl rs i)[m],i)))) ⟨0,l,rfl,Og _,rfl,oB,lq,hl,fun m _ h=>by omega⟩ ?_
  clear oB hl bm;rintro k fr u W ⟨j,l,rfl,hj,rfl,oB,lz,hl,er⟩;refine Uy ?_;refine Kl.intro (fun O=>?_) (fun hf=>?_)
  .have f:j<row.length:=acb O;clear O;have HZ:=aF.le Nn.RP (aD.trans lz);have ad:=HZ.TA j f;have ld:=HZ.Uc j f;have R:(j+1)%row.length<row.length:=akp _ NH;have cR:=HZ.TA ((j+1)%row.length) R;have bo:=HZ.Uc ((j+1)%row.length) R;have⟨cU,ej⟩:=aq j f;have⟨et,em⟩:=aq _ R;rw[ej]at ld;rw[em]at bo;have cW:=ajw (IR.nd i) cU;simp only[hlen]at cW;have X:=aaa j NH;have tm:=tm_nat (j+1) row.length;have dz:((row.length:Int)=0)=False:=eq_false NH;have ay:Nv (Xl rs) ((Xl rs i)[j],i)=(i,(Xl rs i)[(j+1)%row.length]):=by grind[Nv.eq_1]
   have st:=mapPP_set oB (abA ((Xl rs i)[j],i)) (abA (Nv (Xl rs) ((Xl rs i)[j],i)));simp only[ay,abA]at st;simp only[HO,seval,ad,ld,xe,X,av,tm,dz,cR,bo,ajC,st];refine lgA (JS f) ⟨j+1,_,rfl,f,rfl,aai.Y3 _ _ _,lz.put _ cP,fun d hd cZ=>?_,fun m V eu=>?_⟩
   .rw[aiT,IE]
    .grind
    .intro e;have:=aif (a:=((Xl rs i)[j],i)) (b:=d) e;grind
   .rw[aiT];by_cases e:m=j
    .subst e;exact(WA rfl).trans (by rw[ay];rfl)
    .rw[IE]
     .grind
     .intro e2;have:=aif (a:=((Xl rs i)[j],i)) (b:=((Xl rs i)[m],i)) e2;simp only[abW,and_true]at this;have nd:=IR.nd i;rw[j9,Yi]at nd;grind
  .have aa:row.length<=j:=vp hf;have aH:=aaa i NH;refine Sk aH ?_;refine lgA (JS A) ⟨i+1,l,rfl,A,rfl,oB,lz,fun d hd cZ=>?_⟩;by_cases e:d.2=i
   .obtain⟨a,b⟩:=d;simp only at e hd;subst e;have⟨m,V,em⟩:=FD.1 hd;grind
   grind
 have aa:rs.length<=i:=vp hf;have br:∀d:H8,d∈dl rs.length (Xl rs)->aeB l (abA d)=Z (abA (Nv (Xl rs) d)):=fun d hd=>by grind[IP,V7.sy,V7.lt]
 clear hl hf aa hi;have⟨hb,eb,lb,wb,ob⟩:=Tt bh []
 obtain⟨L,ec,lc,wc,oc⟩:∃L,hb.alloc (.map [])=L/\Le hb L/\WF L/\L.own hb.next=Z (.map []):=⟨_,rfl,(Le.refl hb).alloc wb _,wb.alloc _,aai.zT _ _⟩
 have c0:N.own N.next=Y:=(Le.refl N).next bh (qL0 _)
 have c3:hb.own hb.next=Y:=(Le.refl hb).next wb (qL0 _)
 have c4:N.next≠hb.next:=fun e=>by grind
 have bx:aas pG N 25 0 []=Z (sL (Z ⟨N.next,0,Y⟩) 0 0,hb):=by rw[<-eb];exact mkL52e N
 have c5:=(L2 L ((lq.trans lb).trans lc)).1;refine Sk (Yb bx ec c5) ?_
 generalize N.next=F0 at*
 generalize hb.next=c at*
 have bB:(L.kill c).own F0=Z (.cells []):=by grind[aai.xJ,Le.own]
 have bF:Le N ((L.kill c).kill F0):=((lb.trans lc).aiY (lb.none c3)).aiY c0;refine kCi zj (AC.frame oc (AC.frame bB (oe W0 _ rs.length es ((L.kill c).kill F0) ⟨ev,rfl,(bg.pr.le l2).le (lq.trans bF)⟩ hr))) ?_;rintro bv h5 w5 ⟨g1,⟨g,⟨aJ,lg⟩,nF,rfl⟩,ey,rfl⟩;have nM:g.own c=Y:=by grind[aai.By]
 have bH:=bF.trans lg;have c6:g.own U=Z (.map (ahb l)):=bH.own _ _ oB;have eA:U≠c:=fun e=>by grind
 have c9:=Xq rs.length es;have bI:=fun g=>aJ.qP5 g;rw[c9]at bI;have bN:Le g ((g.put F0 (.cells [])).put c (.map [])):=((Le.refl g).put _ nF).put _ nM;have g0:Lj (RL RP) (rem [c] ((g.put F0 (.cells [])).put c (.map []))) (sL (Z F0) 0 0) (adR (Xl rs) (afd rs.length (Xl rs) 0)):=by
  have:adR (Xl rs) (afd rs.length (Xl rs) 0)=[]:=by grind[adR,afd]
  grind[Lj.empty,Th,aai.By,aai.Y3]
 have bQ:Z2 g (sL (Z F0) 0 0):=fun b hb=>by injection hb with hb;grind
 have bW:blk (sL (Z F0) 0 0)≠Z c:=fun e=>by injection e with e;exact c4 e
 generalize vV.slice (Z F0) 0 0=da at*;have J:rs.length<=200:=NH;refine Sk bI ?_;refine lIn (fun k fr z=>∃(i:Nat)(r:vV)(m:List (Pr×Int)),k=rs.length-i/\i<=rs.length/\fr=mkF [(6,.map (Z U)),(11,r),(12,.map (Z c)),(61,bv),(62,.int .i64 rs.length),(63,i)]/\
   z.own c=Z (.map (wy m))/\Lj (RL RP) (rem [c] z) r (adR (Xl rs) (afd rs.length (Xl rs) i))/\blk r≠Z c/\Le g z/\Z2 g r/\∀d∈dl rs.length (Xl rs),((abo m (abA d)).getD 0≠0↔ai3 (Xl rs) (afd rs.length (Xl rs) i) d)) ⟨0,da,[],rfl,Og _,rfl,aai.Y3 _ _ _,g0,bW,bN,bQ,fun d _=>by simp[abo,ai3,afd]⟩ ?_
 clear g0 bW bQ bN w5 bx;rintro k fr z M ⟨i,r,m,rfl,hi,rfl,oM,gf,bf,H,af,V⟩;refine Uy ?_;refine Kl.intro (fun O=>?_) (fun hf=>?_)
 rotate_left
 .have aa:rs.length<=i:=vp hf;obtain rfl:i=rs.length:=NH;rw[ahX,aiz]at gf;refine Uy ?_;exact⟨aD.trans (lq.trans (bH.trans H)),.inr ⟨es,r,hr,G,rfl,(gf.rl (Nn.RL Nn.RP)).le (Nn.RL Nn.RP) (Sa _ _)⟩⟩
 have A:i<rs.length:=acb O;clear O;have ab:=aJ.Wm i NH;have⟨bu,bY,aK⟩:=aJ.NS i NH;have bZ:=bY z H;rw[<-D4 (d:=[]) NH]at aK;have eB:=rowD_len hR hA G i;have db:=fun j hj dc=>rowD_get hR hA G i (j:=j) hj dc;have dd:=fun j hj=>ddl_at (n:=rs.length) (Xl rs) (v:=i) (j:=j) A hj;have aL:=ahC rs.length (Xl rs) i;have de:=bV rs.length es _ (AE (show i<(Zh rs.length es).length by omega));rw[<-D4 (d:=[]) NH]at de;generalize (Zh rs.length es).getD i []=Rw at*;generalize aih rs.length (Xl rs) i=D at*;have lR:=fun g=>aK.DH g;simp only[HO,seval,ab,bZ,lR];refine lIn (fun k fr u=>∃(j:Nat)(r:vV)(m:List (Pr×Int)),k=Rw.length-j/\j<=Rw.length/\fr=mkF [(6,.map (Z U)),(11,r),(12,.map (Z c)),(13,i),(61,bv),(62,.int .i64 rs.length),(63,i),(68,bu),(69,Rw.length),(70,.int .i64 j)]/\
   u.own c=Z (.map (wy m))/\Lj (RL RP) (rem [c] u) r (adR (Xl rs) (afd rs.length (Xl rs) i++D.take j))/\blk r≠Z c/\Le g u/\Z2 g r/\∀d∈dl rs.length (Xl rs),((abo m (abA d)).getD 0≠0↔ai3 (Xl rs) (afd rs.length (Xl rs) i++D.take j) d)) ⟨0,r,m,rfl,Og _,rfl,oM,hGr,bf,H,af,hGr⟩ ?_
 clear oM gf bf H af V bZ M;clear z r m;rintro k fr z M ⟨j,r,m,rfl,hj,rfl,oM,gf,bf,H,af,V⟩;refine Uy ?_;refine Kl.intro (fun O=>?_) (fun hf=>?_)
 rotate_left
 .have aa:Rw.length<=j:=vp hf;rw[abe NH,<-aL]at gf V;have aH:=aaa i NH;refine Sk aH ?_;exact lgA (JS A) ⟨i+1,r,m,rfl,A,rfl,oM,gf,bf,H,af,V⟩
 have f:j<Rw.length:=acb O;clear O;have aN:j<D.length:=NH;have⟨w,ew,ed,dg⟩:=db j f aN;have⟨Q,hQ⟩:=dd j aN;have tk:D.take (j+1)=D.take j++[D[j]]:=EL aN;rw[ed]at hQ tk;have b0:afd rs.length (Xl rs) i++D.take (j+1)=(afd rs.length (Xl rs) i++D.take j)++[(i,w)]:=hGr;generalize afd rs.length (Xl rs) i++D.take j=P at*;have I:((i,w):H8)∈dl rs.length (Xl rs):=(IP IR).2 dg;have eC:=hd_met IR hQ;have b1:=fac_len J hQ;have eD:=ajh (Xl rs) P (i,w);have HB:=aK.le Nn.RP H;have aj:=HB.TA j f;have lj:=HB.Uc j f;rw[ew]at lj;have X:=aaa j NH;have⟨eH,C,eE,sE,lE,wE,oE⟩:=Ut M ((i:Int),(w:Int))
 have nE:z.own z.next=Y:=(Le.refl z).next M (qL0 _)
 generalize z.next=E0 at*
 have aP:=lE.own _ _ oM;have lk:=SA aP ((i:Int),(w:Int));have b2:=V _ I;have b3:=uM oE;have aT:=H.trans lE;have aW:=gf.le (Nn.RL Nn.RP) (lE.Xm (l:=[c]));by_cases cm:(abo m ((i:Int),(w:Int))).getD 0=0
 rotate_left
 .have dm:decide ((abo m ((i:Int),(w:Int))).getD 0=0)=fF:=Z6 cm;refine Sk (rk aj lj @xe eE sE b3 @acS lk @bne.eq_1.{0} dm X) ?_
  have S:=b2.1 cm;exact lgA (JS f) ⟨j+1,r,m,rfl,f,rfl,aP,hGr,bf,aT,af,fun e he=>by rw[b0,aji,V e he];exact⟨.inl,fun x=>x.elim id fun o=>by have⟨y,hy,o'⟩:=S;exact⟨y,hy,o'.trans o⟩⟩⟩
 have dm:decide ((abo m ((i:Int),(w:Int))).getD 0=0)=tT:=HV cm;have dj:¬ai3 (Xl rs) P (i,w):=fun h=>b2.2 h cm;have⟨o0,o1,o2⟩:=aaM p I;have ek:bt (Nv (Xl rs)) (i,w)<=40000:=by have h1:=tf (Ri p I) (B:=ddl rs.length (Xl rs)) fun y hy=>(Ks IR).2 ((IP IR).1 (p.sP I ((vA p I).1 hy)));rw[oN]at h1;have h2:=aii rs.length (Xl rs) rs.length;rw[ahX]at h2;have h3:rs.length*rs.length<=200*200:=WS J J;omega
 have⟨hF,eF,lF,wF,oF⟩:=Tt wE []
 have nC:C.own C.next=Y:=(Le.refl C).next wE (qL0 _)
 have b4:aas pG C 28 0 []=Z (sL (Z C.next) 0 0,hF):=by rw[<-eF];exact mkI0 C
 generalize C.next=C0 at*
 have aX:GI hF (sL (Z C0) 0 0) []:=GS.full (k:=1) (n:=0) oF rfl WY;have a6:Z2 C (sL (Z C0) 0 0):=apart_new nC;generalize vV.slice (Z C0) 0 0=ae at*;have ldF:=uM (lF.own _ _ oE);have⟨dp,hG,eG,sG,lG,wG,oG⟩:=Ut wF ((i:Int),(w:Int))
 have nG:hF.own hF.next=Y:=(Le.refl hF).next wF (qL0 _)
 generalize hF.next=E1 at*
 have K0:Le (rem [c] C) hG:=(Sa _ _).trans (lF.trans lG);have kM:(rem [c] C).own c=Y:=by grind[DC]
 have kB:(rem [c] C).own U=Z (.map (ahb l)):=Th.2 ⟨aT.own _ _ c6,hGr⟩;have b5:Z2 (rem [c] C) ae:=fun b hb=>(Sa [c] C).none (a6 b hb);have b6:=lG.own _ _ (lF.own _ _ aP);have cM:blk ae≠Z c:=fun e=>by have:=a6 _ e;grind
 have cE:blk ae≠Z E1:=fun e=>GS.Sy aX e nG;have eM:E1≠c:=fun e=>by grind
 have kE:(rem [c] C).own E1=Y:=(Sa [c] C).none (lF.none nG);have dq:Le g (rem [c] C):=aT.iV (l:=[c]) fun b hb=>by grind
 have dr:=fun g=>(aW.rl (Nn.RL Nn.RP)).qP5 g;have b8:=aw_len b1;simp only[HO,seval,aj,lj,xe,eE,sE,b3,acS,lk,bne,dm,b4,ldF,eG,sG];refine lIn (fun kk fr u=>∃(k:Nat)(cv:vV)(E:Nat)(K:List (Pr×Int)),kk=bt (Nv (Xl rs)) (i,w)-k/\k<=bt (Nv (Xl rs)) (i,w)/\fr=mkF [(6,.map (Z U)),(11,r),(12,.map (Z c)),(13,i),(18,cv),(19,pT (Z E)),(61,bv),(62,.int .i64 rs.length),(63,i),(68,bu),(69,Rw.length),(70,.int .i64 j)]/\
   u.own E=Z (.cells (xM (abA (it (Nv (Xl rs)) k (i,w)))))/\u.own c=Z (.map (wy K))/\GI u cv ((rG k).map fun x=>(((it (Nv (Xl rs)) x (i,w)).1:Nat):Int))/\Le (rem [c] C) u/\Z2 (rem [c] C) cv/\blk cv≠Z c/\blk cv≠Z E/\E≠c/\
   ∀e∈dl rs.length (Xl rs),((abo K (abA e)).getD 0≠0↔ai3 (Xl rs) P e\/∃x,x<k/\it (Nv (Xl rs)) x (i,w)=e)) ⟨0,ae,E1,m,rfl,Og _,rfl,oG,b6,GI.le aX lG,K0,b5,cM,cE,eM,fun e he=>by grind⟩ ?_
 clear K0 b5 b6 cM cE eM kE aX a6 oG nG wG lG sG eG ldF b4 nC oF wF lF eF;clear hG dp hF;rintro kk fr u W ⟨k,cv,E,K,rfl,hk,rfl,dv,T,gc,lz,ac,cM,cE,eM,a7⟩;have b9:=p.uN I k;have cc:=a7 _ b9;have cd:=SA T (abA (it (Nv (Xl rs)) k (i,w)));have cf:=uM dv;by_cases ck:k=bt (Nv (Xl rs)) (i,w)
 .have S:(abo K (abA (it (Nv (Xl rs)) k (i,w)))).getD 0≠0:=cc.2 (.inr ⟨0,NH,by rw[ck,o1];rfl⟩);have dk:decide ((abo K (abA (it (Nv (Xl rs)) k (i,w)))).getD 0=0)=fF:=Z6 S;refine Sk (xU cf @acS cd dk) ?_;rw[ck,face_list]at gc;have dw:Le (rem [c] C) (rem [c] u):=lz.iV fun b hb=>by grind
  have dy:=aW.le (Nn.RL Nn.RP) dw;have hb:∀b,blk r=Z b->b∉[c]:=fun b hb V=>by grind
  have dA:∀b,blk r=Z b->blk cv≠Z b:=fun b hb L=>by have⟨us,g1,_⟩:=aW;exact GS.Sy g1 hb (ac b L)
  have gu:RL RP (rem [c] (rem (bl r) u)) cv (kz (zu (Xl rs) (i,w))):=by
   have q:GI (rem [c] (rem (bl r) u)) cv (kz (zu (Xl rs) (i,w))):=GS.Fi (GS.Fi gc (l:=bl r) fun b hb L=>dA b (Zr.1 L) hb) (l:=[c]) fun b sZ L=>by grind
   exact q.rl
  have⟨h7,dB,h8,e7,e8,eI,l7,w7,f8,k8⟩:=Lj.mG (P:=pG) (t:=25) (Nn.RL Nn.RP) Ji dy W gu gu.sl.one (le_big b1) hb (fun b hb=>by rw[Gw]at hb;subst hb;rw[T];simp);have⟨dE,dF⟩:=k8 c _ T bf;have⟨l8,a8⟩:=f8 g (dq.trans lz) af;refine Sk (xU (mkL52 u gu.sl) e7 e8 X) ?_;refine lgA (JS f) ⟨j+1,dB,K,rfl,f,rfl,dE,hGr,dF,l8,a8,fun e he=>?_⟩;rw[b0,aji,a7 e he];constructor
  .rintro(h|⟨x,_,h⟩)
   .exact .inl h
   .exact .inr ⟨x,h⟩
  .rintro(h|⟨x,h⟩)
   .exact .inl h
   .refine .inr ⟨x%bt (Nv (Xl rs)) (i,w),by rw[ck];exact akp _ o0,?_⟩;rw[<-QF p I];exact h
 .have cg:=lt_next hk ck;have cp:¬((abo K (abA (it (Nv (Xl rs)) k (i,w)))).getD 0≠0):=fun h=>by
   rcases cc.1 h with⟨y,hy,o⟩|⟨x,hx,e⟩
   .have eL:y∈dl rs.length (Xl rs):=(IP IR).2 ((Ks IR).1 hGr);exact dj ⟨y,hy,o.trans (p.adK I ⟨k,rfl⟩)⟩
   grind[zk]
  have dk:decide ((abo K (abA (it (Nv (Xl rs)) k (i,w)))).getD 0=0)=tT:=HV (si cp);have az:=br _ b9;have bb:Nv (Xl rs) (it (Nv (Xl rs)) k (i,w))=it (Nv (Xl rs)) (k+1) (i,w):=rfl;rw[bb]at az;have ai:=range_it (Nv (Xl rs)) (i,w) k;have st1:=ajb T (abA (it (Nv (Xl rs)) k (i,w))) ((adR (Xl rs) P).length+1:Nat);generalize hD:it (Nv (Xl rs)) k (i,w)=s at*;have dH:=aai.Y3 u c (.map (wy (acs K (abA s) ((adR (Xl rs) P).length+1:Nat))));have dI:Le (rem [c] C) (u.put c (.map (wy (acs K (abA s) ((adR (Xl rs) P).length+1:Nat))))):=lz.put _ kM;have dJ:WF (u.put c (.map (wy (acs K (abA s) ((adR (Xl rs) P).length+1:Nat))))):=W.put _ (W.lt T);have cq:(u.put c (.map (wy (acs K (abA s) ((adR (Xl rs) P).length+1:Nat))))).own E=Z (.cells (xM (abA s))):=by grind[aai.By]
  have dL:GI (u.put c (.map (wy (acs K (abA s) ((adR (Xl rs) P).length+1:Nat))))) cv ((rG k).map fun x=>(((it (Nv (Xl rs)) x (i,w)).1:Nat):Int)):=GS.put gc _ cM;generalize u.put c (.map (wy (acs K (abA s) ((adR (Xl rs) P).length+1:Nat))))=dM at*;have m0:aaC pG dM 3 ⟨E,0,Y⟩=Z (.int .i64 (s.1:Int)):=lK cq;have⟨cx,h4,h5,e4,e5,g5,w5,l4,f5,k5⟩:=dL.push dJ ((s.1:Nat):Int) hGr;have⟨l5,a5⟩:=f5 _ dI ac;have⟨dO,dQ⟩:=k5 c _ dH cM;have⟨dS,eO⟩:=k5 E _ cq cE;have dT:=uM dS;have⟨eP,h6,e6,s6,l6,w6,o6⟩:=Ut w5 (abA s)
  have cz:h5.own h5.next=Y:=(Le.refl h5).next w5 (qL0 _)
  generalize h5.next=E' at*
  have dV:=uM o6;have cC:=l5.trans l6;have dW:=ajD (cC.own _ _ kB) az;have st2:=gD (p:=abA (it (Nv (Xl rs)) (k+1) (i,w))) o6;have cJ:E'≠c:=fun e=>by grind
  have cK:blk cx≠Z E':=fun e=>GS.Sy g5 e cz;have ef:=aai.Y3 h6 E' (.cells (xM (abA (it (Nv (Xl rs)) (k+1) (i,w)))));have eg:(h6.put E' (.cells (xM (abA (it (Nv (Xl rs)) (k+1) (i,w)))))).own c=Z (.map (wy (acs K (abA s) ((adR (Xl rs) P).length+1:Nat)))):=by rw[aai.By _ _ _ _ (Hs cJ)];exact l6.own _ _ dO
  simp only[HO,seval,cf,acS,cd,dk,dr,b8,aiP,st1,Dh,Ip,BS,m0,e4,e5,dT,e6,s6,ajg,dV,dW,st2];refine lgA (JS cg) ⟨k+1,cx,E',_,rfl,cg,rfl,ef,eg,by rw[ai];exact GS.put (GI.le g5 l6) _ cK,cC.put _ (l5.none cz),a5,dQ,cK,cJ,fun e he=>?_⟩;rw[XR];by_cases ee:abA s=abA e
  .have:=aif ee;subst this;rw[WA rfl,alR];exact⟨fun _=>.inr ⟨k,adN k,hD⟩,fun _=>dec_succ _⟩
  .rw[IE ee,a7 e he];constructor
   .rintro(h|⟨x,hx,h⟩)
    .exact .inl h
    .exact .inr ⟨x,ak6 hx,h⟩
   .rintro(h|⟨x,hx,h⟩)
    .exact .inl h
    .refine .inr ⟨x,qL213 (Nat.le_of_lt_succ hx) fun e2=>ee ?_,h⟩;grind
end
end Go.Fw
