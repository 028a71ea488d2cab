/- A text. -/
import Derived.Test.YtnakkbhjoiheoaaGreatFwLB13
import Derived.Test.YtnakkbhjoiheoaaGreatFwRow
set_option linter.all false
set_option maxRecDepth 99999
set_option maxHeartbeats 9999999
open Go.Proofs
open Option renaming some→Z,none→Y
open Bool renaming true→tT,false→fF
open List renaming replicate→rP,range→rG
open Go.Value renaming slice→sL,pointer→pT
open Go renaming Value→vV
open Go.Proofs.Tryz renaming prog→pG
open Go.Proofs.Tryz
namespace Go.Proofs
open Go.Shelf
def Tryz.lays189_ren:Go.Shelf.Ren:=⟨fun | 189=>54 | 125=>79 | 257=>83 | 128=>110 | 129=>111 | 294=>114 | 295=>115 | 296=>116 | 297=>117 | 298=>118 | 299=>119 | 216=>120 | 300=>121 | 301=>122 | 328=>154 | 329=>148 | 330=>149 | 331=>155 | 332=>156 | 215=>112 | 343=>175 | n=>n,fun | 28=>28 | 3=>3 | 46=>114 | 0=>0 | 51=>148 | 53=>150 | 4=>4 | 183=>142 | 182=>141 | 131=>79 | 5=>5 | 9=>9 | 218=>181 | 222=>185 | 228=>204 | 229=>205 | n=>n,fun | n=>n⟩
theorem Tryz.lays189:Go.Proofs.Lays.n189 Tryz.prog Tryz.lays189_ren:={
 mixed:=by kernel_rfl
 f125:=Tryz.func79.trans (congrArg some (by kernel_rfl))
 f128:=Tryz.func110.trans (congrArg some (by kernel_rfl))
 f129:=Tryz.func111.trans (congrArg some (by kernel_rfl))
 f189:=Tryz.func54.trans (congrArg some (by kernel_rfl))
 f215:=Tryz.func112.trans (congrArg some (by kernel_rfl))
 f216:=Tryz.func120.trans (congrArg some (by kernel_rfl))
 f257:=Tryz.func83.trans (congrArg some (by kernel_rfl))
 f294:=Tryz.func114.trans (congrArg some (by kernel_rfl))
 f295:=Tryz.func115.trans (congrArg some (by kernel_rfl))
 f296:=Tryz.func116.trans (congrArg some (by kernel_rfl))
 f297:=Tryz.func117.trans (congrArg some (by kernel_rfl))
 f298:=Tryz.func118.trans (congrArg some (by kernel_rfl))
 f299:=Tryz.func119.trans (congrArg some (by kernel_rfl))
 f300:=Tryz.func121.trans (congrArg some (by kernel_rfl))
 f301:=Tryz.func122.trans (congrArg some (by kernel_rfl))
 f328:=Tryz.func154.trans (congrArg some (by kernel_rfl))
 f329:=Tryz.func148.trans (congrArg some (by kernel_rfl))
 f330:=Tryz.func149.trans (congrArg some (by kernel_rfl))
 f331:=Tryz.func155.trans (congrArg some (by kernel_rfl))
 f332:=Tryz.func156.trans (congrArg some (by kernel_rfl))
 f343:=Tryz.func175.trans (congrArg some (by kernel_rfl))
 t0:=Tryz.underlying0
 a0:=Tryz.isAgg0
 z0:=Tryz.sizeOf0
 v0:=Tryz.zeroValue0
 t3:=Tryz.underlying3
 a3:=Tryz.isAgg3
 z3:=Tryz.sizeOf3
 v3:=Tryz.zeroValue3
 t4:=Tryz.underlying4
 a4:=Tryz.isAgg4
 z4:=Tryz.sizeOf4
 v4:=Tryz.zeroValue4
 t5:=Tryz.underlying5
 a5:=Tryz.isAgg5
 z5:=Tryz.sizeOf5
 v5:=Tryz.zeroValue5
 t9:=Tryz.underlying9
 a9:=Tryz.isAgg9
 z9:=Tryz.sizeOf9
 v9:=Tryz.zeroValue9
 t28:=Tryz.underlying28
 a28:=Tryz.isAgg28
 z28:=Tryz.sizeOf28
 v28:=Tryz.zeroValue28
 t46:=Tryz.underlying114
 a46:=Tryz.isAgg114
 z46:=Tryz.sizeOf114
 v46:=Tryz.zeroValue114
 t51:=Tryz.underlying148
 a51:=Tryz.isAgg148
 z51:=Tryz.sizeOf148
 v51:=Tryz.zeroValue148
 t53:=Tryz.underlying150
 a53:=Tryz.isAgg150
 z53:=Tryz.sizeOf150
 v53:=Tryz.zeroValue150
 t131:=Tryz.underlying79
 a131:=Tryz.isAgg79
 z131:=Tryz.sizeOf79
 v131:=Tryz.zeroValue79
 t182:=Tryz.underlying141
 a182:=Tryz.isAgg141
 z182:=Tryz.sizeOf141
 v182:=Tryz.zeroValue141
 t183:=Tryz.underlying142
 a183:=Tryz.isAgg142
 z183:=Tryz.sizeOf142
 v183:=Tryz.zeroValue142
 t218:=Tryz.underlying181
 a218:=Tryz.isAgg181
 z218:=Tryz.sizeOf181
 v218:=Tryz.zeroValue181
 t222:=Tryz.underlying185
 a222:=Tryz.isAgg185
 z222:=Tryz.sizeOf185
 v222:=Tryz.zeroValue185
 t228:=Tryz.underlying204
 a228:=Tryz.isAgg204
 z228:=Tryz.sizeOf204
 v228:=Tryz.zeroValue204
 t229:=Tryz.underlying205
 a229:=Tryz.isAgg205
 z229:=Tryz.sizeOf205
 v229:=Tryz.zeroValue205 }
def Tryz.laysNm220_ren:Go.Shelf.Ren:=⟨fun | 20=>58 | n=>n,fun | 22=>28 | 3=>3 | 4=>4 | 0=>0 | n=>n,fun | n=>n⟩
theorem Tryz.laysNm220:Go.Proofs.Lays2.n20 Tryz.prog Tryz.laysNm220_ren:={
 mixed:=by kernel_rfl
 f20:=Tryz.func58.trans (congrArg some (by kernel_rfl))
 t0:=Tryz.underlying0
 a0:=Tryz.isAgg0
 z0:=Tryz.sizeOf0
 v0:=Tryz.zeroValue0
 t3:=Tryz.underlying3
 a3:=Tryz.isAgg3
 z3:=Tryz.sizeOf3
 v3:=Tryz.zeroValue3
 t4:=Tryz.underlying4
 a4:=Tryz.isAgg4
 z4:=Tryz.sizeOf4
 v4:=Tryz.zeroValue4
 t22:=Tryz.underlying28
 a22:=Tryz.isAgg28
 z22:=Tryz.sizeOf28
 v22:=Tryz.zeroValue28
 i3:=by kernel_rfl }
end Go.Proofs
namespace Go.Fw
open Go.Proofs
set_option maxHeartbeats 1000000
set_option maxRecDepth 10000
def qC(l:RZ):RZ:=l.mergeSort fun x y=>decide (x<=y)
theorem GI.cases{h:aai}{v:vV}{xs:RZ}(g:GI h v xs)(k:xs.length<=100000):(∃a cap,v=.slice a 0 cap/\xs=[])\/∃id c cap,v=sL (Z ⟨id,0,Y⟩) xs.length cap/\h.own id=Z (.cells c)/\c.take xs.length=acO xs/\(cap=UNK+1\/cap=xs.length/\xs.length<1000000000000)/\0<xs.length/\xs.length<=cap/\xs.length<=c.length:=by
 obtain⟨e,⟨rfl,f⟩|⟨id,c,cap,rfl,i,d,j⟩⟩:=g
 .grind
 .by_cases f:xs.length=0
  .grind
  .rw[zd]at d e;have b:xs.length<=c.length:=hGr;refine .inr ⟨id,c,cap,rfl,i,d,j,NH,?_,b⟩;grind[UNK]
theorem AC.ofNone{P:Program}{n:LA}{h:aai}{f:FuncId}{a:Option Addr}{cap:Nat}{out:vV}(j:out=.tuple #[]\/out=.slice a 0 cap)(o:∀(a':Option Addr)(cap':Nat)(w:World),Calls P f #[.slice a' 0 cap'] w fun e w'=>(∃v,e=.returned v/\(out=.tuple #[]/\v=.tuple #[]\/out≠.tuple #[]/\v=.slice a' 0 cap'))/\w'=w):
  AC P n f [.slice a 0 cap] h fun x h'=>x=out/\h'=h:=by
 intro ex m w b R k;obtain⟨p,q,d⟩:=k.get (i:=0) rfl;have c:b=[p]:=by
  have g:=k.1
  match b,g with
  |[x],_=>grind
 obtain⟨a',cap',rfl⟩:=WT d;rw[c];refine(o a' cap' w).mono ?_;rintro e w' ⟨⟨v,rfl,r⟩,rfl⟩;refine⟨out,v,m,_,rfl,R,ZK.refl _ _,qL0 _,?_,rfl,rfl⟩;rcases r with⟨l,rfl⟩|⟨l,rfl⟩
 .rw[l];exact .tuple rfl (fun i v v' e=>by simp at e)
 grind
theorem OX(l:RZ):(qC l).length=l.length:=by simp[qC]
theorem VQ(l:LA){h:aai}{v:vV}{xs:RZ}(g:GI h v xs)(m:xs.length<=100000):AC pG l 54 [v] h fun x h'=>x=.tuple #[]/\GI h' v (qC xs)/\∀f,Le f h->Z2 f v->Le f h':=by
 rcases g.cases m with⟨a,cap,rfl,rfl⟩|⟨id,c,cap,rfl,n,o,s,p,b,d⟩
 .refine(AC.ofNone (out:=.tuple #[]) (.inl rfl) fun a' cap' w=>(Any.slices_Sort_int_none Tryz.lays189 a' cap' w).mono ?_).mono ?_
  .grind
  .rintro x h' ⟨rfl,rfl⟩;exact⟨rfl,by simpa[qC]using g,fun f i _=>i⟩
 .refine(AC.ofRow (xs:=xs) (ys:=qC xs) (out:=.tuple #[]) (k:=0) n o rfl (OX xs) d b p (abe _) (.inl rfl) fun blk off cap' w r hb j=>(Any.slices_Sort_int Tryz.lays189 blk off cap' xs w r hb NH).mono ?_).mono ?_
  .rintro e w' ⟨rfl,q,os,rfl⟩;exact⟨⟨_,rfl,.inl ⟨rfl,rfl⟩⟩,q,os,rfl⟩
  .rintro x h' ⟨rfl,rfl⟩;refine⟨rfl,⟨by grind[Bp],.inr ⟨id,_,cap,by rw[OX],aai.Y3 _ _ _,?_,by grind[OX]⟩⟩,fun f i af=>i.put _ (af id rfl)⟩;rw[zd,aeu (by simp[mN]),HV (by simp[mN])];rfl
def OV(xs:RZ):(Lib.compact xs).length<=xs.length:=by have:=im (Lib.keeps xs.toArray) (rG xs.length);simpa[Lib.compact,Lib.compactUpTo]using this
theorem VY(l:LA){h:aai}{v:vV}{xs:RZ}(g:GI h v xs)(m:xs.length<=100000):AC pG l 58 [v] h fun x h'=>RL RP h' x (Lib.compact xs)/\blk x=blk v/\∀f,Le f h->Z2 f v->Le f h':=by
 rcases g.cases m with⟨a,cap,rfl,rfl⟩|⟨id,c,cap,rfl,o,p,u,r,d,i⟩
 .refine(AC.ofNone (out:=.slice a 0 cap) (.inr rfl) fun a' cap' w=>(Any.slices_Compact_int_empty Tryz.laysNm220 a' cap' w).mono ?_).mono ?_
  .grind
  .rintro x h' ⟨rfl,rfl⟩;refine⟨?_,rfl,fun f j _=>j⟩;have:Lib.compact ([]:RZ)=[]:=rfl;grind[GI.rl]
 .have s:=OV xs;refine(AC.ofRow (xs:=xs) (ys:=Lib.compact xs++rP (xs.length-(Lib.compact xs).length) 0) (out:=sL (Z id) (Lib.compact xs).length cap) (k:=(Lib.compact xs).length) o p rfl (by simp;omega) i d r s (.inr rfl)
   fun blk off cap' w t hb b=>(Any.slices_Compact_int Tryz.laysNm220 blk off cap' xs w t NH b).mono ?_).mono ?_
  .rintro e w' ⟨rfl,q,rfl⟩;exact⟨⟨_,rfl,.inr ⟨Ma,rfl⟩⟩,q,#[],by rw[Sort.grow_empty]⟩
  .rintro x h' ⟨rfl,rfl⟩;refine⟨RL.Wh ?_,rfl,fun f j af=>j.put _ (af id rfl)⟩;have:=RS.own (c:=cap) (n:=(Lib.compact xs).length) (aai.Y3 h id (.cells (acO (Lib.compact xs++rP (xs.length-(Lib.compact xs).length) 0)++c.drop xs.length))) (off:=0) (by grind[mN]);grind[acO]
end Go.Fw
namespace Go.Fw
section
attribute [local irreducible] Kp MQ lU KO1 KO KN KX KE VK Kl ZJ TC aab
def zR(p:Pr)(q:Nat):Int:=if q=0 then p.1 else p.2
def ix42(p:Pr)(q:Nat)(a:q<2):afh pG 49 (UI p) q=Z (.int .i64 (zR p q)):=by have:q=0\/q=1:=NH;rcases this with rfl|rfl<;>simp[afh,qS8,Ac,UI,zR,ts3]<;>rfl
def ftP(on:Nat->Bool)(p:Pr):RZ:=[p.1,p.2].filter fun x=>on x.toNat
def BY(on:Nat->Bool)(es:xLP):RZ:=es.flatMap (ftP on)
def YJ(on:Nat->Bool)(es:xLP):RZ:=Lib.compact (qC (BY on es))
theorem Dr(on:Nat->Bool)(es:xLP):(BY on es).length<=2*es.length:=by
 induction es<;>grind[BY,ftP]
def YB(on:Nat->Bool)(p:Pr)(q:Nat):RZ:=([p.1,p.2].take q).filter fun x=>on x.toNat
theorem BM(on:Nat->Bool)(p:Pr)(q:Nat)(a:q<2):YB on p (q+1)=YB on p q++if on (zR p q).toNat=tT then[zR p q]else[]:=by
 have:q=0\/q=1:=NH;rcases this with rfl|rfl
 all_goals grind[YB,zR]
theorem feet_any(G:LA)(ev r:vV)(n:Nat)(es:xLP)(bs:List Bool)(h:aai)(H:PR h ev es)(hb:RL sJ h r bs)(hR:aV n es)(aa:bs.length=n)(hn:es.length<=1000):
  AC pG G 162 [ev,r] h fun x h'=>RL RP h' x (YJ (fun u=>bs.getD u fF) es)/\Le h h'/\Z2 h x:=by
 refine AC.vE ⟨func162,rfl,WY⟩ ntmps162 results162 fun w=>?_;simp only[Br,seval];obtain⟨I,T,y,J,U⟩:=Tt w []
 have A:aas pG h 28 0 []=Z (sL (Z h.next) 0 0,I):=by rw[<-T];rfl
 have ll:=fun g=>H.len g;refine sFa (XC A ll) ?_
 have nB:h.own h.next=Y:=(Le.refl h).next w (qL0 _)
 generalize h.next=B at*
 let on:Nat->Bool:=fun u=>bs.getD u fF;have V:GI I (sL (Z B) 0 0) (BY on (es.take 0)):=GS.full U rfl WY;refine lIn (fun k fr hh=>∃(i:Nat)(a:vV),k=es.length-i/\i<=es.length/\fr=mkF [(1,r),(5,a),(11,ev),(12,es.length),(13,i)]/\GI hh a (BY on (es.take i))/\Le h hh/\Z2 h a) ⟨0,_,rfl,abe _,rfl,V,y,fun b hb=>by grind[blk]⟩ ?_;clear V U nB A J y T I B;rintro k fr hh s ⟨i,a,rfl,hi,rfl,g,f,ap⟩;refine sSs ?_;refine Kl.intro (fun W=>?_) (fun hf=>?_)
 rotate_left
 .have K:es.length<=i:=vp hf;rw[HV K]at g;have hl:=Dr on es;refine sSs ?_;refine kCi qS25 (VQ G g NH) ?_;rintro x h2 w2 ⟨rfl,g2,k2⟩;have L:=k2 h f ap;refine sSs ?_;refine kCi func58 (VY G g2 (by rw[OX];omega)) ?_;rintro x h3 w3 ⟨r3,bx,k3⟩;have d:=k3 h L ap;refine sSs ?_;exact⟨r3,d,fun b hb=>ap b hGr⟩
 have j:i<es.length:=CC W;clear W;have t:=CA j;have M:es.take (i+1)=es.take i++[es[i]]:=EL j;generalize es[i]=p at t M;obtain⟨p1,p2,p3⟩:=hR p (BS t);have ad:=H.addr (k:=.i64) i j;have ld:=(H.le f).load t;obtain⟨ae,h3,X,e3,d,N,o3⟩:=Ut s p
 have nE:h.own hh.next=Y:=f.none ((Le.refl hh).next s (qL0 _))
 have O:∀b,blk a=Z b->b≠hh.next:=fun b hb e=>by subst e;have:=GS.Sy g hb;exact this ((Le.refl hh).next s (qL0 _))
 have P:=g.le d;have m:=f.trans d;have LP:=uM o3
 generalize hh.next=E at*
 simp only[HO,seval,ad,ld,X,e3,LP];have C:BY on (es.take i)=BY on (es.take i)++YB on p 0:=by simp[YB]
 rw[C]at P;refine lIn (fun k fr F=>∃(q:Nat)(a:vV),k=2-q/\q<=2/\fr=mkF [(1,r),(5,a),(11,ev),(12,es.length),(13,i),(17,UI p),(18,q)]/\GI F a (BY on (es.take i)++YB on p q)/\Le h F/\Z2 h a) ⟨0,_,rfl,abe _,rfl,P,m,ap⟩ ?_;clear C P O ap g a LP m nE o3 N d X e3;rintro k fr F Q ⟨q,a,rfl,ag,rfl,g,leq,ap⟩;have hlen:(BY on (es.take i)++YB on p q).length<=100000:=by grind[Dr,YB,Nat.min_le_right]
 by_cases c:q<2
 rotate_left
 .have z:((q:Int)<2)=False:=eq_false NH;obtain rfl:q=2:=NH;have D:BY on (es.take i)++YB on p 2=BY on (es.take (i+1)):=by grind[BY,YB,ftP]
  rw[D]at g;refine sFa (XC z (aaa i NH)) ?_;exact lgA NH ⟨i+1,a,rfl,j,rfl,g,leq,ap⟩
 have z:((q:Int)<2)=True:=eq_true NH;have ix:=ix42 p q c;have o:0<=zR p q/\zR p q<(n:Int):=by grind[zR]
 have l:=BM on p q c;generalize zR p q=x at ix o l;obtain⟨v,rfl⟩:=Sb o.1;have R:v<bs.length:=NH;have oa:aao pG 41 r v=Z (pT (Z (aaq r v))):=hb.LB v R;have ol:aaC pG F 4 (aaq r v)=Z (.bool (on v)):=by rw[(hb.le Nn.sJ leq).W7 v R];simp only[on];rw[D4 R]
 rw[Z6]at l;cases c2:on v with
 |false=>rw[c2]at ol l;have D:BY on (es.take i)++YB on p q=BY on (es.take i)++YB on p (q+1):=hGr;rw[D]at g;simp only[HO,seval,z,ix,oa,ol,aaa q NH];exact lgA NH ⟨q+1,a,rfl,c,rfl,g,leq,ap⟩
 |true=>rw[c2]at ol l;obtain⟨S,h4,h5,e4,e5,g5,w5,l4,hf,-⟩:=g.push Q (v:Int) hlen;obtain⟨l5,a5⟩:=hf h leq ap;have D:BY on (es.take i)++YB on p q++[(v:Int)]=BY on (es.take i)++YB on p (q+1):=hGr;rw[D]at g5;simp only[HO,seval,z,ix,oa,ol,e4,e5,aaa q NH];exact lgA NH ⟨q+1,S,rfl,c,rfl,g5,l5,a5⟩
def Zo(n:Nat)(on:Nat->Bool)(L:RZ)(p:Pr)(i:Nat):Int:=if on p.1.toNat=fF then L.getD p.1.toNat 0 else if on p.2.toNat=fF then L.getD p.2.toNat 0 else(n:Int)+i
theorem frag_any(y:LA)(ev g r:vV)(n:Nat)(es:xLP)(bs:List Bool)(L:RZ)(B O T:Nat)(i:Nat)(p:Pr)(h:aai)(s:PR h ev es)(hb:RL sJ h g bs)(t:RL RP h r L)(hR:aV n es)(A:bs.length=n)(C:L.length=n)(l0:aaC pG h 3 ⟨B,0,Y⟩=Z (.int .i64 n))(l1:aaC pG h 22 ⟨B,1,Y⟩=Z ev)(l2:aaC pG h 41 ⟨O,0,Y⟩=Z g)(l3:aaC pG h 28 ⟨T,0,Y⟩=Z r)(f:es[i]?=Z p)(K:n<=100000)(D:es.length<=100000):
  AC pG y 161 [i,pT (Z B),pT (Z O),pT (Z T)] h fun x h'=>x=.int .i64 (Zo n (fun u=>bs.getD u fF) L p i)/\h'=h:=by
 refine AC.vE ⟨func161,rfl,WY⟩ ntmps161 results161 fun E=>?_;simp only[Br,seval];have l:=(Ny.1 f).1;obtain⟨M,N,P⟩:=hR p (BS f);have ad:=s.addr (k:=.i64) i l;have ld:=s.load f;simp only[HO,seval,Di,Ip,Gc,l1,ad,ld];let on:Nat->Bool:=fun u=>bs.getD u fF;refine lIn (fun k fr m=>∃q:Nat,k=2-q/\q<=2/\m=h/\fr=mkF [(0,i),(1,pT (Z B)),(2,pT (Z O)),(3,pT (Z T)),(12,UI p),(13,q)]/\∀j,j<q->on (zR p j).toNat=tT) ⟨0,rfl,abe _,rfl,rfl,NH⟩ ?_;rintro k fr m-⟨q,rfl,F,rfl,rfl,d⟩;by_cases c:q<2
 rotate_left
 .have z:((q:Int)<2)=False:=eq_false NH;obtain rfl:q=2:=NH;have G:=d 0 NH;have c1:=d 1 NH;simp only[zR,if_true,qL217,if_false]at G c1;have hf:Zo n on L p i=(n:Int)+i:=by grind[Zo]
  have wr:aaY .i64 ((n:Int)+(i:Int))=(n:Int)+i:=cT _ NH NH;simp only[HO,seval,z,Ii,Ip,Gc,l0,wr];grind
 have z:((q:Int)<2)=True:=eq_true NH;have ix:=ix42 p q c;have e:0<=zR p q/\zR p q<(n:Int):=by grind[zR]
 have b:on (zR p q).toNat=fF->Zo n on L p i=L.getD (zR p q).toNat 0:=fun H=>by have:q=0\/q=1:=NH;grind[zR,Zo]
 have a:on (zR p q).toNat=tT->∀j,j<q+1->on (zR p j).toNat=tT:=fun H j Q=>by grind
 generalize zR p q=x at ix e b a;obtain⟨v,rfl⟩:=Sb e.1;rw[Z6]at b a;have o:v<bs.length:=NH;have w:aao pG 41 g v=Z (pT (Z (aaq g v))):=hb.LB v o;have ol:aaC pG m 4 (aaq g v)=Z (.bool (on v)):=by rw[hb.W7 v o];simp only[on];rw[D4 o]
 have I:=t.TA v NH;have J:=t.Uc v NH;cases c2:on v with
 |true=>rw[c2]at ol;simp only[HO,seval,z,ix,l2,w,ol,aaa q NH];exact lgA NH ⟨q+1,rfl,c,rfl,rfl,a c2⟩
 |false=>rw[c2]at ol;have hf:=b c2;rw[D4 NH]at hf;simp only[HO,seval,z,ix,l2,w,ol,l3,I,J];grind
variable {M:Nat} {b0 h h':aai} {us:List Value}
abbrev Gr:=Int×xLP
def Ea(gs:List Gr):RZ:=gs.map (·.1)
def acU:List Gr->Int->xLP
 |[],_=>[]
 |(k,l)::r,f=>if k=f then l else acU r f
def ab4:List Gr->Int->Pr->List Gr
 |[],f,p=>[(f,[p])]
 |(k,l)::r,f,p=>if k=f then(k,l++[p])::r else(k,l)::ab4 r f p
def AO(gs:List Gr)(us:xLV):List (vV×vV):=(gs.zip us).map fun x=>(.int .i64 x.1.1,x.2)
theorem Ga(f:Int):∀(gs:List Gr)(us:xLV)(i:Nat),us.length=gs.length->
  (f∉Ea gs/\adA .i64 f (AO gs us) i=Z Y/\acU gs f=[]/\∀p,ab4 gs f p=gs++[(f,[p])])\/
  ∃(j:Nat)(l:xLP)(u:vV),gs[j]?=Z (f,l)/\us[j]?=Z u/\adA .i64 f (AO gs us) i=Z (Z (i+j,u))/\acU gs f=l/\∀p,ab4 gs f p=gs.set j (f,l++[p])
 |[],us,i,h=>.inl (by simp[Ea,AO,adA,acU,ab4])
 |(k,l)::gs,[],i,h=>by simp at h
 |(k,l)::gs,u::us,i,h=>by
  have e:AO ((k,l)::gs) (u::us)=(.int .i64 k,u)::AO gs us:=rfl;by_cases c:f=k
  .subst c;exact .inr ⟨0,l,u,rfl,rfl,by grind[adA.eq_2],by simp[acU],fun p=>by simp[ab4]⟩
  .have c':¬k=f:=fun h=>c h.symm;rcases Ga f gs us (i+1) (by simpa using h)with⟨a,h2,h3,b⟩|⟨j,l',u',a,h2,h3,b,d⟩
   .grind[Ea,adA.eq_2,acU.eq_2,ab4.eq_2]
   .exact .inr ⟨j+1,l',u',hGr,hGr,by grind[adA.eq_2],by grind[acU.eq_2],fun p=>by grind[ab4.eq_2]⟩
def dK{f:Int}{l l':xLP}{u':vV}:∀(gs:List Gr)(us:xLV)(j:Nat),us.length=gs.length->gs[j]?=Z (f,l)->AO (gs.set j (f,l')) (us.set j u')=(AO gs us).set j (.int .i64 f,u')
 |[],us,j,h,e=>by simp at e
 |g::gs,[],j,h,e=>by simp at h
 |g::gs,u::us,0,h,e=>by simp at e;subst e;rfl
 |g::gs,u::us,j+1,h,e=>by have:=dK (l':=l') (u':=u') gs us j (by simpa using h) (by simpa using e);show(.int .i64 g.1,u)::AO (gs.set j (f,l')) (us.set j u')=(.int .i64 g.1,u)::(AO gs us).set j (.int .i64 f,u');rw[this]
def mapG_snoc{gs:List Gr}(a:us.length=gs.length)(g:Gr)(u:vV):AO (gs++[g]) (us++[u])=AO gs us++[(.int .i64 g.1,u)]:=by rw[AO,List.zip_append a.symm];simp[AO]
structure aaE (b0 h:aai) (M:Nat) (us:xLV) (gs:List Gr):Prop where
 oM:h.own M=Z (.map (AO gs us))
 len:us.length=gs.length
 gp:∀(j:Nat) u g,us[j]?=Z u->gs[j]?=Z g->GP h u g.2
 nM:∀(j:Nat) u,us[j]?=Z u->blk u≠Z M
 TE:∀(j k:Nat) u u' b,j≠k->us[j]?=Z u->us[k]?=Z u'->blk u=Z b->blk u'≠Z b
 ap:∀(j:Nat) u,us[j]?=Z u->Z2 b0 u
 le:Le b0 h
 bM:b0.own M=Y
theorem aaE.keep{gs:List Gr}(R:aaE b0 h M us gs)(le:Le b0 h')(a:∀b o,h.own b=Z o->(b=M\/∃(j:Nat)(u:vV),us[j]?=Z u/\blk u=Z b)->h'.own b=Z o):aaE b0 h' M us gs:=⟨a _ _ R.oM (.inl rfl),R.len,fun j u g c hg=>GS.kept (R.gp j u g c hg) fun b o hb d=>a b o d (.inr ⟨j,u,c,hb⟩),R.nM,R.TE,R.ap,le,R.bM⟩
theorem aaE.up{gs:List Gr}(R:aaE b0 h M us gs)(e:Le h h'):aaE b0 h' M us gs:=R.keep (R.le.trans e) fun b o a _=>e.own _ _ a
def B9:acd pG 22=Z (.slice Y 0 0):=Ji
theorem aaE.look{gs:List Gr}(R:aaE b0 h M us gs)(f:Int):∃u,abB pG h 96 (.map (Z M)) f fF=Z u/\GP h u (acU gs f):=by
 rcases Ga f gs us 0 R.len with⟨a,h2,h3,b⟩|⟨j,l,u,a,h2,h3,b,c⟩
 .refine⟨.slice Y 0 0,?_,by grind[GP.nil]⟩;simp[abB,KT,Ac,R.oM,B9,h2,Fw.flat]
 .refine⟨u,?_,by grind[aaE.gp]⟩;simp[abB,KT,Ac,R.oM,B9,h3,Fw.flat]
theorem aaE.push{b0 h:aai}{M:Nat}{us:List Value}{gs:List Gr}(R:aaE b0 h M us gs)(z:WF h)(f:Int)(p:Pr)(L:(acU gs f).length+1<=100000):
  ∃u u' w A E B,abB Tryz.prog h 96 (.map (some M)) (.int .i64 f) false=some u/\aas Tryz.prog h 22 1 [(0,UI p)]=some (.slice (some ⟨h.next,0,none⟩) 1 1,w)/\aaR Tryz.prog w 22 22 u (.slice (some ⟨h.next,0,none⟩) 1 1)=some (u',A)/\
   acM Tryz.prog A 96 (.map (some M)) (.int .i64 f) u'=some E/\aaE b0 E M B (ab4 gs f p)/\WF E/\Le h w/\
   (∀b o,h.own b=some o->b≠M->(∀(j:Nat) a,us[j]?=some a->blk a≠some b)->A.own b=some o/\E.own b=some o/\∀(j:Nat) a,B[j]?=some a->blk a≠some b):=by
 rcases Ga f gs us 0 R.len with⟨F,h2,h3,w⟩|⟨j,l,u,F,h2,h3,w,A⟩
 .obtain⟨u',G,x,e4,H,s,C,l4,hf,y⟩:=(GP.nil h).push z p Ma;have c:∀b o,h.own b=some o->x.own b=some o/\blk u'≠some b:=fun b o d=>y b o d (by simp[blk]);obtain⟨l5,N⟩:=hf b0 R.le (fun b hb=>by grind[blk]);have m:=(c _ _ R.oM).1;refine⟨.slice none 0 0,u',G,x,x.put M (.map (AO gs us++[(.int .i64 f,u')])),us++[u'],by simp[abB,KT,Ac,R.oM,B9,h2,Fw.flat],e4,H,by simp only[acM,KT,Ac,m,h2],?_,C.put _ (C.lt m),l4,fun b o d hb I=>⟨(c b o d).1,by rw[aai.By _ _ _ _ hb];exact(c b o d).1,fun k a ha=>?_⟩⟩
  .rw[w];have O:=mapG_snoc R.len (f,[p]) u';have t:∀(k:Nat) a,(us++[u'])[k]?=some a->(us[k]?=some a)\/(k=us.length/\a=u'):=fun k a ha=>by grind
   refine⟨by grind[aai.Y3],by simp[R.len],fun k a g ha hg=>?_,fun k a ha=>?_,fun k v a a' b J ha mi hb=>?_,fun k a ha=>?_,l5.put _ R.bM,R.bM⟩
   .rcases t k a ha with xa|⟨rfl,rfl⟩
    .have P:=(Ny.1 xa).1;rw[iy (by grind[aaE.len])]at hg;exact GS.put (GS.kept (R.gp k a g xa hg) fun b o hb d=>(c b o d).1) _ (R.nM k a xa)
    .rw[AE (by grind[aaE.len]),R.len]at hg;simp at hg;subst hg;have:([]++[p]:List Pr)=[p]:=rfl;rw[this]at s;exact GS.put s _ (c _ _ R.oM).2
   .grind[aaE.nM,aaE.oM]
   .rcases t k a ha with xa|⟨rfl,rfl⟩
    .rcases t v a' mi with n|⟨rfl,rfl⟩
     .grind[aaE.TE]
     .have r:∃q,gs[k]?=some q:=⟨_,CA (by grind[aaE.len])⟩;obtain⟨q,D⟩:=r;obtain⟨o,d⟩:=VU.1 (GS.Sy (R.gp k a q xa D) hb);grind
    .rcases t v a' mi with n|⟨rfl,rfl⟩
     .intro sZ;have r:∃q,gs[v]?=some q:=⟨_,CA (by grind[aaE.len])⟩;obtain⟨q,D⟩:=r;obtain⟨o,d⟩:=VU.1 (GS.Sy (R.gp v a' q n D) sZ);grind
     grind
   grind[aaE.ap]
  grind
 .rw[w]at L;have Q:=R.gp j u _ h2 F;obtain⟨u',G,x,e4,H,s,C,l4,hf,y⟩:=GP.push Q z p L;obtain⟨l5,N⟩:=hf b0 R.le (R.ap j u h2);have m:=y _ _ R.oM (R.nM j u h2);have S:=(Ny.1 h2).1;have i:∀(k:Nat) a,(us.set j u')[k]?=some a->(k≠j/\us[k]?=some a)\/(k=j/\a=u'):=fun k a ha=>by grind
  have own:∀(k:Nat) a b,us[k]?=some a->blk a=some b->∃o,h.own b=some o:=fun k a b ha hb=>by have r:∃q,gs[k]?=some q:=⟨_,CA (by grind[aaE.len])⟩;obtain⟨q,D⟩:=r;exact VU.1 (GS.Sy (R.gp k a q ha D) hb)
  refine⟨u,u',G,x,x.put M (.map ((AO gs us).set (0+j) (.int .i64 f,u'))),us.set j u',by simp[abB,KT,Ac,R.oM,B9,h3,Fw.flat],e4,H,by simp only[acM,KT,Ac,m.1,h3],?_,C.put _ (C.lt m.1),l4,fun b o d hb I=>⟨(y b o d (I j u h2)).1,by rw[aai.By _ _ _ _ hb];exact(y b o d (I j u h2)).1,fun k a ha=>?_⟩⟩
  .rw[A];have O:=dK (l':=l++[p]) (u':=u') gs us j R.len F;have K:=(Ny.1 F).1;refine⟨by grind[aai.Y3],by simp[R.len],fun k a g ha hg=>?_,fun k a ha=>?_,fun k v a a' b J ha mi hb=>?_,fun k a ha=>?_,l5.put _ R.bM,R.bM⟩
   .rcases i k a ha with⟨e,xa⟩|⟨rfl,rfl⟩
    .rw[Tn,yM (j3 e)]at hg;exact GS.put (GS.kept (R.gp k a g xa hg) fun b o hb d=>(y b o d (fun sZ=>R.TE k j a u b e xa h2 hb sZ)).1) _ (R.nM k a xa)
    .rw[Tn,IE rfl,IE K]at hg;injection hg with hg;subst hg;exact GS.put s _ m.2
   .grind[aaE.nM]
   .rcases i k a ha with⟨e,xa⟩|⟨rfl,rfl⟩
    .rcases i v a' mi with⟨e',n⟩|⟨rfl,rfl⟩
     .grind[aaE.TE]
     .obtain⟨o,d⟩:=own k a b xa hb;grind[aaE.TE]
    .rcases i v a' mi with⟨e',n⟩|⟨rfl,rfl⟩
     .intro sZ;obtain⟨o,d⟩:=own v a' b n sZ;grind[aaE.TE]
     grind
   grind[aaE.ap]
  grind
end
end Go.Fw
