/- A text. -/
import Derived.Test.YtkccdnmaaelbiaaGreatFwLB13
import Derived.Test.YtkccdnmaaelbiaaGreatFwRow
set_option linter.all false
set_option maxRecDepth 99999
set_option maxHeartbeats 9999999
open Go.Proofs
namespace Go.Proofs
open Go.Shelf
def Tryz.lays189_ren:Go.Shelf.Ren:=⟨fun | 189=>115 | 125=>120 | 257=>152 | 128=>162 | 129=>163 | 294=>173 | 295=>174 | 296=>175 | 297=>176 | 298=>177 | 299=>178 | 216=>164 | 300=>179 | 301=>180 | 328=>186 | 329=>182 | 330=>183 | 331=>187 | 332=>188 | 215=>131 | 343=>190 | n=>n,fun | 28=>49 | 3=>3 | 46=>146 | 0=>0 | 51=>184 | 53=>186 | 4=>4 | 183=>178 | 182=>177 | 131=>89 | 5=>5 | 9=>9 | 218=>198 | 222=>202 | 228=>206 | 229=>207 | n=>n,fun | n=>n⟩
theorem Tryz.lays189:Go.Proofs.Lays.n189 Tryz.prog Tryz.lays189_ren:={
 mixed:=by kernel_rfl
 f125:=Tryz.func120.trans (congrArg some (by kernel_rfl))
 f128:=Tryz.func162.trans (congrArg some (by kernel_rfl))
 f129:=Tryz.func163.trans (congrArg some (by kernel_rfl))
 f189:=Tryz.func115.trans (congrArg some (by kernel_rfl))
 f215:=Tryz.func131.trans (congrArg some (by kernel_rfl))
 f216:=Tryz.func164.trans (congrArg some (by kernel_rfl))
 f257:=Tryz.func152.trans (congrArg some (by kernel_rfl))
 f294:=Tryz.func173.trans (congrArg some (by kernel_rfl))
 f295:=Tryz.func174.trans (congrArg some (by kernel_rfl))
 f296:=Tryz.func175.trans (congrArg some (by kernel_rfl))
 f297:=Tryz.func176.trans (congrArg some (by kernel_rfl))
 f298:=Tryz.func177.trans (congrArg some (by kernel_rfl))
 f299:=Tryz.func178.trans (congrArg some (by kernel_rfl))
 f300:=Tryz.func179.trans (congrArg some (by kernel_rfl))
 f301:=Tryz.func180.trans (congrArg some (by kernel_rfl))
 f328:=Tryz.func186.trans (congrArg some (by kernel_rfl))
 f329:=Tryz.func182.trans (congrArg some (by kernel_rfl))
 f330:=Tryz.func183.trans (congrArg some (by kernel_rfl))
 f331:=Tryz.func187.trans (congrArg some (by kernel_rfl))
 f332:=Tryz.func188.trans (congrArg some (by kernel_rfl))
 f343:=Tryz.func190.trans (congrArg some (by kernel_rfl))
 t0:=Tryz.underlying0
 a0:=Tryz.isAgg0
 z0:=Tryz.sizeOf0
 v0:=Tryz.zeroValue0
 t3:=Tryz.underlying3
 a3:=Tryz.isAgg3
 z3:=Tryz.sizeOf3
 v3:=Tryz.zeroValue3
 t4:=Tryz.underlying4
 a4:=Tryz.isAgg4
 z4:=Tryz.sizeOf4
 v4:=Tryz.zeroValue4
 t5:=Tryz.underlying5
 a5:=Tryz.isAgg5
 z5:=Tryz.sizeOf5
 v5:=Tryz.zeroValue5
 t9:=Tryz.underlying9
 a9:=Tryz.isAgg9
 z9:=Tryz.sizeOf9
 v9:=Tryz.zeroValue9
 t28:=Tryz.underlying49
 a28:=Tryz.isAgg49
 z28:=Tryz.sizeOf49
 v28:=Tryz.zeroValue49
 t46:=Tryz.underlying146
 a46:=Tryz.isAgg146
 z46:=Tryz.sizeOf146
 v46:=Tryz.zeroValue146
 t51:=Tryz.underlying184
 a51:=Tryz.isAgg184
 z51:=Tryz.sizeOf184
 v51:=Tryz.zeroValue184
 t53:=Tryz.underlying186
 a53:=Tryz.isAgg186
 z53:=Tryz.sizeOf186
 v53:=Tryz.zeroValue186
 t131:=Tryz.underlying89
 a131:=Tryz.isAgg89
 z131:=Tryz.sizeOf89
 v131:=Tryz.zeroValue89
 t182:=Tryz.underlying177
 a182:=Tryz.isAgg177
 z182:=Tryz.sizeOf177
 v182:=Tryz.zeroValue177
 t183:=Tryz.underlying178
 a183:=Tryz.isAgg178
 z183:=Tryz.sizeOf178
 v183:=Tryz.zeroValue178
 t218:=Tryz.underlying198
 a218:=Tryz.isAgg198
 z218:=Tryz.sizeOf198
 v218:=Tryz.zeroValue198
 t222:=Tryz.underlying202
 a222:=Tryz.isAgg202
 z222:=Tryz.sizeOf202
 v222:=Tryz.zeroValue202
 t228:=Tryz.underlying206
 a228:=Tryz.isAgg206
 z228:=Tryz.sizeOf206
 v228:=Tryz.zeroValue206
 t229:=Tryz.underlying207
 a229:=Tryz.isAgg207
 z229:=Tryz.sizeOf207
 v229:=Tryz.zeroValue207 }
def Tryz.laysNm220_ren:Go.Shelf.Ren:=⟨fun | 20=>122 | n=>n,fun | 22=>49 | 3=>3 | 4=>4 | 0=>0 | n=>n,fun | n=>n⟩
theorem Tryz.laysNm220:Go.Proofs.Lays2.n20 Tryz.prog Tryz.laysNm220_ren:={
 mixed:=by kernel_rfl
 f20:=Tryz.func122.trans (congrArg some (by kernel_rfl))
 t0:=Tryz.underlying0
 a0:=Tryz.isAgg0
 z0:=Tryz.sizeOf0
 v0:=Tryz.zeroValue0
 t3:=Tryz.underlying3
 a3:=Tryz.isAgg3
 z3:=Tryz.sizeOf3
 v3:=Tryz.zeroValue3
 t4:=Tryz.underlying4
 a4:=Tryz.isAgg4
 z4:=Tryz.sizeOf4
 v4:=Tryz.zeroValue4
 t22:=Tryz.underlying49
 a22:=Tryz.isAgg49
 z22:=Tryz.sizeOf49
 v22:=Tryz.zeroValue49
 i3:=by kernel_rfl }
end Go.Proofs
namespace Go.Fw
open Go.Proofs
set_option maxHeartbeats 1000000
set_option maxRecDepth 10000
def qC(l:RZ):RZ:=l.mergeSort fun x y=>decide (x<=y)
theorem GI.cases{h:aae}{v:Value}{xs:RZ}(g:GI h v xs)(k:xs.length<=100000):(∃a cap,v=.slice a 0 cap/\xs=[])\/∃id c cap,v=.slice (some ⟨id,0,none⟩) xs.length cap/\h.own id=some (.cells c)/\c.take xs.length=yd xs/\(cap=UNK+1\/cap=xs.length/\xs.length<1000000000000)/\0<xs.length/\xs.length<=cap/\xs.length<=c.length:=by
 obtain⟨e,⟨rfl,f⟩|⟨id,c,cap,rfl,i,d,j⟩⟩:=g
 .grind
 .by_cases f:xs.length=0
  .grind
  .rw[af3]at d e;have b:xs.length<=c.length:=pw;refine .inr ⟨id,c,cap,rfl,i,d,j,NH,?_,b⟩;grind[UNK]
theorem AC.ofNone{P:Program}{n:LA}{h:aae}{f:FuncId}{a:Option Addr}{cap:Nat}{out:Value}(j:out=.tuple #[]\/out=.slice a 0 cap)(o:∀(a':Option Addr)(cap':Nat)(w:World),Calls P f #[.slice a' 0 cap'] w fun e w'=>(∃v,e=.returned v/\(out=.tuple #[]/\v=.tuple #[]\/out≠.tuple #[]/\v=.slice a' 0 cap'))/\w'=w):
  AC P n f [.slice a 0 cap] h fun x h'=>x=out/\h'=h:=by
 intro ex m w b R k;obtain⟨p,q,d⟩:=k.get (i:=0) rfl;have c:b=[p]:=by
  have g:=k.1
  match b,g with
  |[x],_=>grind
 obtain⟨a',cap',rfl⟩:=WT d;rw[c];refine(o a' cap' w).mono ?_;rintro e w' ⟨⟨v,rfl,r⟩,rfl⟩;refine⟨out,v,m,_,rfl,R,ZK.refl _ _,qL0 _,?_,rfl,rfl⟩;rcases r with⟨l,rfl⟩|⟨l,rfl⟩
 .rw[l];exact .tuple rfl (fun i v v' e=>by simp at e)
 grind
theorem OX(l:RZ):(qC l).length=l.length:=by simp[qC]
theorem VQ(l:LA){h:aae}{v:Value}{xs:RZ}(g:GI h v xs)(m:xs.length<=100000):AC Tryz.prog l 115 [v] h fun x h'=>x=.tuple #[]/\GI h' v (qC xs)/\∀f,Le f h->Z2 f v->Le f h':=by
 rcases g.cases m with⟨a,cap,rfl,rfl⟩|⟨id,c,cap,rfl,n,o,s,p,b,d⟩
 .refine(AC.ofNone (out:=.tuple #[]) (.inl rfl) fun a' cap' w=>(Any.slices_Sort_int_none Tryz.lays189 a' cap' w).mono ?_).mono ?_
  .grind
  .rintro x h' ⟨rfl,rfl⟩;exact⟨rfl,by simpa[qC]using g,fun f i _=>i⟩
 .refine(AC.ofRow (xs:=xs) (ys:=qC xs) (out:=.tuple #[]) (k:=0) n o rfl (OX xs) d b p (WA _) (.inl rfl) fun blk off cap' w r hb j=>(Any.slices_Sort_int Tryz.lays189 blk off cap' xs w r hb NH).mono ?_).mono ?_
  .rintro e w' ⟨rfl,q,os,rfl⟩;exact⟨⟨_,rfl,.inl ⟨rfl,rfl⟩⟩,q,os,rfl⟩
  .rintro x h' ⟨rfl,rfl⟩;refine⟨rfl,⟨by grind[Bp],.inr ⟨id,_,cap,by rw[OX],aae.Y3 _ _ _,?_,by grind[OX]⟩⟩,fun f i af=>i.put _ (af id rfl)⟩;rw[af3,Bc (by simp[mN]),HV (by simp[mN])];rfl
def OV(xs:RZ):(Lib.compact xs).length<=xs.length:=by have:=ajF (Lib.keeps xs.toArray) (List.range xs.length);simpa[Lib.compact,Lib.compactUpTo]using this
theorem VY(l:LA){h:aae}{v:Value}{xs:RZ}(g:GI h v xs)(m:xs.length<=100000):AC Tryz.prog l 122 [v] h fun x h'=>RL RP h' x (Lib.compact xs)/\blk x=blk v/\∀f,Le f h->Z2 f v->Le f h':=by
 rcases g.cases m with⟨a,cap,rfl,rfl⟩|⟨id,c,cap,rfl,o,p,u,r,d,i⟩
 .refine(AC.ofNone (out:=.slice a 0 cap) (.inr rfl) fun a' cap' w=>(Any.slices_Compact_int_empty Tryz.laysNm220 a' cap' w).mono ?_).mono ?_
  .grind
  .rintro x h' ⟨rfl,rfl⟩;refine⟨?_,rfl,fun f j _=>j⟩;have:Lib.compact ([]:RZ)=[]:=rfl;grind[GI.rl]
 .have s:=OV xs;refine(AC.ofRow (xs:=xs) (ys:=Lib.compact xs++List.replicate (xs.length-(Lib.compact xs).length) 0) (out:=.slice (some ⟨id,0,none⟩) (Lib.compact xs).length cap) (k:=(Lib.compact xs).length) o p rfl (by simp;omega) i d r s (.inr rfl)
   fun blk off cap' w t hb b=>(Any.slices_Compact_int Tryz.laysNm220 blk off cap' xs w t NH b).mono ?_).mono ?_
  .rintro e w' ⟨rfl,q,rfl⟩;exact⟨⟨_,rfl,.inr ⟨Ma,rfl⟩⟩,q,#[],by rw[Sort.grow_empty]⟩
  .rintro x h' ⟨rfl,rfl⟩;refine⟨RL.Wh ?_,rfl,fun f j af=>j.put _ (af id rfl)⟩;have:=RS.own (c:=cap) (n:=(Lib.compact xs).length) (aae.Y3 h id (.cells (yd (Lib.compact xs++List.replicate (xs.length-(Lib.compact xs).length) 0)++c.drop xs.length))) (off:=0) (by grind[mN]);grind[yd]
end Go.Fw
namespace Go.Fw
section
attribute [local irreducible] Kp MQ lU rS KO KN KX KE VK Kl ZJ TC aab
def zR(p:Pr)(q:Nat):Int:=if q=0 then p.1 else p.2
def ix42(p:Pr)(q:Nat)(a:q<2):aiE Tryz.prog 38 (UI p) (.int .i64 (q:Int))=some (.int .i64 (zR p q)):=by have:q=0\/q=1:=NH;rcases this with rfl|rfl<;>simp[aiE,qS8,Ac,UI,zR,ts3]<;>rfl
def ftP(on:Nat->Bool)(p:Pr):RZ:=[p.1,p.2].filter fun x=>on x.toNat
def BY(on:Nat->Bool)(es:List Pr):RZ:=es.flatMap (ftP on)
def YJ(on:Nat->Bool)(es:List Pr):RZ:=Lib.compact (qC (BY on es))
theorem Dr(on:Nat->Bool)(es:List Pr):(BY on es).length<=2*es.length:=by
 induction es<;>grind[BY,ftP]
def YB(on:Nat->Bool)(p:Pr)(q:Nat):RZ:=([p.1,p.2].take q).filter fun x=>on x.toNat
theorem BM(on:Nat->Bool)(p:Pr)(q:Nat)(a:q<2):YB on p (q+1)=YB on p q++if on (zR p q).toNat=true then[zR p q]else[]:=by
 have:q=0\/q=1:=NH;rcases this with rfl|rfl
 all_goals grind[YB,zR]
theorem feet_any(G:LA)(ev r:Value)(n:Nat)(es:List Pr)(bs:List Bool)(h:aae)(H:PR h ev es)(hb:RL sJ h r bs)(hR:InR n es)(aa:bs.length=n)(hn:es.length<=1000):
  AC Tryz.prog G 137 [ev,r] h fun x h'=>RL RP h' x (YJ (fun u=>bs.getD u false) es)/\Le h h'/\Z2 h x:=by
 refine AC.vE ⟨Tryz.func137,rfl,WY⟩ Tryz.ntmps137 Tryz.results137 fun w=>?_;simp only[Br,seval];obtain⟨I,U,y,J,V⟩:=Tt w []
 have A:abB Tryz.prog h 49 0 []=some (.slice (some ⟨h.next,0,none⟩) 0 0,I):=by rw[<-U];rfl
 have ll:=fun g=>H.len g;refine Sk (XC A ll) ?_
 have nB:h.own h.next=none:=(Le.refl h).next w (qL0 _)
 generalize h.next=B at*
 let on:Nat->Bool:=fun u=>bs.getD u false;have W:GI I (.slice (some ⟨B,0,none⟩) 0 0) (BY on (es.take 0)):=GS.full V rfl WY;refine lIn (fun k fr hh=>∃(i:Nat)(a:Value),k=es.length-i/\i<=es.length/\fr=mkF [(1,r),(5,a),(11,ev),(12,.int .i64 es.length),(13,.int .i64 i)]/\GI hh a (BY on (es.take i))/\Le h hh/\Z2 h a) ⟨0,_,rfl,WA _,rfl,W,y,fun b hb=>by grind[blk]⟩ ?_;clear W V nB A J y U I B;rintro k fr hh s ⟨i,a,rfl,hi,rfl,g,f,ap⟩;refine Uy ?_;refine Kl.intro (fun X=>?_) (fun hf=>?_)
 rotate_left
 .have K:es.length<=i:=vp hf;rw[HV K]at g;have hl:=Dr on es;refine Uy ?_;refine kCi qS33 (VQ G g NH) ?_;rintro x h2 w2 ⟨rfl,g2,k2⟩;have L:=k2 h f ap;refine Uy ?_;refine kCi Tryz.func122 (VY G g2 (by rw[OX];omega)) ?_;rintro x h3 w3 ⟨r3,bx,k3⟩;have d:=k3 h L ap;refine Uy ?_;exact⟨r3,d,fun b hb=>ap b pw⟩
 have j:i<es.length:=CC X;clear X;have t:=CA j;have M:es.take (i+1)=es.take i++[es[i]]:=EL j;generalize es[i]=p at t M;obtain⟨p1,p2,p3⟩:=hR p (BS t);have ad:=H.addr (k:=.i64) i j;have ld:=(H.le f).load t;obtain⟨ae,h3,e2,e3,d,N,o3⟩:=Ut s p
 have nE:h.own hh.next=none:=f.none ((Le.refl hh).next s (qL0 _))
 have O:∀b,blk a=some b->b≠hh.next:=fun b hb e=>by subst e;have:=GS.Sy g hb;exact this ((Le.refl hh).next s (qL0 _))
 have P:=g.le d;have m:=f.trans d;have LP:=uM o3
 generalize hh.next=E at*
 simp only[HO,seval,ad,ld,e2,e3,LP];have C:BY on (es.take i)=BY on (es.take i)++YB on p 0:=by simp[YB]
 rw[C]at P;refine lIn (fun k fr F=>∃(q:Nat)(a:Value),k=2-q/\q<=2/\fr=mkF [(1,r),(5,a),(11,ev),(12,.int .i64 es.length),(13,.int .i64 i),(17,UI p),(18,.int .i64 q)]/\GI F a (BY on (es.take i)++YB on p q)/\Le h F/\Z2 h a) ⟨0,_,rfl,WA _,rfl,P,m,ap⟩ ?_;clear C P O ap g a LP m nE o3 N d e2 e3;rintro k fr F Q ⟨q,a,rfl,ag,rfl,g,leq,ap⟩;have hlen:(BY on (es.take i)++YB on p q).length<=100000:=by grind[Dr,YB,Nat.min_le_right]
 by_cases c:q<2
 rotate_left
 .have z:((q:Int)<2)=False:=eq_false NH;obtain rfl:q=2:=NH;have D:BY on (es.take i)++YB on p 2=BY on (es.take (i+1)):=by grind[BY,YB,ftP]
  rw[D]at g;refine Sk (XC z (Tw i NH)) ?_;exact lgA NH ⟨i+1,a,rfl,j,rfl,g,leq,ap⟩
 have z:((q:Int)<2)=True:=eq_true NH;have R:=ix42 p q c;have o:0<=zR p q/\zR p q<(n:Int):=by grind[zR]
 have l:=BM on p q c;generalize zR p q=x at R o l;obtain⟨v,rfl⟩:=Z6 o.1;have S:v<bs.length:=NH;have oa:abX Tryz.prog 59 r (.int .i64 (v:Int))=some (.pointer (some (abv r v))):=hb.LB v S;have ol:acd Tryz.prog F 4 (abv r v)=some (.bool (on v)):=by rw[(hb.le Nn.sJ leq).W7 v S];simp only[on];rw[D4 S]
 rw[af8]at l;cases c2:on v with
 |false=>rw[c2]at ol l;have D:BY on (es.take i)++YB on p q=BY on (es.take i)++YB on p (q+1):=pw;rw[D]at g;simp only[HO,seval,z,R,oa,ol,Tw q NH];exact lgA NH ⟨q+1,a,rfl,c,rfl,g,leq,ap⟩
 |true=>rw[c2]at ol l;obtain⟨T,h4,h5,e4,e5,g5,w5,l4,hf,-⟩:=g.push Q (v:Int) hlen;obtain⟨l5,a5⟩:=hf h leq ap;have D:BY on (es.take i)++YB on p q++[(v:Int)]=BY on (es.take i)++YB on p (q+1):=pw;rw[D]at g5;simp only[HO,seval,z,R,oa,ol,e4,e5,Tw q NH];exact lgA NH ⟨q+1,T,rfl,c,rfl,g5,l5,a5⟩
def Zo(n:Nat)(on:Nat->Bool)(L:RZ)(p:Pr)(i:Nat):Int:=if on p.1.toNat=false then L.getD p.1.toNat 0 else if on p.2.toNat=false then L.getD p.2.toNat 0 else(n:Int)+i
theorem frag_any(A:LA)(ev g s:Value)(n:Nat)(es:List Pr)(bs:List Bool)(L:RZ)(B O T:Nat)(i:Nat)(p:Pr)(h:aae)(t:PR h ev es)(hb:RL sJ h g bs)(w:RL RP h s L)(hR:InR n es)(C:bs.length=n)(D:L.length=n)(l0:acd Tryz.prog h 3 ⟨B,0,none⟩=some (.int .i64 n))(l1:acd Tryz.prog h 22 ⟨B,1,none⟩=some ev)(l2:acd Tryz.prog h 59 ⟨O,0,none⟩=some g)(l3:acd Tryz.prog h 49 ⟨T,0,none⟩=some s)(f:es[i]?=some p)(M:n<=100000)(E:es.length<=100000):
  AC Tryz.prog A 136 [.int .i64 (i:Int),.pointer (some ⟨B,0,none⟩),.pointer (some ⟨O,0,none⟩),.pointer (some ⟨T,0,none⟩)] h fun x h'=>x=.int .i64 (Zo n (fun u=>bs.getD u false) L p i)/\h'=h:=by
 refine AC.vE ⟨Tryz.func136,rfl,WY⟩ Tryz.ntmps136 Tryz.results136 fun F=>?_;simp only[Br,seval];have l:=(Ny.1 f).1;obtain⟨N,P,Q⟩:=hR p (BS f);have ad:=t.addr (k:=.i64) i l;have ld:=t.load f;simp only[HO,seval,Di,Ip,Gc,l1,ad,ld];let on:Nat->Bool:=fun u=>bs.getD u false;refine lIn (fun k fr m=>∃q:Nat,k=2-q/\q<=2/\m=h/\fr=mkF [(0,.int .i64 i),(1,.pointer (some ⟨B,0,none⟩)),(2,.pointer (some ⟨O,0,none⟩)),(3,.pointer (some ⟨T,0,none⟩)),(12,UI p),(13,.int .i64 q)]/\∀j,j<q->on (zR p j).toNat=true) ⟨0,rfl,WA _,rfl,rfl,NH⟩ ?_;rintro k fr m-⟨q,rfl,G,rfl,rfl,d⟩;by_cases c:q<2
 rotate_left
 .have z:((q:Int)<2)=False:=eq_false NH;obtain rfl:q=2:=NH;have H:=d 0 NH;have c1:=d 1 NH;simp only[zR,if_true,afx,if_false]at H c1;have hf:Zo n on L p i=(n:Int)+i:=by grind[Zo]
  have wr:adA .i64 ((n:Int)+(i:Int))=(n:Int)+i:=cT _ NH NH;simp only[HO,seval,z,Ii,Ip,Gc,l0,wr];grind
 have z:((q:Int)<2)=True:=eq_true NH;have o:=ix42 p q c;have e:0<=zR p q/\zR p q<(n:Int):=by grind[zR]
 have b:on (zR p q).toNat=false->Zo n on L p i=L.getD (zR p q).toNat 0:=fun I=>by have:q=0\/q=1:=NH;grind[zR,Zo]
 have a:on (zR p q).toNat=true->∀j,j<q+1->on (zR p j).toNat=true:=fun I j R=>by grind
 generalize zR p q=x at o e b a;obtain⟨v,rfl⟩:=Z6 e.1;rw[af8]at b a;have r:v<bs.length:=NH;have y:abX Tryz.prog 59 g (.int .i64 (v:Int))=some (.pointer (some (abv g v))):=hb.LB v r;have ol:acd Tryz.prog m 4 (abv g v)=some (.bool (on v)):=by rw[hb.W7 v r];simp only[on];rw[D4 r]
 have J:=w.TA v NH;have K:=w.Uc v NH;cases c2:on v with
 |true=>rw[c2]at ol;simp only[HO,seval,z,o,l2,y,ol,Tw q NH];exact lgA NH ⟨q+1,rfl,c,rfl,rfl,a c2⟩
 |false=>rw[c2]at ol;have hf:=b c2;rw[D4 NH]at hf;simp only[HO,seval,z,o,l2,y,ol,l3,J,K];grind
variable {M:Nat} {b0 h h':aae} {us:List Value}
abbrev Gr:=Int×List Pr
def Ea(gs:List Gr):RZ:=gs.map (·.1)
def ahc:List Gr->Int->List Pr
 |[],_=>[]
 |(k,l)::r,f=>if k=f then l else ahc r f
def agN:List Gr->Int->Pr->List Gr
 |[],f,p=>[(f,[p])]
 |(k,l)::r,f,p=>if k=f then(k,l++[p])::r else(k,l)::agN r f p
def abN(gs:List Gr)(us:List Value):List (Value×Value):=(gs.zip us).map fun x=>(.int .i64 x.1.1,x.2)
theorem Ga(f:Int):∀(gs:List Gr)(us:List Value)(i:Nat),us.length=gs.length->
  (f∉Ea gs/\ah2 .i64 f (abN gs us) i=some none/\ahc gs f=[]/\∀p,agN gs f p=gs++[(f,[p])])\/
  ∃(j:Nat)(l:List Pr)(u:Value),gs[j]?=some (f,l)/\us[j]?=some u/\ah2 .i64 f (abN gs us) i=some (some (i+j,u))/\ahc gs f=l/\∀p,agN gs f p=gs.set j (f,l++[p])
 |[],us,i,h=>.inl (by simp[Ea,abN,ah2,ahc,agN])
 |(k,l)::gs,[],i,h=>by simp at h
 |(k,l)::gs,u::us,i,h=>by
  have e:abN ((k,l)::gs) (u::us)=(.int .i64 k,u)::abN gs us:=rfl;by_cases c:f=k
  .subst c;exact .inr ⟨0,l,u,rfl,rfl,by grind[ah2.eq_2],by simp[ahc],fun p=>by simp[agN]⟩
  .have c':¬k=f:=fun h=>c h.symm;rcases Ga f gs us (i+1) (by simpa using h)with⟨a,h2,h3,b⟩|⟨j,l',u',a,h2,h3,b,d⟩
   .grind[Ea,ah2.eq_2,ahc.eq_2,agN.eq_2]
   .exact .inr ⟨j+1,l',u',pw,pw,by grind[ah2.eq_2],by grind[ahc.eq_2],fun p=>by grind[agN.eq_2]⟩
def adS{f:Int}{l l':List Pr}{u':Value}:∀(gs:List Gr)(us:List Value)(j:Nat),us.length=gs.length->gs[j]?=some (f,l)->abN (gs.set j (f,l')) (us.set j u')=(abN gs us).set j (.int .i64 f,u')
 |[],us,j,h,e=>by simp at e
 |g::gs,[],j,h,e=>by simp at h
 |g::gs,u::us,0,h,e=>by simp at e;subst e;rfl
 |g::gs,u::us,j+1,h,e=>by have:=adS (l':=l') (u':=u') gs us j (by simpa using h) (by simpa using e);show(.int .i64 g.1,u)::abN (gs.set j (f,l')) (us.set j u')=(.int .i64 g.1,u)::(abN gs us).set j (.int .i64 f,u');rw[this]
def Iv{gs:List Gr}(a:us.length=gs.length)(g:Gr)(u:Value):abN (gs++[g]) (us++[u])=abN gs us++[(.int .i64 g.1,u)]:=by rw[abN,List.zip_append a.symm];simp[abN]
structure aaB (b0 h:aae) (M:Nat) (us:List Value) (gs:List Gr):Prop where
 oM:h.own M=some (.map (abN gs us))
 len:us.length=gs.length
 gp:∀(j:Nat) u g,us[j]?=some u->gs[j]?=some g->GP h u g.2
 nM:∀(j:Nat) u,us[j]?=some u->blk u≠some M
 TE:∀(j k:Nat) u u' b,j≠k->us[j]?=some u->us[k]?=some u'->blk u=some b->blk u'≠some b
 ap:∀(j:Nat) u,us[j]?=some u->Z2 b0 u
 le:Le b0 h
 bM:b0.own M=none
def aaB.keep{gs:List Gr}(R:aaB b0 h M us gs)(le:Le b0 h')(a:∀b o,h.own b=some o->(b=M\/∃(j:Nat)(u:Value),us[j]?=some u/\blk u=some b)->h'.own b=some o):aaB b0 h' M us gs:=⟨a _ _ R.oM (.inl rfl),R.len,fun j u g c hg=>GS.kept (R.gp j u g c hg) fun b o hb d=>a b o d (.inr ⟨j,u,c,hb⟩),R.nM,R.TE,R.ap,le,R.bM⟩
theorem aaB.up{gs:List Gr}(R:aaB b0 h M us gs)(e:Le h h'):aaB b0 h' M us gs:=R.keep (R.le.trans e) fun b o a _=>e.own _ _ a
def B9:ag2 Tryz.prog 22=some (.slice none 0 0):=Ji
theorem aaB.look{gs:List Gr}(R:aaB b0 h M us gs)(f:Int):∃u,agI Tryz.prog h 110 (.map (some M)) (.int .i64 f) false=some u/\GP h u (ahc gs f):=by
 rcases Ga f gs us 0 R.len with⟨a,h2,h3,b⟩|⟨j,l,u,a,h2,h3,b,c⟩
 .refine⟨.slice none 0 0,?_,by grind[GP.nil]⟩;simp[agI,qS7,Ac,R.oM,B9,h2,Fw.flat]
 .refine⟨u,?_,by grind[aaB.gp]⟩;simp[agI,qS7,Ac,R.oM,B9,h3,Fw.flat]
theorem aaB.push{b0 h:aae}{M:Nat}{us:List Value}{gs:List Gr}(R:aaB b0 h M us gs)(z:WF h)(f:Int)(p:Pr)(N:(ahc gs f).length+1<=100000):
  ∃u u' w A E B,agI Tryz.prog h 110 (.map (some M)) (.int .i64 f) false=some u/\abB Tryz.prog h 22 1 [(0,UI p)]=some (.slice (some ⟨h.next,0,none⟩) 1 1,w)/\adg Tryz.prog w 22 22 u (.slice (some ⟨h.next,0,none⟩) 1 1)=some (u',A)/\
   ahp Tryz.prog A 110 (.map (some M)) (.int .i64 f) u'=some E/\aaB b0 E M B (agN gs f p)/\WF E/\Le h w/\
   (∀b o,h.own b=some o->b≠M->(∀(j:Nat) a,us[j]?=some a->blk a≠some b)->A.own b=some o/\E.own b=some o/\∀(j:Nat) a,B[j]?=some a->blk a≠some b):=by
 rcases Ga f gs us 0 R.len with⟨F,h2,h3,w⟩|⟨j,l,u,F,h2,h3,w,A⟩
 .obtain⟨u',G,x,H,I,s,C,l4,hf,y⟩:=(GP.nil h).push z p Ma;have c:∀b o,h.own b=some o->x.own b=some o/\blk u'≠some b:=fun b o d=>y b o d (by simp[blk]);obtain⟨l5,O⟩:=hf b0 R.le (fun b hb=>by grind[blk]);have m:=(c _ _ R.oM).1;refine⟨.slice none 0 0,u',G,x,x.put M (.map (abN gs us++[(.int .i64 f,u')])),us++[u'],by simp[agI,qS7,Ac,R.oM,B9,h2,Fw.flat],H,I,by simp only[ahp,qS7,Ac,m,h2],?_,C.put _ (C.lt m),l4,fun b o d hb J=>⟨(c b o d).1,by rw[aae.By _ _ _ _ hb];exact(c b o d).1,fun k a ha=>?_⟩⟩
  .rw[w];have P:=Iv R.len (f,[p]) u';have t:∀(k:Nat) a,(us++[u'])[k]?=some a->(us[k]?=some a)\/(k=us.length/\a=u'):=fun k a ha=>by grind
   refine⟨by grind[aae.Y3],by simp[R.len],fun k a g ha hg=>?_,fun k a ha=>?_,fun k v a a' b K ha mi hb=>?_,fun k a ha=>?_,l5.put _ R.bM,R.bM⟩
   .rcases t k a ha with xa|⟨rfl,rfl⟩
    .have Q:=(Ny.1 xa).1;rw[kc (by grind[aaB.len])]at hg;exact GS.put (GS.kept (R.gp k a g xa hg) fun b o hb d=>(c b o d).1) _ (R.nM k a xa)
    .rw[Og (by grind[aaB.len]),R.len]at hg;simp at hg;subst hg;have:([]++[p]:List Pr)=[p]:=rfl;rw[this]at s;exact GS.put s _ (c _ _ R.oM).2
   .grind[aaB.nM,aaB.oM]
   .rcases t k a ha with xa|⟨rfl,rfl⟩
    .rcases t v a' mi with n|⟨rfl,rfl⟩
     .grind[aaB.TE]
     .have r:∃q,gs[k]?=some q:=⟨_,CA (by grind[aaB.len])⟩;obtain⟨q,D⟩:=r;obtain⟨o,d⟩:=iy.1 (GS.Sy (R.gp k a q xa D) hb);grind
    .rcases t v a' mi with n|⟨rfl,rfl⟩
     .intro sZ;have r:∃q,gs[v]?=some q:=⟨_,CA (by grind[aaB.len])⟩;obtain⟨q,D⟩:=r;obtain⟨o,d⟩:=iy.1 (GS.Sy (R.gp v a' q n D) sZ);grind
     grind
   grind[aaB.ap]
  grind
 .rw[w]at N;have S:=R.gp j u _ h2 F;obtain⟨u',G,x,H,I,s,C,l4,hf,y⟩:=GP.push S z p N;obtain⟨l5,O⟩:=hf b0 R.le (R.ap j u h2);have m:=y _ _ R.oM (R.nM j u h2);have T:=(Ny.1 h2).1;have i:∀(k:Nat) a,(us.set j u')[k]?=some a->(k≠j/\us[k]?=some a)\/(k=j/\a=u'):=fun k a ha=>by grind
  have own:∀(k:Nat) a b,us[k]?=some a->blk a=some b->∃o,h.own b=some o:=fun k a b ha hb=>by have r:∃q,gs[k]?=some q:=⟨_,CA (by grind[aaB.len])⟩;obtain⟨q,D⟩:=r;exact iy.1 (GS.Sy (R.gp k a q ha D) hb)
  refine⟨u,u',G,x,x.put M (.map ((abN gs us).set (0+j) (.int .i64 f,u'))),us.set j u',by simp[agI,qS7,Ac,R.oM,B9,h3,Fw.flat],H,I,by simp only[ahp,qS7,Ac,m.1,h3],?_,C.put _ (C.lt m.1),l4,fun b o d hb J=>⟨(y b o d (J j u h2)).1,by rw[aae.By _ _ _ _ hb];exact(y b o d (J j u h2)).1,fun k a ha=>?_⟩⟩
  .rw[A];have P:=adS (l':=l++[p]) (u':=u') gs us j R.len F;have L:=(Ny.1 F).1;refine⟨by grind[aae.Y3],by simp[R.len],fun k a g ha hg=>?_,fun k a ha=>?_,fun k v a a' b K ha mi hb=>?_,fun k a ha=>?_,l5.put _ R.bM,R.bM⟩
   .rcases i k a ha with⟨e,xa⟩|⟨rfl,rfl⟩
    .rw[VU,aal (Hs e)]at hg;exact GS.put (GS.kept (R.gp k a g xa hg) fun b o hb d=>(y b o d (fun sZ=>R.TE k j a u b e xa h2 hb sZ)).1) _ (R.nM k a xa)
    .rw[VU,AE rfl,AE L]at hg;injection hg with hg;subst hg;exact GS.put s _ m.2
   .grind[aaB.nM]
   .rcases i k a ha with⟨e,xa⟩|⟨rfl,rfl⟩
    .rcases i v a' mi with⟨e',n⟩|⟨rfl,rfl⟩
     .grind[aaB.TE]
     .obtain⟨o,d⟩:=own k a b xa hb;grind[aaB.TE]
    .rcases i v a' mi with⟨e',n⟩|⟨rfl,rfl⟩
     .intro sZ;obtain⟨o,d⟩:=own v a' b n sZ;grind[aaB.TE]
     grind
   grind[aaB.ap]
  grind
variable {es ps web:List Pr} {fr:Pr->Nat->Int} {gs:List Gr} {i:Nat} {p:Pr} {xs:RZ}
theorem RY(gs:List Gr)(f:Int)(p:Pr):Ea (agN gs f p)=if f∈Ea gs then Ea gs else Ea gs++[f]:=by
 induction gs<;>grind[Ea,agN]
theorem keysG_nd(h:(Ea gs).Nodup)(f:Int)(p:Pr):(Ea (agN gs f p)).Nodup:=by grind[RY]
theorem addG_ne(h:∀g∈gs,g.2≠[])(f:Int)(p:Pr):∀g∈agN gs f p,g.2≠[]:=by
 induction gs with
 |nil=>grind[agN]
 |cons g gs b=>
  obtain⟨k,l⟩:=g;intro x a;by_cases c:k=f
  .simp only[agN,AE c,vZ]at a;rcases a with rfl|a
   .simp
   grind
  grind[agN]
theorem NI{f:Int}{l:List Pr}:∀{gs:List Gr}{i:Nat},(Ea gs).Nodup->gs[i]?=some (f,l)->ahc gs f=l
 |[],i,_,e=>by simp at e
 |(k,l')::gs,0,_,e=>by grind[ahc]
 |(k,l')::gs,i+1,h,e=>by simp only[Ea,U9,jz]at h;have b:f∈Ea gs:=N8.2 ⟨(f,l),BS (by simpa using e),rfl⟩;have a:¬k=f:=fun e=>h.1 pw;rw[ahc,aal a];exact NI h.2 (by simpa using e)
theorem rV{f:Int}:∀{gs:List Gr},(∀g∈gs,g.2≠[])->(f∈Ea gs↔ahc gs f≠[])
 |[],_=>by simp[Ea,ahc]
 |(k,l)::gs,h=>by
  by_cases c:k=f
  .subst c;have a:l≠[]:=h (k,l) Ma;grind[Ea,ahc]
  .have c':¬f=k:=fun h=>c h.symm;have:=rV (f:=f) (gs:=gs) fun g hg=>h g (by simp[hg]);grind[ahc.eq_2,Ea]
def Ft(f:Int):∀(gs:List Gr)(m:Nat),(∀g∈gs,g.2.length<=m)->(ahc gs f).length<=m
 |[],m,_=>by simp[ahc]
 |(k,l)::gs,m,h=>by
  by_cases c:k=f
  .rw[ahc,AE c];exact h (k,l) Ma
  .rw[ahc,aal c];exact Ft f gs m fun g hg=>h g (by simp[hg])
theorem Zk(f:Int)(p:Pr):∀(gs:List Gr)(m:Nat),(∀g∈gs,g.2.length<=m)->∀g∈agN gs f p,g.2.length<=m+1
 |[],m,_=>fun g hg=>by grind[agN]
 |(k,l)::gs,m,h=>fun g hg=>by
  have a:=h (k,l) Ma;by_cases c:k=f
  .grind[agN]
  .simp only[agN,aal c,vZ]at hg;rcases hg with rfl|hg
   .grind
   .exact Zk f p gs m (fun g hg=>h g (by simp[hg])) g hg
def ac3(fr:Pr->Nat->Int)(es web:List Pr):Nat->List Gr
  |0=>[]
  |i+1=>match es[i]? with
    |some p=>if p∈web then ac3 fr es web i else agN (ac3 fr es web i) (fr p i) p
    |none=>ac3 fr es web i
theorem JJ(h:es[i]?=some p)(hw:p∈web):ac3 fr es web (i+1)=ac3 fr es web i:=by grind[ac3]
theorem dh(h:es[i]?=some p)(hw:p∉web):ac3 fr es web (i+1)=agN (ac3 fr es web i) (fr p i) p:=by grind[ac3]
theorem Pt(fr:Pr->Nat->Int)(es web:List Pr)(i:Nat):(Ea (ac3 fr es web i)).Nodup/\(∀g∈ac3 fr es web i,g.2≠[])/\(∀g∈ac3 fr es web i,g.2.length<=i)/\(ac3 fr es web i).length<=i/\∀g∈ac3 fr es web i,∀p∈g.2,p∈es:=by
  have a:∀(gs:List Gr)(f:Int)(p:Pr),(∀g∈gs,∀q∈g.2,q∈es)->p∈es->∀g∈agN gs f p,∀q∈g.2,q∈es:=by
    intro gs f p
    induction gs with
    |nil=>grind[agN]
    |cons g gs m=>
      obtain⟨k,l⟩:=g;intro h e x d;by_cases c:k=f
      · simp only[agN,AE c,vZ]at d
        rcases d with rfl|d
        · intro q j;simp only[yM,jf]at j
          rcases j with j|rfl
          .exact h (k,l) Ma q j
          .exact e
        grind
      · simp only[agN,aal c,vZ]at d
        rcases d with rfl|d
        .exact h _ Ma
        .exact m (fun g hg=>h g (by simp[hg])) e x d
  have b:∀(gs:List Gr)(f:Int)(p:Pr),(agN gs f p).length<=gs.length+1:=by
    intro gs f p
    induction gs<;>grind[agN]
  induction i with
  |zero=>simp[ac3,Ea]
  |succ i m=>
    obtain⟨n,h2,h3,r,o⟩:=m;have up:∀g∈ac3 fr es web i,g.2.length<=i+1:=fun g hg=>by grind
    cases e:es[i]? with
    | none => have:ac3 fr es web (i+1)=ac3 fr es web i:=by grind[ac3]
              rw[this];grind
    |some p=>
      by_cases c:p∈web
      .rw[JJ e c];grind
      · rw[dh e c]
        exact⟨keysG_nd n _ _,addG_ne h2 _ _,Zk _ _ _ _ h3,pw,a _ _ _ o (BS e)⟩
structure FM where
 zp:List Pr
 Fm:RZ
def FL(h:aae)(v:Value)(c:List FM):Prop:=∃cs,CS 2 h v c.length cs/\∀(i:Nat) f,c[i]?=some f->∃a b,cs[i*2]?=some a/\cs[i*2+1]?=some b/\PR h a f.zp/\RL RP h b f.Fm
def zB:UA Tryz.prog 122=2:=Ji
theorem mkFr(h:aae)(n:Nat)(d:n<=100000):∃c,afD Tryz.prog h 118 (.int .i64 (n:Int)) (.int .i64 (n:Int))=some (.slice (some ⟨h.next,0,none⟩) n n,h.alloc (.cells c))/\c.length=n*2:=by
 have e:ag2 Tryz.prog 122=some (.agg #[.slice none 0 0,.slice none 0 0]):=Ji;have hb:(Tryz.prog.bytesOf 122).ble 1000=true:=Ji;have a:(Tryz.prog.bytesOf 122:Int)*n<=140737488355328:=by have:Tryz.prog.bytesOf 122*n<=1000*1000000:=aiD (qL209 hb) NH;have h2:((Tryz.prog.bytesOf 122*n:Nat):Int)<=1000000000:=NH;rw[Int.natCast_mul]at h2;omega
 have b:(n:Int)<=140737488355328:=NH;have f:(Value.agg #[.slice none 0 0,.slice none 0 0]).cells=#[.slice none 0 0,.slice none 0 0]:=rfl;have g:(ahh [Value.slice none 0 0,Value.slice none 0 0] n).all (·.oneCell')=true:=by
  clear a b d
  induction n with
  |zero=>rfl
  |succ n i=>simp only[ahh,agb,i,sD];rfl
 refine⟨ahh [.slice none 0 0,.slice none 0 0] n,?_,by grind[jY]⟩;simp[afD,qS23,KT,e,f,zB,a,b,IF,g,Fw.flat]
def stFr{F i:Nat}{c:List Value}{a b:Value}(d:h.own F=some (.cells c))(hi:i*2+2<=c.length)(ha:PR h a ps)(hb:RL RP h b xs):
  acs Tryz.prog h 122 (.pointer (some ⟨F,i*2,none⟩)) (.agg #[a,b])=some (h.put F (.cells ((c.set (i*2) a).set (i*2+1) b))):=by
 have e:=ha.sl.one;have h2:=hb.one;have f:(Value.agg #[a,b]).cells=#[a,b]:=rfl;simp[acs,d,f,zB,putCells,KT,e,h2,hi]
theorem wP:∀(a b:RZ),a.Pairwise (·<·)->b.Pairwise (·<·)->(∀x,x∈a↔x∈b)->a=b
 |[],[],_,_,_=>rfl
 |[],y::b,_,_,h=>by have:=(h y).2 Ma;simp at this
 |x::a,[],_,_,h=>by have:=(h x).1 Ma;simp at this
 |x::a,y::b,ha,hb,h=>by
  rw[gK]at ha hb;have e:x=y:=by have c:=(h x).1 Ma;have h2:=(h y).2 Ma;grind
  subst e;rw[wP a b ha.2 hb.2 fun z=>?_];grind
theorem jn(l:RZ)(x:Int):x∈Lib.compact l↔x∈l:=by
 simp only[Lib.compact,Lib.compactUpTo,N8,uV,j3];constructor
 .grind
 .intro b;obtain⟨j,a,rfl⟩:=fj.1 b
  induction j with
  |zero=>exact⟨0,⟨a,by simp[Lib.keeps]⟩,pw⟩
  |succ j d=>
   by_cases c:l[j+1]=l[j]
   .grind
   .refine⟨j+1,⟨a,?_⟩,pw⟩;simp only[Lib.keeps,vg,Nat.add_sub_cancel];grind
theorem akW{l:RZ}(h:l.Pairwise (·<=·)):(Lib.compact l).Pairwise (·<·):=by
 simp only[Lib.compact,Lib.compactUpTo];rw[pz];have f:((List.range l.length).filter (Lib.keeps l.toArray)).Pairwise (·<·):=by grind[List.pairwise_lt_range]
 refine b7 ?_ f;intro i j hi c g;rw[uV,j3]at hi c;obtain⟨b,a⟩:=c;simp only[Lib.keeps,vg]at a;rw[getElem!_pos _ i (by simp;omega),getElem!_pos _ j pw]at*;rcases a with d|d
 .omega
 .rw[getElem!_pos _ (j-1) (by simp;omega)]at d;rw[wI]at h;simp only[amn]at*;have h2:=h (j-1) j NH b NH;by_cases e:i=j-1
  .grind
  .have:=h i (j-1) NH NH NH;omega
theorem Wv(l:RZ)(x:Int):x∈qC l↔x∈l:=by simp[qC]
theorem aQ(l:RZ):(qC l).Pairwise (·<=·):=by grind[List.pairwise_mergeSort,qC]
variable {n s u v w:Nat} {o:II} {up:RZ}
abbrev offA:Nat->Bool:=fun _=>false
abbrev Pu(es:List Pr):Nat->Nat->Prop:=Cn offA es
theorem Pu.refl(es:List Pr)(u:Nat):Pu es u u:=Cn.refl rfl
theorem abp(h:Jp es u w):Pu es u w:=.step (.refl rfl) h rfl
theorem Pu.lt{n:Nat}{es:List Pr}(b:InR n es){u w:Nat}(h:Pu es u w)(c:u<n):w<n:=by
 induction h with
 |refl _=>exact c
 |step _ a _ _=>exact(a.lt b).2
theorem du.bp(d:du n es s o up):∀v∈o,Pu es s v:=by
 induction d with
 |start=>grind[Pu.refl]
 |step d c ha _ _ _ b=>
  intro x a;rw[yM,jf]at a;rcases a with a|rfl
  .exact b x a
  .exact .step (b _ (BS c)) ha rfl
theorem du.head(d:du n es s o up):o[0]?=some s:=by
 induction d<;>grind
theorem du.nodup(d:du n es s o up):o.Nodup:=by
 induction d<;>grind
theorem Oc.mem(d:Oc n es s o up)(v:Nat):v∈o↔Pu es s v:=by
 refine⟨d.KP.bp v,fun h=>?_⟩
 induction h with
 |refl _=>exact BS d.KP.head
 |step _ a _ b=>exact d.full _ b _ a
open Classical in
noncomputable def Ic(n:Nat)(es:List Pr)(v:Nat):II:=(List.range n).filter fun w=>decide (Pu es v w)
open Classical in
noncomputable def Es(n:Nat)(es:List Pr):II:=(List.range n).filter fun v=>decide (∀u,u<v->¬Pu es u v)
noncomputable def Gx(n:Nat)(es:List Pr)(k:Nat):Cs:=((Es k es).map (Ic n es))
theorem mY:w∈Ic n es v↔w<n/\Pu es v w:=by simp[Ic]
theorem QO:v∈Es n es↔v<n/\∀u,u<v->¬Pu es u v:=by simp[Es]
theorem yP(k:Nat)(es:List Pr):(Es (k+1) es=Es k es++[k]/\∀u,u<k->¬Pu es u k)\/(Es (k+1) es=Es k es/\∃u,u<k/\Pu es u k):=by grind[Es,List.range_succ]
theorem vH(k:Nat)(es:List Pr):(Es k es).length<=k:=by grind[Es]
theorem uA(n:Nat):(List.range n).Pairwise (·<·):=by grind[List.pairwise_iff_getElem]
theorem SU(n:Nat)(es:List Pr)(v:Nat):(Ic n es v).Pairwise (·<·):=(uA n).filter _
theorem fM(b:InR n es)(d:Oc n es s o up)(hs:s<n):qC (aaa o)=aaa (Ic n es s):=by
 have c:(aaa (Ic n es s)).Pairwise (·<·):=by grind[aaa.eq_1,SU]
 have e:(qC (aaa o)).Pairwise (·<·):=by
  have nd:(qC (aaa o)).Nodup:=by have a:(qC (aaa o)).Perm (aaa o):=Ug _ _;rw[a.nodup_iff,aaa];have:=d.KP.nodup;grind
  have:=List.Pairwise.and (aQ (aaa o)) (Gw.1 nd);grind
 grind[wP,Wv,aaa,mY,Oc.mem,Pu.lt]
end
end Go.Fw
namespace Go.Fw
inductive pJ (up:Nat->Option Nat):Nat->Nat->Prop
 |refl (a:Nat):pJ up a a
 |step {a b c:Nat}:pJ up a b->up c=some b->pJ up a c
theorem pJ.one{up:Nat->Option Nat}{b c:Nat}(h:up c=some b):pJ up b c:=.step (.refl b) h
theorem pJ.trans{up:Nat->Option Nat}{a b c:Nat}(h:pJ up a b)(k:pJ up b c):pJ up a c:=by
 induction k with
 |refl=>exact h
 |step _ e d=>exact .step d e
theorem pJ.chain{up:Nat->Option Nat}{a b c:Nat}(h:pJ up a c)(k:pJ up b c):pJ up a b\/pJ up b a:=by
 induction h with
 |refl=>exact .inr k
 |@step x c h e d=>
  cases k with
  |refl=>exact .inl (h.step e)
  |@step y _ k e'=>grind
theorem pJ.child{up:Nat->Option Nat}{a b:Nat}(h:pJ up a b)(ne:a≠b):∃c,up c=some a/\pJ up c b:=by
 induction h with
 |refl=>grind
 |@step x c h e f=>
  by_cases q:a=x
  .subst q;exact⟨c,e,.refl c⟩
  .obtain⟨d,g,h2⟩:=f q;exact⟨d,g,h2.step e⟩
theorem pJ.last{up:Nat->Option Nat}{a b:Nat}(h:pJ up a b)(ne:a≠b):∃c,up b=some c/\pJ up a c:=by
 cases h<;>grind
structure Fo (n:Nat) (es:List Pr) (num:Nat->Nat) (up:Nat->Option Nat):Prop where
 rD:InR n es
 inj:∀u v,u<n->v<n->num u=num v->u=v
 Kd:∀v u,v<n->up v=some u->Jp es u v/\num u<num v
 iA:∀a b,Jp es a b->num a<num b->pJ up a b
abbrev wo(v:Nat):Nat->Bool:=fun x=>x==v
theorem iO{v x:Nat}(h:x≠v):wo v x=false:=pw
def ym(es:List Pr)(num:Nat->Nat)(up:Nat->Option Nat)(v c:Nat):Prop:=∃x w,pJ up c x/\Jp es x w/\num w<num v
def Nt(es:List Pr)(up:Nat->Option Nat)(u w:Nat):Prop:=Jp es u w/\up u≠some w/\up w≠some u
structure Iw (es:List Pr) (num:Nat->Nat) (up:Nat->Option Nat) (D:Nat->Nat->Prop) (v:Nat) (x:Nat):Prop where
 self:x<=num v
 back:∀u w,D v u->Nt es up u w->x<=num w
 some_:x=num v\/∃u w,D v u/\Nt es up u w/\x=num w
namespace Fo
variable{n:Nat}{es:List Pr}{num:Nat->Nat}{up:Nat->Option Nat}
theorem yO(F:Fo n es num up){a b:Nat}(h:pJ up a b)(hb:b<n):a<n/\(a=b\/num a<num b):=by
 induction h with
 |refl=>grind
 |@step x c h e d=>obtain⟨f,h2⟩:=F.Kd c x hb e;obtain⟨h3,g⟩:=d (f.lt F.rD).1;grind
theorem JD(F:Fo n es num up){a b:Nat}(h:Jp es a b):num a≠num b:=by intro e;have:=F.inj a b (h.lt F.rD).1 (h.lt F.rD).2 e;rcases h with h|h<;>have:=F.rD _ h<;>simp only at this<;>omega
def along(F:Fo n es num up){a b v:Nat}(h:pJ up a b)(hb:b<n)(d:∀x,pJ up a x->pJ up x b->x≠v):Cn (wo v) es a b:=by
 induction h with
 |refl=>exact .refl (iO (d _ (.refl _) (.refl _)))
 |@step x c h e g=>obtain⟨f,h2⟩:=F.Kd c x hb e;exact .step (g (f.lt F.rD).1 fun y h3 i=>d y h3 (i.step e)) f (iO (d c (h.step e) (.refl c)))
def WU(F:Fo n es num up){a v:Nat}(h:pJ up a v)(ne:a≠v)(b:v<n):num a<num v:=(F.yO h b).2.resolve_left ne
theorem xG(F:Fo n es num up){a b v:Nat}(d:v<n)(ha:pJ up a v)(f:a≠v)(hb:pJ up b v)(nb:b≠v):Cn (wo v) es a b:=by
 have key:∀{a b:Nat},pJ up a b->pJ up b v->b≠v->Cn (wo v) es a b:=by intro a b h hb nb;have c:=(F.yO hb d).1;refine F.along h c fun x _ g e=>?_;grind[Fo.yO]
 grind[pJ.chain,Cn.symm]
theorem below(F:Fo n es num up){c a v:Nat}(ha:a<n)(d:up c=some v)(h:pJ up c a):Cn (wo v) es c a:=by have b:=(F.yO h ha).1;refine F.along h ha fun x g f e=>?_;subst e;have i:=(F.Kd c x b d).2;grind[Fo.yO]
theorem CJ(F:Fo n es num up){c v:Nat}(b:c<n)(d:up c=some v)(h:ym es num up v c):∃w,pJ up w v/\w≠v/\Cn (wo v) es c w:=by
 obtain⟨x,w,i,h2,h3⟩:=h;have j:=(h2.lt F.rD).1;have k:=((F.Kd c v b d).1.lt F.rD).1;have f:pJ up v x:=(pJ.one d).trans i;have g:num w<num x:=by grind[Fo.yO]
 have a:w≠v:=fun e=>by grind
 have ha:=F.iA w x h2.symm g;rcases ha.chain f with h|h
 .exact⟨w,h,a,(F.below j d i).step h2 (iO a)⟩
 grind[Fo.yO]
theorem UT(F:Fo n es num up){c v x:Nat}(b:c<n)(j:up c=some v)(h:¬ym es num up v c)(k:Cn (wo v) es c x):pJ up c x/\x<n:=by
 induction k with
 |refl _=>exact⟨.refl _,b⟩
 |@step x y k a o m=>
  obtain⟨l,s⟩:=m;have p:=(a.lt F.rD).2;refine⟨?_,p⟩;have g:y≠v:=pw;by_cases q:num y<num x
  .have h2:=F.iA y x a.symm q;rcases l.chain h2 with h3|h3
   .exact h3
   .by_cases e:y=c
    .grind
    .obtain⟨d,f,r⟩:=h3.last e;rw[j]at f;injection f with f;subst f;have i:=((F.Kd c v b j).1.lt F.rD).1;exact absurd ⟨x,y,l,a,F.WU r g i⟩ h
  grind[Fo.JD,pJ.trans,Fo.iA]
theorem low_bey(F:Fo n es num up){c v x:Nat}(f:c<n)(i:up c=some v)(L:Iw es num up (pJ up) c x):x<num v↔ym es num up v c:=by
 have j:=(F.Kd c v f i).2;constructor
 .intro h;rcases L.some_ with a|⟨u,w,a,h2,h3⟩
  .omega
  .exact⟨u,w,a,h2.1,NH⟩
 .rintro⟨u,w,a,h2,h3⟩;have g:=(h2.lt F.rD).1;have l:=(F.yO a g).2;have:=L.back u w a ⟨h2,fun e=>?_,fun e=>?_⟩
  .omega
  .by_cases q:c=u
   .grind
   .obtain⟨d,b,k⟩:=a.last q;rw[e]at b;injection b with b;subst b;rcases(F.yO k (h2.lt F.rD).2).2 with h|h
    all_goals grind
  .have:=(F.Kd w u (h2.lt F.rD).2 e).2;grind
structure abb (n:Nat) (es:List Pr) (num:Nat->Nat) (up:Nat->Option Nat) (hd:Nat->Nat):Prop where
 root:∀v,v<n->up v=none->hd v=v
 on:∀v u,v<n->up v=some u->ym es num up u v->hd v=hd u
 new:∀v u,v<n->up v=some u->¬ym es num up u v->hd v=v
variable{hd:Nat->Nat}
def US(F:Fo n es num up)(H:abb n es num up hd):∀(k v:Nat),num v<=k->v<n->pJ up (hd v) v/\hd (hd v)=hd v:=by
 intro k
 induction k with
 |zero=>
  intro v c b;have hh:hd v=v:=by
   cases a:up v with
   |none=>exact H.root v b a
   |some u=>have:=(F.Kd v u b a).2;omega
  rw[hh];exact⟨.refl v,hh⟩
 |succ k d=>
  intro v c b;cases a:up v with
  |none=>rw[H.root v b a];exact⟨.refl v,H.root v b a⟩
  |some u=>
   have e:=F.Kd v u b a;by_cases hb:ym es num up u v
   .rw[H.on v u b a hb];obtain⟨h2,h3⟩:=d u NH (e.1.lt F.rD).1;exact⟨h2.step a,h3⟩
   .rw[H.new v u b a hb];exact⟨.refl v,H.new v u b a hb⟩
def lower(num:Nat->Nat)(x y:Nat):Nat:=if num y<num x then x else y
theorem zP(F:Fo n es num up)(H:abb n es num up hd){c v a:Nat}(j:up c=some v)(ha:pJ up c a)(f:Jp es v a):hd a=hd c:=by
 have g:=(f.lt F.rD).2;have i:=(F.yO ha g).1;have k:=(F.Kd c v i j).2;have key:∀z,pJ up c z->pJ up z a->hd z=hd c:=by
  intro z l
  induction l with
  |refl=>intro _;rfl
  |@step b z hb e m=>
   intro d;have h:=(F.yO d g).1;have o:=((F.Kd z b h e).1.lt F.rD).1;rw[H.on z b h e ⟨a,v,d,f.symm,?_⟩]
   .exact m ((pJ.one e).trans d)
   grind[Fo.yO]
 exact key a ha (.refl a)
theorem Hp(F:Fo n es num up)(H:abb n es num up hd){v a b:Nat}(ha:Jp es v a)(hb:Jp es v b):hd (lower num v a)=hd (lower num v b)↔Cn (wo v) es a b:=by
 have u:=(ha.lt F.rD).1;have J:∀c,up c=some v->c<n->hd v≠c:=fun c j g e=>by have C:=(F.US H (num v) v (qL0 _) u).1;have h2:=(F.Kd c v g j).2;grind[Fo.yO]
 have mixed:∀{a b:Nat},Jp es v a->Jp es v b->num a<num v->num v<num b->(hd v=hd b↔Cn (wo v) es a b):=by
  intro a b ha hb C h2;have l:=(hb.lt F.rD).2;have D:=F.iA a v ha.symm C;have E:a≠v:=fun e=>by grind
  obtain⟨c,j,z⟩:=(F.iA v b hb h2).child pw;have g:=(F.yO z l).1;have L:=(F.Kd c v g j).2;rw[F.zP H j z hb];by_cases q:ym es num up v c
  .rw[H.on c v g j q];obtain⟨w,A,B,s⟩:=F.CJ g j q;exact⟨fun _=>((F.xG u D E A B).trans s.symm).trans (F.below l j z),fun _=>rfl⟩
  grind[Fo.abb.new,Fo.UT,Fo.below,Cn.trans,Cn.symm,Fo.yO]
 have M:=F.JD ha;have nb:=F.JD hb;rcases dr M with C|C<;>rcases dr nb with h2|h2
 .have N:lower num v a=a:=by grind[Fo.lower]
  have O:lower num v b=b:=by grind[Fo.lower]
  rw[N,O];have t:=(ha.lt F.rD).2;have l:=(hb.lt F.rD).2;obtain⟨c,j,r⟩:=(F.iA v a ha C).child pw;obtain⟨d,f,o⟩:=(F.iA v b hb h2).child pw;have g:=(F.yO r t).1;have m:=(F.yO o l).1;rw[F.zP H j r ha,F.zP H f o hb];by_cases q:ym es num up v c
  .rw[H.on c v g j q];obtain⟨w,A,B,s⟩:=F.CJ g j q;by_cases p:ym es num up v d
   .rw[H.on d v m f p];obtain⟨x,P,Q,G⟩:=F.CJ m f p;exact⟨fun _=>(((F.below t j r).symm.trans s).trans (by grind[Fo.xG])).trans (G.symm.trans (F.below l f o)),fun _=>rfl⟩
   .rw[H.new d v m f p];refine⟨pw,fun k=>?_⟩;have h3:=F.UT m f p (((F.below l f o).trans k.symm).trans ((F.below t j r).symm.trans s));have R:=F.WU A B u;have K:=(F.Kd d v m f).2;grind[Fo.yO]
  .rw[H.new c v g j q];have toA:Cn (wo v) es a b->pJ up c b:=by grind[Fo.UT,Fo.below,Cn.trans]
   have same:pJ up c b->c=d:=fun h=>by
    rcases h.chain o with h'|h'
    .by_cases e:c=d
     .exact e
     .obtain⟨y,i,I⟩:=h'.last e;rw[f]at i;injection i with i;subst i;have K:=(F.Kd c v g j).2;grind[Fo.yO]
    .by_cases e:d=c
     .exact e.symm
     .obtain⟨y,i,I⟩:=h'.last e;rw[j]at i;injection i with i;subst i;have K:=(F.Kd d v m f).2;grind[Fo.yO]
   constructor
   .intro e;by_cases p:ym es num up v d
    .grind[Fo.abb.on]
    .rw[H.new d v m f p]at e;subst e;exact(F.below t j r).symm.trans (F.below l j o)
   grind[Fo.abb.new]
 .grind[Fo.lower,Cn.symm]
 all_goals grind[Fo.lower,Fo.xG,Fo.iA,Jp.symm]
def iE(es:List Pr)(v:Nat):Prop:=∃a b,Jp es v a/\Jp es v b/\¬Cn (wo v) es a b
theorem cut_iff(F:Fo n es num up)(v:Nat)(u:v<n):
  iE es v↔(∃c d,c<n/\d<n/\c≠d/\up c=some v/\up d=some v/\¬ym es num up v c/\¬ym es num up v d)\/(∃c,c<n/\up c=some v/\¬ym es num up v c/\up v≠none):=by
 constructor
 .rintro⟨a,b,ha,hb,A⟩;have I:=F.JD ha;have nb:=F.JD hb;have mixed:∀{a b:Nat},Jp es v a->Jp es v b->num a<num v->num v<num b->¬Cn (wo v) es a b->∃c,c<n/\up c=some v/\¬ym es num up v c/\up v≠none:=by
   intro a b ha hb B h2 A;have h:=(hb.lt F.rD).2;have C:=F.iA a v ha.symm B;have D:a≠v:=fun e=>by grind
   obtain⟨c,g,z⟩:=(F.iA v b hb h2).child pw;have f:=(F.yO z h).1;refine⟨c,f,g,fun q=>?_,?_⟩
   .obtain⟨w,l,m,o⟩:=F.CJ f g q;exact A (((F.xG u C D l m).trans o.symm).trans (F.below h g z))
   grind[pJ.last]
  rcases dr I with B|B<;>rcases dr nb with h2|h2
  .have r:=(ha.lt F.rD).2;have h:=(hb.lt F.rD).2;obtain⟨c,g,s⟩:=(F.iA v a ha B).child pw;obtain⟨d,i,t⟩:=(F.iA v b hb h2).child pw;have f:=(F.yO s r).1;have j:=(F.yO t h).1;have E:∀{w},pJ up w v->w≠v->up v≠none:=by grind[pJ.last]
   by_cases q:ym es num up v c
   .obtain⟨w,l,m,o⟩:=F.CJ f g q;refine .inr ⟨d,j,i,fun p=>?_,E l m⟩;obtain⟨x,J,K,G⟩:=F.CJ j i p;exact A ((((F.below r g s).symm.trans o).trans (by grind[Fo.xG])).trans (G.symm.trans (F.below h i t)))
   .by_cases p:ym es num up v d
    .grind[Fo.CJ]
    .refine .inl ⟨c,d,f,j,fun e=>?_,g,i,q,p⟩;subst e;exact A ((F.below r g s).symm.trans (F.below h g t))
  .grind[Cn.symm]
  all_goals grind[Fo.xG,Fo.iA,Jp.symm]
 .rintro(⟨c,d,f,j,ne,g,i,q,p⟩|⟨c,f,g,q,P⟩)
  .refine⟨c,d,(by grind[Fo.Kd]),(by grind[Fo.Kd]),fun k=>?_⟩;have h3:=F.UT f g q k;obtain⟨y,L,M⟩:=h3.1.last ne;have N:=(F.Kd c v f g).2;grind[Fo.yO]
  .cases O:up v with
   |none=>grind
   |some p=>have H:=F.Kd v p u O;refine⟨c,p,(by grind[Fo.Kd]),H.1.symm,fun k=>?_⟩;have h3:=F.UT f g q k;have N:=(F.Kd c v f g).2;grind[Fo.yO]
end Fo
end Go.Fw
