/- A text. -/
import Derived.Test.YtkccdnmaaelbiaaGreatFwLB13
import Derived.Test.YtkccdnmaaelbiaaGreatFwRow
set_option linter.all false
set_option maxRecDepth 99999
set_option maxHeartbeats 9999999
namespace Go.Proofs
open Go.Shelf
def Tryz.lays189_ren:Go.Shelf.Ren:=⟨fun | 189=>115 | 125=>120 | 257=>152 | 128=>162 | 129=>163 | 294=>173 | 295=>174 | 296=>175 | 297=>176 | 298=>177 | 299=>178 | 216=>164 | 300=>179 | 301=>180 | 328=>186 | 329=>182 | 330=>183 | 331=>187 | 332=>188 | 215=>131 | 343=>190 | n=>n,fun | 28=>49 | 3=>3 | 46=>146 | 0=>0 | 51=>184 | 53=>186 | 4=>4 | 183=>178 | 182=>177 | 131=>89 | 5=>5 | 9=>9 | 218=>198 | 222=>202 | 228=>206 | 229=>207 | n=>n,fun | n=>n⟩
theorem Tryz.lays189:Go.Proofs.Lays.n189 Tryz.prog Tryz.lays189_ren:={
 mixed:=by kernel_rfl
 f125:=Tryz.func120.trans (congrArg some (by kernel_rfl))
 f128:=Tryz.func162.trans (congrArg some (by kernel_rfl))
 f129:=Tryz.func163.trans (congrArg some (by kernel_rfl))
 f189:=Tryz.func115.trans (congrArg some (by kernel_rfl))
 f215:=Tryz.func131.trans (congrArg some (by kernel_rfl))
 f216:=Tryz.func164.trans (congrArg some (by kernel_rfl))
 f257:=Tryz.func152.trans (congrArg some (by kernel_rfl))
 f294:=Tryz.func173.trans (congrArg some (by kernel_rfl))
 f295:=Tryz.func174.trans (congrArg some (by kernel_rfl))
 f296:=Tryz.func175.trans (congrArg some (by kernel_rfl))
 f297:=Tryz.func176.trans (congrArg some (by kernel_rfl))
 f298:=Tryz.func177.trans (congrArg some (by kernel_rfl))
 f299:=Tryz.func178.trans (congrArg some (by kernel_rfl))
 f300:=Tryz.func179.trans (congrArg some (by kernel_rfl))
 f301:=Tryz.func180.trans (congrArg some (by kernel_rfl))
 f328:=Tryz.func186.trans (congrArg some (by kernel_rfl))
 f329:=Tryz.func182.trans (congrArg some (by kernel_rfl))
 f330:=Tryz.func183.trans (congrArg some (by kernel_rfl))
 f331:=Tryz.func187.trans (congrArg some (by kernel_rfl))
 f332:=Tryz.func188.trans (congrArg some (by kernel_rfl))
 f343:=Tryz.func190.trans (congrArg some (by kernel_rfl))
 t0:=Tryz.underlying0
 a0:=Tryz.isAgg0
 z0:=Tryz.sizeOf0
 v0:=Tryz.zeroValue0
 t3:=Tryz.underlying3
 a3:=Tryz.isAgg3
 z3:=Tryz.sizeOf3
 v3:=Tryz.zeroValue3
 t4:=Tryz.underlying4
 a4:=Tryz.isAgg4
 z4:=Tryz.sizeOf4
 v4:=Tryz.zeroValue4
 t5:=Tryz.underlying5
 a5:=Tryz.isAgg5
 z5:=Tryz.sizeOf5
 v5:=Tryz.zeroValue5
 t9:=Tryz.underlying9
 a9:=Tryz.isAgg9
 z9:=Tryz.sizeOf9
 v9:=Tryz.zeroValue9
 t28:=Tryz.underlying49
 a28:=Tryz.isAgg49
 z28:=Tryz.sizeOf49
 v28:=Tryz.zeroValue49
 t46:=Tryz.underlying146
 a46:=Tryz.isAgg146
 z46:=Tryz.sizeOf146
 v46:=Tryz.zeroValue146
 t51:=Tryz.underlying184
 a51:=Tryz.isAgg184
 z51:=Tryz.sizeOf184
 v51:=Tryz.zeroValue184
 t53:=Tryz.underlying186
 a53:=Tryz.isAgg186
 z53:=Tryz.sizeOf186
 v53:=Tryz.zeroValue186
 t131:=Tryz.underlying89
 a131:=Tryz.isAgg89
 z131:=Tryz.sizeOf89
 v131:=Tryz.zeroValue89
 t182:=Tryz.underlying177
 a182:=Tryz.isAgg177
 z182:=Tryz.sizeOf177
 v182:=Tryz.zeroValue177
 t183:=Tryz.underlying178
 a183:=Tryz.isAgg178
 z183:=Tryz.sizeOf178
 v183:=Tryz.zeroValue178
 t218:=Tryz.underlying198
 a218:=Tryz.isAgg198
 z218:=Tryz.sizeOf198
 v218:=Tryz.zeroValue198
 t222:=Tryz.underlying202
 a222:=Tryz.isAgg202
 z222:=Tryz.sizeOf202
 v222:=Tryz.zeroValue202
 t228:=Tryz.underlying206
 a228:=Tryz.isAgg206
 z228:=Tryz.sizeOf206
 v228:=Tryz.zeroValue206
 t229:=Tryz.underlying207
 a229:=Tryz.isAgg207
 z229:=Tryz.sizeOf207
 v229:=Tryz.zeroValue207 }
def Tryz.laysNm220_ren:Go.Shelf.Ren:=⟨fun | 20=>122 | n=>n,fun | 22=>49 | 3=>3 | 4=>4 | 0=>0 | n=>n,fun | n=>n⟩
theorem Tryz.laysNm220:Go.Proofs.Lays2.n20 Tryz.prog Tryz.laysNm220_ren:={
 mixed:=by kernel_rfl
 f20:=Tryz.func122.trans (congrArg some (by kernel_rfl))
 t0:=Tryz.underlying0
 a0:=Tryz.isAgg0
 z0:=Tryz.sizeOf0
 v0:=Tryz.zeroValue0
 t3:=Tryz.underlying3
 a3:=Tryz.isAgg3
 z3:=Tryz.sizeOf3
 v3:=Tryz.zeroValue3
 t4:=Tryz.underlying4
 a4:=Tryz.isAgg4
 z4:=Tryz.sizeOf4
 v4:=Tryz.zeroValue4
 t22:=Tryz.underlying49
 a22:=Tryz.isAgg49
 z22:=Tryz.sizeOf49
 v22:=Tryz.zeroValue49
 i3:=by kernel_rfl }
end Go.Proofs
namespace Go.Fw
open Go.Proofs
set_option maxHeartbeats 1000000
set_option maxRecDepth 10000
def qC (l:RZ):RZ:=l.mergeSort fun x y=>decide (x<=y)
theorem GI.cases {h:AHeap} {v:Value} {xs:RZ} (g:GI h v xs) (k:xs.length<=100000):(∃a cap,v=.slice a 0 cap/\xs=[])\/∃id c cap,v=.slice (some ⟨id,0,none⟩) xs.length cap/\h.own id=some (.cells c)/\c.take xs.length=yd xs/\(cap=UNK+1\/cap=xs.length/\xs.length<1000000000000)/\0<xs.length/\xs.length<=cap/\xs.length<=c.length:=by
 obtain⟨e,⟨rfl,f⟩|⟨id,c,cap,rfl,i,d,j⟩⟩:=g
 .grind
 .by_cases f : xs.length = 0
  .grind
  .rw [jO] at d e
   have b:xs.length<=c.length:=pw;refine .inr ⟨id,c,cap,rfl,i,d,j,NH,?_,b⟩
   grind [UNK]
theorem AC.Bh {P:Program} {n:LA} {h:AHeap} {f:FuncId} {a:Option Addr} {cap:Nat} {out:Value} (j:out=.tuple #[]\/out=.slice a 0 cap)
  (o:∀(a':Option Addr) (cap':Nat) (w:World),Calls P f #[.slice a' 0 cap'] w fun e w'=>(∃v,e=.returned v/\(out=.tuple #[]/\v=.tuple #[]\/out≠.tuple #[]/\v=.slice a' 0 cap'))/\w'=w):
  AC P n f [.slice a 0 cap] h fun x h'=>x=out/\h'=h:=by
 intro ex m w b R k;obtain⟨p,q,d⟩:=k.get (i:=0) rfl;have c:b=[p]:=by
  have g:=k.1
  match b,g with
  |[x],_=>grind
 obtain⟨a',cap',rfl⟩:=WT d;rw[c];refine(o a' cap' w).mono ?_;rintro e w' ⟨⟨v,rfl,r⟩,rfl⟩;refine⟨out,v,m,_,rfl,R,ZK.refl _ _,qL0 _,?_,rfl,rfl⟩;rcases r with⟨l,rfl⟩|⟨l,rfl⟩
 .rw[l];exact .tuple rfl (fun i v v' e=>by simp at e)
 grind
theorem OX (l:RZ):(qC l).length=l.length:=by simp[qC]
theorem VQ (l:LA) {h:AHeap} {v:Value} {xs:RZ} (g:GI h v xs) (m:xs.length<=100000):AC Tryz.prog l 115 [v] h fun x h'=>x=.tuple #[]/\GI h' v (qC xs)/\∀f,Le f h->Z2 f v->Le f h':=by
 rcases g.cases m with⟨a,cap,rfl,rfl⟩|⟨id,c,cap,rfl,n,o,s,p,b,d⟩
 .refine (AC.Bh (out := .tuple #[]) (.inl rfl) fun a' cap' w => (Any.slices_Sort_int_none Tryz.lays189 a' cap' w).mono ?_).mono ?_
  .grind
  .rintro x h' ⟨rfl,rfl⟩;exact⟨rfl,by simpa[qC]using g,fun f i _=>i⟩
 .refine (AC.ofRow (xs := xs) (ys := qC xs) (out := .tuple #[]) (k := 0) n o rfl (OX xs) d b p (aal _) (.inl rfl) fun blk off cap' w r hb j => (Any.slices_Sort_int Tryz.lays189 blk off cap' xs w r hb NH).mono ?_).mono ?_
  .rintro e w' ⟨rfl,q,os,rfl⟩;exact⟨⟨_,rfl,.inl ⟨rfl,rfl⟩⟩,q,os,rfl⟩
  .rintro x h' ⟨rfl, rfl⟩
   refine⟨rfl,⟨by grind [Bp],.inr ⟨id,_,cap,by rw[OX],AHeap.Y3 _ _ _,?_,by grind [OX]⟩⟩,fun f i af=>i.put _ (af id rfl)⟩;rw[jO,C2 (by simp[mN]),IE (by simp[mN])];rfl
def OV (xs:RZ):(Lib.compact xs).length<=xs.length:=by
 have:=zx (Lib.keeps xs.toArray) (List.range xs.length);simpa[Lib.compact,Lib.compactUpTo]using this
theorem VY (l:LA) {h:AHeap} {v:Value} {xs:RZ} (g:GI h v xs) (m:xs.length<=100000):AC Tryz.prog l 122 [v] h fun x h'=>RL RP h' x (Lib.compact xs)/\blk x=blk v/\∀f,Le f h->Z2 f v->Le f h':=by
 rcases g.cases m with⟨a,cap,rfl,rfl⟩|⟨id,c,cap,rfl,o,p,u,r,d,i⟩
 .refine (AC.Bh (out := .slice a 0 cap) (.inr rfl) fun a' cap' w => (Any.slices_Compact_int_empty Tryz.laysNm220 a' cap' w).mono ?_).mono ?_
  .grind
  .rintro x h' ⟨rfl, rfl⟩
   refine⟨?_,rfl,fun f j _=>j⟩;have:Lib.compact ([]:RZ)=[]:=rfl
   grind [GI.rl]
 .have s := OV xs
  refine(AC.ofRow (xs:=xs) (ys:=Lib.compact xs++List.replicate (xs.length-(Lib.compact xs).length) 0) (out:=.slice (some ⟨id,0,none⟩) (Lib.compact xs).length cap) (k:=(Lib.compact xs).length) o p rfl (by simp;omega) i d r s (.inr rfl)
   fun blk off cap' w t hb b=>(Any.slices_Compact_int Tryz.laysNm220 blk off cap' xs w t NH b).mono ?_).mono ?_
  .rintro e w' ⟨rfl,q,rfl⟩;exact⟨⟨_,rfl,.inr ⟨Ma,rfl⟩⟩,q,#[],by rw[Sort.grow_empty]⟩
  .rintro x h' ⟨rfl, rfl⟩
   refine⟨RL.Wh ?_,rfl,fun f j af=>j.put _ (af id rfl)⟩;have:=RS.own (c:=cap) (n:=(Lib.compact xs).length) (AHeap.Y3 h id (.cells (yd (Lib.compact xs++List.replicate (xs.length-(Lib.compact xs).length) 0)++c.drop xs.length))) (off:=0) (by grind [mN])
   grind [yd]
end Go.Fw
namespace Go.Fw
section
attribute [local irreducible] Kp MQ lU rS KO KN KX KE VK Kl ZJ TC aab
open Go.Proofs
def zR (p:Pr) (q:Nat):Int:=if q=0 then p.1 else p.2
def ix42 (p:Pr) (q:Nat) (a:q<2):aIndexV Tryz.prog 38 (UI p) (.int .i64 (q:Int))=some (.int .i64 (zR p q)):=by
 have:q=0\/q=1:=NH;rcases this with rfl|rfl<;>simp[aIndexV,yU,Mb,UI,zR,ts3]<;>rfl
def ftP (on:Nat->Bool) (p:Pr):RZ:=[p.1,p.2].filter fun x=>on x.toNat
def BY (on:Nat->Bool) (es:List Pr):RZ:=es.flatMap (ftP on)
def YJ (on:Nat->Bool) (es:List Pr):RZ:=Lib.compact (qC (BY on es))
theorem Dr (on:Nat->Bool) (es:List Pr):(BY on es).length<=2*es.length:=by
 induction es<;>grind [BY,ftP]
def YB (on:Nat->Bool) (p:Pr) (q:Nat):RZ:=([p.1,p.2].take q).filter fun x=>on x.toNat
theorem BM (on:Nat->Bool) (p:Pr) (q:Nat) (a:q<2):YB on p (q+1)=YB on p q++if on (zR p q).toNat=true then[zR p q]else[]:=by
 have:q=0\/q=1:=NH;rcases this with rfl|rfl
 all_goals grind [YB,zR]
theorem fQ (G:LA) (ev r:Value) (n:Nat) (es:List Pr) (bs:List Bool) (h:AHeap) (H:PR h ev es) (hb:RL sJ h r bs) (hR:aV n es) (ae:bs.length=n) (hn:es.length<=1000):
  AC Tryz.prog G 137 [ev,r] h fun x h'=>RL RP h' x (YJ (fun u=>bs.getD u false) es)/\Le h h'/\Z2 h x:=by
 refine AC.vE ⟨Tryz.func137,rfl,WY⟩ Tryz.ntmps137 Tryz.results137 fun w=>?_;simp only[Br,Nat.reduceAdd];obtain⟨I,U,y,J,V⟩:=Tt w []
 have A:aBuildSlice Tryz.prog h 49 0 []=some (.slice (some ⟨h.next,0,none⟩) 0 0,I):=by rw[<-U];rfl
 have ll:=fun g=>H.len g;refine Sk (XC A ll) ?_
 have nB:h.own h.next=none:=(Le.refl h).next w (qL0 _)
 generalize h.next=B at*
 let on:Nat->Bool:=fun u=>bs.getD u false;have W:GI I (.slice (some ⟨B,0,none⟩) 0 0) (BY on (es.take 0)):=GS.full V rfl WY;refine lIn (fun k fr hh=>∃(i:Nat) (a:Value),k=es.length-i/\i<=es.length/\fr=mkF [(1,r),(5,a),(11,ev),(12,.int .i64 es.length),(13,.int .i64 i)]/\GI hh a (BY on (es.take i))/\Le h hh/\Z2 h a) ⟨0,_,rfl,aal _,rfl,W,y,fun b hb=>by grind [blk]⟩ ?_;clear W V nB A J y U I B;rintro k fr hh s ⟨i,a,rfl,hi,rfl,g,f,ap⟩;refine Uy ?_;refine Kl.intro (fun X=>?_) (fun hf=>?_)
 rotate_left
 .have K : es.length <= i := vp hf
  rw[IE K]at g;have hl:=Dr on es;refine Uy ?_;refine TC.intro PJ ⟨qS36,rfl,WY⟩ (VQ G g NH) ?_;rintro x h2 w2 ⟨rfl,g2,k2⟩;have L:=k2 h f ap;refine Uy ?_;refine TC.intro PJ ⟨Tryz.func122,rfl,WY⟩ (VY G g2 (by rw[OX];omega)) ?_;rintro x h3 w3 ⟨r3,bx,k3⟩;have d:=k3 h L ap;refine Uy ?_;exact⟨r3,d,fun b hb=>ap b pw⟩
 have j:i<es.length:=CC X;clear X;have t:=CA j;have M:es.take (i+1)=es.take i++[es[i]]:=EL j;generalize es[i]=p at t M;obtain⟨p1,p2,p3⟩:=hR p (Gc t);have ad:=H.addr (k:=.i64) i j;have ld:=(H.le f).load t;obtain⟨ag,h3,Y,e3,d,N,Z⟩:=Ut s p
 have nE:h.own hh.next=none:=f.none ((Le.refl hh).next s (qL0 _))
 have O:∀b,blk a=some b->b≠hh.next:=fun b hb e=>by subst e;have:=GS.Sy g hb;exact this ((Le.refl hh).next s (qL0 _))
 have P:=g.le d;have m:=f.trans d;have LP:=uM Z
 generalize hh.next=E at*
 simp only[HO,Nat.reduceLT,↓reduceIte,Nat.reduceEqDiff,reduceCtorEq,ad,ld,Y,e3,LP];have C:BY on (es.take i)=BY on (es.take i)++YB on p 0:=by simp[YB]
 rw[C]at P;refine lIn (fun k fr F=>∃(q:Nat) (a:Value),k=2-q/\q<=2/\fr=mkF [(1,r),(5,a),(11,ev),(12,.int .i64 es.length),(13,.int .i64 i),(17,UI p),(18,.int .i64 q)]/\GI F a (BY on (es.take i)++YB on p q)/\Le h F/\Z2 h a) ⟨0,_,rfl,aal _,rfl,P,m,ap⟩ ?_;clear C P O ap g a LP m nE Z N d Y e3;rintro k fr F Q ⟨q,a,rfl,aj,rfl,g,leq,ap⟩;have hlen:(BY on (es.take i)++YB on p q).length<=100000:=by grind [Dr,YB,Nat.min_le_right]
 by_cases c:q<2
 rotate_left
 .have z : ((q : Int) < 2) = False := eq_false NH
  obtain rfl:q=2:=NH;have D:BY on (es.take i)++YB on p 2=BY on (es.take (i+1)):=by grind [BY,YB,ftP]
  rw[D]at g;refine Sk (XC z (Tw i NH)) ?_;exact lgA NH ⟨i+1,a,rfl,j,rfl,g,leq,ap⟩
 have z:((q:Int)<2)=True:=eq_true NH;have R:=ix42 p q c;have o:0<=zR p q/\zR p q<(n:Int):=by grind [zR]
 have l:=BM on p q c;generalize zR p q=x at R o l;obtain⟨v,rfl⟩:=yY o.1;have S:v<bs.length:=NH;have oa:aIndexAddr Tryz.prog 59 r (.int .i64 (v:Int))=some (.pointer (some (elemAddr r v))):=hb.LB v S;have ol:aload Tryz.prog F 4 (elemAddr r v)=some (.bool (on v)):=by rw[(hb.le Nn.sJ leq).W7 v S];simp only[on];rw[D4 S]
 rw[Z6]at l;cases c2:on v with
 |false=>
  rw[c2]at ol l;have D:BY on (es.take i)++YB on p q=BY on (es.take i)++YB on p (q+1):=pw;rw[D]at g;simp only[HO,Nat.reduceLT,↓reduceIte,Nat.reduceEqDiff,reduceCtorEq,z,R,oa,ol,Tw q NH];exact lgA NH ⟨q+1,a,rfl,c,rfl,g,leq,ap⟩
 |true=>
  rw[c2]at ol l;obtain⟨T,h4,h5,e4,e5,g5,w5,l4,hf,-⟩:=g.push Q (v:Int) hlen;obtain⟨l5,a5⟩:=hf h leq ap;have D:BY on (es.take i)++YB on p q++[(v:Int)]=BY on (es.take i)++YB on p (q+1):=pw;rw[D]at g5;simp only[HO,Nat.reduceLT,↓reduceIte,Nat.reduceEqDiff,reduceCtorEq,z,R,oa,ol,e4,e5,Tw q NH];exact lgA NH ⟨q+1,T,rfl,c,rfl,g5,l5,a5⟩
def Zo (n:Nat) (on:Nat->Bool) (L:RZ) (p:Pr) (i:Nat):Int:=
 if on p.1.toNat=false then L.getD p.1.toNat 0 else if on p.2.toNat=false then L.getD p.2.toNat 0 else(n:Int)+i
theorem zN (A:LA) (ev g s:Value) (n:Nat) (es:List Pr) (bs:List Bool) (L:RZ) (B O T:Nat) (i:Nat) (p:Pr) (h:AHeap) (t:PR h ev es) (hb:RL sJ h g bs) (w:RL RP h s L) (hR:aV n es) (C:bs.length=n) (D:L.length=n)
  (l0:aload Tryz.prog h 3 ⟨B,0,none⟩=some (.int .i64 n)) (l1:aload Tryz.prog h 22 ⟨B,1,none⟩=some ev) (l2:aload Tryz.prog h 59 ⟨O,0,none⟩=some g) (l3:aload Tryz.prog h 49 ⟨T,0,none⟩=some s) (f:es[i]?=some p) (M:n<=100000) (E:es.length<=100000):
  AC Tryz.prog A 136 [.int .i64 (i:Int),.pointer (some ⟨B,0,none⟩),.pointer (some ⟨O,0,none⟩),.pointer (some ⟨T,0,none⟩)] h fun x h'=>x=.int .i64 (Zo n (fun u=>bs.getD u false) L p i)/\h'=h:=by
 refine AC.vE ⟨Tryz.func136,rfl,WY⟩ Tryz.ntmps136 Tryz.results136 fun F=>?_;simp only[Br,Nat.reduceAdd];have l:=(Ny.1 f).1;obtain⟨N,P,Q⟩:=hR p (Gc f);have ad:=t.addr (k:=.i64) i l;have ld:=t.load f;simp only[HO,Nat.reduceLT,↓reduceIte,Nat.reduceEqDiff,reduceCtorEq,Di,Ip,BS,l1,ad,ld];let on:Nat->Bool:=fun u=>bs.getD u false;refine lIn (fun k fr m=>∃q:Nat,k=2-q/\q<=2/\m=h/\fr=mkF [(0,.int .i64 i),(1,.pointer (some ⟨B,0,none⟩)),(2,.pointer (some ⟨O,0,none⟩)),(3,.pointer (some ⟨T,0,none⟩)),(12,UI p),(13,.int .i64 q)]/\∀j,j<q->on (zR p j).toNat=true) ⟨0,rfl,aal _,rfl,rfl,NH⟩ ?_;rintro k fr m-⟨q,rfl,G,rfl,rfl,d⟩;by_cases c:q<2
 rotate_left
 .have z : ((q : Int) < 2) = False := eq_false NH
  obtain rfl:q=2:=NH;have H:=d 0 NH;have c1:=d 1 NH;simp only[zR,if_true,afC,if_false]at H c1;have hf:Zo n on L p i=(n:Int)+i:=by grind [Zo]
  have wr:awrap .i64 ((n:Int)+(i:Int))=(n:Int)+i:=cT _ NH NH;simp only[HO,Nat.reduceLT,↓reduceIte,Nat.reduceEqDiff,reduceCtorEq,z,Ii,Ip,BS,l0,wr]
  grind
 have z:((q:Int)<2)=True:=eq_true NH;have o:=ix42 p q c;have e:0<=zR p q/\zR p q<(n:Int):=by grind [zR]
 have b:on (zR p q).toNat=false->Zo n on L p i=L.getD (zR p q).toNat 0:=fun I=>by
  have:q=0\/q=1:=NH
  grind [zR,Zo]
 have a:on (zR p q).toNat=true->∀j,j<q+1->on (zR p j).toNat=true:=fun I j R=>by grind
 generalize zR p q=x at o e b a;obtain⟨v,rfl⟩:=yY e.1;rw[Z6]at b a;have r:v<bs.length:=NH;have y:aIndexAddr Tryz.prog 59 g (.int .i64 (v:Int))=some (.pointer (some (elemAddr g v))):=hb.LB v r;have ol:aload Tryz.prog m 4 (elemAddr g v)=some (.bool (on v)):=by rw[hb.W7 v r];simp only[on];rw[D4 r]
 have J:=w.TA v NH;have K:=w.DH v NH;cases c2:on v with
 |true=>
  rw[c2]at ol;simp only[HO,Nat.reduceLT,↓reduceIte,Nat.reduceEqDiff,reduceCtorEq,z,o,l2,y,ol,Tw q NH];exact lgA NH ⟨q+1,rfl,c,rfl,rfl,a c2⟩
 |false=>
  rw[c2]at ol;have hf:=b c2;rw[D4 NH]at hf;simp only[HO,Nat.reduceLT,↓reduceIte,Nat.reduceEqDiff,reduceCtorEq,z,o,l2,y,ol,l3,J,K]
  grind
end
section
open Go.Proofs
variable {M:Nat} {b0 h h':AHeap} {us:List Value}
abbrev Gr:=Int×List Pr
def Ea (gs:List Gr):RZ:=gs.map (·.1)
def lstG:List Gr->Int->List Pr
 |[],_=>[]
 |(k,l)::r,f=>if k=f then l else lstG r f
def addG:List Gr->Int->Pr->List Gr
 |[],f,p=>[(f,[p])]
 |(k,l)::r,f,p=>if k=f then(k,l++[p])::r else(k,l)::addG r f p
def abN (gs:List Gr) (us:List Value):List (Value×Value):=(gs.zip us).map fun x=>(.int .i64 x.1.1,x.2)
theorem Ga (f:Int):∀(gs:List Gr) (us:List Value) (i:Nat),us.length=gs.length->
  (f∉Ea gs/\mfind .i64 f (abN gs us) i=some none/\lstG gs f=[]/\∀p,addG gs f p=gs++[(f,[p])])\/
  ∃(j:Nat) (l:List Pr) (u:Value),gs[j]?=some (f,l)/\us[j]?=some u/\mfind .i64 f (abN gs us) i=some (some (i+j,u))/\lstG gs f=l/\∀p,addG gs f p=gs.set j (f,l++[p])
 |[],us,i,h=>.inl (by simp[Ea,abN,mfind,lstG,addG])
 |(k,l)::gs,[],i,h=>by simp at h
 |(k,l)::gs,u::us,i,h=>by
  have e:abN ((k,l)::gs) (u::us)=(.int .i64 k,u)::abN gs us:=rfl;by_cases c:f=k
  .subst c
   exact .inr ⟨0,l,u,rfl,rfl,by grind [mfind.eq_2],by simp[lstG],fun p=>by simp[addG]⟩
  .have c' : ¬ k = f := fun h => c h.symm
   rcases Ga f gs us (i+1) (by simpa using h)with⟨a,h2,h3,b⟩|⟨j,l',u',a,h2,h3,b,d⟩
   .grind [Ea,mfind.eq_2,lstG.eq_2,addG.eq_2]
   .exact .inr ⟨j+1,l',u',pw,pw,by grind [mfind.eq_2],by grind [lstG.eq_2],fun p=>by grind [addG.eq_2]⟩
def adS {f:Int} {l l':List Pr} {u':Value}:∀(gs:List Gr) (us:List Value) (j:Nat),us.length=gs.length->gs[j]?=some (f,l)->abN (gs.set j (f,l')) (us.set j u')=(abN gs us).set j (.int .i64 f,u')
 |[],us,j,h,e=>by simp at e
 |g::gs,[],j,h,e=>by simp at h
 |g::gs,u::us,0,h,e=>by simp at e;subst e;rfl
 |g::gs,u::us,j+1,h,e=>by
  have:=adS (l':=l') (u':=u') gs us j (by simpa using h) (by simpa using e);show(.int .i64 g.1,u)::abN (gs.set j (f,l')) (us.set j u')=(.int .i64 g.1,u)::(abN gs us).set j (.int .i64 f,u');rw[this]
def Iv {gs:List Gr} (a:us.length=gs.length) (g:Gr) (u:Value):abN (gs++[g]) (us++[u])=abN gs us++[(.int .i64 g.1,u)]:=by rw[abN,List.zip_append a.symm];simp[abN]
structure aaB (b0 h:AHeap) (M:Nat) (us:List Value) (gs:List Gr):Prop where
 oM:h.own M=some (.map (abN gs us))
 len:us.length=gs.length
 gp:∀(j:Nat) u g,us[j]?=some u->gs[j]?=some g->GP h u g.2
 nM:∀(j:Nat) u,us[j]?=some u->blk u≠some M
 TE:∀(j k:Nat) u u' b,j≠k->us[j]?=some u->us[k]?=some u'->blk u=some b->blk u'≠some b
 ap:∀(j:Nat) u,us[j]?=some u->Z2 b0 u
 le:Le b0 h
 bM:b0.own M=none
theorem aaB.keep {gs:List Gr} (R:aaB b0 h M us gs) (le:Le b0 h') (a:∀b o,h.own b=some o->(b=M\/∃(j:Nat) (u:Value),us[j]?=some u/\blk u=some b)->h'.own b=some o):aaB b0 h' M us gs:=
 ⟨a _ _ R.oM (.inl rfl),R.len,fun j u g c hg=>GS.kept (R.gp j u g c hg) fun b o hb d=>a b o d (.inr ⟨j,u,c,hb⟩),R.nM,R.TE,R.ap,le,R.bM⟩
theorem aaB.up {gs:List Gr} (R:aaB b0 h M us gs) (e:Le h h'):aaB b0 h' M us gs:=R.keep (R.le.trans e) fun b o a _=>e.own _ _ a
def B9:azero Tryz.prog 22=some (.slice none 0 0):=Ji
theorem aaB.look {gs:List Gr} (R:aaB b0 h M us gs) (f:Int):∃u,aLookup Tryz.prog h 110 (.map (some M)) (.int .i64 f) false=some u/\GP h u (lstG gs f):=by
 rcases Ga f gs us 0 R.len with⟨a,h2,h3,b⟩|⟨j,l,u,a,h2,h3,b,c⟩
 .refine ⟨.slice none 0 0, ?_, by grind [GP.nil]⟩
  simp[aLookup,qS7,Mb,R.oM,B9,h2,Fw.flat]
 .refine ⟨u, ?_, by grind [aaB.gp]⟩
  simp[aLookup,qS7,Mb,R.oM,B9,h3,Fw.flat]
theorem aaB.push {b0 h:AHeap} {M:Nat} {us:List Value} {gs:List Gr} (R:aaB b0 h M us gs) (z:WF h) (f:Int) (p:Pr) (L:(lstG gs f).length+1<=100000):
  ∃u u' w A E B,aLookup Tryz.prog h 110 (.map (some M)) (.int .i64 f) false=some u/\aBuildSlice Tryz.prog h 22 1 [(0,UI p)]=some (.slice (some ⟨h.next,0,none⟩) 1 1,w)/\aAppend Tryz.prog w 22 22 u (.slice (some ⟨h.next,0,none⟩) 1 1)=some (u',A)/\
   aMapSet Tryz.prog A 110 (.map (some M)) (.int .i64 f) u'=some E/\aaB b0 E M B (addG gs f p)/\WF E/\Le h w/\
   (∀b o,h.own b=some o->b≠M->(∀(j:Nat) a,us[j]?=some a->blk a≠some b)->A.own b=some o/\E.own b=some o/\∀(j:Nat) a,B[j]?=some a->blk a≠some b):=by
 rcases Ga f gs us 0 R.len with⟨F,h2,h3,w⟩|⟨j,l,u,F,h2,h3,w,A⟩
 .obtain ⟨u', G, x, e4, H, s, C, l4, hf, y⟩ := (GP.nil h).push z p Ma
  have c:∀b o,h.own b=some o->x.own b=some o/\blk u'≠some b:=fun b o d=>y b o d (by simp[blk]);obtain⟨l5,N⟩:=hf b0 R.le (fun b hb=>by grind [blk]);have m:=(c _ _ R.oM).1;refine⟨.slice none 0 0,u',G,x,x.put M (.map (abN gs us++[(.int .i64 f,u')])),us++[u'],by simp[aLookup,qS7,Mb,R.oM,B9,h2,Fw.flat],e4,H,by simp only[aMapSet,qS7,Mb,m,h2],?_,C.put _ (C.lt m),l4,fun b o d hb I=>⟨(c b o d).1,by rw[AHeap.By _ _ _ _ hb];exact(c b o d).1,fun k a ha=>?_⟩⟩
  .rw [w]
   have O:=Iv R.len (f,[p]) u';have t:∀(k:Nat) a,(us++[u'])[k]?=some a->(us[k]?=some a)\/(k=us.length/\a=u'):=fun k a ha=>by grind
   refine⟨by grind [AHeap.Y3],by simp[R.len],fun k a g ha hg=>?_,fun k a ha=>?_,fun k v a a' b J ha mi hb=>?_,fun k a ha=>?_,l5.put _ R.bM,R.bM⟩
   .rcases t k a ha with xa | ⟨rfl, rfl⟩
    .have P := (Ny.1 xa).1
     rw[fR (by grind [aaB.len])]at hg;exact GS.put (GS.kept (R.gp k a g xa hg) fun b o hb d=>(c b o d).1) _ (R.nM k a xa)
    .rw [AE (by grind [aaB.len]), R.len] at hg
     simp at hg;subst hg;have:([]++[p]:List Pr)=[p]:=rfl;rw[this]at s;exact GS.put s _ (c _ _ R.oM).2
   .grind [aaB.nM,aaB.oM]
   .rcases t k a ha with xa | ⟨rfl, rfl⟩
    .rcases t v a' mi with n | ⟨rfl, rfl⟩
     .grind [aaB.TE]
     .have r : ∃ q, gs[k]? = some q := ⟨_, CA (by grind [aaB.len])⟩
      obtain⟨q,D⟩:=r;obtain⟨o,d⟩:=N8.1 (GS.Sy (R.gp k a q xa D) hb)
      grind
    .rcases t v a' mi with n | ⟨rfl, rfl⟩
     .intro sZ
      have r:∃q,gs[v]?=some q:=⟨_,CA (by grind [aaB.len])⟩;obtain⟨q,D⟩:=r;obtain⟨o,d⟩:=N8.1 (GS.Sy (R.gp v a' q n D) sZ)
      grind
     grind
   grind [aaB.ap]
  grind
 .rw [w] at L
  have Q:=R.gp j u _ h2 F;obtain⟨u',G,x,e4,H,s,C,l4,hf,y⟩:=GP.push Q z p L;obtain⟨l5,N⟩:=hf b0 R.le (R.ap j u h2);have m:=y _ _ R.oM (R.nM j u h2);have S:=(Ny.1 h2).1;have i:∀(k:Nat) a,(us.set j u')[k]?=some a->(k≠j/\us[k]?=some a)\/(k=j/\a=u'):=fun k a ha=>by grind
  have own:∀(k:Nat) a b,us[k]?=some a->blk a=some b->∃o,h.own b=some o:=fun k a b ha hb=>by
   have r:∃q,gs[k]?=some q:=⟨_,CA (by grind [aaB.len])⟩;obtain⟨q,D⟩:=r;exact N8.1 (GS.Sy (R.gp k a q ha D) hb)
  refine⟨u,u',G,x,x.put M (.map ((abN gs us).set (0+j) (.int .i64 f,u'))),us.set j u',by simp[aLookup,qS7,Mb,R.oM,B9,h3,Fw.flat],e4,H,by simp only[aMapSet,qS7,Mb,m.1,h3],?_,C.put _ (C.lt m.1),l4,fun b o d hb I=>⟨(y b o d (I j u h2)).1,by rw[AHeap.By _ _ _ _ hb];exact(y b o d (I j u h2)).1,fun k a ha=>?_⟩⟩
  .rw [A]
   have O:=adS (l':=l++[p]) (u':=u') gs us j R.len F;have K:=(Ny.1 F).1;refine⟨by grind [AHeap.Y3],by simp[R.len],fun k a g ha hg=>?_,fun k a ha=>?_,fun k v a a' b J ha mi hb=>?_,fun k a ha=>?_,l5.put _ R.bM,R.bM⟩
   .rcases i k a ha with ⟨e, xa⟩ | ⟨rfl, rfl⟩
    .rw [K4, if_neg (fj e)] at hg
     exact GS.put (GS.kept (R.gp k a g xa hg) fun b o hb d=>(y b o d (fun sZ=>R.TE k j a u b e xa h2 hb sZ)).1) _ (R.nM k a xa)
    .rw [K4, if_pos rfl, if_pos K] at hg
     injection hg with hg;subst hg;exact GS.put s _ m.2
   .grind [aaB.nM]
   .rcases i k a ha with ⟨e, xa⟩ | ⟨rfl, rfl⟩
    .rcases i v a' mi with ⟨e', n⟩ | ⟨rfl, rfl⟩
     .grind [aaB.TE]
     .obtain ⟨o, d⟩ := own k a b xa hb
      grind [aaB.TE]
    .rcases i v a' mi with ⟨e', n⟩ | ⟨rfl, rfl⟩
     .intro sZ
      obtain⟨o,d⟩:=own v a' b n sZ
      grind [aaB.TE]
     grind
   grind [aaB.ap]
  grind
end
end Go.Fw
