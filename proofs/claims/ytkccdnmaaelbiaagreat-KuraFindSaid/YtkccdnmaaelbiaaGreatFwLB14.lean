/- A text. -/
import Derived.Test.YtkccdnmaaelbiaaGreatFwLB1
import Derived.Test.YtkccdnmaaelbiaaGreatFwRow
import Derived.Test.YtkccdnmaaelbiaaGreatFwEmb21
set_option linter.all false
set_option maxRecDepth 99999
set_option maxHeartbeats 9999999
namespace Go.Proofs
open Go.Shelf
def Tryz.lays189_ren:Go.Shelf.Ren:=⟨fun | 189=>115 | 125=>120 | 257=>152 | 128=>162 | 129=>163 | 294=>173 | 295=>174 | 296=>175 | 297=>176 | 298=>177 | 299=>178 | 216=>164 | 300=>179 | 301=>180 | 328=>186 | 329=>182 | 330=>183 | 331=>187 | 332=>188 | 215=>131 | 343=>190 | n=>n,fun | 28=>49 | 3=>3 | 46=>146 | 0=>0 | 51=>184 | 53=>186 | 4=>4 | 183=>178 | 182=>177 | 131=>89 | 5=>5 | 9=>9 | 218=>198 | 222=>202 | 228=>206 | 229=>207 | n=>n,fun | n=>n⟩
theorem Tryz.lays189:Go.Proofs.Lays.n189 Tryz.prog Tryz.lays189_ren:={
 mixed:=by kernel_rfl
 f125:=Tryz.func120.trans (congrArg some (by kernel_rfl))
 f128:=Tryz.func162.trans (congrArg some (by kernel_rfl))
 f129:=Tryz.func163.trans (congrArg some (by kernel_rfl))
 f189:=Tryz.func115.trans (congrArg some (by kernel_rfl))
 f215:=Tryz.func131.trans (congrArg some (by kernel_rfl))
 f216:=Tryz.func164.trans (congrArg some (by kernel_rfl))
 f257:=Tryz.func152.trans (congrArg some (by kernel_rfl))
 f294:=Tryz.func173.trans (congrArg some (by kernel_rfl))
 f295:=Tryz.func174.trans (congrArg some (by kernel_rfl))
 f296:=Tryz.func175.trans (congrArg some (by kernel_rfl))
 f297:=Tryz.func176.trans (congrArg some (by kernel_rfl))
 f298:=Tryz.func177.trans (congrArg some (by kernel_rfl))
 f299:=Tryz.func178.trans (congrArg some (by kernel_rfl))
 f300:=Tryz.func179.trans (congrArg some (by kernel_rfl))
 f301:=Tryz.func180.trans (congrArg some (by kernel_rfl))
 f328:=Tryz.func186.trans (congrArg some (by kernel_rfl))
 f329:=Tryz.func182.trans (congrArg some (by kernel_rfl))
 f330:=Tryz.func183.trans (congrArg some (by kernel_rfl))
 f331:=Tryz.func187.trans (congrArg some (by kernel_rfl))
 f332:=Tryz.func188.trans (congrArg some (by kernel_rfl))
 f343:=Tryz.func190.trans (congrArg some (by kernel_rfl))
 t0:=Tryz.underlying0
 a0:=Tryz.isAgg0
 z0:=Tryz.sizeOf0
 v0:=Tryz.zeroValue0
 t3:=Tryz.underlying3
 a3:=Tryz.isAgg3
 z3:=Tryz.sizeOf3
 v3:=Tryz.zeroValue3
 t4:=Tryz.underlying4
 a4:=Tryz.isAgg4
 z4:=Tryz.sizeOf4
 v4:=Tryz.zeroValue4
 t5:=Tryz.underlying5
 a5:=Tryz.isAgg5
 z5:=Tryz.sizeOf5
 v5:=Tryz.zeroValue5
 t9:=Tryz.underlying9
 a9:=Tryz.isAgg9
 z9:=Tryz.sizeOf9
 v9:=Tryz.zeroValue9
 t28:=Tryz.underlying49
 a28:=Tryz.isAgg49
 z28:=Tryz.sizeOf49
 v28:=Tryz.zeroValue49
 t46:=Tryz.underlying146
 a46:=Tryz.isAgg146
 z46:=Tryz.sizeOf146
 v46:=Tryz.zeroValue146
 t51:=Tryz.underlying184
 a51:=Tryz.isAgg184
 z51:=Tryz.sizeOf184
 v51:=Tryz.zeroValue184
 t53:=Tryz.underlying186
 a53:=Tryz.isAgg186
 z53:=Tryz.sizeOf186
 v53:=Tryz.zeroValue186
 t131:=Tryz.underlying89
 a131:=Tryz.isAgg89
 z131:=Tryz.sizeOf89
 v131:=Tryz.zeroValue89
 t182:=Tryz.underlying177
 a182:=Tryz.isAgg177
 z182:=Tryz.sizeOf177
 v182:=Tryz.zeroValue177
 t183:=Tryz.underlying178
 a183:=Tryz.isAgg178
 z183:=Tryz.sizeOf178
 v183:=Tryz.zeroValue178
 t218:=Tryz.underlying198
 a218:=Tryz.isAgg198
 z218:=Tryz.sizeOf198
 v218:=Tryz.zeroValue198
 t222:=Tryz.underlying202
 a222:=Tryz.isAgg202
 z222:=Tryz.sizeOf202
 v222:=Tryz.zeroValue202
 t228:=Tryz.underlying206
 a228:=Tryz.isAgg206
 z228:=Tryz.sizeOf206
 v228:=Tryz.zeroValue206
 t229:=Tryz.underlying207
 a229:=Tryz.isAgg207
 z229:=Tryz.sizeOf207
 v229:=Tryz.zeroValue207 }
def Tryz.laysNm220_ren:Go.Shelf.Ren:=⟨fun | 20=>122 | n=>n,fun | 22=>49 | 3=>3 | 4=>4 | 0=>0 | n=>n,fun | n=>n⟩
theorem Tryz.laysNm220:Go.Proofs.Lays2.n20 Tryz.prog Tryz.laysNm220_ren:={
 mixed:=by kernel_rfl
 f20:=Tryz.func122.trans (congrArg some (by kernel_rfl))
 t0:=Tryz.underlying0
 a0:=Tryz.isAgg0
 z0:=Tryz.sizeOf0
 v0:=Tryz.zeroValue0
 t3:=Tryz.underlying3
 a3:=Tryz.isAgg3
 z3:=Tryz.sizeOf3
 v3:=Tryz.zeroValue3
 t4:=Tryz.underlying4
 a4:=Tryz.isAgg4
 z4:=Tryz.sizeOf4
 v4:=Tryz.zeroValue4
 t22:=Tryz.underlying49
 a22:=Tryz.isAgg49
 z22:=Tryz.sizeOf49
 v22:=Tryz.zeroValue49
 i3:=by kernel_rfl }
end Go.Proofs
namespace Go.Fw
open Go.Proofs
set_option maxHeartbeats 1000000
set_option maxRecDepth 10000
def qC (l:RZ):RZ:=l.mergeSort fun x y=>decide (x<=y)
theorem GI.cases {h:AHeap} {v:Value} {xs:RZ} (g:GI h v xs) (k:xs.length<=100000):(∃a cap,v=.slice a 0 cap/\xs=[])\/∃id c cap,v=.slice (some ⟨id,0,none⟩) xs.length cap/\h.own id=some (.cells c)/\c.take xs.length=acO xs/\(cap=RA+1\/cap=xs.length/\xs.length<1000000000000)/\0<xs.length/\xs.length<=cap/\xs.length<=c.length:=by
 obtain⟨e,⟨rfl,f⟩|⟨id,c,cap,rfl,i,d,j⟩⟩:=g
 .grind
 .by_cases f : xs.length = 0
  .grind
  .rw [pQ] at d e
   have b:xs.length<=c.length:=pw;refine .inr ⟨id,c,cap,rfl,i,d,j,NH,?_,b⟩
   grind [RA]
theorem AC.ofNone {P:Program} {n:LA} {h:AHeap} {f:FuncId} {a:Option Addr} {cap:Nat} {out:Value} (j:out=.tuple #[]\/out=.slice a 0 cap)
  (o:∀(a':Option Addr) (cap':Nat) (w:World),Calls P f #[.slice a' 0 cap'] w fun e w'=>(∃v,e=.returned v/\(out=.tuple #[]/\v=.tuple #[]\/out≠.tuple #[]/\v=.slice a' 0 cap'))/\w'=w):
  AC P n f [.slice a 0 cap] h fun x h'=>x=out/\h'=h:=by
 intro ex m w b R k;obtain⟨p,q,d⟩:=k.get (i:=0) rfl;have c:b=[p]:=by
  have g:=k.1
  match b,g with
  |[x],_=>grind
 obtain⟨a',cap',rfl⟩:=WT d;rw[c];refine(o a' cap' w).mono ?_;rintro e w' ⟨⟨v,rfl,r⟩,rfl⟩;refine⟨out,v,m,_,rfl,R,ZK.refl _ _,qL0 _,?_,rfl,rfl⟩;rcases r with⟨l,rfl⟩|⟨l,rfl⟩
 .rw[l];exact .tuple rfl (fun i v v' e=>by simp at e)
 grind
theorem OX (l:RZ):(qC l).length=l.length:=by simp[qC]
theorem VQ (l:LA) {h:AHeap} {v:Value} {xs:RZ} (g:GI h v xs) (m:xs.length<=100000):AC Tryz.prog l 115 [v] h fun x h'=>x=.tuple #[]/\GI h' v (qC xs)/\∀f,Le f h->Z2 f v->Le f h':=by
 rcases g.cases m with⟨a,cap,rfl,rfl⟩|⟨id,c,cap,rfl,n,o,s,p,b,d⟩
 .refine (AC.ofNone (out := .tuple #[]) (.inl rfl) fun a' cap' w => (Any.slices_Sort_int_none Tryz.lays189 a' cap' w).mono ?_).mono ?_
  .grind
  .rintro x h' ⟨rfl,rfl⟩;exact⟨rfl,by simpa[qC]using g,fun f i _=>i⟩
 .refine (AC.ofRow (xs := xs) (ys := qC xs) (out := .tuple #[]) (k := 0) n o rfl (OX xs) d b p (Og _) (.inl rfl) fun blk off cap' w r hb j => (Any.slices_Sort_int Tryz.lays189 blk off cap' xs w r hb NH).mono ?_).mono ?_
  .rintro e w' ⟨rfl,q,os,rfl⟩;exact⟨⟨_,rfl,.inl ⟨rfl,rfl⟩⟩,q,os,rfl⟩
  .rintro x h' ⟨rfl, rfl⟩
   refine⟨rfl,⟨by grind [Bp],.inr ⟨id,_,cap,by rw[OX],AHeap.Y3 _ _ _,?_,by grind [OX]⟩⟩,fun f i af=>i.put _ (af id rfl)⟩;rw[pQ,gX (by simp[mN]),yM (by simp[mN])];rfl
def OV (xs:RZ):(Lib.compact xs).length<=xs.length:=by
 have:=OM (Lib.keeps xs.toArray) (List.range xs.length);simpa[Lib.compact,Lib.compactUpTo]using this
theorem VY (l:LA) {h:AHeap} {v:Value} {xs:RZ} (g:GI h v xs) (m:xs.length<=100000):AC Tryz.prog l 122 [v] h fun x h'=>RL RP h' x (Lib.compact xs)/\blk x=blk v/\∀f,Le f h->Z2 f v->Le f h':=by
 rcases g.cases m with⟨a,cap,rfl,rfl⟩|⟨id,c,cap,rfl,o,p,u,r,d,i⟩
 .refine (AC.ofNone (out := .slice a 0 cap) (.inr rfl) fun a' cap' w => (Any.slices_Compact_int_empty Tryz.laysNm220 a' cap' w).mono ?_).mono ?_
  .grind
  .rintro x h' ⟨rfl, rfl⟩
   refine⟨?_,rfl,fun f j _=>j⟩;have:Lib.compact ([]:RZ)=[]:=rfl
   grind [GI.rl]
 .have s := OV xs
  refine(AC.ofRow (xs:=xs) (ys:=Lib.compact xs++List.replicate (xs.length-(Lib.compact xs).length) 0) (out:=.slice (some ⟨id,0,none⟩) (Lib.compact xs).length cap) (k:=(Lib.compact xs).length) o p rfl (by simp;omega) i d r s (.inr rfl)
   fun blk off cap' w t hb b=>(Any.slices_Compact_int Tryz.laysNm220 blk off cap' xs w t NH b).mono ?_).mono ?_
  .rintro e w' ⟨rfl,q,rfl⟩;exact⟨⟨_,rfl,.inr ⟨Ma,rfl⟩⟩,q,#[],by rw[Sort.grow_empty]⟩
  .rintro x h' ⟨rfl, rfl⟩
   refine⟨RL.Wh ?_,rfl,fun f j af=>j.put _ (af id rfl)⟩;have:=RS.own (c:=cap) (n:=(Lib.compact xs).length) (AHeap.Y3 h id (.cells (acO (Lib.compact xs++List.replicate (xs.length-(Lib.compact xs).length) 0)++c.drop xs.length))) (off:=0) (by grind [mN])
   grind [acO]
end Go.Fw
namespace Go.Fw
section
attribute [local irreducible] Kp MQ lU KO1 KO KN KX KE VK Kl ZJ TC aab
open Go.Proofs
def zR (p:Pr) (q:Nat):Int:=if q=0 then p.1 else p.2
def ix42 (p:Pr) (q:Nat) (a:q<2):aIndexV Tryz.prog 38 (UI p) (.int .i64 (q:Int))=some (.int .i64 (zR p q)):=by
 have:q=0\/q=1:=NH;rcases this with rfl|rfl<;>simp[aIndexV,qS8,Mb,UI,zR,ts3]<;>rfl
def ftP (on:Nat->Bool) (p:Pr):RZ:=[p.1,p.2].filter fun x=>on x.toNat
def BY (on:Nat->Bool) (es:List Pr):RZ:=es.flatMap (ftP on)
def YJ (on:Nat->Bool) (es:List Pr):RZ:=Lib.compact (qC (BY on es))
theorem Dr (on:Nat->Bool) (es:List Pr):(BY on es).length<=2*es.length:=by
 induction es<;>grind [BY,ftP]
def YB (on:Nat->Bool) (p:Pr) (q:Nat):RZ:=([p.1,p.2].take q).filter fun x=>on x.toNat
theorem BM (on:Nat->Bool) (p:Pr) (q:Nat) (a:q<2):YB on p (q+1)=YB on p q++if on (zR p q).toNat=true then[zR p q]else[]:=by
 have:q=0\/q=1:=NH;rcases this with rfl|rfl
 all_goals grind [YB,zR]
theorem feet_any (H:LA) (F r:Value) (n:Nat) (es:List Pr) (bs:List Bool) (h:AHeap) (I:PR h F es) (hb:RL sJ h r bs) (hR:aV n es) (aa:bs.length=n) (hn:es.length<=1000):
  AC Tryz.prog H 137 [F,r] h fun x h'=>RL RP h' x (YJ (fun u=>bs.getD u false) es)/\Le h h'/\Z2 h x:=by
 refine AC.vE ⟨Tryz.func137,rfl,WY⟩ Tryz.ntmps137 Tryz.results137 fun w=>?_;simp only[Br,Nat.reduceAdd];obtain⟨J,V,y,K,W⟩:=Tt w []
 have A:aBuildSlice Tryz.prog h 49 0 []=some (.slice (some ⟨h.next,0,none⟩) 0 0,J):=by rw[<-V];rfl
 have ll:=fun g=>I.len g;refine Sk (XC A ll) ?_
 have nB:h.own h.next=none:=(Le.refl h).next w (qL0 _)
 generalize h.next=B at*
 let on:Nat->Bool:=fun u=>bs.getD u false;have X:GI J (.slice (some ⟨B,0,none⟩) 0 0) (BY on (es.take 0)):=GS.full W rfl WY;refine lIn (fun k fr hh=>∃(i:Nat) (a:Value),k=es.length-i/\i<=es.length/\fr=mkF [(1,r),(5,a),(11,F),(12,.int .i64 es.length),(13,.int .i64 i)]/\GI hh a (BY on (es.take i))/\Le h hh/\Z2 h a) ⟨0,_,rfl,Og _,rfl,X,y,fun b hb=>by grind [blk]⟩ ?_;clear X W nB A K y V J B;rintro k fr hh s ⟨i,a,rfl,hi,rfl,g,f,ap⟩;refine Uy ?_;refine Kl.intro (fun Y=>?_) (fun hf=>?_)
 rotate_left
 .have L : es.length <= i := vp hf
  rw[yM L]at g;have hl:=Dr on es;refine Uy ?_;refine TC.intro PJ ⟨qS32,rfl,WY⟩ (VQ H g NH) ?_;rintro x h2 w2 ⟨rfl,g2,k2⟩;have M:=k2 h f ap;refine Uy ?_;refine TC.intro PJ ⟨Tryz.func122,rfl,WY⟩ (VY H g2 (by rw[OX];omega)) ?_;rintro x h3 w3 ⟨r3,bx,k3⟩;have d:=k3 h M ap;refine Uy ?_;exact⟨r3,d,fun b hb=>ap b pw⟩
 have j:i<es.length:=CC Y;clear Y;have t:=CA j;have N:es.take (i+1)=es.take i++[es[i]]:=Sb j;generalize es[i]=p at t N;obtain⟨p1,p2,p3⟩:=hR p (Gc t);have ad:=I.addr (k:=.i64) i j;have ld:=(I.le f).load t;obtain⟨ae,h3,Z,e3,d,O,o3⟩:=Ut s p
 have nE:h.own hh.next=none:=f.none ((Le.refl hh).next s (qL0 _))
 have P:∀b,blk a=some b->b≠hh.next:=fun b hb e=>by subst e;have:=GS.Sy g hb;exact this ((Le.refl hh).next s (qL0 _))
 have Q:=g.le d;have m:=f.trans d;have LP:=uM o3
 generalize hh.next=E at*
 simp only[HO,Nat.reduceLT,↓reduceIte,Nat.reduceEqDiff,reduceCtorEq,ad,ld,Z,e3,LP];have C:BY on (es.take i)=BY on (es.take i)++YB on p 0:=by simp[YB]
 rw[C]at Q;refine lIn (fun k fr G=>∃(q:Nat) (a:Value),k=2-q/\q<=2/\fr=mkF [(1,r),(5,a),(11,F),(12,.int .i64 es.length),(13,.int .i64 i),(17,UI p),(18,.int .i64 q)]/\GI G a (BY on (es.take i)++YB on p q)/\Le h G/\Z2 h a) ⟨0,_,rfl,Og _,rfl,Q,m,ap⟩ ?_;clear C Q P ap g a LP m nE o3 O d Z e3;rintro k fr G R ⟨q,a,rfl,ag,rfl,g,leq,ap⟩;have hlen:(BY on (es.take i)++YB on p q).length<=100000:=by grind [Dr,YB,Nat.min_le_right]
 by_cases c:q<2
 rotate_left
 .have z : ((q : Int) < 2) = False := eq_false NH
  obtain rfl:q=2:=NH;have D:BY on (es.take i)++YB on p 2=BY on (es.take (i+1)):=by grind [BY,YB,ftP]
  rw[D]at g;refine Sk (XC z (aaa i NH)) ?_;exact lgA NH ⟨i+1,a,rfl,j,rfl,g,leq,ap⟩
 have z:((q:Int)<2)=True:=eq_true NH;have S:=ix42 p q c;have o:0<=zR p q/\zR p q<(n:Int):=by grind [zR]
 have l:=BM on p q c;generalize zR p q=x at S o l;obtain⟨v,rfl⟩:=WA o.1;have T:v<bs.length:=NH;have oa:aIndexAddr Tryz.prog 59 r (.int .i64 (v:Int))=some (.pointer (some (elemAddr r v))):=hb.LB v T;have ol:aload Tryz.prog G 4 (elemAddr r v)=some (.bool (on v)):=by rw[(hb.le Nn.sJ leq).W7 v T];simp only[on];rw[D4 T]
 rw[HV]at l;cases c2:on v with
 |false=>
  rw[c2]at ol l;have D:BY on (es.take i)++YB on p q=BY on (es.take i)++YB on p (q+1):=pw;rw[D]at g;simp only[HO,Nat.reduceLT,↓reduceIte,Nat.reduceEqDiff,reduceCtorEq,z,S,oa,ol,aaa q NH];exact lgA NH ⟨q+1,a,rfl,c,rfl,g,leq,ap⟩
 |true=>
  rw[c2]at ol l;obtain⟨U,h4,h5,e4,e5,g5,w5,l4,hf,-⟩:=g.push R (v:Int) hlen;obtain⟨l5,a5⟩:=hf h leq ap;have D:BY on (es.take i)++YB on p q++[(v:Int)]=BY on (es.take i)++YB on p (q+1):=pw;rw[D]at g5;simp only[HO,Nat.reduceLT,↓reduceIte,Nat.reduceEqDiff,reduceCtorEq,z,S,oa,ol,e4,e5,aaa q NH];exact lgA NH ⟨q+1,U,rfl,c,rfl,g5,l5,a5⟩
def Zo (n:Nat) (on:Nat->Bool) (L:RZ) (p:Pr) (i:Nat):Int:=
 if on p.1.toNat=false then L.getD p.1.toNat 0 else if on p.2.toNat=false then L.getD p.2.toNat 0 else(n:Int)+i
theorem frag_any (C:LA) (s g t:Value) (n:Nat) (es:List Pr) (bs:List Bool) (L:RZ) (B O T:Nat) (i:Nat) (p:Pr) (h:AHeap) (w:PR h s es) (hb:RL sJ h g bs) (y:RL RP h t L) (hR:aV n es) (D:bs.length=n) (E:L.length=n)
  (l0:aload Tryz.prog h 3 ⟨B,0,none⟩=some (.int .i64 n)) (l1:aload Tryz.prog h 22 ⟨B,1,none⟩=some s) (l2:aload Tryz.prog h 59 ⟨O,0,none⟩=some g) (l3:aload Tryz.prog h 49 ⟨T,0,none⟩=some t) (f:es[i]?=some p) (N:n<=100000) (F:es.length<=100000):
  AC Tryz.prog C 136 [.int .i64 (i:Int),.pointer (some ⟨B,0,none⟩),.pointer (some ⟨O,0,none⟩),.pointer (some ⟨T,0,none⟩)] h fun x h'=>x=.int .i64 (Zo n (fun u=>bs.getD u false) L p i)/\h'=h:=by
 refine AC.vE ⟨Tryz.func136,rfl,WY⟩ Tryz.ntmps136 Tryz.results136 fun G=>?_;simp only[Br,Nat.reduceAdd];have l:=(Ny.1 f).1;obtain⟨P,Q,R⟩:=hR p (Gc f);have ad:=w.addr (k:=.i64) i l;have ld:=w.load f;simp only[HO,Nat.reduceLT,↓reduceIte,Nat.reduceEqDiff,reduceCtorEq,Di,Ip,XJ,l1,ad,ld];let on:Nat->Bool:=fun u=>bs.getD u false;refine lIn (fun k fr m=>∃q:Nat,k=2-q/\q<=2/\m=h/\fr=mkF [(0,.int .i64 i),(1,.pointer (some ⟨B,0,none⟩)),(2,.pointer (some ⟨O,0,none⟩)),(3,.pointer (some ⟨T,0,none⟩)),(12,UI p),(13,.int .i64 q)]/\∀j,j<q->on (zR p j).toNat=true) ⟨0,rfl,Og _,rfl,rfl,NH⟩ ?_;rintro k fr m-⟨q,rfl,H,rfl,rfl,d⟩;by_cases c:q<2
 rotate_left
 .have z : ((q : Int) < 2) = False := eq_false NH
  obtain rfl:q=2:=NH;have I:=d 0 NH;have c1:=d 1 NH;simp only[zR,if_true,ahK,if_false]at I c1;have hf:Zo n on L p i=(n:Int)+i:=by grind [Zo]
  have wr:awrap .i64 ((n:Int)+(i:Int))=(n:Int)+i:=cT _ NH NH;simp only[HO,Nat.reduceLT,↓reduceIte,Nat.reduceEqDiff,reduceCtorEq,z,Ii,Ip,XJ,l0,wr]
  grind
 have z:((q:Int)<2)=True:=eq_true NH;have o:=ix42 p q c;have e:0<=zR p q/\zR p q<(n:Int):=by grind [zR]
 have b:on (zR p q).toNat=false->Zo n on L p i=L.getD (zR p q).toNat 0:=fun J=>by
  have:q=0\/q=1:=NH
  grind [zR,Zo]
 have a:on (zR p q).toNat=true->∀j,j<q+1->on (zR p j).toNat=true:=fun J j S=>by grind
 generalize zR p q=x at o e b a;obtain⟨v,rfl⟩:=WA e.1;rw[HV]at b a;have r:v<bs.length:=NH;have A:aIndexAddr Tryz.prog 59 g (.int .i64 (v:Int))=some (.pointer (some (elemAddr g v))):=hb.LB v r;have ol:aload Tryz.prog m 4 (elemAddr g v)=some (.bool (on v)):=by rw[hb.W7 v r];simp only[on];rw[D4 r]
 have K:=y.TA v NH;have M:=y.DH v NH;cases c2:on v with
 |true=>
  rw[c2]at ol;simp only[HO,Nat.reduceLT,↓reduceIte,Nat.reduceEqDiff,reduceCtorEq,z,o,l2,A,ol,aaa q NH];exact lgA NH ⟨q+1,rfl,c,rfl,rfl,a c2⟩
 |false=>
  rw[c2]at ol;have hf:=b c2;rw[D4 NH]at hf;simp only[HO,Nat.reduceLT,↓reduceIte,Nat.reduceEqDiff,reduceCtorEq,z,o,l2,A,ol,l3,K,M]
  grind
end
section
open Go.Proofs
variable {M:Nat} {b0 h h':AHeap} {us:List Value}
abbrev Gr:=Int×List Pr
def Ea (gs:List Gr):RZ:=gs.map (·.1)
def lstG:List Gr->Int->List Pr
 |[],_=>[]
 |(k,l)::r,f=>if k=f then l else lstG r f
def addG:List Gr->Int->Pr->List Gr
 |[],f,p=>[(f,[p])]
 |(k,l)::r,f,p=>if k=f then(k,l++[p])::r else(k,l)::addG r f p
def AO (gs:List Gr) (us:List Value):List (Value×Value):=(gs.zip us).map fun x=>(.int .i64 x.1.1,x.2)
theorem Ga (f:Int):∀(gs:List Gr) (us:List Value) (i:Nat),us.length=gs.length->
  (f∉Ea gs/\mfind .i64 f (AO gs us) i=some none/\lstG gs f=[]/\∀p,addG gs f p=gs++[(f,[p])])\/
  ∃(j:Nat) (l:List Pr) (u:Value),gs[j]?=some (f,l)/\us[j]?=some u/\mfind .i64 f (AO gs us) i=some (some (i+j,u))/\lstG gs f=l/\∀p,addG gs f p=gs.set j (f,l++[p])
 |[],us,i,h=>.inl (by simp[Ea,AO,mfind,lstG,addG])
 |(k,l)::gs,[],i,h=>by simp at h
 |(k,l)::gs,u::us,i,h=>by
  have e:AO ((k,l)::gs) (u::us)=(.int .i64 k,u)::AO gs us:=rfl;by_cases c:f=k
  .subst c
   exact .inr ⟨0,l,u,rfl,rfl,by grind [mfind.eq_2],by simp[lstG],fun p=>by simp[addG]⟩
  .have c' : ¬ k = f := fun h => c h.symm
   rcases Ga f gs us (i+1) (by simpa using h)with⟨a,h2,h3,b⟩|⟨j,l',u',a,h2,h3,b,d⟩
   .grind [Ea,mfind.eq_2,lstG.eq_2,addG.eq_2]
   .exact .inr ⟨j+1,l',u',pw,pw,by grind [mfind.eq_2],by grind [lstG.eq_2],fun p=>by grind [addG.eq_2]⟩
def dK {f:Int} {l l':List Pr} {u':Value}:∀(gs:List Gr) (us:List Value) (j:Nat),us.length=gs.length->gs[j]?=some (f,l)->AO (gs.set j (f,l')) (us.set j u')=(AO gs us).set j (.int .i64 f,u')
 |[],us,j,h,e=>by simp at e
 |g::gs,[],j,h,e=>by simp at h
 |g::gs,u::us,0,h,e=>by simp at e;subst e;rfl
 |g::gs,u::us,j+1,h,e=>by
  have:=dK (l':=l') (u':=u') gs us j (by simpa using h) (by simpa using e);show(.int .i64 g.1,u)::AO (gs.set j (f,l')) (us.set j u')=(.int .i64 g.1,u)::(AO gs us).set j (.int .i64 f,u');rw[this]
def Iv {gs:List Gr} (a:us.length=gs.length) (g:Gr) (u:Value):AO (gs++[g]) (us++[u])=AO gs us++[(.int .i64 g.1,u)]:=by rw[AO,List.zip_append a.symm];simp[AO]
structure aaE (b0 h:AHeap) (M:Nat) (us:List Value) (gs:List Gr):Prop where
 oM:h.own M=some (.map (AO gs us))
 len:us.length=gs.length
 gp:∀(j:Nat) u g,us[j]?=some u->gs[j]?=some g->GP h u g.2
 nM:∀(j:Nat) u,us[j]?=some u->blk u≠some M
 TE:∀(j k:Nat) u u' b,j≠k->us[j]?=some u->us[k]?=some u'->blk u=some b->blk u'≠some b
 ap:∀(j:Nat) u,us[j]?=some u->Z2 b0 u
 le:Le b0 h
 bM:b0.own M=none
theorem aaE.keep {gs:List Gr} (R:aaE b0 h M us gs) (le:Le b0 h') (a:∀b o,h.own b=some o->(b=M\/∃(j:Nat) (u:Value),us[j]?=some u/\blk u=some b)->h'.own b=some o):aaE b0 h' M us gs:=
 ⟨a _ _ R.oM (.inl rfl),R.len,fun j u g c hg=>GS.kept (R.gp j u g c hg) fun b o hb d=>a b o d (.inr ⟨j,u,c,hb⟩),R.nM,R.TE,R.ap,le,R.bM⟩
theorem aaE.up {b0 h h':AHeap} {M:Nat} {us:List Value} {gs:List Gr} (R:aaE b0 h M us gs) (e:Le h h'):aaE b0 h' M us gs:=R.keep (R.le.trans e) fun b o a _=>e.own _ _ a
def B9:azero Tryz.prog 22=some (.slice none 0 0):=Ji
theorem aaE.look {gs:List Gr} (R:aaE b0 h M us gs) (f:Int):∃u,aLookup Tryz.prog h 110 (.map (some M)) (.int .i64 f) false=some u/\GP h u (lstG gs f):=by
 rcases Ga f gs us 0 R.len with⟨a,h2,h3,b⟩|⟨j,l,u,a,h2,h3,b,c⟩
 .refine ⟨.slice none 0 0, ?_, by grind [GP.nil]⟩
  simp[aLookup,qS7,Mb,R.oM,B9,h2,Fw.flat]
 .refine ⟨u, ?_, by grind [aaE.gp]⟩
  simp[aLookup,qS7,Mb,R.oM,B9,h3,Fw.flat]
theorem aaE.push {b0 h:AHeap} {M:Nat} {us:List Value} {gs:List Gr} (R:aaE b0 h M us gs) (z:WF h) (f:Int) (p:Pr) (L:(lstG gs f).length+1<=100000):
  ∃u u' w A E B,aLookup Tryz.prog h 110 (.map (some M)) (.int .i64 f) false=some u/\aBuildSlice Tryz.prog h 22 1 [(0,UI p)]=some (.slice (some ⟨h.next,0,none⟩) 1 1,w)/\aAppend Tryz.prog w 22 22 u (.slice (some ⟨h.next,0,none⟩) 1 1)=some (u',A)/\
   aMapSet Tryz.prog A 110 (.map (some M)) (.int .i64 f) u'=some E/\aaE b0 E M B (addG gs f p)/\WF E/\Le h w/\
   (∀b o,h.own b=some o->b≠M->(∀(j:Nat) a,us[j]?=some a->blk a≠some b)->A.own b=some o/\E.own b=some o/\∀(j:Nat) a,B[j]?=some a->blk a≠some b):=by
 rcases Ga f gs us 0 R.len with⟨F,h2,h3,w⟩|⟨j,l,u,F,h2,h3,w,A⟩
 .obtain ⟨u', G, x, e4, H, s, C, l4, hf, y⟩ := (GP.nil h).push z p Ma
  have c:∀b o,h.own b=some o->x.own b=some o/\blk u'≠some b:=fun b o d=>y b o d (by simp[blk]);obtain⟨l5,N⟩:=hf b0 R.le (fun b hb=>by grind [blk]);have m:=(c _ _ R.oM).1;refine⟨.slice none 0 0,u',G,x,x.put M (.map (AO gs us++[(.int .i64 f,u')])),us++[u'],by simp[aLookup,qS7,Mb,R.oM,B9,h2,Fw.flat],e4,H,by simp only[aMapSet,qS7,Mb,m,h2],?_,C.put _ (C.lt m),l4,fun b o d hb I=>⟨(c b o d).1,by rw[AHeap.By _ _ _ _ hb];exact(c b o d).1,fun k a ha=>?_⟩⟩
  .rw [w]
   have O:=Iv R.len (f,[p]) u';have t:∀(k:Nat) a,(us++[u'])[k]?=some a->(us[k]?=some a)\/(k=us.length/\a=u'):=fun k a ha=>by grind
   refine⟨by grind [AHeap.Y3],by simp[R.len],fun k a g ha hg=>?_,fun k a ha=>?_,fun k v a a' b J ha mi hb=>?_,fun k a ha=>?_,l5.put _ R.bM,R.bM⟩
   .rcases t k a ha with xa | ⟨rfl, rfl⟩
    .have P := (Ny.1 xa).1
     rw[Eh (by grind [aaE.len])]at hg;exact GS.put (GS.kept (R.gp k a g xa hg) fun b o hb d=>(c b o d).1) _ (R.nM k a xa)
    .rw [vZ (by grind [aaE.len]), R.len] at hg
     simp at hg;subst hg;have:([]++[p]:List Pr)=[p]:=rfl;rw[this]at s;exact GS.put s _ (c _ _ R.oM).2
   .grind [aaE.nM,aaE.oM]
   .rcases t k a ha with xa | ⟨rfl, rfl⟩
    .rcases t v a' mi with n | ⟨rfl, rfl⟩
     .grind [aaE.TE]
     .have r : ∃ q, gs[k]? = some q := ⟨_, CA (by grind [aaE.len])⟩
      obtain⟨q,D⟩:=r;obtain⟨o,d⟩:=Db.1 (GS.Sy (R.gp k a q xa D) hb)
      grind
    .rcases t v a' mi with n | ⟨rfl, rfl⟩
     .intro sZ
      have r:∃q,gs[v]?=some q:=⟨_,CA (by grind [aaE.len])⟩;obtain⟨q,D⟩:=r;obtain⟨o,d⟩:=Db.1 (GS.Sy (R.gp v a' q n D) sZ)
      grind
     grind
   grind [aaE.ap]
  grind
 .rw [w] at L
  have Q:=R.gp j u _ h2 F;obtain⟨u',G,x,e4,H,s,C,l4,hf,y⟩:=GP.push Q z p L;obtain⟨l5,N⟩:=hf b0 R.le (R.ap j u h2);have m:=y _ _ R.oM (R.nM j u h2);have S:=(Ny.1 h2).1;have i:∀(k:Nat) a,(us.set j u')[k]?=some a->(k≠j/\us[k]?=some a)\/(k=j/\a=u'):=fun k a ha=>by grind
  have own:∀(k:Nat) a b,us[k]?=some a->blk a=some b->∃o,h.own b=some o:=fun k a b ha hb=>by
   have r:∃q,gs[k]?=some q:=⟨_,CA (by grind [aaE.len])⟩;obtain⟨q,D⟩:=r;exact Db.1 (GS.Sy (R.gp k a q ha D) hb)
  refine⟨u,u',G,x,x.put M (.map ((AO gs us).set (0+j) (.int .i64 f,u'))),us.set j u',by simp[aLookup,qS7,Mb,R.oM,B9,h3,Fw.flat],e4,H,by simp only[aMapSet,qS7,Mb,m.1,h3],?_,C.put _ (C.lt m.1),l4,fun b o d hb I=>⟨(y b o d (I j u h2)).1,by rw[AHeap.By _ _ _ _ hb];exact(y b o d (I j u h2)).1,fun k a ha=>?_⟩⟩
  .rw [A]
   have O:=dK (l':=l++[p]) (u':=u') gs us j R.len F;have K:=(Ny.1 F).1;refine⟨by grind [AHeap.Y3],by simp[R.len],fun k a g ha hg=>?_,fun k a ha=>?_,fun k v a a' b J ha mi hb=>?_,fun k a ha=>?_,l5.put _ R.bM,R.bM⟩
   .rcases i k a ha with ⟨e, xa⟩ | ⟨rfl, rfl⟩
    .rw [fj, if_neg (uV e)] at hg
     exact GS.put (GS.kept (R.gp k a g xa hg) fun b o hb d=>(y b o d (fun sZ=>R.TE k j a u b e xa h2 hb sZ)).1) _ (R.nM k a xa)
    .rw [fj, if_pos rfl, if_pos K] at hg
     injection hg with hg;subst hg;exact GS.put s _ m.2
   .grind [aaE.nM]
   .rcases i k a ha with ⟨e, xa⟩ | ⟨rfl, rfl⟩
    .rcases i v a' mi with ⟨e', n⟩ | ⟨rfl, rfl⟩
     .grind [aaE.TE]
     .obtain ⟨o, d⟩ := own k a b xa hb
      grind [aaE.TE]
    .rcases i v a' mi with ⟨e', n⟩ | ⟨rfl, rfl⟩
     .intro sZ
      obtain⟨o,d⟩:=own v a' b n sZ
      grind [aaE.TE]
     grind
   grind [aaE.ap]
  grind
variable {F i:Nat} {es ps web:List Pr} {fr:Pr->Nat->Int} {gs:List Gr} {p:Pr} {xs:RZ}
theorem RY (gs:List Gr) (f:Int) (p:Pr):Ea (addG gs f p)=if f∈Ea gs then Ea gs else Ea gs++[f]:=by
 induction gs<;>grind [Ea,addG]
theorem keysG_nd (h:(Ea gs).Nodup) (f:Int) (p:Pr):(Ea (addG gs f p)).Nodup:=by grind [RY]
theorem addG_ne (h:∀g∈gs,g.2≠[]) (f:Int) (p:Pr):∀g∈addG gs f p,g.2≠[]:=by
 induction gs with
 |nil=>grind [addG]
 |cons g gs b=>
  obtain⟨k,l⟩:=g;intro x a;by_cases c:k=f
  .simp only [addG, if_pos c, EL] at a
   rcases a with rfl|a
   .simp
   grind
  grind [addG]
theorem NI {f:Int} {l:List Pr}:∀{gs:List Gr} {i:Nat},(Ea gs).Nodup->gs[i]?=some (f,l)->lstG gs f=l
 |[],i,_,e=>by simp at e
 |(k,l')::gs,0,_,e=>by grind [lstG]
 |(k,l')::gs,i+1,h,e=>by
  simp only[Ea,mJ,aaf]at h;have b:f∈Ea gs:=Z6.2 ⟨(f,l),Gc (by simpa using e),rfl⟩;have a:¬k=f:=fun e=>h.1 pw;rw[lstG,if_neg a];exact NI h.2 (by simpa using e)
theorem rV {f:Int}:∀{gs:List Gr},(∀g∈gs,g.2≠[])->(f∈Ea gs↔lstG gs f≠[])
 |[],_=>by simp[Ea,lstG]
 |(k,l)::gs,h=>by
  by_cases c:k=f
  .subst c;have a:l≠[]:=h (k,l) Ma;grind [Ea,lstG]
  .have c' : ¬ f = k := fun h => c h.symm
   have:=rV (f:=f) (gs:=gs) fun g hg=>h g (by simp[hg])
   grind [lstG.eq_2,Ea]
def Ft (f:Int):∀(gs:List Gr) (m:Nat),(∀g∈gs,g.2.length<=m)->(lstG gs f).length<=m
 |[],m,_=>by simp[lstG]
 |(k,l)::gs,m,h=>by
  by_cases c:k=f
  .rw[lstG,if_pos c];exact h (k,l) Ma
  .rw[lstG,if_neg c];exact Ft f gs m fun g hg=>h g (by simp[hg])
theorem Zk (f:Int) (p:Pr):∀(gs:List Gr) (m:Nat),(∀g∈gs,g.2.length<=m)->∀g∈addG gs f p,g.2.length<=m+1
 |[],m,_=>fun g hg=>by grind [addG]
 |(k,l)::gs,m,h=>fun g hg=>by
  have a:=h (k,l) Ma;by_cases c:k=f
  .grind [addG]
  .simp only [addG, if_neg c, EL] at hg
   rcases hg with rfl|hg
   .grind
   .exact Zk f p gs m (fun g hg=>h g (by simp[hg])) g hg
def grpsM (fr:Pr->Nat->Int) (es web:List Pr):Nat->List Gr
  |0=>[]
  |i+1=>match es[i]? with
    |some p=>if p∈web then grpsM fr es web i else addG (grpsM fr es web i) (fr p i) p
    |none=>grpsM fr es web i
theorem JJ (h:es[i]?=some p) (hw:p∈web):grpsM fr es web (i+1)=grpsM fr es web i:=by grind [grpsM]
theorem dh (h:es[i]?=some p) (hw:p∉web):grpsM fr es web (i+1)=addG (grpsM fr es web i) (fr p i) p:=by grind [grpsM]
theorem Pt (fr:Pr->Nat->Int) (es web:List Pr) (i:Nat):(Ea (grpsM fr es web i)).Nodup/\(∀g∈grpsM fr es web i,g.2≠[])/\(∀g∈grpsM fr es web i,g.2.length<=i)/\(grpsM fr es web i).length<=i/\∀g∈grpsM fr es web i,∀p∈g.2,p∈es:=by
  have a:∀(gs:List Gr) (f:Int) (p:Pr),(∀g∈gs,∀q∈g.2,q∈es)->p∈es->∀g∈addG gs f p,∀q∈g.2,q∈es:=by
    intro gs f p
    induction gs with
    |nil=>grind [addG]
    |cons g gs m=>
      obtain⟨k,l⟩:=g;intro h e x d;by_cases c:k=f
      · simp only [addG, if_pos c, EL] at d
        rcases d with rfl|d
        · intro q j; simp only [qL7, jf] at j
          rcases j with j|rfl
          .exact h (k,l) Ma q j
          .exact e
        grind
      · simp only [addG, if_neg c, EL] at d
        rcases d with rfl|d
        .exact h _ Ma
        .exact m (fun g hg=>h g (by simp[hg])) e x d
  have b:∀(gs:List Gr) (f:Int) (p:Pr),(addG gs f p).length<=gs.length+1:=by
    intro gs f p
    induction gs<;>grind [addG]
  induction i with
  |zero=>simp[grpsM,Ea]
  |succ i m=>
    obtain⟨n,h2,h3,r,o⟩:=m;have up:∀g∈grpsM fr es web i,g.2.length<=i+1:=fun g hg=>by grind
    cases e:es[i]? with
    | none => have : grpsM fr es web (i + 1) = grpsM fr es web i := by grind [grpsM]
              rw[this];grind
    |some p=>
      by_cases c:p∈web
      .rw[JJ e c];grind
      · rw [dh e c]
        exact⟨keysG_nd n _ _,addG_ne h2 _ _,Zk _ _ _ _ h3,pw,a _ _ _ o (Gc e)⟩
structure FM where
 zp:List Pr
 Fm:RZ
def FL (h:AHeap) (v:Value) (c:List FM):Prop:=∃cs,CS 2 h v c.length cs/\∀(i:Nat) f,c[i]?=some f->∃a b,cs[i*2]?=some a/\cs[i*2+1]?=some b/\PR h a f.zp/\RL RP h b f.Fm
def zB:UA Tryz.prog 122=2:=Ji
theorem mkFr (h:AHeap) (n:Nat) (d:n<=100000):∃c,aMakeSlice Tryz.prog h 118 (.int .i64 (n:Int)) (.int .i64 (n:Int))=some (.slice (some ⟨h.next,0,none⟩) n n,h.alloc (.cells c))/\c.length=n*2:=by
 have e:azero Tryz.prog 122=some (.agg #[.slice none 0 0,.slice none 0 0]):=Ji;have hb:(Tryz.prog.bytesOf 122).ble 1000=true:=Ji;have a:(Tryz.prog.bytesOf 122:Int)*n<=140737488355328:=by
  have:Tryz.prog.bytesOf 122*n<=1000*1000000:=KV (qL232 hb) NH;have h2:((Tryz.prog.bytesOf 122*n:Nat):Int)<=1000000000:=NH;rw[Int.natCast_mul]at h2;omega
 have b:(n:Int)<=140737488355328:=NH;have f:(Value.agg #[.slice none 0 0,.slice none 0 0]).cells=#[.slice none 0 0,.slice none 0 0]:=rfl;have g:(zrow [Value.slice none 0 0,Value.slice none 0 0] n).all (·.oneCell')=true:=by
  clear a b d
  induction n with
  |zero=>rfl
  |succ n i=>simp only[zrow,ahu,i,ahG];rfl
 refine⟨zrow [.slice none 0 0,.slice none 0 0] n,?_,by grind [jY]⟩;simp[aMakeSlice,qS22,sU,e,f,zB,a,b,IF,g,Fw.flat]
def stFr {c:List Value} {a b:Value} (d:h.own F=some (.cells c)) (hi:i*2+2<=c.length) (ha:PR h a ps) (hb:RL RP h b xs):
  aStore Tryz.prog h 122 (.pointer (some ⟨F,i*2,none⟩)) (.agg #[a,b])=some (h.put F (.cells ((c.set (i*2) a).set (i*2+1) b))):=by
 have e:=ha.sl.one;have h2:=hb.one;have f:(Value.agg #[a,b]).cells=#[a,b]:=rfl;simp[aStore,d,f,zB,putCells,sU,e,h2,hi]
theorem wP:∀(a b:RZ),a.Pairwise (·<·)->b.Pairwise (·<·)->(∀x,x∈a↔x∈b)->a=b
 |[],[],_,_,_=>rfl
 |[],y::b,_,_,h=>by have:=(h y).2 Ma;simp at this
 |x::a,[],_,_,h=>by have:=(h x).1 Ma;simp at this
 |x::a,y::b,ha,hb,h=>by
  rw[gK]at ha hb;have e:x=y:=by
   have c:=(h x).1 Ma;have h2:=(h y).2 Ma
   grind
  subst e;rw[wP a b ha.2 hb.2 fun z=>?_]
  grind
theorem jn (l:RZ) (x:Int):x∈Lib.compact l↔x∈l:=by
 simp only[Lib.compact,Lib.compactUpTo,Z6,aax,iy];constructor
 .grind
 .intro b
  obtain⟨j,a,rfl⟩:=U9.1 b
  induction j with
  |zero=>exact⟨0,⟨a,by simp[Lib.keeps]⟩,pw⟩
  |succ j d=>
   by_cases c:l[j+1]=l[j]
   .grind
   .refine ⟨j + 1, ⟨a, ?_⟩, pw⟩
    simp only[Lib.keeps,decide_eq_true_eq,Nat.add_sub_cancel]
    grind
theorem bT {l:RZ} (h:l.Pairwise (·<=·)):(Lib.compact l).Pairwise (·<·):=by
 simp only[Lib.compact,Lib.compactUpTo];rw[wI];have f:((List.range l.length).filter (Lib.keeps l.toArray)).Pairwise (·<·):=by grind [List.pairwise_lt_range]
 refine K4 ?_ f;intro i j hi c g;rw[aax,iy]at hi c;obtain⟨b,a⟩:=c;simp only[Lib.keeps,decide_eq_true_eq]at a;rw[getElem!_pos _ i (by simp;omega),getElem!_pos _ j pw]at*;rcases a with d|d
 .omega
 .rw [getElem!_pos _ (j - 1) (by simp; omega)] at d
  rw[DF]at h;simp only[jO]at*;have h2:=h (j-1) j NH b NH;by_cases e:i=j-1
  .grind
  .have:=h i (j-1) NH NH NH;omega
theorem Wv (l:RZ) (x:Int):x∈qC l↔x∈l:=by simp[qC]
theorem aQ (l:RZ):(qC l).Pairwise (·<=·):=by grind [List.pairwise_mergeSort,qC]
end
variable {es:List Pr} {n s u v w:Nat} {o:II} {up:RZ}
abbrev offA:Nat->Bool:=fun _=>false
abbrev Pu (es:List Pr):Nat->Nat->Prop:=Cn offA es
theorem Pu.refl (es:List Pr) (u:Nat):Pu es u u:=Cn.refl rfl
theorem abu (h:Jp es u w):Pu es u w:=.step (.refl rfl) h rfl
theorem Pu.lt {n:Nat} {es:List Pr} (b:aV n es) {u w:Nat} (h:Pu es u w) (c:u<n):w<n:=by
 induction h with
 |refl _=>exact c
 |step _ a _ _=>exact(a.lt b).2
theorem du.bp (d:du n es s o up):∀v∈o,Pu es s v:=by
 induction d with
 |start=>grind [Pu.refl]
 |step d c ha _ _ _ b=>
  intro x a;rw[qL7,jf]at a;rcases a with a|rfl
  .exact b x a
  .exact .step (b _ (Gc c)) ha rfl
theorem du.head (d:du n es s o up):o[0]?=some s:=by
 induction d<;>grind
theorem du.nodup (d:du n es s o up):o.Nodup:=by
 induction d<;>grind
theorem Oc.mem (d:Oc n es s o up) (v:Nat):v∈o↔Pu es s v:=by
 refine⟨d.KP.bp v,fun h=>?_⟩
 induction h with
 |refl _=>exact Gc d.KP.head
 |step _ a _ b=>exact d.full _ b _ a
open Classical in
noncomputable def Ic (n:Nat) (es:List Pr) (v:Nat):II:=(List.range n).filter fun w=>decide (Pu es v w)
open Classical in
noncomputable def Es (n:Nat) (es:List Pr):II:=(List.range n).filter fun v=>decide (∀u,u<v->¬Pu es u v)
noncomputable def Gx (n:Nat) (es:List Pr) (k:Nat):Cs:=((Es k es).map (Ic n es))
theorem mY:w∈Ic n es v↔w<n/\Pu es v w:=by simp[Ic]
theorem QO:v∈Es n es↔v<n/\∀u,u<v->¬Pu es u v:=by simp[Es]
theorem yP (k:Nat) (es:List Pr):(Es (k+1) es=Es k es++[k]/\∀u,u<k->¬Pu es u k)\/(Es (k+1) es=Es k es/\∃u,u<k/\Pu es u k):=by grind [Es,List.range_succ]
theorem vH (k:Nat) (es:List Pr):(Es k es).length<=k:=by grind [Es]
theorem uA (n:Nat):(List.range n).Pairwise (·<·):=by grind [List.pairwise_iff_getElem]
theorem SU (n:Nat) (es:List Pr) (v:Nat):(Ic n es v).Pairwise (·<·):=(uA n).filter _
theorem fM (b:aV n es) (d:Oc n es s o up) (hs:s<n):qC (kz o)=kz (Ic n es s):=by
 have c:(kz (Ic n es s)).Pairwise (·<·):=by grind [kz.eq_1,SU]
 have e:(qC (kz o)).Pairwise (·<·):=by
  have nd:(qC (kz o)).Nodup:=by
   have a:(qC (kz o)).Perm (kz o):=List.mergeSort_perm _ _;rw[a.nodup_iff,kz];have:=d.KP.nodup
   grind
  have:=List.Pairwise.and (aQ (kz o)) (si.1 nd)
  grind
 grind [wP,Wv,kz,mY,Oc.mem,Pu.lt]
end Go.Fw
namespace Go.Fw
inductive pJ (up:Nat->Option Nat):Nat->Nat->Prop
 |refl (a:Nat):pJ up a a
 |step {a b c:Nat}:pJ up a b->up c=some b->pJ up a c
theorem pJ.one {up:Nat->Option Nat} {b c:Nat} (h:up c=some b):pJ up b c:=.step (.refl b) h
theorem pJ.trans {up:Nat->Option Nat} {a b c:Nat} (h:pJ up a b) (k:pJ up b c):pJ up a c:=by
 induction k with
 |refl=>exact h
 |step _ e d=>exact .step d e
theorem pJ.chain {up:Nat->Option Nat} {a b c:Nat} (h:pJ up a c) (k:pJ up b c):pJ up a b\/pJ up b a:=by
 induction h with
 |refl=>exact .inr k
 |@step x c h e d=>
  cases k with
  |refl=>exact .inl (h.step e)
  |@step y _ k e'=>grind
theorem pJ.child {up:Nat->Option Nat} {a b:Nat} (h:pJ up a b) (ne:a≠b):∃c,up c=some a/\pJ up c b:=by
 induction h with
 |refl=>grind
 |@step x c h e f=>
  by_cases q:a=x
  .subst q;exact⟨c,e,.refl c⟩
  .obtain⟨d,g,h2⟩:=f q;exact⟨d,g,h2.step e⟩
theorem pJ.last {up:Nat->Option Nat} {a b:Nat} (h:pJ up a b) (ne:a≠b):∃c,up b=some c/\pJ up a c:=by
 cases h<;>grind
structure Fo (n:Nat) (es:List Pr) (num:Nat->Nat) (up:Nat->Option Nat):Prop where
 rD:aV n es
 inj:∀u v,u<n->v<n->num u=num v->u=v
 Kd:∀v u,v<n->up v=some u->Jp es u v/\num u<num v
 anc:∀a b,Jp es a b->num a<num b->pJ up a b
abbrev wo (v:Nat):Nat->Bool:=fun x=>x==v
theorem iO {v x:Nat} (h:x≠v):wo v x=false:=pw
def ym (es:List Pr) (num:Nat->Nat) (up:Nat->Option Nat) (v c:Nat):Prop:=∃x w,pJ up c x/\Jp es x w/\num w<num v
def Nt (es:List Pr) (up:Nat->Option Nat) (u w:Nat):Prop:=Jp es u w/\up u≠some w/\up w≠some u
structure Iw (es:List Pr) (num:Nat->Nat) (up:Nat->Option Nat) (D:Nat->Nat->Prop) (v:Nat) (x:Nat):Prop where
 self:x<=num v
 back:∀u w,D v u->Nt es up u w->x<=num w
 some_:x=num v\/∃u w,D v u/\Nt es up u w/\x=num w
namespace Fo
variable {n : Nat} {es : List Pr} {num : Nat → Nat} {up : Nat → Option Nat}
theorem yO (F:Fo n es num up) {a b:Nat} (h:pJ up a b) (hb:b<n):a<n/\(a=b\/num a<num b):=by
 induction h with
 |refl=>grind
 |@step x c h e d=>
  obtain⟨f,h2⟩:=F.Kd c x hb e;obtain⟨h3,g⟩:=d (f.lt F.rD).1
  grind
theorem JD (F:Fo n es num up) {a b:Nat} (h:Jp es a b):num a≠num b:=by
 intro e;have:=F.inj a b (h.lt F.rD).1 (h.lt F.rD).2 e;rcases h with h|h<;>have:=F.rD _ h<;>simp only at this<;>omega
def along (F:Fo n es num up) {a b v:Nat} (h:pJ up a b) (hb:b<n) (d:∀x,pJ up a x->pJ up x b->x≠v):Cn (wo v) es a b:=by
 induction h with
 |refl=>exact .refl (iO (d _ (.refl _) (.refl _)))
 |@step x c h e g=>
  obtain⟨f,h2⟩:=F.Kd c x hb e;exact .step (g (f.lt F.rD).1 fun y h3 i=>d y h3 (i.step e)) f (iO (d c (h.step e) (.refl c)))
def WU (F:Fo n es num up) {a v:Nat} (h:pJ up a v) (ne:a≠v) (b:v<n):num a<num v:=(F.yO h b).2.resolve_left ne
theorem xG (F:Fo n es num up) {a b v:Nat} (d:v<n) (ha:pJ up a v) (f:a≠v) (hb:pJ up b v) (nb:b≠v):Cn (wo v) es a b:=by
 have key:∀{a b:Nat},pJ up a b->pJ up b v->b≠v->Cn (wo v) es a b:=by
  intro a b h hb nb;have c:=(F.yO hb d).1;refine F.along h c fun x _ g e=>?_
  grind [Fo.yO]
 grind [pJ.chain,Cn.symm]
theorem below (F:Fo n es num up) {c a v:Nat} (ha:a<n) (d:up c=some v) (h:pJ up c a):Cn (wo v) es c a:=by
 have b:=(F.yO h ha).1;refine F.along h ha fun x g f e=>?_;subst e;have i:=(F.Kd c x b d).2
 grind [Fo.yO]
theorem CJ (F:Fo n es num up) {c v:Nat} (b:c<n) (d:up c=some v) (h:ym es num up v c):∃w,pJ up w v/\w≠v/\Cn (wo v) es c w:=by
 obtain⟨x,w,i,h2,h3⟩:=h;have j:=(h2.lt F.rD).1;have k:=((F.Kd c v b d).1.lt F.rD).1;have f:pJ up v x:=(pJ.one d).trans i;have g:num w<num x:=by grind [Fo.yO]
 have a:w≠v:=fun e=>by grind
 have ha:=F.anc w x h2.symm g;rcases ha.chain f with h|h
 .exact⟨w,h,a,(F.below j d i).step h2 (iO a)⟩
 grind [Fo.yO]
theorem UT (F:Fo n es num up) {c v x:Nat} (b:c<n) (j:up c=some v) (h:¬ym es num up v c) (k:Cn (wo v) es c x):pJ up c x/\x<n:=by
 induction k with
 |refl _=>exact⟨.refl _,b⟩
 |@step x y k a o m=>
  obtain⟨l,s⟩:=m;have p:=(a.lt F.rD).2;refine⟨?_,p⟩;have g:y≠v:=pw;by_cases q:num y<num x
  .have h2 := F.anc y x a.symm q
   rcases l.chain h2 with h3|h3
   .exact h3
   .by_cases e : y = c
    .grind
    .obtain ⟨d, f, r⟩ := h3.last e
     rw[j]at f;injection f with f;subst f;have i:=((F.Kd c v b j).1.lt F.rD).1;exact absurd ⟨x,y,l,a,F.WU r g i⟩ h
  grind [Fo.JD,pJ.trans,Fo.anc]
theorem low_bey (F:Fo n es num up) {c v x:Nat} (f:c<n) (i:up c=some v) (L:Iw es num up (pJ up) c x):x<num v↔ym es num up v c:=by
 have j:=(F.Kd c v f i).2;constructor
 .intro h
  rcases L.some_ with a|⟨u,w,a,h2,h3⟩
  .omega
  .exact⟨u,w,a,h2.1,NH⟩
 .rintro ⟨u, w, a, h2, h3⟩
  have g:=(h2.lt F.rD).1;have l:=(F.yO a g).2;have:=L.back u w a ⟨h2,fun e=>?_,fun e=>?_⟩
  .omega
  .by_cases q : c = u
   .grind
   .obtain ⟨d, b, k⟩ := a.last q
    rw[e]at b;injection b with b;subst b;rcases(F.yO k (h2.lt F.rD).2).2 with h|h
    all_goals grind
  .have := (F.Kd w u (h2.lt F.rD).2 e).2
   grind
structure abi (n:Nat) (es:List Pr) (num:Nat->Nat) (up:Nat->Option Nat) (hd:Nat->Nat):Prop where
 root:∀v,v<n->up v=none->hd v=v
 on:∀v u,v<n->up v=some u->ym es num up u v->hd v=hd u
 new:∀v u,v<n->up v=some u->¬ym es num up u v->hd v=v
variable {hd : Nat → Nat}
def US (F:Fo n es num up) (H:abi n es num up hd):∀(k v:Nat),num v<=k->v<n->pJ up (hd v) v/\hd (hd v)=hd v:=by
 intro k
 induction k with
 |zero=>
  intro v c b;have hh:hd v=v:=by
   cases a:up v with
   |none=>exact H.root v b a
   |some u=>have:=(F.Kd v u b a).2;omega
  rw[hh];exact⟨.refl v,hh⟩
 |succ k d=>
  intro v c b;cases a:up v with
  |none=>rw[H.root v b a];exact⟨.refl v,H.root v b a⟩
  |some u=>
   have e:=F.Kd v u b a;by_cases hb:ym es num up u v
   .rw [H.on v u b a hb]
    obtain⟨h2,h3⟩:=d u NH (e.1.lt F.rD).1;exact⟨h2.step a,h3⟩
   .rw[H.new v u b a hb];exact⟨.refl v,H.new v u b a hb⟩
def lower (num:Nat->Nat) (x y:Nat):Nat:=if num y<num x then x else y
theorem zP (F:Fo n es num up) (H:abi n es num up hd) {c v a:Nat} (j:up c=some v) (ha:pJ up c a) (f:Jp es v a):hd a=hd c:=by
 have g:=(f.lt F.rD).2;have i:=(F.yO ha g).1;have k:=(F.Kd c v i j).2;have key:∀z,pJ up c z->pJ up z a->hd z=hd c:=by
  intro z l
  induction l with
  |refl=>intro _;rfl
  |@step b z hb e m=>
   intro d;have h:=(F.yO d g).1;have o:=((F.Kd z b h e).1.lt F.rD).1;rw[H.on z b h e ⟨a,v,d,f.symm,?_⟩]
   .exact m ((pJ.one e).trans d)
   grind [Fo.yO]
 exact key a ha (.refl a)
theorem Hp (F:Fo n es num up) (H:abi n es num up hd) {v a b:Nat} (ha:Jp es v a) (hb:Jp es v b):hd (lower num v a)=hd (lower num v b)↔Cn (wo v) es a b:=by
 have u:=(ha.lt F.rD).1;have J:∀c,up c=some v->c<n->hd v≠c:=fun c j g e=>by
  have C:=(F.US H (num v) v (qL0 _) u).1;have h2:=(F.Kd c v g j).2
  grind [Fo.yO]
 have mixed:∀{a b:Nat},Jp es v a->Jp es v b->num a<num v->num v<num b->(hd v=hd b↔Cn (wo v) es a b):=by
  intro a b ha hb C h2;have l:=(hb.lt F.rD).2;have D:=F.anc a v ha.symm C;have E:a≠v:=fun e=>by grind
  obtain⟨c,j,z⟩:=(F.anc v b hb h2).child pw;have g:=(F.yO z l).1;have L:=(F.Kd c v g j).2;rw[F.zP H j z hb];by_cases q:ym es num up v c
  .rw [H.on c v g j q]
   obtain⟨w,A,B,s⟩:=F.CJ g j q;exact⟨fun _=>((F.xG u D E A B).trans s.symm).trans (F.below l j z),fun _=>rfl⟩
  grind [Fo.abi.new,Fo.UT,Fo.below,Cn.trans,Cn.symm,Fo.yO]
 have M:=F.JD ha;have nb:=F.JD hb;rcases jV M with C|C<;>rcases jV nb with h2|h2
 .have N : lower num v a = a := by grind [Fo.lower]
  have O:lower num v b=b:=by grind [Fo.lower]
  rw[N,O];have t:=(ha.lt F.rD).2;have l:=(hb.lt F.rD).2;obtain⟨c,j,r⟩:=(F.anc v a ha C).child pw;obtain⟨d,f,o⟩:=(F.anc v b hb h2).child pw;have g:=(F.yO r t).1;have m:=(F.yO o l).1;rw[F.zP H j r ha,F.zP H f o hb];by_cases q:ym es num up v c
  .rw [H.on c v g j q]
   obtain⟨w,A,B,s⟩:=F.CJ g j q;by_cases p:ym es num up v d
   .rw [H.on d v m f p]
    obtain⟨x,P,Q,G⟩:=F.CJ m f p;exact⟨fun _=>(((F.below t j r).symm.trans s).trans (by grind [Fo.xG])).trans (G.symm.trans (F.below l f o)),fun _=>rfl⟩
   .rw [H.new d v m f p]
    refine⟨pw,fun k=>?_⟩;have h3:=F.UT m f p (((F.below l f o).trans k.symm).trans ((F.below t j r).symm.trans s));have R:=F.WU A B u;have K:=(F.Kd d v m f).2
    grind [Fo.yO]
  .rw [H.new c v g j q]
   have toA:Cn (wo v) es a b->pJ up c b:=by grind [Fo.UT,Fo.below,Cn.trans]
   have same:pJ up c b->c=d:=fun h=>by
    rcases h.chain o with h'|h'
    .by_cases e : c = d
     .exact e
     .obtain ⟨y, i, I⟩ := h'.last e
      rw[f]at i;injection i with i;subst i;have K:=(F.Kd c v g j).2
      grind [Fo.yO]
    .by_cases e : d = c
     .exact e.symm
     .obtain ⟨y, i, I⟩ := h'.last e
      rw[j]at i;injection i with i;subst i;have K:=(F.Kd d v m f).2
      grind [Fo.yO]
   constructor
   .intro e
    by_cases p:ym es num up v d
    .grind [Fo.abi.on]
    .rw [H.new d v m f p] at e; subst e
     exact(F.below t j r).symm.trans (F.below l j o)
   grind [Fo.abi.new]
 .grind [Fo.lower,Cn.symm]
 all_goals grind [Fo.lower,Fo.xG,Fo.anc,Jp.symm]
def Cut2 (es:List Pr) (v:Nat):Prop:=∃a b,Jp es v a/\Jp es v b/\¬Cn (wo v) es a b
theorem cut_iff (F:Fo n es num up) (v:Nat) (u:v<n):
  Cut2 es v↔(∃c d,c<n/\d<n/\c≠d/\up c=some v/\up d=some v/\¬ym es num up v c/\¬ym es num up v d)\/(∃c,c<n/\up c=some v/\¬ym es num up v c/\up v≠none):=by
 constructor
 .rintro ⟨a, b, ha, hb, A⟩
  have I:=F.JD ha;have nb:=F.JD hb;have mixed:∀{a b:Nat},Jp es v a->Jp es v b->num a<num v->num v<num b->¬Cn (wo v) es a b->∃c,c<n/\up c=some v/\¬ym es num up v c/\up v≠none:=by
   intro a b ha hb B h2 A;have h:=(hb.lt F.rD).2;have C:=F.anc a v ha.symm B;have D:a≠v:=fun e=>by grind
   obtain⟨c,g,z⟩:=(F.anc v b hb h2).child pw;have f:=(F.yO z h).1;refine⟨c,f,g,fun q=>?_,?_⟩
   .obtain ⟨w, l, m, o⟩ := F.CJ f g q
    exact A (((F.xG u C D l m).trans o.symm).trans (F.below h g z))
   grind [pJ.last]
  rcases jV I with B|B<;>rcases jV nb with h2|h2
  .have r := (ha.lt F.rD).2
   have h:=(hb.lt F.rD).2;obtain⟨c,g,s⟩:=(F.anc v a ha B).child pw;obtain⟨d,i,t⟩:=(F.anc v b hb h2).child pw;have f:=(F.yO s r).1;have j:=(F.yO t h).1;have E:∀{w},pJ up w v->w≠v->up v≠none:=by grind [pJ.last]
   by_cases q:ym es num up v c
   .obtain ⟨w, l, m, o⟩ := F.CJ f g q
    refine .inr ⟨d,j,i,fun p=>?_,E l m⟩;obtain⟨x,J,K,G⟩:=F.CJ j i p;exact A ((((F.below r g s).symm.trans o).trans (by grind [Fo.xG])).trans (G.symm.trans (F.below h i t)))
   .by_cases p : ym es num up v d
    .grind [Fo.CJ]
    .refine .inl ⟨c, d, f, j, fun e => ?_, g, i, q, p⟩
     subst e;exact A ((F.below r g s).symm.trans (F.below h g t))
  .grind [Cn.symm]
  all_goals grind [Fo.xG,Fo.anc,Jp.symm]
 .rintro (⟨c, d, f, j, ne, g, i, q, p⟩ | ⟨c, f, g, q, P⟩)
  .refine ⟨c, d, (by grind [Fo.Kd]), (by grind [Fo.Kd]), fun k => ?_⟩
   have h3:=F.UT f g q k;obtain⟨y,L,M⟩:=h3.1.last ne;have N:=(F.Kd c v f g).2
   grind [Fo.yO]
  .cases O : up v with
   |none=>grind
   |some p=>
    have H:=F.Kd v p u O;refine⟨c,p,(by grind [Fo.Kd]),H.1.symm,fun k=>?_⟩;have h3:=F.UT f g q k;have N:=(F.Kd c v f g).2
    grind [Fo.yO]
end Fo
end Go.Fw
namespace Go.Fw
def isE (a b x y:Nat):Prop:=x=a/\y=b\/x=b/\y=a
namespace Fo
variable {n : Nat} {es : List Pr} {num : Nat → Nat} {up : Nat → Option Nat} {hd : Nat → Nat}
theorem link (F:Fo n es num up) (H:abi n es num up hd) {α:Type} (of:Nat->Nat->α) (c:∀x y,of x y=of y x) (e:∀v a b,Jp es v a->Jp es v b->Cn (wo v) es a b->of v a=of v b):
  ∀(k x y:Nat),num x<=k->Jp es x y->num y<num x->∃u,up (hd x)=some u/\of x y=of (hd x) u:=by
 intro k
 induction k with
 |zero=>grind
 |succ k o=>
  intro x y A h2 h3;have f:=(h2.lt F.rD).1;have hA:=F.anc y x h2.symm h3;obtain⟨u,g,r⟩:=hA.last pw;have h:=F.Kd x u f g;have i:=(h.1.lt F.rD).1;have s:of x y=of x u:=by grind [Jp.symm,Fo.xG,pJ.one]
  by_cases q:ym es num up u x
  .have hh := H.on x u f g q
   obtain⟨w,j,l,_⟩:=F.CJ f g q;obtain⟨p,t,_⟩:=j.last l;have d:=F.Kd u p i t;obtain⟨u',m,z⟩:=o u p NH d.1.symm d.2;rw[hh];refine⟨u',m,?_⟩;rw[s,c x u,<-z];refine e u x p h.1 d.1.symm ((F.Hp H h.1 d.1.symm).1 ?_)
   grind [Fo.lower]
  grind [Fo.abi.new]
theorem link2 (F:Fo n es num up) (H:abi n es num up hd) {α:Type} (of:Nat->Nat->α) (c:∀x y,of x y=of y x) (d:∀v a b,Jp es v a->Jp es v b->Cn (wo v) es a b->of v a=of v b)
  {x y x' f:Nat} (h:Jp es x y) (h':Jp es x' f) (e:hd (lower num x y)=hd (lower num x' f)):of x y=of x' f:=by
 have key:∀{x y:Nat},Jp es x y->∃u,up (hd (lower num x y))=some u/\of x y=of (hd (lower num x y)) u:=by
  intro x y h;have:=F.JD h;unfold lower;split
  .rename_i q;exact F.link H of c d (num x) x y (qL0 _) h q
  .obtain ⟨u, g, h2⟩ := F.link H of c d (num y) y x (qL0 _) h.symm NH
   exact pw
 obtain⟨u,g,h2⟩:=key h;obtain⟨u',h3,i⟩:=key h';rw[<-e,g]at h3;injection h3 with h3;subst h3;rw[h2,i,e]
end Fo
theorem B6 {n:Nat} {es:List Pr} (a:aV n es):∀(v:Nat),v<n->∃h∈Es n es,Pu es h v:=by
 intro v
 induction v using Nat.strongRecOn with
 |ind v b=>
  intro c;by_cases q:∀u,u<v->¬Pu es u v
  .exact⟨v,(by grind [QO]),Pu.refl es v⟩
  grind [Cn.trans]
theorem rf {n:Nat} {es:List Pr} {a b:Nat} (ha:a∈Es n es) (hb:b∈Es n es) (h:Pu es a b):a=b:=by grind [QO,Cn.symm]
theorem qD (n:Nat) (es:List Pr):(Es n es).Nodup:=by grind [Es,List.nodup_range]
end Go.Fw
namespace Go.Fw
section
open Go.Proofs
variable {h:AHeap} {i:Nat} {v:Value} {xs:RZ}
theorem GI.store (g:GI h v xs) (a:WF h) (hi:i<xs.length) (x:Int):∃h',aStore Tryz.prog h 3 (.pointer (some (elemAddr v i))) (.int .i64 x)=some h'/\GI h' v (xs.set i x)/\WF h'/\(∀f,Le f h->Z2 f v->Le f h')/\(∀b o,h.own b=some o->blk v≠some b->h'.own b=some o):=by
 obtain⟨m,⟨rfl,n⟩|⟨id,c,cap,rfl,j,p,q⟩⟩:=g
 .omega
 .have k : xs.length <= c.length := pw
  have st:=QB (P:=Tryz.prog) (t:=3) (x:=.int .i64 x) Mb Ji j (off:=i) NH rfl rfl;refine⟨h.put id (.cells (c.set i (.int .i64 x))),?_,⟨by simp[Bp],.inr ⟨id,_,cap,Ma,AHeap.Y3 _ _ _,?_,pw⟩⟩,a.put _ (a.lt j),fun f l af=>l.put _ (af id rfl),fun b o hb d=>?_⟩
  .grind [fA,Ip]
  .grind [List.take_set,yy]
  .rw[AHeap.By _ _ _ _ (fun e=>d (by rw[e];rfl))];exact hb
end
section
attribute [local irreducible] Kp MQ lU KO1 KO KN KX KE VK Kl ZJ TC aab
open Go.Proofs
variable {F m n:Nat} {g h h':AHeap} {v:Value} {xs:RZ}
def alloc35 (h:AHeap):aAlloc Tryz.prog h 59=some (.pointer (some ⟨h.next,0,none⟩),h.alloc (.cells [.slice none 0 0])):=rfl
def alloc39 (h:AHeap):aAlloc Tryz.prog h 49=some (.pointer (some ⟨h.next,0,none⟩),h.alloc (.cells [.slice none 0 0])):=rfl
def newVar (hw:WF h) {t:TypeId} {d:TypeDesc} {z x:Value} (ha:∀g:AHeap,aAlloc Tryz.prog g t=some (.pointer (some ⟨g.next,0,none⟩),g.alloc (.cells [z]))) (e:Tryz.prog.underlying t=some d) (hs:UA Tryz.prog t=1) (f:x.cells=#[x]) (i:x.oneCell'=true):
  ∃a b,aAlloc Tryz.prog h t=some (.pointer (some ⟨h.next,0,none⟩),a)/\aStore Tryz.prog a t (.pointer (some ⟨h.next,0,none⟩)) x=some b/\Le h b/\WF b/\b.own h.next=some (.cells [x]):=by
 obtain⟨a,j,l1,w1,c⟩:=Tt hw [z]
 have k:h.own h.next=none:=(Le.refl h).next hw (qL0 _)
 refine⟨a,_,by rw[ha,j],QB e hs c Ma f i,l1.put _ k,w1.put _ (w1.lt c),AHeap.Y3 _ _ _⟩
theorem qA {a:Addr} (b:a.spot=none->a.block≠F):(h.kill F).read a=h.read a:=by
 unfold AHeap.read;cases hs:a.spot with
 |none=>grind [AHeap.xJ]
 |some _=>rfl
theorem RS.kill {h:AHeap} {v:Value} {vs:List Value} {F:Nat} (r:RS h v vs) (hb:blk v≠some F):RS (h.kill F) v vs:=by
 refine⟨r.sl,fun i x g=>?_⟩;have f:=r.get i x g;obtain⟨a,c,rfl,hs⟩:=r.sl;obtain⟨a,rfl⟩:=LH.1 (hs pw);rw[fA]at f ⊢;rw[qA];exact f;intro d;obtain⟨b,o,s⟩:=a;simp only[Ip]at d ⊢;subst d;intro e;subst e;exact hb rfl
def RL.killI (r:RL RP h v xs) (hb:blk v≠some F):RL RP (h.kill F) v xs:=by
 obtain⟨vs,r,a,b⟩:=r;exact⟨vs,r.kill hb,a,b⟩
theorem Le.ON (e:Le h h') (F:Nat) (o:fK):Le (h.kill F) ((h'.put F o).kill F):=⟨e.ext,fun i a hi=>by grind [AHeap.Dg,AHeap.xJ,AHeap.By,Le.own]⟩
theorem Le.put_kill (e:Le g h) (n:g.own F=Option.none) (o:fK):Le g ((h.put F o).kill F):=⟨e.ext,fun i a hi=>by grind [AHeap.xJ,AHeap.By,Le.own]⟩
def build41 {a b:Value} (ha:xO a n) (hb:xO b m):aBuild Tryz.prog 122 [(0,a),(1,b)]=some (.agg #[a,b]):=by
 obtain⟨_,_,rfl,_⟩:=ha;obtain⟨_,_,rfl,_⟩:=hb;kernel_rfl
def LJ (n:Nat) (es web:List Pr) (L:RZ):List FM:=
 (grpsM (Zo n (fun u=>(Cb n web).getD u false) L) es web es.length).map fun g=>⟨g.2,YJ (fun u=>(Cb n web).getD u false) g.2⟩
theorem iN (W0:LA) (v wv:Value) (G:GM) (web:List Pr) (h:AHeap) (hg:GR h v G) (hw:PR h wv web) (hn:web.length<=1000):
  AC Tryz.prog W0 96 [v,wv] h fun x h'=>Le h h'/\∃lv e,x=.tuple #[lv,.int .i64 e]/\
   ((¬bX G/\lv=.slice none 0 0/\e=20)\/(bX G/\¬CU G.es web/\lv=.slice none 0 0/\e=2)\/
    (bX G/\CU G.es web/\e=0/\∃L,wx G.n.toNat (fun u=>(Cb G.n.toNat web).getD u false) G.es L/\FL h' lv (LJ G.n.toNat G.es web L))):=by
 have aD:=hg;obtain⟨gn,es⟩:=G
 obtain⟨ev,rfl,hp⟩:=hg.open
 refine AC.vE ⟨Tryz.func96,rfl,WY⟩ Tryz.ntmps96 Tryz.results96 fun cg=>?_;simp only[Br,Nat.reduceAdd];obtain⟨h1,b1,N,dL,-,lA⟩:=r8 (n:=gn) cg hp
 generalize h.next=B at*
 have ck:=lA h1 (Le.refl _);refine Sk (XC b1 ck.1) ?_;refine TC.intro PJ ⟨pE,rfl,WY⟩ (ak W0 _ _ h1 (aD.le N)) ?_;rintro x h2 dM ⟨⟨bb,rfl,cm⟩,I⟩;cases bb with
 |false=>
  refine Uy ?_
  grind [Le.trans]
 |true=>
 have hr:=cm.1 rfl;have h0:0<=gn:=hr.n0;obtain⟨n,rfl⟩:=WA h0;have dF:(n:Int)<=200:=hr.n1;have dH:es.length<=594:=hr.len;have hR:=hr.GD;have cp:=lA h2 I;refine Sk cp.1 ?_;refine TC.intro PJ ⟨Tryz.func134,rfl,WY⟩ (j5 W0 _ wv _ web h2 (aD.le (N.trans I)) (hw.le (N.trans I)) hr hn) ?_;rintro x h3 cq ⟨⟨ov,nv,bo,rfl,bg,cx,Z⟩,aF⟩;obtain⟨dO,h4,e4,cz,P,dQ,o4⟩:=newVar cq alloc35 eY Ji bg.1 bg.2;refine Sk (XC e4 cz) ?_;cases bo with
 |false=>
  refine Uy ?_
  grind [Le.trans]
 |true=>
 have bh:=cx.1 rfl;obtain⟨bk,cC⟩:=Z rfl;have cE:=lA h4 ((I.trans aF).trans P);have al:=cC.le Nn.sJ P
 have lO:∀g,Le h4 g->aload Tryz.prog g 59 ⟨h3.next,0,none⟩=some nv:=fun g l=>by rw[Fq eY rfl (l.own _ _ o4)];rfl
 have cK:=lO h4 (Le.refl _)
 generalize h3.next=O at*
 have bm:=((N.trans I).trans aF).trans P;refine Sk (XC cE.1 cK) ?_;have aH:(Cb n web).length=n:=Qe n web;refine TC.intro PJ ⟨Tryz.func135,rfl,WY⟩ (tS W0 _ nv n es (Cb n web) h4 (aD.le bm) hr al aH) ?_;rintro tv h5 cM ⟨L,hL,hT,cN⟩;have cP:=hL.sl.cells;obtain⟨dS,d,e6,cR,br,aJ,o6⟩:=newVar cM alloc39 Ac Ji cP hL.one
 have lT:∀g,Le d g->aload Tryz.prog g 49 ⟨h5.next,0,none⟩=some tv:=fun g l=>by rw[Fq Ac rfl (l.own _ _ o6)];rfl
 generalize h5.next=T at*
 have m:=cN.trans br;have Q:Le h1 d:=((I.trans aF).trans P).trans m;have aq:=N.trans Q;have bx:=hp.le aq;have dI:=bk.le Nn.sJ (P.trans m);have ar:=al.le Nn.sJ m;have cU:=hL.le Nn.RP br
 obtain⟨w,e7,r,z,o7⟩:∃w,d.alloc (.map [])=w/\Le d w/\WF w/\w.own d.next=some (.map []):=⟨_,rfl,(Le.refl d).alloc aJ _,aJ.alloc _,AHeap.zT _ _⟩
 obtain⟨h8,e8,aa,cZ,o8⟩:=Tt z []
 have bB:aBuildSlice Tryz.prog w 49 0 []=some (.slice (some ⟨w.next,0,none⟩) 0 0,h8):=by rw[<-e8];rfl
 have nM:d.own d.next=none:=(Le.refl d).next aJ (qL0 _)
 have nC:d.own w.next=none:=r.next z (qL0 _)
 have bF:w.next≠d.next:=fun e=>by have:=z.lt o7;omega
 have bH:=lA h8 (Q.trans (r.trans aa));have ll:=fun g=>hp.len g;refine Sk (aNd9 e6 cR e7 bB @Di @Ip.eq_1 @XJ bH.2.2 ll) ?_;have bI:=aa.own _ _ o7
 generalize d.next=M at*
 generalize w.next=C at*
 let on:Nat->Bool:=fun u=>(Cb n web).getD u false;let fr:Pr->Nat->Int:=Zo n on L;have R0:aaE d h8 M [] (grpsM fr es web 0):=⟨bI,rfl,fun j u g s=>by simp at s,fun j u s=>by simp at s,fun j k u u' b _ s=>by simp at s,fun j u s=>by simp at s,r.trans aa,nM⟩;have gC:GI h8 (.slice (some ⟨C,0,none⟩) 0 0) (Ea (grpsM fr es web 0)):=GS.full o8 rfl WY;refine lIn (fun k S hh=>∃(i:Nat) (cv:Value) (us:List Value),k=es.length-i/\i<=es.length/\S=mkF [(6,ov),(7,.pointer (some ⟨O,0,none⟩)),(10,.func (.func 136) #[] #[.pointer (some ⟨B,0,none⟩),.pointer (some ⟨O,0,none⟩),.pointer (some ⟨T,0,none⟩)]),(11,.map (some M)),(12,cv),(38,ev),(39,.int .i64 es.length),(40,.int .i64 i)]/\
   aaE d hh M us (grpsM fr es web i)/\GI hh cv (Ea (grpsM fr es web i))/\blk cv≠some M/\(∀(j:Nat) u b,us[j]?=some u->blk u=some b->blk cv≠some b)/\Z2 d cv) ⟨0,_,[],rfl,Og _,rfl,R0,gC,by grind [blk],fun j u b s=>by simp at s,fun b hb=>by grind [blk]⟩ ?_
 clear R0 gC bI bH nC bF bB o8 cZ aa e8 o7 z r e7;rintro k S hh U ⟨i,cv,us,rfl,hi,rfl,R,gc,nc,dc,ac⟩;have J:=R.le;refine Uy ?_;refine Kl.intro (fun ht=>?_) (fun hf=>?_)
 rotate_left
 .have c3 : es.length <= i := vp hf
  obtain rfl:i=es.length:=NH;obtain⟨nd,bN,av,c4,az⟩:=Pt fr es web es.length;generalize ae:grpsM fr es web es.length=gs at*;have lc:=fun g=>gc.rl.Uc g;have bQ:(Ea gs).length=gs.length:=by simp[Ea]
  rw[bQ]at lc;obtain⟨c0,mk,bW⟩:=mkFr hh gs.length NH;obtain⟨h9,e9,bY,c5,o9⟩:=Tt U c0;rw[e9]at mk
  have nF:hh.own hh.next=none:=(Le.refl hh).next U (qL0 _)
  generalize hh.next=F at*
  simp only[HO,Nat.reduceLT,↓reduceIte,Nat.reduceEqDiff,reduceCtorEq,lc,mk];refine lIn (fun k S A=>∃(j:Nat) (cs:List Value),k=gs.length-j/\j<=gs.length/\S=mkF [(7,.pointer (some ⟨O,0,none⟩)),(11,.map (some M)),(16,.slice (some ⟨F,0,none⟩) gs.length gs.length),(73,cv),(74,.int .i64 gs.length),(75,.int .i64 j)]/\
    Le hh A/\A.own F=some (.cells cs)/\cs.length=gs.length*2/\∀(a:Nat) g,a<j->gs[a]?=some g->∃x y,cs[a*2]?=some x/\cs[a*2+1]?=some y/\PR (A.kill F) x g.2/\RL RP (A.kill F) y (YJ on g.2)) ⟨0,c0,rfl,Og _,rfl,bY,o9,bW,NH⟩ ?_
  clear e9 o9 c5 bY mk bW c0 h9;rintro k S A dT ⟨j,cs,rfl,hj,rfl,leq,oF,dV,V⟩;refine Uy ?_;refine Kl.intro (fun ht=>?_) (fun hf=>?_)
  rotate_left
  .have c3 : gs.length <= j := vp hf
   refine Uy ?_;refine⟨aq.trans (J.trans leq),_,_,rfl,.inr (.inr ⟨hr,bh,rfl,L,hT,?_⟩)⟩;have c6:LJ n es web L=gs.map fun g=>⟨g.2,YJ on g.2⟩:=by rw[<-ae];rfl
   show FL A _ (LJ n es web L);rw[c6];refine⟨cs,?_,fun a f ha=>?_⟩
   .have := CS.own (k := 2) (off := 0) (n := gs.length) (cap := gs.length) oF NH
    grind
   .rw [Yq] at ha
    cases t:gs[a]? with
    |none=>grind
    |some g=>
     rw[t]at ha;simp at ha;subst ha;obtain⟨x,y,q1,q2,q3,q4⟩:=V a g pw t
     grind [PR.le,Le.Qz,RL.le,Nn.RP]
  have bZ:j<gs.length:=CC ht;clear ht;have ag:=CA bZ;generalize gs[j]=g at ag;obtain⟨f,l⟩:=g;have b0:(Ea gs)[j]?=some f:=by grind [Ea]
  have b2:=(Ny.1 b0).1;have c9:=gc.rl.TA j b2;have b3:=(gc.rl.le Nn.RP leq).DH j b2;rw[(Ny.1 b0).2]at b3;have Rq:=R.up leq;obtain⟨u,da,aK⟩:=R.look f;rw[NI nd ag]at aK;have s:aLookup Tryz.prog A 110 (.map (some M)) (.int .i64 f) false=some u:=by rw[<-da];simp only[aLookup,qS7,Mb,Rq.oM,R.oM]
  have gu:=aK.le leq;have db:=lO A (m.trans (J.trans leq));have b4:aV n l:=fun p hp=>hR p (az _ (Gc ag) p hp);have b5:l.length<=1000:=pw;have dd:∀k:IntKind,aIndexAddr Tryz.prog 118 (.slice (some ⟨F,0,none⟩) gs.length gs.length) (.int k j)=some (.pointer (some ⟨F,j*2,none⟩)):=fun k=>by
   have h1:(j:Int)<(gs.length:Int):=NH;simp[aIndexAddr,qS22,sU,h1,zB,Ip]
  have Fm:=feet_any W0 u nv n l (Cb n web) A gu.pr (ar.le Nn.sJ (J.trans leq)) b4 aH b5;refine Sk (XC c9 b3) ?_;refine gh (tA [0,1,2,3,5,6,8] (.ch 4 [2,3] (JQ 7 [5,6] (JQ 9 [7,8] (tA [10,11] (JQ 12 [0,1,2,3,4,5,6,7,8,9,10,11] .done)))) (JQ 7 [5,6] (.ch 4 [2,3] (JQ 9 [7,8] (tA [10,11] (JQ 12 [0,1,2,3,4,5,6,7,8,9,10,11] .done))) (JQ 9 [7,8] (JQ 4 [2,3] (tA [10,11] (JQ 12 [0,1,2,3,4,5,6,7,8,9,10,11] .done)))))))) ?_;refine CO (XC s db) ?_;refine⟨?_,?_,?_⟩
  all_goals
   refine VA.intro PJ ⟨Tryz.func137,rfl,WY⟩ Fm ?_;rintro y hz wz ⟨hy,lz,ay⟩;have de:aLookup Tryz.prog hz 110 (.map (some M)) (.int .i64 f) false=some u:=by rw[<-s];simp only[aLookup,qS7,Mb,lz.own _ _ Rq.oM,Rq.oM]
   have dg:=stFr (lz.own _ _ oF) (show j*2+2<=cs.length by omega) (gu.pr.le lz) hy;have dj:Le hh (hz.put F (.cells ((cs.set (j*2) u).set (j*2+1) y))):=(leq.trans lz).put _ nF;have dk:=build41 gu.pr.sl hy.sl;refine CO (IX de dk dd dg (aaa j NH)) ?_;refine lgA NH ⟨j+1,(cs.set (j*2) u).set (j*2+1) y,rfl,bZ,rfl,dj,AHeap.Y3 _ _ _,pw,fun a g ha t=>?_⟩;have b6:blk y≠some F:=fun hb=>by have:=ay F hb;grind
   by_cases e:a=j
   .subst e
    rw[ag]at t;injection t with t;subst t;refine⟨u,y,pw,pw,aK.pr.le ((leq.trans lz).put_kill nF _),?_⟩;refine RL.killI (F:=F) ?_ b6;have h1:=(hy.killI b6).le Nn.RP (h':=(hz.put F (.cells ((cs.set (a*2) u).set (a*2+1) y))).kill F) ((Le.refl hz).ON F _)
    grind [RL.le,Nn.RP,Le.Qz]
   .obtain ⟨x', y', q1, q2, q3, q4⟩ := V a g NH t
    exact⟨x',y',by rw[fj,if_neg NH,fj,if_neg NH];exact q1,by rw[fj,if_neg NH,fj,if_neg NH];exact q2,q3.le (lz.ON F _),q4.le Nn.RP (lz.ON F _)⟩
 have W:i<es.length:=CC ht;clear ht;have K:=CA W;generalize es[i]=p at K;have dm:=Gc K;obtain⟨p1,p2,p3⟩:=hR p dm;have dJ:(ofM es web)[i]?=some (decide (p∈web)):=by grind [ofM]
 have b8:i<(ofM es web).length:=pw;have dp:=bx.le J;have ad:=hp.addr (k:=.i64) i W;have ld:=dp.load K;obtain⟨ec,w,e7,b9,r,z,o7⟩:=Ut U p
 have ed:d.own hh.next=none:=J.next U (qL0 _)
 have cc:hh.own hh.next=none:=(Le.refl hh).next U (qL0 _)
 have c:=J.trans r;have oA:∀k:IntKind,aIndexAddr Tryz.prog 59 ov (.int k (i:Int))=some (.pointer (some (elemAddr ov i))):=fun k=>bk.LB i b8;have oL:aload Tryz.prog w 4 (elemAddr ov i)=some (.bool (decide (p∈web))):=by grind [RL.le,Nn.sJ,RL.W7]
 have R7:=R.up r;have X:=gc.le r
 have ee:hh.next≠M:=fun e=>by have:=R.oM;grind
 have dq:blk cv≠some hh.next:=fun e=>GS.Sy gc e cc
 have ef:∀(j:Nat) u,us[j]?=some u->blk u≠some hh.next:=fun j u s e=>by
  have ae:∃q,(grpsM fr es web i)[j]?=some q:=⟨_,CA (by grind [aaE.len])⟩;obtain⟨q,A⟩:=ae;exact GS.Sy (R.gp j u q s A) e cc
 generalize hh.next=E at*
 by_cases c1:p∈web
 .rw [decide_eq_true c1] at oL
  rw[<-JJ K c1]at R7 X;simp only[HO,Nat.reduceLT,↓reduceIte,Nat.reduceEqDiff,reduceCtorEq,ad,ld,e7,b9,oA,oL,aaa i NH];exact lgA NH ⟨i+1,cv,us,rfl,W,rfl,R7,X,nc,dc,ac⟩
 rw[decide_eq_false c1]at oL;simp only[HO,Nat.reduceLT,↓reduceIte,Nat.reduceEqDiff,reduceCtorEq,ad,ld,e7,b9,oA,oL];have cd:=lA w (Q.trans c);refine TC.intro PJ ⟨Tryz.func136,rfl,WY⟩ (frag_any W0 ev nv tv n es (Cb n web) L B O T i p w (bx.le c) (ar.le Nn.sJ c) (cU.le Nn.RP c) hR aH hT.len cd.2.1 cd.2.2 (lO w (m.trans c)) (lT w c) K NH NH) ?_;rintro x h9-⟨rfl,rfl⟩;obtain⟨nd,bN,av,c4,az⟩:=Pt fr es web i;have aC:=dh (fr:=fr) K c1;have H:=RY (grpsM fr es web i) (fr p i) p;have cf:=rV (f:=fr p i) bN;have b5:=Ft (fr p i) _ _ av;have dv:Zo n (fun u=>(Cb n web).getD u false) L p i=fr p i:=rfl;rw[dv];generalize ae:grpsM fr es web i=gs at*;generalize fr p i=f at*;have bQ:(Ea gs).length<=1000:=by grind [Ea]
 obtain⟨u,s,gu⟩:=R7.look f;have lu:=fun g=>gu.pr.len g;have aP:∀(j:Nat) a b,us[j]?=some a->blk a=some b->∃o,h9.own b=some o:=fun j a b ha hb=>by
  have A:∃q,gs[j]?=some q:=⟨_,CA (by rw[<-R7.len];grind)⟩;obtain⟨q,A⟩:=A;exact Db.1 (GS.Sy (R7.gp j a q ha A) hb)
 by_cases c2:lstG gs f=[]
 .have dw : ∀ g, aLen Tryz.prog g 22 u = some (.int .i64 0) := fun g => by rw [lu g, c2]; rfl
  have dy:f∉Ea gs:=fun hm=>cf.1 hm c2;rw[if_neg dy]at H;obtain⟨aT,g4,g5,e4,e5,aW,w5,l4,dz,aj⟩:=X.push z f NH;obtain⟨l5,a5⟩:=dz d c ac;have R5:aaE d g5 M us gs:=R7.keep l5 fun b o Y hb=>(aj b o Y (by
   rcases hb with rfl|⟨j,a,ha,hb⟩
   .exact nc
   grind)).1
  obtain⟨dA,eg⟩:=aj E _ o7 dq;have aX:=(aj M _ R7.oM nc).2;obtain⟨u2,dB,q4,q5,q6,a6,eu,eb,ea,em,Rn,wn,dE,kq⟩:=R5.push w5 f p (by rw[c2];simp);have a7:=uM dA;rw[<-H]at aW;have ku:∀(j:Nat) a b,us[j]?=some a->blk a=some b->blk aT≠some b:=fun j a b ha hb=>by
   obtain⟨o,Y⟩:=aP j a b ha hb;exact(aj b o Y (dc j a b ha hb)).2
  have a8:GI q6 aT (Ea (addG gs f p)):=GS.kept aW fun b o hb Y=>(kq b o Y (fun e=>aX pw) (fun j a ha D=>ku j a b ha D hb)).2.1;simp only[HO,Nat.reduceLT,↓reduceIte,Nat.reduceEqDiff,reduceCtorEq,s,dw,e4,e5,eu,a7,eb,ea,em,aaa i NH];refine lgA NH ⟨i+1,aT,a6,rfl,W,rfl,?_⟩;rw[aC];refine⟨Rn,a8,aX,fun j a b ha hb hc=>?_,a5⟩;obtain⟨o,Y⟩:=Db.1 (GS.Sy aW hc);exact(kq b o Y (fun e=>aX pw) (fun j a ha D=>ku j a b ha D hc)).2.2 j a ha hb
 .have hz : (((lstG gs f).length : Nat) : Int) ≠ 0 := by grind [List.length_eq_zero_iff]
  rw[if_pos (cf.2 c2)]at H;obtain⟨u2,dB,q4,q5,q6,a6,eu,eb,ea,em,Rn,wn,dE,kq⟩:=R7.push z f p NH;obtain rfl:u=u2:=pw;have a7:=uM o7;have a8:GI q6 cv (Ea (addG gs f p)):=by
   rw[H];exact GS.kept X fun b o hb Y=>(kq b o Y (fun e=>nc pw) (fun j a ha D=>dc j a b ha D hb)).2.1
  simp only[HO,Nat.reduceLT,↓reduceIte,Nat.reduceEqDiff,reduceCtorEq,s,lu,eq_false hz,a7,eb,ea,em,aaa i NH];refine lgA NH ⟨i+1,cv,a6,rfl,W,rfl,?_⟩;rw[aC];refine⟨Rn,a8,nc,fun j a b ha hb hc=>?_,ac⟩;obtain⟨o,Y⟩:=Db.1 (GS.Sy X hc);exact(kq b o Y (fun e=>nc pw) (fun j a ha D=>dc j a b ha D hc)).2.2 j a ha hb
end
section
open Go.Proofs
def cX (web l:List Pr) (n:Nat):II:=(List.range n).filter fun v=>onE web (v:Int)&&onE l (v:Int)
variable {a b v:Value} {fs:List FM} {g h:AHeap} {i m n:Nat}
theorem FL.len (r:FL h v fs) (g:AHeap):aLen Tryz.prog g 118 v=some (.int .i64 fs.length):=by
 obtain⟨cs,c,_⟩:=r;obtain⟨a,k,rfl,_⟩:=c.sl;simp[aLen,qS22]
def qx (v:Value) (i:Nat):Addr:=elemAddr v (i*2)
theorem FL.addr (r:FL h v fs) {k:IntKind} (i:Nat) (hi:i<fs.length):aIndexAddr Tryz.prog 118 v (.int k i)=some (.pointer (some (qx v i))):=by
 obtain⟨cs,c,_⟩:=r;obtain⟨a,k,rfl,hs⟩:=c.sl;obtain⟨a,rfl⟩:=LH.1 (hs NH);have b:(i:Int)<(fs.length:Int):=NH;simp[aIndexAddr,qS22,sU,b,qx,elemAddr,zB]
def ff0 (a:Addr):aField Tryz.prog 122 (.pointer (some a)) 0=some (.pointer (some (Ip a 0))):=rfl
def ff1 (a:Addr):aField Tryz.prog 122 (.pointer (some a)) 1=some (.pointer (some (Ip a 1))):=rfl
theorem FL.load (r:FL h v fs) {f:FM} (hf:fs[i]?=some f):
  ∃a b,(∀g,Le h g->aload Tryz.prog g 122 (qx v i)=some (.agg #[a,b]))/\PR h a f.zp/\RL RP h b f.Fm:=by
 obtain⟨cs,c,e⟩:=r;obtain⟨a,b,m,n,o,p⟩:=e i f hf;refine⟨a,b,fun g l=>?_,o,p⟩;have q:=l.read (c.get _ _ m);have s:=l.read (c.get _ _ n);obtain⟨ad,k,rfl,hs⟩:=c.sl;obtain⟨ad,rfl⟩:=LH.1 (hs pw);have d:readN g (qx (.slice (some ad) fs.length k) i) 2=some [a,b]:=by
  refine ua [a,b] _ fun j x e=>?_
  grind [qx,fA,Ip]
 simp only[aload,sU,zB,d];rfl
theorem alloc41 (h:AHeap):aAlloc Tryz.prog h 122=some (.pointer (some ⟨h.next,0,none⟩),h.alloc (.cells [.slice none 0 0,.slice none 0 0])):=rfl
theorem new41' (hw:WF h) (ha:xO a n) (hb:xO b m):∃c h2,aAlloc Tryz.prog h 122=some (.pointer (some ⟨h.next,0,none⟩),c)/\aStore Tryz.prog c 122 (.pointer (some ⟨h.next,0,none⟩)) (.agg #[a,b])=some h2/\Le h h2/\WF h2/\h.own h.next=none/\h2.own h.next=some (.cells [a,b]):=by
 obtain⟨c,e,l1,w1,d⟩:=Tt hw [.slice none 0 0,.slice none 0 0]
 have f:h.own h.next=none:=(Le.refl h).next hw (qL0 _)
 have st:aStore Tryz.prog c 122 (.pointer (some ⟨h.next,0,none⟩)) (.agg #[a,b])=some (c.put h.next (.cells [a,b])):=by
  obtain⟨_,_,rfl,_⟩:=ha;obtain⟨_,_,rfl,_⟩:=hb;simp[aStore,d,Value.cells,zB,putCells,sU];exact⟨rfl,rfl⟩
 grind [alloc41,Le.put,WF.put,WF.lt,AHeap.Y3]
def ld41 {C:Nat} (c:g.own C=some (.cells [a,b])):aload Tryz.prog g 122 ⟨C,0,none⟩=some (.agg #[a,b])/\aload Tryz.prog g 22 ⟨C,0,none⟩=some a/\aload Tryz.prog g 49 ⟨C,1,none⟩=some b:=by
 refine⟨?_,?_,?_⟩
 .rw[Wx sU rfl zB c Ma];rfl
 .rw[Fq Uh rfl c];rfl
 .rw[Fq Ac rfl c];rfl
end
end Go.Fw
namespace Go.Fw
open Go.Proofs
theorem Ty (p:Pr) (v:Int):aO p v=true↔p.1=v\/p.2=v:=by simp[aO]
theorem onE_iff (web:List Pr) (v:Nat):onE web (v:Int)=true↔onW web v:=by simp[onE,onW,Ty]
theorem Fh {n:Nat} {web:List Pr} {u:Nat} (a:u<n):(Cb n web).getD u false=onE web (u:Int):=by grind [onE_iff,Cb]
section
variable {n : Nat} {es web : List Pr} {L : List Int}
abbrev Qw (n:Nat) (web:List Pr):Nat->Bool:=fun u=>(Cb n web).getD u false
end
end Go.Fw
namespace Go.Fw
section
open Go.Proofs
variable {n:Nat} {α:Type}
theorem feet_eq {es web l:List Pr} (hR:aV n es) (a:∀p∈l,p∈es):YJ (Qw n web) l=kz (cX web l n):=by
 refine wP _ _ (bT (aQ _)) ?_ fun x=>?_
 .rw [kz, wI, cX]
  grind [List.Pairwise.imp,List.pairwise_lt_range]
 .rw [YJ, jn, Wv]
  simp only[BY,ftP,Yi,aax,kz,cX,Z6,iy,Lm];constructor
  .rintro ⟨p, b, c, d⟩
   obtain⟨a1,a2,e⟩:=hR p (a p b)
   grind [Fh,onE.eq_1,Ty]
  grind [onE.eq_1,Ty,Fh]
def fullU (fr:Pr->Nat->Int) (es web:List Pr) (k:Int):Nat->List Pr
  |0=>[]
  |i+1=>match es[i]? with
    |some p=>if p∈web then fullU fr es web k i else if fr p i=k then fullU fr es web k i++[p]else fullU fr es web k i
    |none=>fullU fr es web k i
theorem lstG_add (gs:List Gr) (f k:Int) (p:Pr):lstG (addG gs f p) k=if f=k then lstG gs k++[p]else lstG gs k:=by
 induction gs<;>grind [addG,lstG]
theorem ZM (fr:Pr->Nat->Int) (es web:List Pr) (k:Int) (i:Nat):lstG (grpsM fr es web i) k=fullU fr es web k i:=by
 induction i with
 |zero=>rfl
 |succ i a=>
  cases b:es[i]?<;>grind [grpsM,fullU,lstG_add]
theorem full_mem (fr:Pr->Nat->Int) (es web:List Pr) (k:Int) (q:Pr) (i:Nat):q∈fullU fr es web k i↔∃j,j<i/\es[j]?=some q/\q∉web/\fr q j=k:=by
 induction i<;>grind [fullU]
theorem grps_map (F:List Pr->α) (gs:List Gr) (a:(Ea gs).Nodup):gs.map (fun g=>F g.2)=(Ea gs).map fun k=>F (lstG gs k):=by grind [Ea.eq_1,List.map_congr_left,List.mem_iff_getElem?,NI]
end
theorem keys_add (gs:List Gr) (f k:Int) (p:Pr):k∈Ea (addG gs f p)↔k∈Ea gs\/k=f:=by
 induction gs<;>grind [addG,Ea]
theorem keys_mem (fr:Pr->Nat->Int) (es web:List Pr) (k:Int) (i:Nat):k∈Ea (grpsM fr es web i)↔∃(j:Nat) (p:Pr),j<i/\es[j]?=some p/\p∉web/\fr p j=k:=by
 induction i with
 |zero=>simp[grpsM,Ea]
 |succ i a=>
  cases b:es[i]? with
  |none=>
   grind [grpsM]
  |some q=>
   by_cases c:q∈web
   .grind [JJ]
   .rw [dh b c, keys_add, a]
    grind
variable {L:RZ} {es ps:List Pr} {n u w:Nat} {on:Nat->Bool}
theorem sW (fr:Pr->Nat->Int) (es web:List Pr) (k:Int):∀i,(fullU fr es web k i).Sublist (es.take i)
 |0=>by simp[fullU]
 |i+1=>by
  have a:=sW fr es web k i;simp only[fullU];cases b:es[i]? with
  |none=>grind
  |some p=>
   have:es.take (i+1)=es.take i++[p]:=by grind [List.take_add_one]
   grind
theorem E7 {web l:List Pr} {x:Int}:x∈kz (cX web l n)↔∃v:Nat,v<n/\x=(v:Int)/\onE web (v:Int)=true/\onE l (v:Int)=true:=by grind [kz,cX]
theorem DX {v:Int}:onE ps v=true↔∃p∈ps,aO p v=true:=by simp[onE]
theorem M9 (a:wx n on es L) (b:u<n) (hw:w<n) (c:on u=false) (d:on w=false):L.getD u 0=L.getD w 0↔Cn on es u w:=by grind [wx.same,wx.off]
end Go.Fw
namespace Go.Fw
open Go.Proofs
attribute [local instance] Classical.propDecidable
def Xl (rs:AM):Nat->II:=fun v=>(rs.getD v []).map Int.toNat
structure Av (n:Nat) (es:List Pr) (rs:AM):Prop where
 len:rs.length=n
 perm:∀v,v<n->(rs.getD v []).Perm ((Zh n es).getD v [])
section
variable {n : Nat} {es : List Pr} {rs : List (List Int)}
theorem Av.nat (c:aV n es) (G:Av n es rs) {v:Nat} {x:Int} (a:x∈rs.getD v []):v<n/\∃w:Nat,x=(w:Int)/\w<n/\Jp es v w:=by
 by_cases b:v<n
 .have d := (G.perm v b).mem_iff.1 a
  grind [Ru,EW]
 grind [Av.len]
theorem Av.mem (a:aV n es) (G:Av n es rs) {v w:Nat}:w∈Xl rs v↔Jp es v w:=by
 rw[Xl,Z6];constructor
 .rintro ⟨x, b, rfl⟩
  obtain⟨_,w,rfl,_,h⟩:=G.nat a b;exact h
 .intro h
  have c:=(h.lt a).1;exact⟨(w:Int),(G.perm v c).mem_iff.2 (by grind [EW]),rfl⟩
theorem Av.back (a:aV n es) (G:Av n es rs) (v:Nat):(Xl rs v).map (fun(x:Nat)=>(x:Int))=rs.getD v []:=by
 rw[Xl,b7]
 conv=>rhs;rw[<-ag7 (rs.getD v [])]
 refine Qn fun x b=>?_;obtain⟨_,w,rfl,_⟩:=G.nat a b;rfl
theorem Av.jD (a:aV n es) (ha:D3 es) (G:Av n es rs):V7 n (Xl rs):=by
 refine⟨fun v=>?_,fun v w h=>(((G.mem a).1 h).lt a).1,fun v w h=>(G.mem a).2 ((G.mem a).1 h).symm,fun v h=>Xa a ((G.mem a).1 h)⟩;by_cases b:v<n
 .have nd : (rs.getD v []).Nodup := (G.perm v b).nodup_iff.2 (by grind [KW, List.Pairwise.imp])
  grind [Xl.eq_1,List.Pairwise.imp_of_mem,Av.nat]
 grind [Xl.eq_1,Av.len]
end
theorem nx_idx {l:II} (nd:l.Nodup) {j:Nat} (a:j<l.length):nx l l[j]=l[(j+1)%l.length]'(C4 _ NH):=by
 have e:l=l.take j++l[j]::l.drop (j+1):=by grind [List.getElem_cons_drop,List.take_append_drop]
 have b:nx l l[j]=(l.drop (j+1)++(l.take j++[l[j]])).headD 0:=by grind [ZL]
 rw[b];by_cases c:j+1<l.length
 .grind [List.drop_eq_getElem_cons,List.headD_cons,Nat.mod_eq_of_lt]
 .rw [To NH, aey]
  have d:(j+1)%l.length=0:=by grind [Nat.mod_self]
  cases j with
  |zero=>grind
  |succ j=>
   cases l with
   |nil=>simp at a
   |cons x l=>simp only[d,abW,WZ,qL217,qL224]
end Go.Fw
namespace Go.Fw
section
attribute [local instance] Classical.propDecidable
open Go.Proofs
structure wW where
 zp:List Pr
 Fm:RZ
 fits:II
instance:Inhabited wW:=⟨⟨[],[],[]⟩⟩
structure kR where
 on:List Bool
 Jv:Cs
 left:List wW
abbrev Wg (on:List Bool):Nat->Bool:=fun u=>on.getD u false
def eJ (n:Nat) (f:II):List Bool:=(List.range n).map fun v=>decide (v∈f)
def fitsB (Jv:Cs) (Fm:RZ) (f:Nat):Bool:=Fm.all fun v=>decide (v.toNat∈Jv.getD f [])
def zh (Jv:Cs) (Fm:RZ) (a:II):II:=a.filter (fitsB Jv Fm)
def LF (left:List wW) (i:Nat):Nat:=(left.getD i default).fits.length
def bestK (left:List wW):Nat->Nat
 |0=>0
 |i+1=>if LF left i<LF left (bestK left i)then i else bestK left i
def dt (start:Nat) (st:RZ×II) (v by_:Nat):RZ×II:=if v≠start/\st.1.getD v 0<0 then(st.1.set v (by_:Int),st.2++[v])else st
def wR (start:Nat) (st:RZ×II) (e:Pr):RZ×II:=if e.1=(start:Int)then dt start st e.2.toNat start else if e.2=(start:Int)then dt start st e.1.toNat start else st
def SL (n start:Nat) (zp:List Pr):RZ×II:=zp.foldl (wR start) (List.replicate n (-1),[])
def abU (start:Nat) (st:RZ×II) (v:Nat) (row:RZ):RZ×II:=row.foldl (fun st w=>dt start st w.toNat v) st
def bfsM (rows:AM) (start:Nat) (s0:RZ×II):Nat->RZ×II
  |0=>s0
  |i+1=>match(bfsM rows start s0 i).2[i]? with
    |some v=>abU start (bfsM rows start s0 i) v (rows.getD v [])
    |none=>bfsM rows start s0 i
def XG (rows:AM) (on:List Bool) (start:Nat) (s0:RZ×II) (i:Nat):Bool:=
 match(bfsM rows start s0 i).2[i]? with
 |some v=>Wg on v
 |none=>true
def traceM (fr:RZ) (start:Nat):Nat->Nat->II
 |0,_=>[start]
 |k+1,v=>if v=start then[start]else traceM fr start k (fr.getD v 0).toNat++[v]
def J6 (n:Nat) (rows:AM) (on:List Bool) (p:wW):II:=
  if p.Fm.length<2 then[]else
  let start:=(p.Fm.headD 0).toNat;let s0:=SL n start p.zp
  match(List.range (n+1)).find? (XG rows on start s0)with
  |some i=>match(bfsM rows start s0 i).2[i]? with
    |some v=>traceM (bfsM rows start s0 i).1 start n v
    |none=>[]
  |none=>[]
def Qk (f:II) (i j:Nat):II:=(List.range ((j+f.length-i)%f.length+1)).map fun t=>f.getD ((i+t)%f.length) 0
def Dn (f:II) (v:Nat):Nat:=f.findIdx fun x=>decide (x=v)
def jc (way:II):II:=(way.drop 1).take (way.length-2)
def Ni (way:II):Nat:=way.getD (way.length-1) 0
def Ee (f way:II):II:=Qk f (Dn f (way.headD 0)) (Dn f (Ni way))++(jc way).reverse
def kP (f way:II):II:=Qk f (Dn f (Ni way)) (Dn f (way.headD 0))++jc way
def KI (n:Nat) (way:II):Nat->RZ
 |0=>List.replicate n (-1)
 |i+1=>(KI n way i).set (way.getD i 0) (i:Int)
def aI (pl:RZ) (e:Pr):Bool:=
 let a:=pl.getD e.1.toNat 0;let b:=pl.getD e.2.toNat 0;decide (a<0)||decide (b<0)||(decide (a-b≠1)&&decide (b-a≠1))
def V8 (n:Nat) (zp:List Pr) (way:II):List Pr:=zp.filter (aI (KI n way way.length))
def Uo (l:RZ) (x:Int):RZ:=if x∈l then l else l++[x]
def kZ (l:RZ):RZ:=l.foldl Uo []
noncomputable def MF (n:Nat) (on:Nat->Bool) (es:List Pr):RZ:=(List.range n).map fun v=>((((List.range n).find? fun u=>decide (Cn on es u v)).getD 0:Nat):Int)
noncomputable def vX (n:Nat) (on:List Bool) (es:List Pr):List wW:=(grpsM (Zo n (Wg on) (MF n (Wg on) es)) es [] es.length).map fun g=>⟨g.2,kZ (BY (Wg on) g.2),[]⟩
def tV (on:List Bool) (way:II):List Bool:=way.foldl (fun o v=>o.set v true) on
def GF (Jv:Cs) (f g:Nat) (q:wW):wW:=if f∈q.fits then{q with fits:=zh Jv q.Fm (q.fits++[g])}else q
noncomputable def AU (n:Nat) (rows:AM) (S:kR):Option kR:=
 let a:=bestK S.left S.left.length;let p:=S.left.getD a default
 if p.fits.length=0 then none else
 let way:=J6 n rows S.on p
 if way.length<2 then none else
 let f:=p.fits.headD 0;let g:=S.Jv.length;let EI:=S.Jv.getD f [];let Jv:=S.Jv.set f (Ee EI way)++[kP EI way];let on:=tV S.on way
 some ⟨on,Jv,(S.left.eraseIdx a).map (GF Jv f g)++(vX n on (V8 n p.zp way)).map fun q=>{q with fits:=zh Jv q.Fm (p.fits++[g])}⟩
end
end Go.Fw
namespace Go.Fw
open Go.Proofs
attribute [local instance] Classical.propDecidable
structure BF (n start:Nat) (A:Nat->Prop) (B:Nat->Nat->Prop) (st:RZ×II):Prop where
 len:st.1.length=n
 nd:st.2.Nodup
 lt:∀v∈st.2,v<n/\v≠start
 mm:∀v,v<n->(v∈st.2↔0<=st.1.getD v 0)
 par:∀(k v:Nat),st.2[k]?=some v->(st.1.getD v 0=(start:Int)/\A v)\/∃j u:Nat,j<k/\st.2[j]?=some u/\st.1.getD v 0=(u:Int)/\B u v
section
variable {n start : Nat} {A : Nat → Prop} {B : Nat → Nat → Prop} {st : List Int × List Nat}
theorem BF.zero:BF n start A B (List.replicate n (-1),[]):=by
 refine⟨Ma,Ma,Ma,fun v a=>?_,pw⟩
 grind
theorem BF.meet (W:BF n start A B st) {v by_:Nat} (i:v<n) (d:(by_=start/\A v)\/∃j:Nat,st.2[j]?=some by_/\B by_ v):
  BF n start A B (dt start st v by_)/\(∃t,(dt start st v by_).2=st.2++t)/\(v=start\/v∈(dt start st v by_).2):=by
 unfold dt;split
 .have l : v ∉ st.2 := by grind [BF.mm]
  refine⟨⟨by simp[W.len],?_,fun x c=>?_,fun x c=>?_,fun k x a=>?_⟩,⟨_,rfl⟩,.inr Ma⟩
  .grind [BF.nd]
  .rcases qL7.1 c with h | h
   .exact W.lt x h
   grind
  .grind [BF.mm]
  .have hg : ∀ y, y ∈ st.2 -> (st.1.set v (by_ : Int)).getD y 0 = st.1.getD y 0 := pw
   by_cases e:k<st.2.length
   .rw [Eh e] at a
    have f:=Gc a;rw[hg x f];rcases W.par k x a with h|⟨j,u,b,h2,h3⟩
    .exact .inl h
    .exact .inr ⟨j,u,b,pw,h3⟩
   .rw [vZ NH] at a
    have:k-st.2.length=0:=pw;rw[this]at a;simp at a;subst a;have g:(st.1.set v (by_:Int)).getD v 0=(by_:Int):=pw;rw[g];rcases d with⟨rfl,h⟩|⟨j,b,h2⟩
    .grind
    .have m := (Ny.1 b).1
     exact .inr ⟨j,by_,NH,pw,rfl,h2⟩
 .refine ⟨W, ⟨[], Ma⟩, ?_⟩
  grind [BF.mm]
theorem pre_mem {l t:II} {v:Nat} {s:II} (h:s=l++t) (a:v∈l):v∈s:=pw
theorem Z5 {l t:II} {v k:Nat} {s:II} (h:s=l++t) (a:l[k]?=some v):s[k]?=some v:=pw
theorem BF.row {v j:Nat}:∀(row:RZ) {st:RZ×II},BF n start A B st->st.2[j]?=some v->(∀x∈row,∃w:Nat,x=(w:Int)/\w<n/\B v w)->
  BF n start A B (abU start st v row)/\(∃t,(abU start st v row).2=st.2++t)/\∀w:Nat,(w:Int)∈row->w=start\/w∈(abU start st v row).2
 |[],st,W,_,_=>⟨W,⟨[],by simp[abU]⟩,pw⟩
 |x::row,st,W,a,b=>by
  obtain⟨w,rfl,hw,hB⟩:=b x Ma;obtain⟨c,⟨t1,d⟩,m1⟩:=W.meet (v:=w) (by_:=v) hw pw;obtain⟨e,⟨g,i⟩,m2⟩:=c.row row (Z5 d a) pw;have k:abU start st v ((w:Int)::row)=abU start (dt start st w v) v row:=rfl;refine⟨e,pw,fun y f=>?_⟩;rcases EL.1 f with h|h
  .have : y = w := NH
   grind
  grind
theorem BF.Vk:∀(zp:List Pr) {st:RZ×II},BF n start A B st->(∀e∈zp,(∃a b:Nat,e=((a:Int),(b:Int))/\a<n/\b<n)/\(∀w:Nat,(e=((start:Int),(w:Int))\/e=((w:Int),(start:Int)))->A w))->
  BF n start A B (zp.foldl (wR start) st)/\(∃t,(zp.foldl (wR start) st).2=st.2++t)/\∀e∈zp,∀w:Nat,(e=((start:Int),(w:Int))\/e=((w:Int),(start:Int)))->w≠start->w∈(zp.foldl (wR start) st).2
 |[],st,W,_=>⟨W,⟨[],Ma⟩,pw⟩
 |e::zp,st,W,c=>by
  obtain⟨⟨a,b,rfl,ha,hb⟩,hA⟩:=c e Ma;have s1:BF n start A B (wR start st ((a:Int),(b:Int)))/\(∃t,(wR start st ((a:Int),(b:Int))).2=st.2++t)/\∀w:Nat,((((a:Int),(b:Int)):Pr)=((start:Int),(w:Int))\/(((a:Int),(b:Int)):Pr)=((w:Int),(start:Int)))->w≠start->w∈(wR start st ((a:Int),(b:Int))).2:=by
   unfold wR;split
   .grind [BF.meet]
   .split
    .grind [BF.meet]
    .refine ⟨W, ⟨[], Ma⟩, fun w hw d => ?_⟩
     grind
  obtain⟨f,⟨t1,g⟩,m1⟩:=s1;obtain⟨h,⟨i,j⟩,m2⟩:=f.Vk zp pw
  grind
theorem BF.jI (W:BF n start A B st):st.2.length<=n:=by
 have:=tf W.nd (B:=List.range n) (by grind [BF.lt])
 grind
theorem BF.trace (W:BF n start A B st):∀(fuel k v:Nat),k<fuel->st.2[k]?=some v->
  ∃L:II,traceM st.1 start fuel v=start::(L++[v])/\(∀x∈L,∃j:Nat,j<k/\st.2[j]?=some x/\∃y,B x y)/\L.Nodup/\A ((L++[v]).headD 0)/\∀(i x y:Nat),(L++[v])[i]?=some x->(L++[v])[i+1]?=some y->B x y
 |0,k,v,h,_=>by grind
 |fuel+1,k,v,h,a=>by
  have f:=W.lt v (Gc a);have g:traceM st.1 start (fuel+1) v=traceM st.1 start fuel (st.1.getD v 0).toNat++[v]:=by grind [traceM.eq_2]
  rcases W.par k v a with⟨d,h2⟩|⟨j,u,d,h2,h3,l⟩
  .refine ⟨[], ?_, (by grind), Ma, h2, fun i x y b c => ?_⟩
   .have:traceM st.1 start fuel (start:Int).toNat=[start]:=by
     cases fuel<;>grind [traceM.eq_1,traceM.eq_2]
    grind
   grind
  .obtain ⟨L, m, o, nL, hA, ch⟩ := W.trace fuel j u NH h2
   refine⟨L++[u],?_,fun x b=>?_,?_,?_,fun i x y b c=>?_⟩
   .grind
   .grind
   .grind [X6,BF.nd]
   .grind
   .by_cases q : i + 1 < (L ++ [u]).length
    .grind
    .have e := (Ny.1 c).1
     simp at e q;have hi:i=L.length:=NH;subst hi
     grind [List.getElem?_append_right]
end
end Go.Fw
namespace Go.Fw
open Go.Proofs
attribute [local instance] Classical.propDecidable
theorem Ix {a b:Nat} (h:a<b):GW a b=((a:Int),(b:Int)):=by grind [GW]
theorem cY {a b:Nat} (h:b<a):GW a b=((b:Int),(a:Int)):=by rw[so,Ix h]
theorem Mf {es:List Pr} {a b:Nat} (c:a≠b) (h:GW a b∈es):Jp es a b:=by
 rcases jV c with k|k
 .rw[Ix k]at h;exact .inl h
 .rw[cY k]at h;exact .inr h
section
variable {n start : Nat} {es : List Pr} {on : List Bool} {A : Nat → Prop} {s0 : List Int × List Nat}
theorem PH (hR:aV n es) (W:BF n start A (fun u v=>Jp es u v/\Wg on u=false) s0):∀i,(∀j,j<i->XG (Zh n es) on start s0 j=false)->
  BF n start A (fun u v=>Jp es u v/\Wg on u=false) (bfsM (Zh n es) start s0 i)/\(∃t,(bfsM (Zh n es) start s0 i).2=s0.2++t)/\
   ∀j,j<i->∃u:Nat,(bfsM (Zh n es) start s0 i).2[j]?=some u/\Wg on u=false/\∀w,Jp es u w->w=start\/w∈(bfsM (Zh n es) start s0 i).2
 |0,_=>⟨W,⟨[],by simp[bfsM]⟩,pw⟩
 |i+1,hs=>by
  obtain⟨b,⟨t1,h⟩,c1⟩:=PH hR W i pw;have hi:=hs i NH;unfold XG at hi;cases a:(bfsM (Zh n es) start s0 i).2[i]? with
  |none=>grind
  |some v=>
   have c:bfsM (Zh n es) start s0 (i+1)=abU start (bfsM (Zh n es) start s0 i) v ((Zh n es).getD v []):=by rw[bfsM,a]
   rw[c];obtain⟨d,⟨k,f⟩,c2⟩:=b.row ((Zh n es).getD v []) a (by grind [Ru,EW]);refine⟨d,pw,fun j l=>?_⟩;by_cases e:j=i
   .grind [EW]
   .obtain ⟨u, g, h2, h3⟩ := c1 j NH
    exact⟨u,Z5 f g,h2,(by grind [pre_mem])⟩
theorem way_spec (hR:aV n es) {p:wW} (hf:2<=p.Fm.length) (hs:(p.Fm.headD 0).toNat=start) (q:start<n) (r:∀e∈p.zp,e∈es):
    (∃inn b,J6 n (Zh n es) on p=nr start inn b/\(nr start inn b).Nodup/\b<n/\Wg on b=true/\(∀x∈inn,Wg on x=false)/\GW start ((inn++[b]).headD 0)∈p.zp/\
      ∀(i x y:Nat),(nr start inn b)[i]?=some x->(nr start inn b)[i+1]?=some y->Jp es x y)\/
    (J6 n (Zh n es) on p=[]/\∃M:II,(∀w,GW start w∈p.zp->w≠start->w∈M)/\∀u∈M,u≠start/\Wg on u=false/\∀w,Jp es u w->w=start\/w∈M):=by
  have s:=(BF.zero (n:=n) (start:=start) (A:=fun w=>GW start w∈p.zp) (B:=fun u v=>Jp es u v/\Wg on u=false)).Vk p.zp fun e z=>by
    have C:=hR e (r e z);obtain⟨a,ea⟩:=WA C.1;obtain⟨b,eb⟩:=WA (show 0<=e.2 by omega)
    grind [Ix,cY]
  have l:p.zp.foldl (wR start) (List.replicate n (-1),[])=SL n start p.zp:=rfl;obtain⟨m,-,m0⟩:=s
  have wd:J6 n (Zh n es) on p=match(List.range (n+1)).find? (XG (Zh n es) on start (SL n start p.zp))with
      |some i=>match(bfsM (Zh n es) start (SL n start p.zp) i).2[i]? with
        |some v=>traceM (bfsM (Zh n es) start (SL n start p.zp) i).1 start n v
        |none=>[]
      |none=>[]:=by grind [J6]
  rw[wd];cases f:(List.range (n+1)).find? (XG (Zh n es) on start (SL n start p.zp))with
  |none=>
    have D:∀j,j<n+1->XG (Zh n es) on start (SL n start p.zp) j=false:=pw;obtain⟨g,-,c2⟩:=PH hR m (n+1) D;obtain⟨u,N,-⟩:=c2 n NH
    grind [BF.jI]
  |some i=>
    rw[qL172]at f;obtain⟨g,⟨t,O⟩,c2⟩:=PH hR m i pw;cases d:(bfsM (Zh n es) start (SL n start p.zp) i).2[i]? with
    |none=>
      refine .inr ⟨pw,(bfsM (Zh n es) start (SL n start p.zp) i).2,fun w hw E=>?_,fun u F=>?_⟩
      .grind [cY,Ix]
      · obtain ⟨j, G⟩ := IE.1 F
        have P:=List.getElem?_eq_none_iff.1 d;have H:=(Ny.1 G).1;obtain⟨u',Q,R,S⟩:=c2 j NH
        grind [BF.lt]
    |some v=>
      have I:Wg on v=true:=by grind [XG]
      have hi:i<n:=by grind [BF.jI]
      obtain⟨L,J,T,nL,hA,ch⟩:=g.trace n i v hi d;have h:=g.lt v (Gc d);have c:∀x∈L,Wg on x=false:=fun x o=>by grind
      have K:∀x∈L,x≠start:=fun x o=>by grind [BF.lt]
      refine .inl ⟨L,v,by simp only[d];exact J,?_,h.1,I,c,hA,fun k x y o U=>?_⟩
      .grind [nr.eq_1,List.nodup_cons,List.mem_singleton]
      · cases k with
        |zero=>
          grind [yT,Mf,BX]
        |succ k=>
          have e:nr start L v=start::(L++[v]):=rfl
          grind
end
end Go.Fw
namespace Go.Fw
section
attribute [local instance] Classical.propDecidable
open Go.Proofs
variable {A B f:II} {a b i m s t:Nat}
theorem gW (nd:f.Nodup) {k v:Nat} (h:f[k]?=some v):Dn f v=k:=by
 obtain⟨b,e⟩:=Ny.1 h;unfold Dn;rw[List.findIdx_eq b];refine⟨by simp[e],fun j c=>?_⟩;have a:j<f.length:=NH;simp only[decide_eq_false_iff_not];intro q;have:=X6 nd (BS a) (by rw[h,q]);omega
theorem fk {f g:II} {t:II} (h:Cyc f g) (e:g=a::t):∃u v,f=u++a::v/\g=(a::v)++u:=by
 obtain⟨u,v,rfl,rfl⟩:=h;cases v<;>grind
theorem rot_get {u v:II} (d:t<(u++v).length) (f:v≠[]):(v++u)[t]?=some ((u++v).getD ((u.length+t)%(u++v).length) 0):=by
 have a:(u++v).length=u.length+v.length:=j9;by_cases c:t<v.length
 .have b : (u.length + t) % (u ++ v).length = u.length + t := by exact Cg NH
  grind
 .have e : u.length + t = (t - v.length) + (u.length + v.length) := NH
  have b:(u.length+t)%(u++v).length=t-v.length:=by rw[a,e,afI,Cg NH]
  grind
theorem aeQ (hi:i<m) (hs:s<m):((i+s)%m+m-i)%m=s:=by
 by_cases c:i+s<m
 .rw[Cg c,show i+s+m-i=s+m from by omega,afI,Cg hs]
 .have : (i + s) % m = i + s - m := by rw [Nat.mod_eq_sub_mod NH, Cg NH]
  grind [Nat.mod_eq_of_lt]
theorem U1 (nd:f.Nodup) (cy:Cyc f ((a::A)++(b::B))):Qk f (Dn f a) (Dn f b)=a::(A++[b]):=by
 obtain⟨u,v,d,j⟩:=fk cy rfl;have k:((a::A)++(b::B)).length=f.length:=(cy.perm.length_eq).symm;have hi:Dn f a=u.length:=gW nd pw;have g:f.length=(u++a::v).length:=by rw[d]
 have h:u.length<f.length:=pw;have get:∀t,t<f.length->((a::A)++(b::B))[t]?=some (f.getD ((u.length+t)%f.length) 0):=by grind [rot_get]
 have sl:A.length+1<f.length:=pw;have gb:=get (A.length+1) sl;rw[vZ Ma,Uz,Q4,im]at gb;injection gb with gb;have l:=C4 (u.length+(A.length+1)) (show 0<f.length by omega);have i:Dn f b=(u.length+(A.length+1))%f.length:=by grind [gW]
 unfold Qk;rw[hi,i,aeQ h sl];have e:a::(A++[b])=((a::A)++(b::B)).take (A.length+1+1):=by
  rw[List.take_append,yM Ma];simp[show A.length+1+1-(A.length+1)=1 from by omega]
 rw[e];apply V3;intro t;rw[Yq];by_cases c:t<A.length+1+1
 .rw[List.getElem?_range c,List.getElem?_take_of_lt c,get t NH];rfl
 grind
theorem cyc_two (ha:a∈f) (hb:b∈f) (d:a≠b):∃A B,Cyc f ((a::A)++(b::B)):=by
 obtain⟨c,e⟩:=Cyc.front ha;have:b∈a::c:=e.perm.mem_iff.1 hb
 grind [sC]
theorem Oy (a b:Nat) (inn:II):jc (nr a inn b)=inn/\Ni (nr a inn b)=b/\(nr a inn b).headD 0=a:=by
 refine⟨?_,?_,rfl⟩
 .unfold jc
  rw[Eo];show((inn++[b]).take (inn.length+2-2))=inn;simp
 grind [Ni,Eo,Fg]
def Gf {f A B inn:II} (nd:f.Nodup) (cy:Cyc f ((a::A)++(b::B))):
  Ee f (nr a inn b)=half a A b inn/\kP f (nr a inn b)=half b B a inn.reverse:=by
 obtain⟨c,d,e3⟩:=Oy a b inn;unfold Ee kP half;rw[c,d,e3,U1 nd cy,U1 nd cy.shift];simp
theorem set_perm {F:Cs} {f:Nat} {EI one:II} (h:F[f]?=some EI) (nd:F.Nodup):(F.set f one).Perm (one::F.erase EI):=pw
variable {L:RZ} {e:Pr} {es web:List Pr} {fr:Pr->Nat->Int} {j n:Nat} {on:Nat->Bool} {α:Type}
theorem QN {l:List α} (nd:l.Nodup) {x:α} (hi:l[i]?=some x) (a:l[j]?=some x):i=j:=by grind [List.getElem_inj]
structure ag9 (es:List Pr) (P:Pr->Prop) (same:Pr->Pr->Prop) (gs:List (List Pr)):Prop where
 ne:∀g∈gs,g≠[]
 sub:∀g∈gs,g.Sublist es
 inP:∀g∈gs,∀e∈g,P e
 cov:∀e∈es,P e->∃g∈gs,e∈g
 TE:gs.Pairwise fun g g'=>∀e∈g,e∉g'
 one:∀g∈gs,∀e∈g,∀e'∈es,P e'->(e'∈g↔same e e')
theorem Yn {n:Nat} {same:Pr->Pr->Prop} (nd:es.Nodup)
  (h:∀(j b:Nat) e e',es[j]?=some e->es[b]?=some e'->e∉web->e'∉web->(fr e j=fr e' b↔same e e')):
  ag9 es (fun e=>e∉web) same ((grpsM fr es web es.length).map (·.2)):=by
 obtain⟨d,f,-,-,-⟩:=Pt fr es web es.length;have m:(grpsM fr es web es.length).map (·.2)=(Ea (grpsM fr es web es.length)).map fun k=>fullU fr es web k es.length:=by
  rw[grps_map (fun l=>l) _ d]
  grind [ZM]
 have c:∀k q,q∈fullU fr es web k es.length↔∃j:Nat,es[j]?=some q/\q∉web/\fr q j=k:=by grind [full_mem]
 refine⟨fun g hg=>?_,fun g hg=>?_,fun g hg e a=>?_,fun e a hw=>?_,?_,fun g hg e a e' i hw=>?_⟩
 .grind
 .grind [sW]
 .grind
 .obtain ⟨j, o⟩ := IE.1 a
  have p:e∈fullU fr es web (fr e j) es.length:=pw
  grind [rV,ZM]
 .grind
 grind [List.mem_iff_getElem?]
def FW (on:Nat->Bool) (es:List Pr) (e e':Pr):Prop:=
 e=e'\/∃a b:Nat,((a:Int)=e.1\/(a:Int)=e.2)/\((b:Int)=e'.1\/(b:Int)=e'.2)/\on a=false/\on b=false/\Cn on es a b
theorem jB (hR:aV n es) (c:e∈es):∃a b:Nat,e=((a:Int),(b:Int))/\a<b/\b<n:=by
 obtain⟨d,h2,h3⟩:=hR e c;obtain⟨a,ea⟩:=WA d;obtain⟨b,eb⟩:=WA (show 0<=e.2 by omega)
 grind
theorem K2 (hR:aV n es) (nd:es.Nodup) (I:wx n on es L) {j l:Nat} {e e':Pr} (s:es[j]?=some e) (f:es[l]?=some e'):
  Zo n on L e j=Zo n on L e' l↔FW on es e e':=by
 obtain⟨a,b,rfl,t,hb⟩:=jB hR (Gc s);obtain⟨c,d,rfl,m,hd⟩:=jB hR (Gc f);have ad:=(show Jp es a b from .inl (Gc s));have C:=(show Jp es c d from .inl (Gc f));have val:∀v,v<n->on v=false->∃k:Nat,k<n/\L.getD v 0=(k:Int):=by grind [wx.off]
 have same:∀u w,u<n->w<n->on u=false->on w=false->(L.getD u 0=L.getD w 0↔Cn on es u w):=by grind [M9]
 have key:∀(a b j:Nat),a<b->b<n->Jp es a b->(Zo n on L ((a:Int),(b:Int)) j=(n:Int)+j/\on a=true/\on b=true)\/
   ∃x,(x=a\/x=b)/\x<n/\on x=false/\Zo n on L ((a:Int),(b:Int)) j=L.getD x 0/\∀y,(y=a\/y=b)->on y=false->Cn on es x y:=fun a b j p h2 o=>by
  unfold Zo;simp only[HV];cases D:on a with
  |false=>
   refine .inr ⟨a,.inl rfl,NH,D,rfl,fun y z i=>?_⟩;rcases z with rfl|rfl
   .grind
   .exact .step (.refl D) o i
  |true=>
   grind
 rcases key a b j t hb ad with⟨k1,k2,J⟩|⟨x,K,E,ox,k1,k2⟩
 .rcases key c d l m hd C with ⟨q, r, G⟩ | ⟨y, z, A, i, q, r⟩
  .constructor
   .intro h
    have:j=l:=NH;subst this;rw[s]at f;injection f with f;exact .inl f
   .rintro (h | ⟨u, w, g, _, B, _⟩)
    .grind [QN]
    .rcases g with g | g
     .have : u = a := NH
      grind
     .have : u = b := NH
      grind
  .obtain ⟨k, p, h2⟩ := val y A i
   constructor
   .grind
   .rintro (h | ⟨u, w, g, _, B, _⟩)
    .all_goals grind
    .rcases g with g | g
     .have : u = a := NH
      grind
     .have : u = b := NH
      grind
 .rcases key c d l m hd C with ⟨q, r, G⟩ | ⟨y, z, A, i, q, r⟩
  .obtain ⟨k, p, h2⟩ := val x E ox
   constructor
   .grind
   .rintro (h | ⟨u, w, _, hw, _, F, _⟩)
    .all_goals grind
    .rcases hw with hw | hw
     .have : w = c := NH
      grind
     .have : w = d := NH
      grind
  .rw [k1, q, same x y E A ox i]
   constructor
   .intro h
    refine .inr ⟨x,y,?_,?_,ox,i,h⟩
    .omega
    .omega
   .rintro (h | ⟨u, w, g, hw, B, F, H⟩)
    .grind
    .have p := k2 u NH B
     have h2:=r w NH F;exact(p.trans H).trans h2.symm
theorem uY:wx n on es (MF n on es):=by
 have look:∀u,u<n->on u=false->∃k:Nat,k<n/\(MF n on es)[u]?=some (k:Int)/\Cn on es k u/\(List.range n).find? (fun x=>decide (Cn on es x u))=some k:=fun u a b=>by
  cases hf:(List.range n).find? (fun x=>decide (Cn on es x u))with
  |none=>
   rw[List.find?_eq_none]at hf;exact absurd (decide_eq_true (Cn.refl (es:=es) b)) (by grind)
  |some k=>
   grind [MF]
 refine⟨by simp[MF],fun u a b=>?_,fun u w a hw c d=>?_⟩
 .grind
 .constructor
  .grind [Cn.symm,Cn.trans]
  grind [Cn.trans,Cn.symm]
end
end Go.Fw
namespace Go.Fw
open Go.Proofs
attribute [local instance] Classical.propDecidable
abbrev eN (n:Nat) (es:List Pr):Nat->II:=Xl (Zh n es)
theorem qG (n:Nat) (es:List Pr):Av n es (Zh n es):=⟨Xq n es,fun v _=>List.Perm.refl _⟩
def Un (R:Nat->II) (H:Nat->Nat->Prop) (v w:Nat):Prop:=w∈R v/\¬H v w
section
variable {n : Nat} {es : List Pr} {H : Nat → Nat → Prop} {F : List (List Nat)} {p : wW}
theorem vD (hR:aV n es) {v w:Nat}:w∈eN n es v↔Jp es v w:=(qG n es).mem hR
def MG (hR:aV n es) (hA:D3 es):V7 n (eN n es):=(qG n es).jD hR hA
def un_in (hR:aV n es) {v w:Nat} (h:Un (eN n es) H v w):GW v w∈es:=T0 hR ((vD hR).1 h.1)
theorem Dc {a b x y:Nat} (h:GW a b=GW x y):(a=x/\b=y)\/(a=y/\b=x):=by grind [bj]
theorem Sl {v w:Nat} {e:Pr} (h:e=GW v w) (a:Nat):((a:Int)=e.1\/(a:Int)=e.2)↔a=v\/a=w:=by grind [bj]
structure EJ (n:Nat) (es:List Pr) (H:Nat->Nat->Prop) (F:Cs) (p:wW):Prop where
 ne:p.zp≠[]
 sub:p.zp.Sublist es
 un:∀v w:Nat,GW v w∈p.zp->¬H v w
 one:∀v w x y:Nat,Un (eN n es) H v w->Un (eN n es) H x y->GW v w∈p.zp->(GW x y∈p.zp↔QI (eN n es) H x y=QI (eN n es) H v w)
 Fm:∀u:Nat,(u:Int)∈p.Fm↔¬off (eN n es) H u/\∃w,Un (eN n es) H u w/\GW u w∈p.zp
 nat:∀x∈p.Fm,0<=x
 fnd:p.Fm.Nodup
 fits:∀i,i∈p.fits↔i<F.length/\∀x∈p.Fm,x.toNat∈F.getD i []
 tnd:p.fits.Nodup
theorem EJ.UQ (P:EJ n es H F p) (hR:aV n es) {e:Pr} (d:e∈p.zp):∃v w,e=GW v w/\v<w/\Un (eN n es) H v w:=by
 obtain⟨a,b,rfl,c,hb⟩:=jB hR (P.sub.subset d);have f:((a:Int),(b:Int))=GW a b:=(Ix c).symm;exact⟨a,b,f,c,(vD hR).2 (.inl (P.sub.subset d)),P.un a b pw⟩
theorem EJ.XB (P:EJ n es H F p) (hR:aV n es) {v w:Nat} (h:GW v w∈p.zp):Un (eN n es) H v w:=by
 refine⟨(vD hR).2 ?_,P.un v w h⟩;have a:=P.sub.subset h;obtain⟨b,h2,_⟩:=hR _ a
 grind [Mf,bj]
theorem EJ.key (P:EJ n es H F p) (hR:aV n es) {v w x y:Nat} (h:GW v w∈p.zp) (h':GW x y∈p.zp):QI (eN n es) H x y=QI (eN n es) H v w:=
 (by grind [EJ.one,EJ.XB])
theorem EJ.VN (P:EJ n es H F p) (hR:aV n es) {u x:Nat} (h:GW u x∈p.zp) {f:II}:Fits (eN n es) H (QI (eN n es) H u x) f↔∀y∈p.Fm,y.toNat∈f:=by
 constructor
 .intro q y c
  obtain⟨t,rfl⟩:=WA (P.nat y c);obtain⟨b,w,h2,h3⟩:=(P.Fm t).1 c;exact q t w ⟨b,h2.1,h2.2⟩ (P.key hR h h3)
 .intro q z y a d
  have b:=(P.one u x z y (P.XB hR h) ⟨a.mem,a.nh⟩ h).2 d;have:=q z ((P.Fm z).2 ⟨a.on,y,⟨a.mem,a.nh⟩,b⟩)
  grind
def EJ.wm (P:EJ n es H F p) (hR:aV n es) {u:Nat} (h:(u:Int)∈p.Fm):∃w,QP (eN n es) H u w/\GW u w∈p.zp:=by
 obtain⟨a,w,h2,h3⟩:=(P.Fm u).1 h;exact⟨w,⟨a,h2.1,h2.2⟩,h3⟩
def EJ.E8 (P:EJ n es H F p) {u w:Nat} (h:QP (eN n es) H u w) (a:GW u w∈p.zp):(u:Int)∈p.Fm:=(P.Fm u).2 ⟨h.on,w,⟨h.mem,h.nh⟩,a⟩
theorem EJ.two (P:EJ n es H F p) (hR:aV n es) (hA:D3 es) (hs:∀v w,H v w->H w v) (D:QG (eN n es)) (h2:∃p q,p≠q/\¬off (eN n es) H p/\¬off (eN n es) H q):
  (∃u:Nat,(u:Int)∈p.Fm)/\∀u:Nat,(u:Int)∈p.Fm->∃z:Nat,(z:Int)∈p.Fm/\u≠z:=by
 obtain⟨h,i⟩:=JY (MG hR hA) hs D h2;refine⟨?_,fun u j=>?_⟩
 .obtain ⟨e, l, k⟩ := xD P.ne
  obtain⟨v,w,m,_,b⟩:=P.UQ hR (e:=e) (by rw[k];simp);have c:GW v w∈p.zp:=pw;obtain⟨u,x,a,d⟩:=i v w b.1 b.2;exact⟨u,P.E8 a ((P.one v w u x b ⟨a.mem,a.nh⟩ c).2 d.symm)⟩
 .obtain ⟨w, a, c⟩ := P.wm hR j
  obtain⟨z,y,f,g,d⟩:=h u w a;exact⟨z,P.E8 f ((P.one u w z y ⟨a.mem,a.nh⟩ ⟨f.mem,f.nh⟩ c).2 d.symm),g⟩
theorem cn_to_cr (hR:aV n es) {d:List Pr} (c:∀e∈d,e∈es) {on:Nat->Bool} (k:∀v,v<n->(on v=true↔¬off (eN n es) H v)) {a b:Nat} (ha:a<n) (h:Cn on d a b):Cr (Mm (eN n es) H) a b/\b<n/\off (eN n es) H b:=by
 have i:∀v,v<n->on v=false->off (eN n es) H v:=pw
 induction h with
 |refl o=>exact⟨.refl _,ha,i _ ha o⟩
 |@step w x _ g o l=>
  obtain⟨m,h2,h3⟩:=l;have f:Jp es w x:=g.imp (c _) (c _);have j:=(f.lt hR).2;exact⟨m.step (EM.2 (by grind [vD])),j,i x j o⟩
theorem cr_to_cn (hR:aV n es) {c:List Pr} {on:Nat->Bool} (e:∀v,v<n->(on v=true↔¬off (eN n es) H v)) {a b:Nat} (ha:a<n) (f:off (eN n es) H a)
  (d:∀y z,Cr (Mm (eN n es) H) a y->z∈Mm (eN n es) H y->Jp c y z) (h:Cr (Mm (eN n es) H) a b):Cn on c a b:=by
 have g:∀v,v<n->off (eN n es) H v->on v=false:=pw
 induction h with
 |refl=>exact .refl (g a ha f)
 |@step y z i h2 j=>
  obtain⟨m1,_,m3⟩:=EM.1 h2;exact .step j (d y z i h2) (by grind [vD,Jp.lt])
theorem Nj (hR:aV n es) (hA:D3 es) (hs:∀v w,H v w->H w v) {f:List Pr} {Q:Pr->Prop} {on:Nat->Bool} (i:∀e∈f,e∈es) (j:∀v,v<n->(on v=true↔¬off (eN n es) H v)) {gs:List (List Pr)}
  (T:ag9 f Q (FW on f) gs) (r:∀v w,GW v w∈f->Q (GW v w)->Un (eN n es) H v w)
  (cl:∀v w x y,Un (eN n es) H x y->GW v w∈f->Q (GW v w)->QI (eN n es) H x y=QI (eN n es) H v w->GW x y∈f/\Q (GW x y)) {g:List Pr} (hg:g∈gs) {v w x y:Nat} (s:Un (eN n es) H x y) (t:GW v w∈g):
  GW x y∈g↔QI (eN n es) H x y=QI (eN n es) H v w:=by
 have m:=MG hR hA;have m1:=(T.sub g hg).subset t;have u:=T.inP g hg _ t;have z:=r v w m1 u;have lt:∀{v w},Un (eN n es) H v w->v<n/\w<n:=fun h=>((vD hR).1 h.1).lt hR;have toP:FW on f (GW v w) (GW x y)↔jJ (eN n es) H v w x y:=by
  constructor
  .rintro (h | ⟨a, b, ha, hb, o, B, A⟩)
   .rcases Dc h with h | h
    .exact .inl h
    .exact .inr (.inl h)
   .rw [Sl rfl] at ha hb
    have q:a<n:=pw;obtain⟨c1,c2,K⟩:=cn_to_cr hR i j q A;have C:off (eN n es) H a:=pw;exact .inr pw
  .rintro (⟨rfl, rfl⟩ | ⟨rfl, rfl⟩ | ⟨a, b, ha, hb, o, B, A⟩)
   .exact .inl rfl
   .exact .inl (so _ _)
   .have q : a < n := pw
    have D:b<n:=pw;have k:∀v,v<n->off (eN n es) H v->on v=false:=pw;refine .inr ⟨a,b,(Sl rfl a).2 ha,(Sl rfl b).2 hb,k a q o,k b D B,cr_to_cn hR j q o (fun c d E h2=>?_) A⟩;obtain⟨k1,k2,L⟩:=EM.1 h2;have G:Un (eN n es) H c d:=⟨k1,k2 d k1⟩;obtain⟨I,J⟩:=cl v w c d G m1 u (by rw[IV m z.1 ha o,M6 k2,(fX m).2 E])
    grind [Mf,V7.ir]
 rw[Uu m s.1 z.1];have l:jJ (eN n es) H x y v w↔jJ (eN n es) H v w x y:=by grind [jJ.symm]
 rw[l,<-toP];constructor
 .intro h
  exact(T.one g hg _ t _ ((T.sub g hg).subset h) (T.inP g hg _ h)).1 h
 .intro h
  obtain⟨I,J⟩:=cl v w x y s m1 u ((Uu m s.1 z.1).2 pw)
  grind [ag9.one]
end
end Go.Fw
namespace Go.Fw
open Go.Proofs
attribute [local instance] Classical.propDecidable
theorem WV {F:Cs} {Fm:RZ} {c:II} {i:Nat}:i∈zh F Fm c↔i∈c/\∀x∈Fm,x.toNat∈F.getD i []:=by grind [zh,fitsB]
theorem Pe (on:List Bool) (way:II):(tV on way).length=on.length:=by
 unfold tV
 induction way generalizing on<;>grind
theorem mQ {v:Nat}:∀(way:II) (on:List Bool),v<on.length->(Wg (tV on way) v=true↔Wg on v=true\/v∈way)
 |[],on,_=>by simp[tV]
 |w::way,on,h=>by
  have e:tV on (w::way)=tV (on.set w true) way:=rfl;rw[e,mQ way _ pw]
  grind
def kY (F:Cs) (f:Nat) (way:II):Cs:=F.set f (Ee (F.getD f []) way)++[kP (F.getD f []) way]
def Yz {F:Cs} {f:Nat} {way:II}:(kY F f way).length=F.length+1:=by simp[kY]
theorem ade {F:Cs} {f i:Nat} {way:II} (hf:f<F.length):(kY F f way).getD i []=if i=f then Ee (F.getD f []) way else if i=F.length then kP (F.getD f []) way else F.getD i []:=by grind [kY]
theorem half_mem {a b v:Nat} {A inn:II}:v∈half a A b inn↔v=a\/v∈A\/v=b\/v∈inn:=by grind [half]
section
variable {n : Nat} {es : List Pr} {H : Nat → Nat → Prop} {F : List (List Nat)} {p q : wW} {a b f : Nat} {inn A B : List Nat}
structure Vf (n:Nat) (es:List Pr) (H:Nat->Nat->Prop) (F:Cs) (p:wW) (a:Nat) (inn:II) (b f:Nat) (A B:II):Prop where
 hR:aV n es
 hA:D3 es
 hs:∀v w,H v w->H w v
 I:PU n (eN n es) H F
 P:EJ n es H F p
 W:Ka (eN n es) H a inn b
 fst:GW a ((inn++[b]).headD 0)∈p.zp
 hf:f<F.length
 cy:Cyc (F.getD f []) ((a::A)++(b::B))
theorem Vf.Rl (L:Vf n es H F p a inn b f A B):V7 n (eN n es):=MG L.hR L.hA
def Vf.hs' (L:Vf n es H F p a inn b f A B):∀v w,XZ H a inn b v w->XZ H a inn b w v:=fun v w h=>h.imp (L.hs v w) Ef
theorem Vf.EI (L:Vf n es H F p a inn b f A B):F.getD f []∈F:=by grind [Vf.hf]
def Vf.Gf (L:Vf n es H F p a inn b f A B):Ee (F.getD f []) (nr a inn b)=half a A b inn/\kP (F.getD f []) (nr a inn b)=half b B a inn.reverse:=_root_.Go.Fw.Gf (L.I.O0 L.EI).1 L.cy
theorem Vf.mem_face (L:Vf n es H F p a inn b f A B) {v:Nat}:v∈F.getD f []↔v=a\/v∈A\/v=b\/v∈B:=by rw[L.cy.perm.mem_iff];grind
theorem Vf.new_face (L:Vf n es H F p a inn b f A B) {i v:Nat} (hi:i=f\/i=F.length) (h:v∈(kY F f (nr a inn b)).getD i []):v∈F.getD f []\/v∈inn:=by
 rw[ade L.hf]at h;rw[L.mem_face];have hh:=L.Gf
 grind [half_mem]
theorem Vf.LY (L:Vf n es H F p a inn b f A B) {i:Nat} (c:i≠f) (h2:i≠F.length):(kY F f (nr a inn b)).getD i []=F.getD i []:=by grind [ade,Vf.hf]
theorem Vf.keyK (L:Vf n es H F p a inn b f A B) {x y:Nat} (h:Ay a inn b x y):QI (eN n es) H x y=QI (eN n es) H a ((inn++[b]).headD 0):=L.W.PW L.Rl L.hs h
theorem Vf.Oe (L:Vf n es H F p a inn b f A B) {v:Nat} (h:v∈inn):off (eN n es) H v:=L.W.off v h
theorem Vf.other (L:Vf n es H F p a inn b f A B) (Q:EJ n es H F q) (hd:∀e∈p.zp,e∉q.zp):EJ n es (XZ H a inn b) (kY F f (nr a inn b)) (GF (kY F f (nr a inn b)) f F.length q):=by
 have hR:=L.hR;have d:=L.Rl;have g:∀{v w},GW v w∈q.zp->QI (eN n es) H v w≠QI (eN n es) H a ((inn++[b]).headD 0):=fun{v w} h e=>
  hd _ ((L.P.one _ _ v w (L.P.XB hR L.fst) (Q.XB hR h) L.fst).2 e) h
 have G:∀{v w},GW v w∈q.zp->¬Ay a inn b v w:=by grind [Vf.keyK]
 have o:∀{v w},GW v w∈q.zp->¬XZ H a inn b v w:=by grind [EJ.un]
 have down:∀{v w},Un (eN n es) (XZ H a inn b) v w->Un (eN n es) H v w:=fun h=>⟨h.1,fun e=>h.2 (.inl e)⟩;have j:∀{v},off (eN n es) (XZ H a inn b) v↔off (eN n es) H v/\v∉inn:=fun{v}=>yw L.W d;have z:(GF (kY F f (nr a inn b)) f F.length q).zp=q.zp:=by grind [GF]
 have r:(GF (kY F f (nr a inn b)) f F.length q).Fm=q.Fm:=by grind [GF]
 have s:∀x∈q.Fm,x.toNat∉inn:=fun x l C=>by
  obtain⟨t,rfl⟩:=WA (Q.nat x l)
  grind [Int.toNat_natCast,EJ.Fm,Vf.Oe]
 have D:∀i,(i<F.length+1/\∀x∈q.Fm,x.toNat∈(kY F f (nr a inn b)).getD i [])->i∈q.fits\/(f∈q.fits/\i=F.length):=by grind [EJ.fits,Vf.hf,Vf.new_face,Vf.LY]
 have I:∀i,i∈q.fits->i<F.length:=by grind [EJ.fits]
 refine⟨by grind [EJ.ne],by grind [EJ.sub],pw,fun v w x y m l h=>?_,fun u=>?_,by rw[r];exact Q.nat,by grind [EJ.fnd],fun i=>?_,?_⟩
 .rw [z] at h ⊢
  rw[Q.one v w x y (down m) (down l) h];rw[Uu d l.1 m.1,Uu d l.1 m.1];constructor
  .intro k
   exact(((k.symm d).keep L.W d L.hs m.1 (g h))).symm d
  grind [jJ.mono]
 .rw [r, z, Q.Fm u]
  constructor
  .rintro ⟨E, w, h2, h3⟩
   exact⟨pw,w,⟨h2.1,o h3⟩,h3⟩
  .rintro ⟨E, w, h2, h3⟩
   refine⟨fun k=>E (j.2 ⟨k,fun C=>?_⟩),w,down h2,h3⟩;exact g h3 (by rw[L.W.QC d L.hs C,IV d h2.1 (.inl rfl) k])
 .rw [r, Yz]
  by_cases c:f∈q.fits
  .grind [GF,WV]
  .have e : (GF (kY F f (nr a inn b)) f F.length q).fits = q.fits := by grind [GF]
   grind [EJ.fits,Vf.LY]
 .unfold GF
  split
  .refine agT eR ?_
   grind [EJ.tnd]
  .exact Q.tnd
end
end Go.Fw
namespace Go.Fw
open Go.Proofs
attribute [local instance] Classical.propDecidable
theorem Ou (n:Nat) (way:II):∀i,(KI n way i).length=n
 |0=>by simp[KI]
 |i+1=>by rw[KI,adP,Ou n way i]
theorem Lc {n:Nat} {way:II} (nd:way.Nodup) {v:Nat} (d:v<n):∀i,i<=way.length->
  (∃k:Nat,k<i/\way[k]?=some v/\(KI n way i).getD v 0=(k:Int))\/((∀k,k<i->way[k]?≠some v)/\(KI n way i).getD v 0=-1)
 |0,_=>by grind [KI.eq_1]
 |i+1,hi=>by
  have e:=Lc nd d i NH;have c:way.getD i 0=way[i]:=D4 NH;rw[KI,cA,Ou,c]
  grind
theorem Ph {n a b:Nat} {inn:II} (nd:(nr a inn b).Nodup) {v w:Nat} (s:v<n) (hw:w<n):aI (KI n (nr a inn b) (nr a inn b).length) (GW v w)=true↔¬Ay a inn b v w:=by
 have key:∀{x y:Nat},x<n->y<n->(aI (KI n (nr a inn b) (nr a inn b).length) ((x:Int),(y:Int))=true↔¬Ay a inn b x y):=fun{x y} d g=>by
  simp only[aI,HV,ac0,Lm,decide_eq_true_eq];generalize h:nr a inn b=l at*;unfold Ay;rw[h];rcases Lc nd d l.length (qL0 _)with⟨k,j,h2,h3⟩|⟨j,h2⟩
  .rcases Lc nd g l.length (qL0 _) with ⟨m, o, c, t⟩ | ⟨o, c⟩
   .constructor
    .intro q r
     rcases r with⟨i,r1,r2⟩|⟨i,r1,r2⟩
     all_goals grind [X6]
    .intro q
     refine .inr ⟨fun e=>q (.inr ⟨m,c,?_⟩),fun e=>q (.inl ⟨k,h2,?_⟩)⟩
     all_goals grind
   .refine ⟨fun _ r => ?_, pw⟩
    rcases r with⟨i,_,r2⟩|⟨i,r1,_⟩
    all_goals grind
  .refine ⟨fun _ r => ?_, pw⟩
   rcases r with⟨i,r1,_⟩|⟨i,_,r2⟩
   all_goals grind
 grind [Ef,bj]
theorem ddS_mem {l:RZ} {x y:Int}:y∈Uo l x↔y∈l\/y=x:=by grind [Uo]
theorem ddS_nd {l:RZ} {x:Int} (h:l.Nodup):(Uo l x).Nodup:=by grind [Uo]
theorem KC:∀(l acc:RZ),acc.Nodup->(l.foldl Uo acc).Nodup/\∀y,y∈l.foldl Uo acc↔y∈acc\/y∈l
 |[],acc,h=>by grind
 |x::l,acc,h=>by
  obtain⟨c,h2⟩:=KC l (Uo acc x) (ddS_nd h)
  grind [ddS_mem]
theorem VW (l:RZ):(kZ l).Nodup/\∀y,y∈kZ l↔y∈l:=by grind [KC,kZ]
theorem zS {on:Nat->Bool} {g:List Pr} {x:Int}:x∈BY on g↔on x.toNat=true/\∃e∈g,x=e.1\/x=e.2:=by grind [BY,ftP]
section
variable {n : Nat} {es : List Pr} {H : Nat → Nat → Prop} {F : List (List Nat)} {p q : wW} {a b f : Nat} {inn A B : List Nat} {on : List Bool}
def Vf.left (L:Vf n es H F p a inn b f A B) {v w:Nat}:GW v w∈V8 n p.zp (nr a inn b)↔GW v w∈p.zp/\¬Ay a inn b v w:=by
 unfold V8;rw[aax];constructor
 .rintro ⟨c, h2⟩
  have d:=L.P.XB L.hR c;obtain⟨l1,l2⟩:=((vD L.hR).1 d.1).lt L.hR;exact⟨c,(Ph L.W.nd l1 l2).1 h2⟩
 .rintro ⟨c, h2⟩
  have d:=L.P.XB L.hR c;obtain⟨l1,l2⟩:=((vD L.hR).1 d.1).lt L.hR;exact⟨c,(Ph L.W.nd l1 l2).2 h2⟩
theorem Vf.uq (L:Vf n es H F p a inn b f A B) {v w:Nat} (h:GW v w∈V8 n p.zp (nr a inn b)):Un (eN n es) (XZ H a inn b) v w:=by
 obtain⟨d,h2⟩:=L.left.1 h;have c:=L.P.XB L.hR d;exact⟨c.1,fun q=>q.elim c.2 h2⟩
theorem Vf.left_of (L:Vf n es H F p a inn b f A B) {v w x y:Nat} (c:Un (eN n es) (XZ H a inn b) x y) (h:GW v w∈V8 n p.zp (nr a inn b)) (j:QI (eN n es) (XZ H a inn b) x y=QI (eN n es) (XZ H a inn b) v w):
  GW x y∈V8 n p.zp (nr a inn b):=by
 have d:=L.Rl;have g:=L.uq h;have i:=(L.left.1 h).1;have k:=(Uu d c.1 g.1).1 j;have k2:=(Uu d c.1 g.1).2 (k.mono fun _ _=>OH);exact L.left.2 ⟨(L.P.one v w x y (L.P.XB L.hR i) ⟨c.1,fun e=>c.2 (.inl e)⟩ i).2 k2,fun e=>c.2 (.inr e)⟩
theorem Vf.on' (L:Vf n es H F p a inn b f A B) (i:on.length=n) (c:∀v,v<n->(Wg on v=true↔¬off (eN n es) H v)):∀v,v<n->(Wg (tV on (nr a inn b)) v=true↔¬off (eN n es) (XZ H a inn b) v):=fun v g=>by
 rw[mQ _ _ pw,c v g,yw L.W L.Rl];constructor
 .rintro (h | h) ⟨k1, k2⟩
  .exact h k1
  .rw [nr, EL, qL7, jf] at h
   rcases h with rfl|h|rfl
   .obtain⟨z,d,e⟩:=L.W.JX;exact k1 z d e
   .exact k2 h
   .obtain⟨z,d,e⟩:=L.W.sN;exact k1 z d e
 grind [nr.eq_1]
theorem Vf.groups (L:Vf n es H F p a inn b f A B):ag9 (V8 n p.zp (nr a inn b)) (fun e=>e∉([]:List Pr)) (FW (Wg (tV on (nr a inn b))) (V8 n p.zp (nr a inn b)))
  ((grpsM (Zo n (Wg (tV on (nr a inn b))) (MF n (Wg (tV on (nr a inn b))) (V8 n p.zp (nr a inn b)))) (V8 n p.zp (nr a inn b)) [] (V8 n p.zp (nr a inn b)).length).map (·.2)):=by
 have sl:(V8 n p.zp (nr a inn b)).Sublist es:=qL171 eR L.P.sub;have nd:(V8 n p.zp (nr a inn b)).Nodup:=L.hA.nodup.sublist sl;have c:aV n (V8 n p.zp (nr a inn b)):=fun e d=>L.hR e (sl.subset d);exact Yn (n:=n) nd (by grind [K2,uY])
theorem Vf.fresh (L:Vf n es H F p a inn b f A B) (K:on.length=n) (N:∀v,v<n->(Wg on v=true↔¬off (eN n es) H v)) (ag:f∈p.fits) {q:wW} (hq:q∈vX n (tV on (nr a inn b)) (V8 n p.zp (nr a inn b))):
  EJ n es (XZ H a inn b) (kY F f (nr a inn b)) {q with fits:=zh (kY F f (nr a inn b)) q.Fm (p.fits++[F.length])}/\q.zp.Sublist (V8 n p.zp (nr a inn b)):=by
 have hR:=L.hR;have o:=L.Rl;have D:=L.on' K N;have T:=L.groups (on:=on);have sl:(V8 n p.zp (nr a inn b)).Sublist es:=qL171 eR L.P.sub;obtain⟨gr,aj,rfl⟩:=Z6.1 hq;have hg:gr.2∈((grpsM (Zo n (Wg (tV on (nr a inn b))) (MF n (Wg (tV on (nr a inn b))) (V8 n p.zp (nr a inn b)))) (V8 n p.zp (nr a inn b)) [] (V8 n p.zp (nr a inn b)).length).map (·.2)):=by grind
 generalize gr.2=g at hg;have one:∀{v w x y:Nat},Un (eN n es) (XZ H a inn b) x y->GW v w∈g->(GW x y∈g↔QI (eN n es) (XZ H a inn b) x y=QI (eN n es) (XZ H a inn b) v w):=fun{v w x y} m s=>
  Nj hR L.hA L.hs' (fun e C=>sl.subset C) D T (by grind [Vf.uq]) (by grind [Vf.left_of]) hg m s
 have j:=T.sub g hg;have un:∀{v w},GW v w∈g->Un (eN n es) (XZ H a inn b) v w:=by grind [Vf.uq]
 obtain⟨fn,fm⟩:=VW (BY (Wg (tV on (nr a inn b))) g);have Fm:∀u:Nat,(u:Int)∈kZ (BY (Wg (tV on (nr a inn b))) g)↔¬off (eN n es) (XZ H a inn b) u/\∃w,Un (eN n es) (XZ H a inn b) u w/\GW u w∈g:=fun u=>by
  rw[fm,zS,HV];constructor
  .rintro ⟨ho, e, C, m⟩
   obtain⟨c,d,rfl,O,hd⟩:=jB hR (sl.subset (j.subset C));have e1:((c:Int),(d:Int))=GW c d:=(Ix O).symm;rcases m with m|m
   .have hu : u = c := NH
    grind
   grind [so]
  .rintro ⟨M, w, h2, h3⟩
   have hu:=(((vD hR).1 h2.1).lt hR).1
   grind [Sl]
 have ae:∀{v},off (eN n es) (XZ H a inn b) v↔off (eN n es) H v/\v∉inn:=fun{v}=>yw L.W o;have E:∃c∈inn,(c:Int)∈kZ (BY (Wg (tV on (nr a inn b))) g):=by
  obtain⟨e,l,C⟩:=xD (T.ne g hg);have s:e∈g:=by rw[C];simp
  obtain⟨v,w,rfl,Q,hd⟩:=jB hR (sl.subset (j.subset s));rw[show(((v:Int),(w:Int)):Pr)=GW v w from(Ix Q).symm]at s;have R:=un s;have K:=L.left.1 (j.subset s);have hU:=L.P.XB hR K.1;have k:=L.P.key hR L.fst K.1;cases hi:inn with
  |nil=>
   subst hi;have e0:((([]:II)++[b]).headD 0)=b:=rfl;rw[e0]at k;obtain⟨z,z1,z2⟩:=L.W.JX;obtain⟨z',S,U⟩:=L.W.sN;rw[rj (fun q=>q z z1 z2) (fun q=>q z' S U)]at k;have al:Ay a [] b a b:=.inl ⟨0,rfl,rfl⟩;by_cases c1:off (eN n es) H v
   .grind [M6]
   by_cases c2:off (eN n es) H w
   .grind [Jn]
   rw[rj c1 c2]at k
   all_goals grind [Ef]
  |cons c t=>
   rw[<-hi];have V:c∈inn:=by rw[hi];simp
   rw[L.W.QC o L.hs V]at k;have ht:∃t,(t=v\/t=w)/\off (eN n es) H t:=by grind [rj]
   obtain⟨t,G,ot⟩:=ht;rw[IV o hU.1 G ot]at k;injection k with _ k;injection k with k _;have X:=(fX o).1 k;by_cases ct:t∈inn
   .all_goals grind [so]
   .have J : off (eN n es) (XZ H a inn b) t := pw
    rcases tq (H:=XZ H a inn b) o (r:=Mm (eN n es) H) (fun v w h=>(EM.1 h).1) X J with h|⟨y,z,M,h2,h3,h4⟩
    .grind
    .obtain ⟨m1, m2, m3⟩ := EM.1 h4
     have Y:Un (eN n es) (XZ H a inn b) y z:=⟨m1,h2 z m1⟩;have aq:GW y z∈g:=(one Y s).2 (by rw[M6 h2,IV o R.1 G J,(fX o).2 M])
     grind [so]
 have ar:∀i,i∈p.fits->i<F.length:=fun i h=>((L.P.fits i).1 h).1;refine⟨⟨T.ne g hg,j.trans sl,fun v w h=>(un h).2,pw,Fm,fun x m=>?_,fn,fun i=>?_,?_⟩,j⟩
 .have := ((zS.1 ((fm x).1 m)).2)
  obtain⟨e,C,h⟩:=this;obtain⟨M,h2,_⟩:=hR e (sl.subset (j.subset C))
  grind
 .rw [WV, Yz, qL7, jf]
  constructor
  .grind
  .rintro ⟨M, h2⟩
   refine⟨?_,h2⟩;by_cases c1:i=f
   .grind
   by_cases c2:i=F.length
   .exact .inr c2
   exfalso;obtain⟨c,V,Z⟩:=E;have:=h2 _ Z;rw[HV,L.LY c1 c2]at this;have aa:F.getD i []∈F:=by rw[D4 NH];grind
   exact L.I.on_face aa this (L.Oe V)
 .refine agT eR ?_
  rw[AE];refine⟨L.P.tnd,Ma,fun x m y hy e=>?_⟩
  grind
end
end Go.Fw
namespace Go.Fw
open Go.Proofs
attribute [local instance] Classical.propDecidable
theorem vd {l:II} (h:l.length=1) {x y:Nat} (b:x∈l) (c:y∈l):x=y:=by
 match l,h with
 |[a],_=>grind
noncomputable def OW (es:List Pr) (H:Nat->Nat->Prop):Nat:=(es.filter fun e=>decide (¬H e.1.toNat e.2.toNat)).length
structure Z8 (n:Nat) (es:List Pr) (H:Nat->Nat->Prop) (S:kR):Prop where
 inv:PU n (eN n es) H S.Jv
 ZA:S.on.length=n
 on:∀v,v<n->(Wg S.on v=true↔¬off (eN n es) H v)
 Aa:∀p∈S.left,EJ n es H S.Jv p
 cov:∀v w,Un (eN n es) H v w->∃p∈S.left,GW v w∈p.zp
 TE:S.left.Pairwise fun p q=>∀e∈p.zp,e∉q.zp
 OT:S.Jv.length+OW es H<=es.length+2
theorem EY (left:List wW):∀k,(0<k->bestK left k<k)/\∀j,j<k->LF left (bestK left k)<=LF left j
 |0=>by grind
 |k+1=>by
  obtain⟨a,h2⟩:=EY left k
  grind [bestK.eq_1,bestK.eq_2]
theorem unN_lt {es:List Pr} {H a:Nat->Nat->Prop} (c:∀v w,H v w->a v w) {e:Pr} (b:e∈es) (d:¬H e.1.toNat e.2.toNat) (h2:a e.1.toNat e.2.toNat):OW es a<OW es H:=by
 unfold OW
 induction es with
 |nil=>cases b
 |cons x es f=>
  have le:∀l:List Pr,(l.filter fun e=>decide (¬a e.1.toNat e.2.toNat)).length<=(l.filter fun e=>decide (¬H e.1.toNat e.2.toNat)).length:=fun l=>by
   induction l<;>grind
  grind
section
variable {n : Nat} {es : List Pr} {H : Nat → Nat → Prop} {S : kR}
theorem Z8.way (I:Z8 n es H S) (hR:aV n es) (hA:D3 es) (D:QG (eN n es)) {p:wW} (O:p∈S.left):
  ∃a inn b,J6 n (Zh n es) S.on p=nr a inn b/\Ka (eN n es) H a inn b/\GW a ((inn++[b]).headD 0)∈p.zp:=by
 have r:=MG hR hA;have P:=I.Aa p O;have hs:=I.inv.sym;obtain⟨⟨T,s⟩,tw⟩:=P.two hR hA hs D I.inv.Re;have w:2<=p.Fm.length:=by
  obtain⟨z,Q,A⟩:=tw T s
  match O:p.Fm with
  |[]=>grind
  |[x]=>
   grind
  |x::y::l=>simp
 have B:∃a:Nat,p.Fm.headD 0=(a:Int)/\(a:Int)∈p.Fm:=by
  obtain⟨x,l,e⟩:=xD (show p.Fm≠[]from fun e=>by grind);obtain⟨a,ha⟩:=WA (P.nat x (by rw[e];simp))
  grind
 obtain⟨a,ea,h⟩:=B;obtain⟨sa,d,j⟩:=P.wm hR h;have C:a<n:=r.lt _ _ d.mem;have c:∀v,v<n->Wg S.on v=false->off (eN n es) H v:=by grind [Z8.on]
 rcases way_spec (on:=S.on) hR (p:=p) w pw C (fun e U=>P.sub.subset U)with⟨inn,b,V,nd,hb,W,R,k,ch⟩|⟨_,M,E,F⟩
 .refine ⟨a, inn, b, V, ⟨nd, fun i x y g h2 => ?_, fun x q => ?_, Q7 d.on, Q7 ((I.on b hb).1 W)⟩, k⟩
  .have m := ch i x y g h2
   refine⟨by grind [vD],?_⟩;cases i with
   |zero=>
    grind [yT,EJ.un]
   |succ i=>
    have X:=(Ny.1 h2).1;rw[Eo]at X;have e:nr a inn b=a::(inn++[b]):=rfl;rw[e,FD,Eh NH]at g;have q:x∈inn:=Gc g;exact c x (m.lt hR).1 (R x q) y (by grind [vD])
  .obtain ⟨i, y, g, h2⟩ := qm (a := a) (b := b) (inn := inn) (v := x) (.inr q)
   exact c x (((ch i _ _ g h2).lt hR).2) (R x q)
 .exfalso
  have has:sa≠a:=by grind [V7.ir,QP.mem]
  have o:=E sa j has;have G:sa<n:=(((vD hR).1 d.mem).lt hR).2;have J:=c sa G (F sa o).2.1;obtain⟨z,Q,A⟩:=tw a h;obtain⟨y,K,L⟩:=P.wm hR Q;have f:=P.key hR j L;rw[Jn d.on J]at f;have N:off (eN n es) H y:=by grind [rj,QP.on]
  rw[Jn K.on N]at f;injection f with _ f;injection f with f _;have Y:=((fX r).1 f).symm (QM r);have clo:∀t,Cr (Mm (eN n es) H) sa t->t∈M:=fun t Z=>by
   induction Z with
   |refl=>exact o
   |@step t u g h2 ih=>
    obtain⟨m1,m2,m3⟩:=EM.1 h2
    grind [vD,QP.on]
  grind [vD,QP.mem,Jp.symm,QP.on,V7.lt]
theorem Z8.lay (I:Z8 n es H S) (hR:aV n es) (hA:D3 es) (D:QG (eN n es)) (ar:S.left≠[]):
  (AU n (Zh n es) S=none/\¬XU n (eN n es))\/∃S' H',AU n (Zh n es) S=some S'/\Z8 n es H' S'/\OW es H'<OW es H:=by
 have hr:=MG hR hA;have hs:=I.inv.sym;have hlen:0<S.left.length:=qL191.2 ar;obtain⟨av,a8⟩:=EY S.left S.left.length;have X:=av hlen;unfold AU;generalize bestK S.left S.left.length=m at*;have ay:S.left.getD m default=S.left[m]:=D4 X;have Y:S.left[m]∈S.left:=ZT X;have Z:S.left=S.left.take m++S.left[m]::S.left.drop (m+1):=by grind [List.drop_eq_getElem_cons,List.take_append_drop]
 have J:S.left.eraseIdx m=S.left.take m++S.left.drop (m+1):=qL146 _ _;have a7:∀q∈S.left,(S.left[m]).fits.length<=q.fits.length:=fun q t=>by
  obtain⟨j,hj,e⟩:=U9.1 t
  grind [LF]
 simp only[ay];generalize S.left[m]=p at*;have P:=I.Aa p Y;obtain⟨⟨u0,az⟩,_⟩:=P.two hR hA hs D I.inv.Re;by_cases c0:p.fits.length=0
 .rw [if_pos c0]
  refine .inl ⟨rfl,?_⟩;obtain⟨x,hF,C⟩:=P.wm hR az;refine I.inv.fail D hF fun f hf k=>?_;obtain⟨i,hi,e⟩:=U9.1 hf;have:=(P.fits i).2 ⟨hi,fun y hy=>by grind [EJ.VN]⟩
  grind
 rw[if_neg c0];obtain⟨a,inn,b,ew,W,o⟩:=I.way hR hA D Y;rw[ew];have aC:¬(nr a inn b).length<2:=by grind [Eo]
 simp only[aC,if_false];have M:p.fits.headD 0∈p.fits:=by grind [Lt]
 generalize p.fits.headD 0=f at*;obtain⟨aD,aa⟩:=(P.fits f).1 M;have N:S.Jv.getD f []∈S.Jv:=pw;obtain⟨sa,bb⟩:∃s,s=(inn++[b]).headD 0:=⟨_,rfl⟩;have F:=P.XB hR o;have F0:QP (eN n es) H a ((inn++[b]).headD 0):=⟨fun q=>by obtain⟨z,z1,z2⟩:=W.JX;exact q z z1 z2,F.1,F.2⟩;have ae:Fits (eN n es) H (QI (eN n es) H a ((inn++[b]).headD 0)) (S.Jv.getD f []):=by grind [EJ.VN]
 have ag:a∈S.Jv.getD f []:=by have:=aa _ (P.E8 F0 o);grind [Int.toNat_natCast]
 have aj:b∈S.Jv.getD f []:=by
  have V:=W.lst hr hs;have wb:Ay a inn b b ((inn.reverse++[a]).headD 0):=(W.Kk hr hs).2 rfl;have hk:=W.PW hr hs wb;have C:=(P.one _ _ b _ F ⟨V.1,V.2⟩ o).2 hk;have:=aa _ ((P.Fm b).2 ⟨fun q=>by obtain⟨z,z1,z2⟩:=W.sN;exact q z z1 z2,_,⟨V.1,V.2⟩,C⟩)
  grind [Int.toNat_natCast]
 obtain⟨A,B,cy⟩:=cyc_two ag aj W.ab;have L:Vf n es H S.Jv p a inn b f A B:=⟨hR,hA,hs,I.inv,P,W,o,aD,cy⟩;have O:(∀h∈S.Jv,Fits (eN n es) H (QI (eN n es) H a ((inn++[b]).headD 0)) h->h=S.Jv.getD f [])\/
   ∀u x,QP (eN n es) H u x->∃E∈S.Jv,∃h2∈S.Jv,E≠h2/\Fits (eN n es) H (QI (eN n es) H u x) E/\Fits (eN n es) H (QI (eN n es) H u x) h2:=by
  by_cases c1:p.fits.length=1
  .refine .inl fun h hh k => ?_
   obtain⟨i,hi,e⟩:=U9.1 hh;have C:=(P.fits i).2 (by grind [EJ.VN])
   grind [vd]
  .refine .inr fun u x hF => ?_
   obtain⟨q,t,C⟩:=I.cov u x ⟨hF.mem,hF.nh⟩;have Q:=I.Aa q t;have h2:2<=q.fits.length:=pw
   match bg:q.fits with
   |[]=>grind
   |[_]=>grind
   |i::j::l=>
    have hi:=(Q.fits i).1 pw;have hj:=(Q.fits j).1 pw;have aF:i≠j:=by grind [EJ.tnd]
    refine⟨S.Jv.getD i [],by grind [List.getElem_mem],S.Jv.getD j [],by grind [List.getElem_mem],fun e=>aF ?_,(Q.VN hR C).2 hi.2,(Q.VN hR C).2 hj.2⟩;rw[D4 hi.1,D4 hj.1]at e;exact(qL207 I.inv.nodup).1 e
 have I1:=I.inv.step D hr N F0 ae O W rfl cy;have hh:=L.Gf;have aH:S.Jv.set f (Ee (S.Jv.getD f []) (nr a inn b))++[kP (S.Jv.getD f []) (nr a inn b)]=kY S.Jv f (nr a inn b):=rfl;have R:(half a A b inn::half b B a inn.reverse::S.Jv.erase (S.Jv.getD f [])).Perm (kY S.Jv f (nr a inn b)):=by
  unfold kY;rw[hh.1,hh.2];refine List.Perm.trans ?_ (afM (l₁:=[half b B a inn.reverse]));refine(List.Perm.swap _ _ _).trans (List.Perm.cons _ ?_);exact(set_perm pw I.inv.nodup).symm
 have I2:=I1.perm R;rw[aH];have K:=I.TE;rw[Z,fE,gK]at K;obtain⟨d1,⟨d2,d3⟩,d4⟩:=K;have al:∀q∈S.left.eraseIdx m,q∈S.left/\∀e∈p.zp,e∉q.zp:=fun q t=>by
  rw[J]at t;rcases qL7.1 t with h|h
  .grind
  grind
 have T:=L.groups (on:=S.on);have aJ:OW es (XZ H a inn b)<OW es H:=by
  have C:=P.sub.subset o;obtain⟨c,d,e,aq,hd⟩:=jB hR C;have wf:Ay a inn b a ((inn++[b]).headD 0):=W.Fp.2 rfl;refine unN_lt pw C ?_ ?_
  .rw [e]; simp only [HV]
   rw[<-Ix aq]at e;rcases Dc e with⟨E,h2⟩|⟨E,h2⟩
   .rw[<-E,<-h2];exact F.2
   .rw[<-E,<-h2];exact fun q=>F.2 (hs _ _ q)
  .rw [e]; simp only [HV]
   rw[<-Ix aq]at e;rcases Dc e with⟨E,h2⟩|⟨E,h2⟩
   all_goals grind [Ef]
 refine .inr ⟨_,XZ H a inn b,rfl,⟨I2,by grind [Pe,Z8.ZA],L.on' I.ZA I.on,fun q t=>?_,fun v w hU=>?_,?_,?_⟩,aJ⟩
 .simp only at t ⊢
  rcases qL7.1 t with h|h
  .obtain ⟨q0, G, rfl⟩ := Z6.1 h
   obtain⟨E,h2⟩:=al q0 G;exact L.other (I.Aa q0 E) h2
  .obtain ⟨q0, G, rfl⟩ := Z6.1 h
   exact(L.fresh I.ZA I.on M G).1
 .have aK : Un (eN n es) H v w := ⟨hU.1, fun q => hU.2 (.inl q)⟩
  obtain⟨q,t,C⟩:=I.cov v w aK;rw[Z]at t;have U:q=p\/q∈S.left.eraseIdx m:=pw;rcases U with rfl|h
  .have V := L.left.2 ⟨C, fun e => hU.2 (.inr e)⟩
   obtain⟨g,hg,aP⟩:=T.cov _ V Ma;obtain⟨gr,aT,rfl⟩:=Z6.1 hg;refine⟨_,BR _ (Z6.2 ⟨_,Z6.2 ⟨gr,aT,rfl⟩,rfl⟩),aP⟩
  .refine ⟨_, AQ _ (Z6.2 ⟨q, h, rfl⟩), ?_⟩
   unfold GF;split<;>exact C
 .simp only
  have r:∀q,(GF (kY S.Jv f (nr a inn b)) f S.Jv.length q).zp=q.zp:=fun q=>by unfold GF;split<;>rfl
  rw[fE];refine⟨?_,?_,fun q t q' aW e he aX=>?_⟩
  .rw [wI, J, fE]
   refine⟨d1.imp fun{x y} h=>by rw[r,r];exact h,d3.imp fun{x y} h=>by rw[r,r];exact h,fun x hx y hy=>?_⟩;rw[r,r];exact d4 x hx y (by simp[hy])
  .rw [wI]
   unfold vX;have:=T.TE
   grind
  .obtain ⟨q0, G, rfl⟩ := Z6.1 t
   obtain⟨q1,a6,rfl⟩:=Z6.1 aW;rw[r]at he;have E:=(L.fresh I.ZA I.on M a6).2.subset aX;have h2:e∈p.zp:=(eR (l:=p.zp)).subset E
   grind
 .simp only
  rw[Yz];have:=I.OT;omega
theorem Z8.done (I:Z8 n es H S) (h:S.left=[]):∃r,vy n r S.Jv/\Flat n r/\∀x y,y∈r x↔y∈eN n es x:=
 I.inv.done fun x y a=>qy fun q=>by
  obtain⟨p,b,_⟩:=I.cov x y ⟨a,q⟩
  grind
end
end Go.Fw
