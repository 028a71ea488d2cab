/- A text. -/
import Derived.Test.YtkccdnmaaelbiaaGreatFwLB1
import Derived.Test.YtkccdnmaaelbiaaGreatFwRow
import Derived.Test.YtkccdnmaaelbiaaGreatFwEmb11
set_option linter.all false
set_option maxRecDepth 99999
set_option maxHeartbeats 9999999
namespace Go.Proofs
open Go.Shelf
def Tryz.lays189_ren:Go.Shelf.Ren:=⟨fun | 189=>115 | 125=>120 | 257=>152 | 128=>162 | 129=>163 | 294=>173 | 295=>174 | 296=>175 | 297=>176 | 298=>177 | 299=>178 | 216=>164 | 300=>179 | 301=>180 | 328=>186 | 329=>182 | 330=>183 | 331=>187 | 332=>188 | 215=>131 | 343=>190 | n=>n,fun | 28=>49 | 3=>3 | 46=>146 | 0=>0 | 51=>184 | 53=>186 | 4=>4 | 183=>178 | 182=>177 | 131=>89 | 5=>5 | 9=>9 | 218=>198 | 222=>202 | 228=>206 | 229=>207 | n=>n,fun | n=>n⟩
theorem Tryz.lays189:Go.Proofs.Lays.n189 Tryz.prog Tryz.lays189_ren:={
 mixed:=by kernel_rfl
 f125:=Tryz.func120.trans (congrArg some (by kernel_rfl))
 f128:=Tryz.func162.trans (congrArg some (by kernel_rfl))
 f129:=Tryz.func163.trans (congrArg some (by kernel_rfl))
 f189:=Tryz.func115.trans (congrArg some (by kernel_rfl))
 f215:=Tryz.func131.trans (congrArg some (by kernel_rfl))
 f216:=Tryz.func164.trans (congrArg some (by kernel_rfl))
 f257:=Tryz.func152.trans (congrArg some (by kernel_rfl))
 f294:=Tryz.func173.trans (congrArg some (by kernel_rfl))
 f295:=Tryz.func174.trans (congrArg some (by kernel_rfl))
 f296:=Tryz.func175.trans (congrArg some (by kernel_rfl))
 f297:=Tryz.func176.trans (congrArg some (by kernel_rfl))
 f298:=Tryz.func177.trans (congrArg some (by kernel_rfl))
 f299:=Tryz.func178.trans (congrArg some (by kernel_rfl))
 f300:=Tryz.func179.trans (congrArg some (by kernel_rfl))
 f301:=Tryz.func180.trans (congrArg some (by kernel_rfl))
 f328:=Tryz.func186.trans (congrArg some (by kernel_rfl))
 f329:=Tryz.func182.trans (congrArg some (by kernel_rfl))
 f330:=Tryz.func183.trans (congrArg some (by kernel_rfl))
 f331:=Tryz.func187.trans (congrArg some (by kernel_rfl))
 f332:=Tryz.func188.trans (congrArg some (by kernel_rfl))
 f343:=Tryz.func190.trans (congrArg some (by kernel_rfl))
 t0:=Tryz.underlying0
 a0:=Tryz.isAgg0
 z0:=Tryz.sizeOf0
 v0:=Tryz.zeroValue0
 t3:=Tryz.underlying3
 a3:=Tryz.isAgg3
 z3:=Tryz.sizeOf3
 v3:=Tryz.zeroValue3
 t4:=Tryz.underlying4
 a4:=Tryz.isAgg4
 z4:=Tryz.sizeOf4
 v4:=Tryz.zeroValue4
 t5:=Tryz.underlying5
 a5:=Tryz.isAgg5
 z5:=Tryz.sizeOf5
 v5:=Tryz.zeroValue5
 t9:=Tryz.underlying9
 a9:=Tryz.isAgg9
 z9:=Tryz.sizeOf9
 v9:=Tryz.zeroValue9
 t28:=Tryz.underlying49
 a28:=Tryz.isAgg49
 z28:=Tryz.sizeOf49
 v28:=Tryz.zeroValue49
 t46:=Tryz.underlying146
 a46:=Tryz.isAgg146
 z46:=Tryz.sizeOf146
 v46:=Tryz.zeroValue146
 t51:=Tryz.underlying184
 a51:=Tryz.isAgg184
 z51:=Tryz.sizeOf184
 v51:=Tryz.zeroValue184
 t53:=Tryz.underlying186
 a53:=Tryz.isAgg186
 z53:=Tryz.sizeOf186
 v53:=Tryz.zeroValue186
 t131:=Tryz.underlying89
 a131:=Tryz.isAgg89
 z131:=Tryz.sizeOf89
 v131:=Tryz.zeroValue89
 t182:=Tryz.underlying177
 a182:=Tryz.isAgg177
 z182:=Tryz.sizeOf177
 v182:=Tryz.zeroValue177
 t183:=Tryz.underlying178
 a183:=Tryz.isAgg178
 z183:=Tryz.sizeOf178
 v183:=Tryz.zeroValue178
 t218:=Tryz.underlying198
 a218:=Tryz.isAgg198
 z218:=Tryz.sizeOf198
 v218:=Tryz.zeroValue198
 t222:=Tryz.underlying202
 a222:=Tryz.isAgg202
 z222:=Tryz.sizeOf202
 v222:=Tryz.zeroValue202
 t228:=Tryz.underlying206
 a228:=Tryz.isAgg206
 z228:=Tryz.sizeOf206
 v228:=Tryz.zeroValue206
 t229:=Tryz.underlying207
 a229:=Tryz.isAgg207
 z229:=Tryz.sizeOf207
 v229:=Tryz.zeroValue207 }
def Tryz.laysNm220_ren:Go.Shelf.Ren:=⟨fun | 20=>122 | n=>n,fun | 22=>49 | 3=>3 | 4=>4 | 0=>0 | n=>n,fun | n=>n⟩
theorem Tryz.laysNm220:Go.Proofs.Lays2.n20 Tryz.prog Tryz.laysNm220_ren:={
 mixed:=by kernel_rfl
 f20:=Tryz.func122.trans (congrArg some (by kernel_rfl))
 t0:=Tryz.underlying0
 a0:=Tryz.isAgg0
 z0:=Tryz.sizeOf0
 v0:=Tryz.zeroValue0
 t3:=Tryz.underlying3
 a3:=Tryz.isAgg3
 z3:=Tryz.sizeOf3
 v3:=Tryz.zeroValue3
 t4:=Tryz.underlying4
 a4:=Tryz.isAgg4
 z4:=Tryz.sizeOf4
 v4:=Tryz.zeroValue4
 t22:=Tryz.underlying49
 a22:=Tryz.isAgg49
 z22:=Tryz.sizeOf49
 v22:=Tryz.zeroValue49
 i3:=by kernel_rfl }
end Go.Proofs
namespace Go.Fw
open Go.Proofs
set_option maxHeartbeats 1000000
set_option maxRecDepth 10000
def wq (l:LF):LF:=l.mergeSort fun x y=>decide (x<=y)
def GI.cases {h:AHeap} {v:Value} {xs:LF} (g:GI h v xs) (k:xs.length<=100000):(∃a cap,v=.slice a 0 cap/\xs=[])\/∃id c cap,v=.slice (some ⟨id,0,none⟩) xs.length cap/\h.own id=some (.cells c)/\c.take xs.length=ue xs/\(cap=km+1\/cap=xs.length/\xs.length<1000000000000)/\0<xs.length/\xs.length<=cap/\xs.length<=c.length:=by
 obtain⟨f,⟨rfl,b⟩|⟨id,c,cap,rfl,j,d,i⟩⟩:=g
 .exact .inl ⟨none,0,rfl,LB.1 b⟩
 .by_cases b : xs.length = 0
  .rw[b];exact .inl ⟨_,_,rfl,LB.1 b⟩
  .rw [uZ] at d f
   have e:xs.length<=c.length:=by have:=congrArg List.length d;rw[Ja,f]at this;omega
   refine .inr ⟨id,c,cap,rfl,j,d,i,QT,?_,e⟩;rcases i with rfl|⟨rfl,_⟩
   .have : (100000 : Nat) <= km := by decide
    omega
   .exact J4 _
def AC.J0 {P:Program} {o:Ac} {h:AHeap} {f:FuncId} {a:Option Addr} {cap:Nat} {out:Value} (d:out=.tuple #[]\/out=.slice a 0 cap)
  (p:∀(a':Option Addr) (cap':Nat) (w:World),Calls P f #[.slice a' 0 cap'] w fun e w'=>(∃v,e=.returned v/\(out=.tuple #[]/\v=.tuple #[]\/out≠.tuple #[]/\v=.slice a' 0 cap'))/\w'=w):
  AC P o f [.slice a 0 cap] h fun x h'=>x=out/\h'=h:=by
 intro ex m w b R n;obtain⟨q,g,j⟩:=n.get (i:=0) rfl;have c:b=[q]:=by
  have k:=n.1
  match b,k with
  |[x],_=>simp at g;rw[g]
 obtain⟨a',cap',rfl⟩:=rO j;rw[c];refine(p a' cap' w).mono ?_;rintro e w' ⟨⟨v,rfl,r⟩,rfl⟩;refine⟨out,v,m,_,rfl,R,Yk.refl _ _,J4 _,?_,rfl,rfl⟩;rcases r with⟨l,rfl⟩|⟨l,rfl⟩
 .rw[l];exact .tuple rfl (fun i v v' e=>by simp at e)
 .rcases d with h2 | h2
  .exact absurd h2 l
  .rw[h2];exact j
def Sl (l:LF):(wq l).length=l.length:=by simp[wq]
def ND (l:Ac) {h:AHeap} {v:Value} {xs:LF} (g:GI h v xs) (m:xs.length<=100000):AC Tryz.prog l 115 [v] h fun x h'=>x=.tuple #[]/\GI h' v (wq xs)/\∀f,Le f h->tQ f v->Le f h':=by
 rcases g.cases m with⟨a,cap,rfl,rfl⟩|⟨id,c,cap,rfl,n,o,p,r,b,d⟩
 .refine (AC.J0 (out := .tuple #[]) (.inl rfl) fun a' cap' w => (Any.slices_Sort_int_none Tryz.lays189 a' cap' w).mono ?_).mono ?_
  .rintro e w' ⟨rfl,rfl⟩;exact⟨⟨_,rfl,.inl ⟨rfl,rfl⟩⟩,rfl⟩
  .rintro x h' ⟨rfl,rfl⟩;exact⟨rfl,by simpa[wq]using g,fun f i _=>i⟩
 .refine (AC.ofRow (xs := xs) (ys := wq xs) (out := .tuple #[]) (k := 0) n o rfl (Sl xs) d b r (KW _) (.inl rfl) fun blk off cap' w s hb j => (Any.slices_Sort_int Tryz.lays189 blk off cap' xs w s hb QT).mono ?_).mono ?_
  .rintro e w' ⟨rfl,q,os,rfl⟩;exact⟨⟨_,rfl,.inl ⟨rfl,rfl⟩⟩,q,os,rfl⟩
  .rintro x h' ⟨rfl, rfl⟩
   refine⟨rfl,⟨by simp[oY,Sl],.inr ⟨id,_,cap,by rw[Sl],AHeap.zm _ _ _,?_,by rw[Sl];exact p⟩⟩,fun f i af=>i.put _ (af id rfl)⟩;rw[uZ,wO (by simp[yO]),xV (by simp[yO])];rfl
def Yx (xs:LF):(Lib.compact xs).length<=xs.length:=by
 have:=ET (Lib.keeps xs.toArray) (List.range xs.length);simpa[Lib.compact,Lib.compactUpTo]using this
def Tn (l:Ac) {h:AHeap} {v:Value} {xs:LF} (g:GI h v xs) (m:xs.length<=100000):AC Tryz.prog l 122 [v] h fun x h'=>RL IJ h' x (Lib.compact xs)/\blk x=blk v/\∀f,Le f h->tQ f v->Le f h':=by
 rcases g.cases m with⟨a,cap,rfl,rfl⟩|⟨id,c,cap,rfl,o,p,u,r,d,i⟩
 .refine (AC.J0 (out := .slice a 0 cap) (.inr rfl) fun a' cap' w => (Any.slices_Compact_int_empty Tryz.laysNm220 a' cap' w).mono ?_).mono ?_
  .rintro e w' ⟨rfl,rfl⟩;exact⟨⟨_,rfl,.inr ⟨YX,rfl⟩⟩,rfl⟩
  .rintro x h' ⟨rfl, rfl⟩
   refine⟨?_,rfl,fun f j _=>j⟩;have:Lib.compact ([]:LF)=[]:=rfl;rw[this];exact g.rl
 .have s := Yx xs
  refine(AC.ofRow (xs:=xs) (ys:=Lib.compact xs++List.replicate (xs.length-(Lib.compact xs).length) 0) (out:=.slice (some ⟨id,0,none⟩) (Lib.compact xs).length cap) (k:=(Lib.compact xs).length) o p rfl (by simp;omega) i d r s (.inr rfl)
   fun blk off cap' w t hb b=>(Any.slices_Compact_int Tryz.laysNm220 blk off cap' xs w t QT b).mono ?_).mono ?_
  .rintro e w' ⟨rfl,q,rfl⟩;exact⟨⟨_,rfl,.inr ⟨YX,rfl⟩⟩,q,#[],by rw[Sort.grow_empty]⟩
  .rintro x h' ⟨rfl, rfl⟩
   refine⟨RL.Kr ?_,rfl,fun f j af=>j.put _ (af id rfl)⟩;have:=RS.own (c:=cap) (n:=(Lib.compact xs).length) (AHeap.zm h id (.cells (ue (Lib.compact xs++List.replicate (xs.length-(Lib.compact xs).length) 0)++c.drop xs.length))) (off:=0) (by simp[yO];omega);have e:((ue (Lib.compact xs++List.replicate (xs.length-(Lib.compact xs).length) 0)++c.drop xs.length).drop 0).take (Lib.compact xs).length=(Lib.compact xs).map (Value.int .i64):=by
    rw[sQ,wO (by simp[yO])];simp only[ue,qy];rw[wO YX,xV YX]
   rw[e]at this;exact this
end Go.Fw
namespace Go.Fw
section
attribute [local irreducible] Ax YH XZ Uk KO KN KX KE VK DK Q7 dK W9
open Go.Proofs
def Yz (p:Pr) (q:Nat):Int:=if q=0 then p.1 else p.2
def ix42 (p:Pr) (q:Nat) (a:q<2):aIndexV Tryz.prog 38 (Ov p) (.int .i64 (q:Int))=some (.int .i64 (Yz p q)):=by
 have:q=0\/q=1:=QT;rcases this with rfl|rfl<;>simp[aIndexV,Ov,Yz,ts3]<;>rfl
def CO (on:Nat->Bool) (p:Pr):LF:=[p.1,p.2].filter fun x=>on x.toNat
def jz (on:Nat->Bool) (es:List Pr):LF:=es.flatMap (CO on)
def LW (on:Nat->Bool) (es:List Pr):LF:=Lib.compact (wq (jz on es))
def fc (on:Nat->Bool) (es:List Pr):(jz on es).length<=2*es.length:=by
 induction es with
 |nil=>simp[jz]
 |cons p es a=>
  have:(CO on p).length<=2:=ET _ [p.1,p.2];simp only[jz,Tx,Vw,jD]at a ⊢;omega
def G8 (on:Nat->Bool) (p:Pr) (q:Nat):LF:=([p.1,p.2].take q).filter fun x=>on x.toNat
def IS (on:Nat->Bool) (p:Pr) (q:Nat) (a:q<2):G8 on p (q+1)=G8 on p q++if on (Yz p q).toNat=true then[Yz p q]else[]:=by
 have:q=0\/q=1:=QT;rcases this with rfl|rfl
 .by_cases c:on p.1.toNat<;>simp[G8,Yz,c]
 .by_cases c:on p.1.toNat<;>by_cases c2:on p.2.toNat<;>simp[G8,Yz,c,c2]
def zq (J:Ac) (ev f:Value) (n:Nat) (es:List Pr) (bs:List Bool) (h:AHeap) (K:PR h ev es) (hb:RL Po h f bs) (hR:I7 n es) (ag:bs.length=n) (hn:es.length<=1000):
  AC Tryz.prog J 137 [ev,f] h fun x h'=>RL IJ h' x (LW (fun u=>bs.getD u false) es)/\Le h h'/\tQ h x:=by
 refine AC.vE ⟨Tryz.func137,rfl,xr⟩ Tryz.ntmps137 Tryz.results137 fun w=>?_;simp only[xq,Nat.reduceAdd];obtain⟨y,U,A,L,V⟩:=mV w []
 have C:aBuildSlice Tryz.prog h 49 0 []=some (.slice (some ⟨h.next,0,none⟩) 0 0,y):=by rw[<-U];rfl
 have ll:=fun g=>K.len g;simp only[Ud,Nat.reduceLT,↓reduceIte,reduceCtorEq,C,ll]
 have nB:h.own h.next=none:=(Le.refl h).next w (J4 _)
 generalize h.next=B at*
 let on:Nat->Bool:=fun u=>bs.getD u false;have W:GI y (.slice (some ⟨B,0,none⟩) 0 0) (jz on (es.take 0)):=GS.full V rfl xr;refine W9.intro (fun k fr hh=>∃(i:Nat) (a:Value),k=es.length-i/\i<=es.length/\fr=mkF [(1,f),(5,a),(11,ev),(12,.int .i64 es.length),(13,.int .i64 i)]/\GI hh a (jz on (es.take i))/\Le h hh/\tQ h a)
  es.length [(1,f),(5,.slice (some ⟨B,0,none⟩) 0 0),(11,ev),(12,.int .i64 es.length),(13,.int .i64 (0:Nat))] vy
  ⟨0,_,rfl,KW _,rfl,W,A,fun b hb=>by simp[blk]at hb;subst hb;exact nB⟩ ?_
 clear W V nB C L A U y B;rintro k fr hh s ⟨i,a,rfl,hi,rfl,g,l,ap⟩;refine yq ?_;refine DK.intro (fun X=>?_) (fun hf=>?_)
 rotate_left
 .have M : es.length <= i := Yv hf
  rw[xV M]at g;have hl:=fc on es;refine yq ?_;refine dK.intro pK ⟨qS31,rfl,xr⟩ (ND J g QT) ?_;rintro x h2 w2 ⟨rfl,g2,k2⟩;have N:=k2 h l ap;refine yq ?_;refine dK.intro pK ⟨Tryz.func122,rfl,xr⟩ (Tn J g2 (by rw[Sl];omega)) ?_;rintro x h3 w3 ⟨r3,bx,k3⟩;have j:=k3 h N ap;refine yq ?_;exact⟨r3,j,fun b hb=>ap b (by rw[<-bx];exact hb)⟩
 have m:i<es.length:=Ub X;clear X;have t:=XR m;have D:es.take (i+1)=es.take i++[es[i]]:=QM m;generalize es[i]=p at t D;obtain⟨p1,p2,p3⟩:=hR p (Jb t);have ad:=K.addr (k:=.i64) i m;have ld:=(K.le l).load t;obtain⟨ah,h3,Y,Z,j,O,o3⟩:=bS s p
 have nE:h.own hh.next=none:=l.none ((Le.refl hh).next s (J4 _))
 have P:∀b,blk a=some b->b≠hh.next:=fun b hb e=>by subst e;have:=GS.Rf g hb;exact this ((Le.refl hh).next s (J4 _))
 have Q:=g.le j;have o:=l.trans j;have LP:=E3 o3
 generalize hh.next=E at*
 simp only[Ud,Nat.reduceLT,↓reduceIte,Nat.reduceEqDiff,ad,ld,Y,Z,LP];have F:jz on (es.take i)=jz on (es.take i)++G8 on p 0:=by simp[G8]
 rw[F]at Q;refine W9.intro (fun k fr I=>∃(q:Nat) (a:Value),k=2-q/\q<=2/\fr=mkF [(1,f),(5,a),(11,ev),(12,.int .i64 es.length),(13,.int .i64 i),(17,Ov p),(18,.int .i64 q)]/\GI I a (jz on (es.take i)++G8 on p q)/\Le h I/\tQ h a)
  2 [(1,f),(5,a),(11,ev),(12,.int .i64 es.length),(13,.int .i64 i),(17,Ov p),(18,.int .i64 (0:Nat))] vy
  ⟨0,_,rfl,KW _,rfl,Q,o,ap⟩ ?_
 clear F Q P ap g a LP o nE o3 O j Y Z;rintro k fr I R ⟨q,a,rfl,aj,rfl,g,leq,ap⟩;have hlen:(jz on (es.take i)++G8 on p q).length<=100000:=by
  have y:=fc on (es.take i);have h2:(G8 on p q).length<=2:=Jh (ET _ _) (by rw[Ja];exact Nat.min_le_right _ _);rw[Vw];rw[Ja]at y;omega
 by_cases c:q<2
 rotate_left
 .have z : ((q : Int) < 2) = False := eq_false QT
  obtain rfl:q=2:=QT;have G:jz on (es.take i)++G8 on p 2=jz on (es.take (i+1)):=by rw[D];simp[jz,G8,CO]
  rw[G]at g;simp only[Ud,Nat.reduceLT,↓reduceIte,Nat.reduceEqDiff,z,Gm i QT];exact cX (es.length-(i+1)) [(1,f),(5,a),(11,ev),(12,.int .i64 es.length),(13,.int .i64 (i+1:Nat))] QT vy ⟨i+1,a,rfl,m,rfl,g,leq,ap⟩
 have z:((q:Int)<2)=True:=eq_true QT;have S:=ix42 p q c;have r:0<=Yz p q/\Yz p q<(n:Int):=by unfold Yz;split<;>omega
 have d:=IS on p q c;generalize Yz p q=x at S r d;obtain⟨v,rfl⟩:=RT r.1;have T:v<bs.length:=QT;have oa:aIndexAddr Tryz.prog 59 f (.int .i64 (v:Int))=some (.pointer (some (elemAddr f v))):=hb.U6 v T;have ol:aload Tryz.prog I 4 (elemAddr f v)=some (.bool (on v)):=by rw[(hb.le Rr.Po leq).Qh v T];simp only[on];rw[YR T]
 rw[TK]at d;cases c2:on v with
 |false=>
  rw[c2]at ol d;have G:jz on (es.take i)++G8 on p q=jz on (es.take i)++G8 on p (q+1):=by rw[d];simp
  rw[G]at g;simp only[Ud,Nat.reduceLT,↓reduceIte,Nat.reduceEqDiff,z,S,oa,ol,Gm q QT];exact cX (2-(q+1)) [(1,f),(5,a),(11,ev),(12,.int .i64 es.length),(13,.int .i64 i),(17,Ov p),(18,.int .i64 (q+1:Nat))] QT vy ⟨q+1,a,rfl,c,rfl,g,leq,ap⟩
 |true=>
  rw[c2]at ol d;obtain⟨H,h4,h5,e4,e5,g5,w5,l4,hf,-⟩:=g.push R (v:Int) hlen;obtain⟨l5,a5⟩:=hf h leq ap;have G:jz on (es.take i)++G8 on p q++[(v:Int)]=jz on (es.take i)++G8 on p (q+1):=by rw[d];simp
  rw[G]at g5;simp only[Ud,Nat.reduceLT,↓reduceIte,Nat.reduceEqDiff,z,S,oa,ol,e4,e5,Gm q QT];exact cX (2-(q+1)) [(1,f),(5,H),(11,ev),(12,.int .i64 es.length),(13,.int .i64 i),(17,Ov p),(18,.int .i64 (q+1:Nat))] QT vy ⟨q+1,H,rfl,c,rfl,g5,l5,a5⟩
def qL (n:Nat) (on:Nat->Bool) (L:LF) (p:Pr) (i:Nat):Int:=
 if on p.1.toNat=false then L.getD p.1.toNat 0 else if on p.2.toNat=false then L.getD p.2.toNat 0 else(n:Int)+i
def Nb (E:Ac) (ev m y:Value) (n:Nat) (es:List Pr) (bs:List Bool) (L:LF) (B O T:Nat) (i:Nat) (p:Pr) (h:AHeap) (A:PR h ev es) (hb:RL Po h m bs) (C:RL IJ h y L) (hR:I7 n es) (F:bs.length=n) (G:L.length=n)
  (l0:aload Tryz.prog h 3 ⟨B,0,none⟩=some (.int .i64 n)) (l1:aload Tryz.prog h 22 ⟨B,1,none⟩=some ev) (l2:aload Tryz.prog h 59 ⟨O,0,none⟩=some m) (l3:aload Tryz.prog h 49 ⟨T,0,none⟩=some y) (g:es[i]?=some p) (P:n<=100000) (H:es.length<=100000):
  AC Tryz.prog E 136 [.int .i64 (i:Int),.pointer (some ⟨B,0,none⟩),.pointer (some ⟨O,0,none⟩),.pointer (some ⟨T,0,none⟩)] h fun x h'=>x=.int .i64 (qL n (fun u=>bs.getD u false) L p i)/\h'=h:=by
 refine AC.vE ⟨Tryz.func136,rfl,xr⟩ Tryz.ntmps136 Tryz.results136 fun I=>?_;simp only[xq,Nat.reduceAdd];have r:=(bH.1 g).1;obtain⟨Q,R,S⟩:=hR p (Jb g);have J:=A.addr (k:=.i64) i r;have ld:=A.load g;simp only[Ud,Nat.reduceLT,↓reduceIte,Nat.reduceEqDiff,reduceCtorEq,vz,Co,Qs,l1,J,ld];let on:Nat->Bool:=fun u=>bs.getD u false;refine W9.intro (fun k fr s=>∃q:Nat,k=2-q/\q<=2/\s=h/\fr=mkF [(0,.int .i64 i),(1,.pointer (some ⟨B,0,none⟩)),(2,.pointer (some ⟨O,0,none⟩)),(3,.pointer (some ⟨T,0,none⟩)),(12,Ov p),(13,.int .i64 q)]/\∀j,j<q->on (Yz p j).toNat=true)
  2 [(0,.int .i64 i),(1,.pointer (some ⟨B,0,none⟩)),(2,.pointer (some ⟨O,0,none⟩)),(3,.pointer (some ⟨T,0,none⟩)),(12,Ov p),(13,.int .i64 (0:Nat))] vy
  ⟨0,rfl,KW _,rfl,rfl,QT⟩ ?_
 rintro k fr s-⟨q,rfl,K,rfl,rfl,b⟩;by_cases c:q<2
 rotate_left
 .have z : ((q : Int) < 2) = False := eq_false QT
  obtain rfl:q=2:=QT;have o:=b 0 QT;have c1:=b 1 QT;simp only[Yz,if_true,aak,if_false]at o c1;have hf:qL n on L p i=(n:Int)+i:=by simp[qL,o,c1]
  have wr:awrap .i64 ((n:Int)+(i:Int))=(n:Int)+i:=HY _ QT QT;simp only[Ud,Nat.reduceLT,↓reduceIte,Nat.reduceEqDiff,reduceCtorEq,z,Cq,Co,Qs,l0,wr];exact⟨by rw[hf],trivial⟩
 have z:((q:Int)<2)=True:=eq_true QT;have t:=ix42 p q c;have f:0<=Yz p q/\Yz p q<(n:Int):=by unfold Yz;split<;>omega
 have d:on (Yz p q).toNat=false->qL n on L p i=L.getD (Yz p q).toNat 0:=fun l=>by
  have:q=0\/q=1:=QT;rcases this with rfl|rfl
  .simp only[Yz,if_true]at l ⊢;simp[qL,l]
  .have o := b 0 QT
   simp only[Yz,if_true,aak,if_false]at l o ⊢;simp[qL,o,l]
 have a:on (Yz p q).toNat=true->∀j,j<q+1->on (Yz p j).toNat=true:=fun l j U=>by
  by_cases e:j=q
  .subst e;exact l
  .exact b j QT
 generalize Yz p q=x at t f d a;obtain⟨v,rfl⟩:=RT f.1;rw[TK]at d a;have w:v<bs.length:=QT;have D:aIndexAddr Tryz.prog 59 m (.int .i64 (v:Int))=some (.pointer (some (elemAddr m v))):=hb.U6 v w;have ol:aload Tryz.prog s 4 (elemAddr m v)=some (.bool (on v)):=by rw[hb.Qh v w];simp only[on];rw[YR w]
 have M:=C.qW v QT;have N:=C.HN v QT;cases c2:on v with
 |true=>
  rw[c2]at ol;simp only[Ud,Nat.reduceLT,↓reduceIte,Nat.reduceEqDiff,reduceCtorEq,z,t,l2,D,ol,Gm q QT];exact cX (2-(q+1)) [(0,.int .i64 i),(1,.pointer (some ⟨B,0,none⟩)),(2,.pointer (some ⟨O,0,none⟩)),(3,.pointer (some ⟨T,0,none⟩)),(12,Ov p),(13,.int .i64 (q+1:Nat))] QT vy ⟨q+1,rfl,c,rfl,rfl,a c2⟩
 |false=>
  rw[c2]at ol;have hf:=d c2;rw[YR QT]at hf;simp only[Ud,Nat.reduceLT,↓reduceIte,Nat.reduceEqDiff,reduceCtorEq,z,t,l2,D,ol,l3,M,N];exact⟨by rw[hf],trivial⟩
end
section
open Go.Proofs
variable {M:Nat} {b0 h h':AHeap} {us:List Value}
abbrev Gr:=Int×List Pr
def sK (gs:List Gr):LF:=gs.map (·.1)
def lstG:List Gr->Int->List Pr
 |[],_=>[]
 |(k,l)::r,f=>if k=f then l else lstG r f
def addG:List Gr->Int->Pr->List Gr
 |[],f,p=>[(f,[p])]
 |(k,l)::r,f,p=>if k=f then(k,l++[p])::r else(k,l)::addG r f p
def Hk (gs:List Gr) (us:List Value):List (Value×Value):=(gs.zip us).map fun x=>(.int .i64 x.1.1,x.2)
def LG (f:Int):∀(gs:List Gr) (us:List Value) (i:Nat),us.length=gs.length->
  (f∉sK gs/\mfind .i64 f (Hk gs us) i=some none/\lstG gs f=[]/\∀p,addG gs f p=gs++[(f,[p])])\/
  ∃(j:Nat) (l:List Pr) (u:Value),gs[j]?=some (f,l)/\us[j]?=some u/\mfind .i64 f (Hk gs us) i=some (some (i+j,u))/\lstG gs f=l/\∀p,addG gs f p=gs.set j (f,l++[p])
 |[],us,i,h=>.inl (by simp[sK,Hk,mfind,lstG,addG])
 |(k,l)::gs,[],i,h=>by simp at h
 |(k,l)::gs,u::us,i,h=>by
  have e:Hk ((k,l)::gs) (u::us)=(.int .i64 k,u)::Hk gs us:=rfl;by_cases c:f=k
  .subst c
   exact .inr ⟨0,l,u,rfl,rfl,by rw[e,mfind,if_pos rfl,if_pos rfl];rfl,by simp[lstG],fun p=>by simp[addG]⟩
  .have c' : ¬ k = f := fun h => c h.symm
   rcases LG f gs us (i+1) (by simpa using h)with⟨a,h2,h3,b⟩|⟨j,l',u',a,h2,h3,b,d⟩
   .exact .inl ⟨by simp[sK,c]at a ⊢;exact a,by rw[e,mfind,if_pos rfl,if_neg c,h2],by rw[lstG,if_neg c',h3],fun p=>by rw[addG,if_neg c',b];rfl⟩
   .exact .inr ⟨j+1,l',u',by simpa using a,by simpa using h2,by rw[e,mfind,if_pos rfl,if_neg c,h3];simp;omega,by rw[lstG,if_neg c',b],fun p=>by rw[addG,if_neg c',d];rfl⟩
def cC {f:Int} {l l':List Pr} {u':Value}:∀(gs:List Gr) (us:List Value) (j:Nat),us.length=gs.length->gs[j]?=some (f,l)->Hk (gs.set j (f,l')) (us.set j u')=(Hk gs us).set j (.int .i64 f,u')
 |[],us,j,h,e=>by simp at e
 |g::gs,[],j,h,e=>by simp at h
 |g::gs,u::us,0,h,e=>by simp at e;subst e;rfl
 |g::gs,u::us,j+1,h,e=>by
  have:=cC (l':=l') (u':=u') gs us j (by simpa using h) (by simpa using e);show(.int .i64 g.1,u)::Hk (gs.set j (f,l')) (us.set j u')=(.int .i64 g.1,u)::(Hk gs us).set j (.int .i64 f,u');rw[this]
def Nz {gs:List Gr} (a:us.length=gs.length) (g:Gr) (u:Value):Hk (gs++[g]) (us++[u])=Hk gs us++[(.int .i64 g.1,u)]:=by
 rw[Hk,List.zip_append a.symm];simp[Hk]
structure B9 (b0 h:AHeap) (M:Nat) (us:List Value) (gs:List Gr):Prop where
 oM:h.own M=some (.map (Hk gs us))
 len:us.length=gs.length
 gp:∀(j:Nat) u g,us[j]?=some u->gs[j]?=some g->GP h u g.2
 nM:∀(j:Nat) u,us[j]?=some u->blk u≠some M
 eX:∀(j k:Nat) u u' b,j≠k->us[j]?=some u->us[k]?=some u'->blk u=some b->blk u'≠some b
 ap:∀(j:Nat) u,us[j]?=some u->tQ b0 u
 le:Le b0 h
 bM:b0.own M=none
def B9.keep {gs:List Gr} (R:B9 b0 h M us gs) (le:Le b0 h') (a:∀b o,h.own b=some o->(b=M\/∃(j:Nat) (u:Value),us[j]?=some u/\blk u=some b)->h'.own b=some o):B9 b0 h' M us gs:=
 ⟨a _ _ R.oM (.inl rfl),R.len,fun j u g c hg=>GS.kept (R.gp j u g c hg) fun b o hb d=>a b o d (.inr ⟨j,u,c,hb⟩),R.nM,R.eX,R.ap,le,R.bM⟩
def B9.up {gs:List Gr} (R:B9 b0 h M us gs) (e:Le h h'):B9 b0 h' M us gs:=R.keep (R.le.trans e) fun b o a _=>e.own _ _ a
def MP:azero Tryz.prog 22=some (.slice none 0 0):=zd
def B9.look {gs:List Gr} (R:B9 b0 h M us gs) (f:Int):∃u,aLookup Tryz.prog h 110 (.map (some M)) (.int .i64 f) false=some u/\GP h u (lstG gs f):=by
 rcases LG f gs us 0 R.len with⟨a,h2,h3,b⟩|⟨j,l,u,a,h2,h3,b,c⟩
 .refine ⟨.slice none 0 0, ?_, by rw [h3]; exact GP.nil h⟩
  simp[aLookup,R.oM,MP,h2,Fw.flat]
 .refine ⟨u, ?_, by rw [b]; exact R.gp j u _ h2 a⟩
  simp[aLookup,R.oM,MP,h3,Fw.flat]
def B9.push {b0 h:AHeap} {M:Nat} {us:List Value} {gs:List Gr} (R:B9 b0 h M us gs) (E:WF h) (f:Int) (p:Pr) (V:(lstG gs f).length+1<=100000):
  ∃u u' z F K G,aLookup Tryz.prog h 110 (.map (some M)) (.int .i64 f) false=some u/\aBuildSlice Tryz.prog h 22 1 [(0,Ov p)]=some (.slice (some ⟨h.next,0,none⟩) 1 1,z)/\aAppend Tryz.prog z 22 22 u (.slice (some ⟨h.next,0,none⟩) 1 1)=some (u',F)/\
   aMapSet Tryz.prog F 110 (.map (some M)) (.int .i64 f) u'=some K/\B9 b0 K M G (addG gs f p)/\WF K/\Le h z/\
   (∀b o,h.own b=some o->b≠M->(∀(j:Nat) a,us[j]?=some a->blk a≠some b)->F.own b=some o/\K.own b=some o/\∀(j:Nat) a,G[j]?=some a->blk a≠some b):=by
 rcases LG f gs us 0 R.len with⟨L,h2,h3,z⟩|⟨j,l,u,L,h2,h3,z,F⟩
 .obtain ⟨u', N, C, O, P, x, H, l4, hf, y⟩ := (GP.nil h).push E p YX
  have c:∀b o,h.own b=some o->C.own b=some o/\blk u'≠some b:=fun b o i=>y b o i (by simp[blk]);obtain⟨l5,Q⟩:=hf b0 R.le (fun b hb=>by simp[blk]at hb);have n:=(c _ _ R.oM).1;refine⟨.slice none 0 0,u',N,C,C.put M (.map (Hk gs us++[(.int .i64 f,u')])),us++[u'],by simp[aLookup,R.oM,MP,h2,Fw.flat],O,P,by simp only[aMapSet,qS7,Ik,n,h2],?_,H.put _ (H.lt n),l4,fun b o i hb D=>⟨(c b o i).1,by rw[AHeap.Dz _ _ _ _ hb];exact(c b o i).1,fun k a ha=>?_⟩⟩
  .rw [z]
   have S:=Nz R.len (f,[p]) u';have r:∀(k:Nat) a,(us++[u'])[k]?=some a->(us[k]?=some a)\/(k=us.length/\a=u'):=fun k a ha=>by
    by_cases v:k<us.length
    .rw[US v]at ha;exact .inl ha
    .rw [kc QT] at ha
     have A:=(bH.1 ha).1;simp at A;have B:k=us.length:=QT;subst B;simp at ha;exact .inr ⟨rfl,ha.symm⟩
   refine⟨by rw[S];exact AHeap.zm _ _ _,by simp[R.len],fun k a g ha hg=>?_,fun k a ha=>?_,fun k t a a' b s ha WA hb=>?_,fun k a ha=>?_,l5.put _ R.bM,R.bM⟩
   .rcases r k a ha with xa | ⟨rfl, rfl⟩
    .have v := (bH.1 xa).1
     rw[US (by rw[<-R.len];exact v)]at hg;exact GS.put (GS.kept (R.gp k a g xa hg) fun b o hb i=>(c b o i).1) _ (R.nM k a xa)
    .rw [kc (by rw [R.len]; exact J4 _), R.len] at hg
     simp at hg;subst hg;have:([]++[p]:List Pr)=[p]:=rfl;rw[this]at x;exact GS.put x _ (c _ _ R.oM).2
   .rcases r k a ha with xa | ⟨rfl, rfl⟩
    .exact R.nM k a xa
    .exact(c _ _ R.oM).2
   .rcases r k a ha with xa | ⟨rfl, rfl⟩
    .rcases r t a' WA with m | ⟨rfl, rfl⟩
     .exact R.eX k t a a' b s xa m hb
     .have w : ∃ q, gs[k]? = some q := ⟨_, XR (by rw [<- R.len]; exact (bH.1 xa).1)⟩
      obtain⟨q,I⟩:=w;obtain⟨o,i⟩:=yu.1 (GS.Rf (R.gp k a q xa I) hb);exact(c b o i).2
    .rcases r t a' WA with m | ⟨rfl, rfl⟩
     .intro AD
      have w:∃q,gs[t]?=some q:=⟨_,XR (by rw[<-R.len];exact(bH.1 m).1)⟩;obtain⟨q,I⟩:=w;obtain⟨o,i⟩:=yu.1 (GS.Rf (R.gp t a' q m I) AD);exact(c b o i).2 hb
     .exact absurd rfl s
   .rcases r k a ha with xa | ⟨rfl, rfl⟩
    .exact R.ap k a xa
    .exact Q
  .by_cases v : k < us.length
   .rw[US v]at ha;exact D k a ha
   .rw [kc QT] at ha
    have A:=(bH.1 ha).1;simp at A;have B:k=us.length:=QT;subst B;simp at ha;subst ha;exact(c b o i).2
 .rw [z] at V
  have W:=R.gp j u _ h2 L;obtain⟨u',N,C,O,P,x,H,l4,hf,y⟩:=GP.push W E p V;obtain⟨l5,Q⟩:=hf b0 R.le (R.ap j u h2);have n:=y _ _ R.oM (R.nM j u h2);have T:=(bH.1 h2).1;have d:∀(k:Nat) a,(us.set j u')[k]?=some a->(k≠j/\us[k]?=some a)\/(k=j/\a=u'):=fun k a ha=>by
   rw[v8]at ha;by_cases e:j=k
   .subst e;rw[if_pos rfl,if_pos T]at ha;injection ha with ha;exact .inr ⟨rfl,ha.symm⟩
   .rw[if_neg e]at ha;exact .inl ⟨Hn e,ha⟩
  have own:∀(k:Nat) a b,us[k]?=some a->blk a=some b->∃o,h.own b=some o:=fun k a b ha hb=>by
   have w:∃q,gs[k]?=some q:=⟨_,XR (by rw[<-R.len];exact(bH.1 ha).1)⟩;obtain⟨q,I⟩:=w;exact yu.1 (GS.Rf (R.gp k a q ha I) hb)
  refine⟨u,u',N,C,C.put M (.map ((Hk gs us).set (0+j) (.int .i64 f,u'))),us.set j u',by simp[aLookup,R.oM,MP,h3,Fw.flat],O,P,by simp only[aMapSet,qS7,Ik,n.1,h3],?_,H.put _ (H.lt n.1),l4,fun b o i hb D=>⟨(y b o i (D j u h2)).1,by rw[AHeap.Dz _ _ _ _ hb];exact(y b o i (D j u h2)).1,fun k a ha=>?_⟩⟩
  .rw [F]
   have S:=cC (l':=l++[p]) (u':=u') gs us j R.len L;have U:=(bH.1 L).1;refine⟨by rw[S,Qs];exact AHeap.zm _ _ _,by simp[R.len],fun k a g ha hg=>?_,fun k a ha=>?_,fun k t a a' b s ha WA hb=>?_,fun k a ha=>?_,l5.put _ R.bM,R.bM⟩
   .rcases d k a ha with ⟨e, xa⟩ | ⟨rfl, rfl⟩
    .rw [v8, if_neg (Hn e)] at hg
     exact GS.put (GS.kept (R.gp k a g xa hg) fun b o hb i=>(y b o i (fun AD=>R.eX k j a u b e xa h2 hb AD)).1) _ (R.nM k a xa)
    .rw [v8, if_pos rfl, if_pos U] at hg
     injection hg with hg;subst hg;exact GS.put x _ n.2
   .rcases d k a ha with ⟨e, xa⟩ | ⟨rfl, rfl⟩
    .exact R.nM k a xa
    .exact n.2
   .rcases d k a ha with ⟨e, xa⟩ | ⟨rfl, rfl⟩
    .rcases d t a' WA with ⟨e', m⟩ | ⟨rfl, rfl⟩
     .exact R.eX k t a a' b s xa m hb
     .obtain ⟨o, i⟩ := own k a b xa hb
      exact(y b o i (fun AD=>R.eX k t a u b s xa h2 hb AD)).2
    .rcases d t a' WA with ⟨e', m⟩ | ⟨rfl, rfl⟩
     .intro AD
      obtain⟨o,i⟩:=own t a' b m AD;exact(y b o i (fun J=>R.eX t k a' u b e' m h2 AD J)).2 hb
     .exact absurd rfl s
   .rcases d k a ha with ⟨e, xa⟩ | ⟨rfl, rfl⟩
    .exact R.ap k a xa
    .exact Q
  .rcases d k a ha with ⟨_, xa⟩ | ⟨rfl, rfl⟩
   .exact D k a xa
   .exact(y b o i (D k u h2)).2
variable {F i:Nat} {es ps web:List Pr} {fr:Pr->Nat->Int} {gs:List Gr} {p:Pr} {xs:LF}
def Mu (gs:List Gr) (f:Int) (p:Pr):sK (addG gs f p)=if f∈sK gs then sK gs else sK gs++[f]:=by
 induction gs with
 |nil=>simp[sK,addG]
 |cons g gs a=>
  obtain⟨k,l⟩:=g;by_cases c:k=f
  .subst c;simp[addG,sK]
  .have c' : ¬ f = k := fun h => c h.symm
   simp only[addG,if_neg c,sK,Kj,aH,c',false_or]at a ⊢;rw[a];split<;>rename_i b<;>simp[b]
def Bx (h:(sK gs).Nodup) (f:Int) (p:Pr):(sK (addG gs f p)).Nodup:=by
 rw[Mu];split
 .exact h
 .rename_i c
  rw[KM];exact⟨h,YX,fun a ha b hb=>by simp at hb;subst hb;exact fun e=>c (by rw[<-e];exact ha)⟩
def addG_ne (h:∀g∈gs,g.2≠[]) (f:Int) (p:Pr):∀g∈addG gs f p,g.2≠[]:=by
 induction gs with
 |nil=>intro g hg;simp[addG]at hg;subst hg;simp
 |cons g gs b=>
  obtain⟨k,l⟩:=g;intro x a;by_cases c:k=f
  .simp only [addG, if_pos c, aH] at a
   rcases a with rfl|a
   .simp
   .exact h x (by simp[a])
  .simp only [addG, if_neg c, aH] at a
   rcases a with rfl|a
   .exact h _ YX
   .exact b (fun g hg=>h g (by simp[hg])) x a
def q9 {f:Int} {l:List Pr}:∀{gs:List Gr} {i:Nat},(sK gs).Nodup->gs[i]?=some (f,l)->lstG gs f=l
 |[],i,_,e=>by simp at e
 |(k,l')::gs,0,_,e=>by simp at e;obtain⟨rfl,rfl⟩:=e;simp[lstG]
 |(k,l')::gs,i+1,h,e=>by
  simp only[sK,Kj,tS]at h;have b:f∈sK gs:=T8.2 ⟨(f,l),Jb (by simpa using e),rfl⟩;have a:¬k=f:=fun e=>h.1 (by rw[e];exact b);rw[lstG,if_neg a];exact q9 h.2 (by simpa using e)
def SO {f:Int}:∀{gs:List Gr},(∀g∈gs,g.2≠[])->(f∈sK gs↔lstG gs f≠[])
 |[],_=>by simp[sK,lstG]
 |(k,l)::gs,h=>by
  by_cases c:k=f
  .subst c;have a:l≠[]:=h (k,l) YX;simp[sK,lstG,a]
  .have c' : ¬ f = k := fun h => c h.symm
   have:=SO (f:=f) (gs:=gs) fun g hg=>h g (by simp[hg]);rw[lstG,if_neg c,<-this];simp[sK,c']
def Ey (f:Int):∀(gs:List Gr) (m:Nat),(∀g∈gs,g.2.length<=m)->(lstG gs f).length<=m
 |[],m,_=>by simp[lstG]
 |(k,l)::gs,m,h=>by
  by_cases c:k=f
  .rw[lstG,if_pos c];exact h (k,l) YX
  .rw[lstG,if_neg c];exact Ey f gs m fun g hg=>h g (by simp[hg])
def Sv (f:Int) (p:Pr):∀(gs:List Gr) (m:Nat),(∀g∈gs,g.2.length<=m)->∀g∈addG gs f p,g.2.length<=m+1
 |[],m,_=>fun g hg=>by simp[addG]at hg;subst hg;simp
 |(k,l)::gs,m,h=>fun g hg=>by
  have a:=h (k,l) YX;by_cases c:k=f
  .simp only [addG, if_pos c, aH] at hg
   rcases hg with rfl|hg
   .simp at a ⊢;omega
   .have:=h g (by simp[hg]);omega
  .simp only [addG, if_neg c, aH] at hg
   rcases hg with rfl|hg
   .simp at a ⊢;omega
   .exact Sv f p gs m (fun g hg=>h g (by simp[hg])) g hg
def grpsM (fr:Pr->Nat->Int) (es web:List Pr):Nat->List Gr
  |0=>[]
  |i+1=>match es[i]? with
    |some p=>if p∈web then grpsM fr es web i else addG (grpsM fr es web i) (fr p i) p
    |none=>grpsM fr es web i
def MD (h:es[i]?=some p) (hw:p∈web):grpsM fr es web (i+1)=grpsM fr es web i:=by simp[grpsM,h,hw]
def Hh (h:es[i]?=some p) (hw:p∉web):grpsM fr es web (i+1)=addG (grpsM fr es web i) (fr p i) p:=by simp[grpsM,h,hw]
def RW (fr:Pr->Nat->Int) (es web:List Pr) (i:Nat):(sK (grpsM fr es web i)).Nodup/\(∀g∈grpsM fr es web i,g.2≠[])/\(∀g∈grpsM fr es web i,g.2.length<=i)/\(grpsM fr es web i).length<=i/\∀g∈grpsM fr es web i,∀p∈g.2,p∈es:=by
  have b:∀(gs:List Gr) (f:Int) (p:Pr),(∀g∈gs,∀q∈g.2,q∈es)->p∈es->∀g∈addG gs f p,∀q∈g.2,q∈es:=by
    intro gs f p
    induction gs with
    |nil=>intro _ d g hg;simp[addG]at hg;subst hg;simpa using d
    |cons g gs j=>
      obtain⟨k,l⟩:=g;intro h d x e;by_cases c:k=f
      · simp only [addG, if_pos c, aH] at e
        rcases e with rfl|e
        · intro q m; simp only [uK, Rb] at m
          rcases m with m|rfl
          .exact h (k,l) YX q m
          .exact d
        .exact h x (by simp[e])
      · simp only [addG, if_neg c, aH] at e
        rcases e with rfl|e
        .exact h _ YX
        .exact j (fun g hg=>h g (by simp[hg])) d x e
  have a:∀(gs:List Gr) (f:Int) (p:Pr),(addG gs f p).length<=gs.length+1:=by
    intro gs f p
    induction gs with
    |nil=>simp[addG]
    |cons g gs j=>obtain⟨k,l⟩:=g;simp only[addG];split<;>simp<;>omega
  induction i with
  |zero=>simp[grpsM,sK]
  |succ i j=>
    obtain⟨n,h2,h3,r,o⟩:=j;have up:∀g∈grpsM fr es web i,g.2.length<=i+1:=fun g hg=>by have:=h3 g hg;omega
    cases d:es[i]? with
    | none => have : grpsM fr es web (i + 1) = grpsM fr es web i := by simp [grpsM, d]
              rw[this];exact⟨n,h2,up,QT,o⟩
    |some p=>
      by_cases c:p∈web
      .rw[MD d c];exact⟨n,h2,up,QT,o⟩
      · rw [Hh d c]
        exact⟨Bx n _ _,addG_ne h2 _ _,Sv _ _ _ _ h3,by have:=a (grpsM fr es web i) (fr p i) p;omega,b _ _ _ o (Jb d)⟩
structure FM where
 bG:List Pr
 Xt:LF
def FL (h:AHeap) (v:Value) (c:List FM):Prop:=∃cs,CS 2 h v c.length cs/\∀(i:Nat) f,c[i]?=some f->∃a b,cs[i*2]?=some a/\cs[i*2+1]?=some b/\PR h a f.bG/\RL IJ h b f.Xt
def H9:JO Tryz.prog 122=2:=zd
def mkFr (h:AHeap) (n:Nat) (d:n<=100000):∃c,aMakeSlice Tryz.prog h 118 (.int .i64 (n:Int)) (.int .i64 (n:Int))=some (.slice (some ⟨h.next,0,none⟩) n n,h.alloc (.cells c))/\c.length=n*2:=by
 have e:azero Tryz.prog 122=some (.agg #[.slice none 0 0,.slice none 0 0]):=zd;have hb:(Tryz.prog.bytesOf 122).ble 1000=true:=zd;have a:(Tryz.prog.bytesOf 122:Int)*n<=140737488355328:=by
  have:Tryz.prog.bytesOf 122*n<=1000*1000000:=Xd (qL244 hb) QT;have h2:((Tryz.prog.bytesOf 122*n:Nat):Int)<=1000000000:=QT;rw[Int.natCast_mul]at h2;omega
 have b:(n:Int)<=140737488355328:=QT;have f:(Value.agg #[.slice none 0 0,.slice none 0 0]).cells=#[.slice none 0 0,.slice none 0 0]:=rfl;have g:(zrow [Value.slice none 0 0,Value.slice none 0 0] n).all (·.oneCell')=true:=by
  clear a b d
  induction n with
  |zero=>rfl
  |succ n i=>simp only[zrow,CM,i,aal];rfl
 refine⟨zrow [.slice none 0 0,.slice none 0 0] n,?_,by rw[Kx];rfl⟩;simp[aMakeSlice,e,f,H9,a,b,QX,g,Fw.flat]
def stFr {c:List Value} {a b:Value} (d:h.own F=some (.cells c)) (hi:i*2+2<=c.length) (ha:PR h a ps) (hb:RL IJ h b xs):
  aStore Tryz.prog h 122 (.pointer (some ⟨F,i*2,none⟩)) (.agg #[a,b])=some (h.put F (.cells ((c.set (i*2) a).set (i*2+1) b))):=by
 have e:=ha.sl.one;have h2:=hb.one;have f:(Value.agg #[a,b]).cells=#[a,b]:=rfl;simp[aStore,d,f,H9,putCells,e,h2,hi]
def LK:∀(a b:LF),a.Pairwise (·<·)->b.Pairwise (·<·)->(∀x,x∈a↔x∈b)->a=b
 |[],[],_,_,_=>rfl
 |[],y::b,_,_,h=>by have:=(h y).2 YX;simp at this
 |x::a,[],_,_,h=>by have:=(h x).1 YX;simp at this
 |x::a,y::b,ha,hb,h=>by
  rw[jO]at ha hb;have e:x=y:=by
   have c:=(h x).1 YX;have h2:=(h y).2 YX;rw[aH]at c h2;rcases c with c|c
   .exact c
   .rcases h2 with h2 | h2
    .exact h2.symm
    .have:=hb.1 x c;have:=ha.1 y h2;omega
  subst e;rw[LK a b ha.2 hb.2 fun z=>?_];constructor
  .intro d
   have:=(h z).1 (by simp[d]);rw[aH]at this;rcases this with rfl|h'
   .have:=ha.1 z d;omega
   .exact h'
  .intro d
   have:=(h z).2 (by simp[d]);rw[aH]at this;rcases this with rfl|h'
   .have:=hb.1 z d;omega
   .exact h'
def RZ (l:LF) (x:Int):x∈Lib.compact l↔x∈l:=by
 simp only[Lib.compact,Lib.compactUpTo,T8,sX,vq];constructor
 .rintro ⟨j, ⟨a, _⟩, rfl⟩
  rw[getElem!_pos _ j (by simpa using a)];simp
 .intro b
  obtain⟨j,a,rfl⟩:=iV.1 b;clear b
  induction j with
  |zero=>exact⟨0,⟨a,by simp[Lib.keeps]⟩,by rw[getElem!_pos _ 0 (by simpa using a)];simp⟩
  |succ j d=>
   by_cases c:l[j+1]=l[j]
   .rw[c];exact d QT
   .refine ⟨j + 1, ⟨a, ?_⟩, by rw [getElem!_pos _ (j + 1) (by simpa using a)]; simp⟩
    simp only[Lib.keeps,decide_eq_true_eq,Nat.add_sub_cancel];right;rw[getElem!_pos _ (j+1) (by simpa using a),getElem!_pos _ j (by simp;omega)];simpa using c
def Iq {l:LF} (h:l.Pairwise (·<=·)):(Lib.compact l).Pairwise (·<·):=by
 simp only[Lib.compact,Lib.compactUpTo];rw[UB];have f:((List.range l.length).filter (Lib.keeps l.toArray)).Pairwise (·<·):=qL251 _ Be;refine iF ?_ f;intro i j hi c g;rw[sX,vq]at hi c;obtain⟨a,b⟩:=c;simp only[Lib.keeps,decide_eq_true_eq]at b;rw[getElem!_pos _ i (by simp;omega),getElem!_pos _ j (by simpa using a)]at*;rcases b with d|d
 .omega
 .rw [getElem!_pos _ (j - 1) (by simp; omega)] at d
  rw[cR]at h;simp only[uf]at*;have h2:=h (j-1) j QT a QT;by_cases e:i=j-1
  .subst e;omega
  .have:=h i (j-1) QT QT QT;omega
def uh (l:LF) (x:Int):x∈wq l↔x∈l:=by simp[wq]
def xg (l:LF):(wq l).Pairwise (·<=·):=by
 have:=qL234 (le:=fun x y:Int=>decide (x<=y)) (fun a b c d h2=>by simp at*;omega) (fun a b=>by simp;omega) l;simpa[wq]using this
end
variable {es:List Pr} {n s u v w:Nat} {o:wi} {up:LF}
abbrev offA:Nat->Bool:=fun _=>false
abbrev Xb (es:List Pr):Nat->Nat->Prop:=Cn offA es
def Xb.refl (es:List Pr) (u:Nat):Xb es u u:=Cn.refl rfl
def NZ (h:xA es u w):Xb es u w:=.step (.refl rfl) h rfl
def Xb.lt {n:Nat} {es:List Pr} (b:I7 n es) {u w:Nat} (h:Xb es u w) (c:u<n):w<n:=by
 induction h with
 |refl _=>exact c
 |step _ a _ _=>exact(a.lt b).2
def Zu.je (d:Zu n es s o up):∀v∈o,Xb es s v:=by
 induction d with
 |start=>intro v b;rw[Rb]at b;subst b;exact Xb.refl es _
 |step d e ha _ _ _ c=>
  intro x a;rw[uK,Rb]at a;rcases a with a|rfl
  .exact c x a
  .exact .step (c _ (Jb e)) ha rfl
def Zu.head (d:Zu n es s o up):o[0]?=some s:=by
 induction d with
 |start=>rfl
 |step d _ _ _ _ _ a=>rw[US (by have:=d.len.1;omega)];exact a
def Zu.nodup (d:Zu n es s o up):o.Nodup:=by
 induction d with
 |start=>simp
 |step d _ _ hw _ _ c=>
  rw[KM];exact⟨c,YX,fun a ha b hb e=>by rw[Rb]at hb;subst hb;subst e;exact hw ha⟩
def zn.mem (d:zn n es s o up) (v:Nat):v∈o↔Xb es s v:=by
 refine⟨d.E5.je v,fun h=>?_⟩
 induction h with
 |refl _=>exact Jb d.E5.head
 |step _ a _ b=>exact d.full _ b _ a
open Classical in
noncomputable def sH (n:Nat) (es:List Pr) (v:Nat):wi:=(List.range n).filter fun w=>decide (Xb es v w)
open Classical in
noncomputable def Ju (n:Nat) (es:List Pr):wi:=(List.range n).filter fun v=>decide (∀u,u<v->¬Xb es u v)
noncomputable def rP (n:Nat) (es:List Pr) (k:Nat):ai:=((Ju k es).map (sH n es))
def gD:w∈sH n es v↔w<n/\Xb es v w:=by simp[sH]
def jS:v∈Ju n es↔v<n/\∀u,u<v->¬Xb es u v:=by simp[Ju]
def KG (k:Nat) (es:List Pr):(Ju (k+1) es=Ju k es++[k]/\∀u,u<k->¬Xb es u k)\/(Ju (k+1) es=Ju k es/\∃u,u<k/\Xb es u k):=by
 classical
 by_cases h:∀u,u<k->¬Xb es u k
 .left;refine⟨?_,h⟩;simp only[Ju,pR,zQ];congr 1;simpa using h
 .right
  refine⟨?_,by simpa using h⟩;simp only[Ju,pR,zQ];rw[V4 (by simpa using h)];simp
def NS (k:Nat) (es:List Pr):(Ju k es).length<=k:=by
 unfold Ju;exact Jh (ET _ _) YX
def vS (n:Nat):(List.range n).Pairwise (·<·):=by
 rw[cR];intro i j hi b a;simpa using a
def rn (n:Nat) (es:List Pr) (v:Nat):(sH n es v).Pairwise (·<·):=(vS n).filter _
def yi (b:I7 n es) (d:zn n es s o up) (hs:s<n):wq (aW o)=aW (sH n es s):=by
 have c:(aW (sH n es s)).Pairwise (·<·):=by
  rw[aW,UB];exact(rn n es s).imp fun h=>by omega
 have f:(wq (aW o)).Pairwise (·<·):=by
  have nd:(wq (aW o)).Nodup:=by
   have g:(wq (aW o)).Perm (aW o):=aaf _ _;rw[g.nodup_iff,aW];have:=d.E5.nodup;rw[gY]at this ⊢;rw[UB];exact this.imp fun h e=>h QT
  have:=List.Pairwise.and (xg (aW o)) (gY.1 nd);exact this.imp fun h=>by have:=h.1;have:=h.2;omega
 refine LK _ _ f c fun x=>?_;rw[uh];simp only[aW,T8,gD];constructor
 .rintro⟨v,a,rfl⟩;exact⟨v,⟨((d.mem v).1 a).lt b hs,(d.mem v).1 a⟩,rfl⟩
 .rintro⟨v,⟨_,a⟩,rfl⟩;exact⟨v,(d.mem v).2 a,rfl⟩
end Go.Fw
namespace Go.Fw
inductive Uy (up:Nat->Option Nat):Nat->Nat->Prop
 |refl (a:Nat):Uy up a a
 |step {a b c:Nat}:Uy up a b->up c=some b->Uy up a c
def Uy.one {up:Nat->Option Nat} {b c:Nat} (h:up c=some b):Uy up b c:=.step (.refl b) h
def Uy.trans {up:Nat->Option Nat} {a b c:Nat} (h:Uy up a b) (k:Uy up b c):Uy up a c:=by
 induction k with
 |refl=>exact h
 |step _ e d=>exact .step d e
def Uy.chain {up:Nat->Option Nat} {a b c:Nat} (h:Uy up a c) (k:Uy up b c):Uy up a b\/Uy up b a:=by
 induction h with
 |refl=>exact .inr k
 |@step x c h e d=>
  cases k with
  |refl=>exact .inl (h.step e)
  |@step y _ k e'=>rw[e]at e';injection e' with e';subst e';exact d k
def Uy.child {up:Nat->Option Nat} {a b:Nat} (h:Uy up a b) (ne:a≠b):∃c,up c=some a/\Uy up c b:=by
 induction h with
 |refl=>exact absurd rfl ne
 |@step x c h e f=>
  by_cases q:a=x
  .subst q;exact⟨c,e,.refl c⟩
  .obtain⟨d,g,h2⟩:=f q;exact⟨d,g,h2.step e⟩
def Uy.last {up:Nat->Option Nat} {a b:Nat} (h:Uy up a b) (ne:a≠b):∃c,up b=some c/\Uy up a c:=by
 cases h with
 |refl=>exact absurd rfl ne
 |step h e=>exact⟨_,e,h⟩
structure Fo (n:Nat) (es:List Pr) (num:Nat->Nat) (up:Nat->Option Nat):Prop where
 uJ:I7 n es
 inj:∀u v,u<n->v<n->num u=num v->u=v
 VF:∀v u,v<n->up v=some u->xA es u v/\num u<num v
 HX:∀a b,xA es a b->num a<num b->Uy up a b
abbrev wo (v:Nat):Nat->Bool:=fun x=>x==v
def Y1 {v x:Nat} (h:x≠v):wo v x=false:=by simpa[wo]using h
def C6 (es:List Pr) (num:Nat->Nat) (up:Nat->Option Nat) (v c:Nat):Prop:=∃x w,Uy up c x/\xA es x w/\num w<num v
def Nt (es:List Pr) (up:Nat->Option Nat) (u w:Nat):Prop:=xA es u w/\up u≠some w/\up w≠some u
structure dF (es:List Pr) (num:Nat->Nat) (up:Nat->Option Nat) (D:Nat->Nat->Prop) (v:Nat) (x:Nat):Prop where
 self:x<=num v
 back:∀u w,D v u->Nt es up u w->x<=num w
 some_:x=num v\/∃u w,D v u/\Nt es up u w/\x=num w
namespace Fo
variable {n : Nat} {es : List Pr} {num : Nat → Nat} {up : Nat → Option Nat}
def MF (F:Fo n es num up) {a b:Nat} (h:Uy up a b) (hb:b<n):a<n/\(a=b\/num a<num b):=by
 induction h with
 |refl=>exact⟨hb,.inl rfl⟩
 |@step x c h e f=>
  obtain⟨g,h2⟩:=F.VF c x hb e;obtain⟨h3,d⟩:=f (g.lt F.uJ).1;refine⟨h3,.inr ?_⟩;rcases d with rfl|d
  .exact h2
  .omega
def DO (F:Fo n es num up) {a b:Nat} (h:xA es a b):num a≠num b:=by
 intro e;have:=F.inj a b (h.lt F.uJ).1 (h.lt F.uJ).2 e;subst this;rcases h with h|h<;>have:=F.uJ _ h<;>simp only at this<;>omega
def along (F:Fo n es num up) {a b v:Nat} (h:Uy up a b) (hb:b<n) (d:∀x,Uy up a x->Uy up x b->x≠v):Cn (wo v) es a b:=by
 induction h with
 |refl=>exact .refl (Y1 (d _ (.refl _) (.refl _)))
 |@step x c h e g=>
  obtain⟨f,h2⟩:=F.VF c x hb e;exact .step (g (f.lt F.uJ).1 fun y h3 i=>d y h3 (i.step e)) f (Y1 (d c (h.step e) (.refl c)))
def aP (F:Fo n es num up) {a v:Nat} (h:Uy up a v) (ne:a≠v) (b:v<n):num a<num v:=(F.MF h b).2.resolve_left ne
def uR (F:Fo n es num up) {a b v:Nat} (d:v<n) (ha:Uy up a v) (f:a≠v) (hb:Uy up b v) (nb:b≠v):Cn (wo v) es a b:=by
 have key:∀{a b:Nat},Uy up a b->Uy up b v->b≠v->Cn (wo v) es a b:=by
  intro a b h hb nb;have c:=(F.MF hb d).1;refine F.along h c fun x _ g e=>?_;subst e;have i:=F.aP hb nb d;rcases(F.MF g c).2 with h2|h2
  .exact nb h2.symm
  .omega
 rcases ha.chain hb with h|h
 .exact key h hb nb
 .exact(key h ha f).symm
def below (F:Fo n es num up) {c a v:Nat} (ha:a<n) (f:up c=some v) (h:Uy up c a):Cn (wo v) es c a:=by
 have b:=(F.MF h ha).1;refine F.along h ha fun x g d e=>?_;subst e;have i:=(F.VF c x b f).2;have h2:=(F.MF g (F.MF d ha).1).2;rcases h2 with h2|h2
 .subst h2;omega
 .omega
def Wi (F:Fo n es num up) {c v:Nat} (b:c<n) (d:up c=some v) (h:C6 es num up v c):∃w,Uy up w v/\w≠v/\Cn (wo v) es c w:=by
 obtain⟨x,w,f,h2,h3⟩:=h;have j:=(h2.lt F.uJ).1;have k:=((F.VF c v b d).1.lt F.uJ).1;have g:Uy up v x:=(Uy.one d).trans f;have i:num w<num x:=by
  have l:=(F.VF c v b d).2;rcases(F.MF f j).2 with h|h
  .subst h;omega
  .omega
 have a:w≠v:=fun e=>by subst e;omega
 have ha:=F.HX w x h2.symm i;rcases ha.chain g with h|h
 .exact⟨w,h,a,(F.below j d f).step h2 (Y1 a)⟩
 .have := (F.MF h (h2.lt F.uJ).2).2
  rcases this with h|h
  .exact absurd h.symm a
  .omega
def yj (F:Fo n es num up) {c v x:Nat} (b:c<n) (l:up c=some v) (h:¬C6 es num up v c) (k:Cn (wo v) es c x):Uy up c x/\x<n:=by
 induction k with
 |refl _=>exact⟨.refl _,b⟩
 |@step x y k a o m=>
  obtain⟨g,s⟩:=m;have p:=(a.lt F.uJ).2;refine⟨?_,p⟩;have i:y≠v:=by simpa[wo]using o
  by_cases q:num y<num x
  .have h2 := F.HX y x a.symm q
   rcases g.chain h2 with h3|h3
   .exact h3
   .by_cases e : y = c
    .subst e;exact .refl _
    .obtain ⟨d, f, r⟩ := h3.last e
     rw[l]at f;injection f with f;subst f;have j:=((F.VF c v b l).1.lt F.uJ).1;exact absurd ⟨x,y,g,a,F.aP r i j⟩ h
  .have := F.DO a
   exact g.trans (F.HX x y a QT)
def low_bey (F:Fo n es num up) {c v x:Nat} (g:c<n) (j:up c=some v) (L:dF es num up (Uy up) c x):x<num v↔C6 es num up v c:=by
 have k:=(F.VF c v g j).2;constructor
 .intro h
  rcases L.some_ with a|⟨u,w,a,h2,h3⟩
  .omega
  .exact⟨u,w,a,h2.1,QT⟩
 .rintro ⟨u, w, a, h2, h3⟩
  have i:=(h2.lt F.uJ).1;have b:=(F.MF a i).2;have:=L.back u w a ⟨h2,fun e=>?_,fun e=>?_⟩
  .omega
  .by_cases q : c = u
   .subst q;rw[j]at e;injection e with e;subst e;omega
   .obtain ⟨d, f, l⟩ := a.last q
    rw[e]at f;injection f with f;subst f;rcases(F.MF l (h2.lt F.uJ).2).2 with h|h
    .subst h;omega
    .omega
  .have := (F.VF w u (h2.lt F.uJ).2 e).2
   rcases b with b|b
   .subst b;omega
   .omega
structure My (n:Nat) (es:List Pr) (num:Nat->Nat) (up:Nat->Option Nat) (hd:Nat->Nat):Prop where
 root:∀v,v<n->up v=none->hd v=v
 on:∀v u,v<n->up v=some u->C6 es num up u v->hd v=hd u
 new:∀v u,v<n->up v=some u->¬C6 es num up u v->hd v=v
variable {hd : Nat → Nat}
def Fm (F:Fo n es num up) (H:My n es num up hd):∀(k v:Nat),num v<=k->v<n->Uy up (hd v) v/\hd (hd v)=hd v:=by
 intro k
 induction k with
 |zero=>
  intro v c b;have hh:hd v=v:=by
   cases a:up v with
   |none=>exact H.root v b a
   |some u=>have:=(F.VF v u b a).2;omega
  rw[hh];exact⟨.refl v,hh⟩
 |succ k d=>
  intro v c b;cases a:up v with
  |none=>rw[H.root v b a];exact⟨.refl v,H.root v b a⟩
  |some u=>
   have e:=F.VF v u b a;by_cases hb:C6 es num up u v
   .rw [H.on v u b a hb]
    obtain⟨h2,h3⟩:=d u QT (e.1.lt F.uJ).1;exact⟨h2.step a,h3⟩
   .rw[H.new v u b a hb];exact⟨.refl v,H.new v u b a hb⟩
def lower (num:Nat->Nat) (x y:Nat):Nat:=if num y<num x then x else y
def O7 (F:Fo n es num up) (H:My n es num up hd) {c v a:Nat} (m:up c=some v) (ha:Uy up c a) (f:xA es v a):hd a=hd c:=by
 have g:=(f.lt F.uJ).2;have j:=(F.MF ha g).1;have k:=(F.VF c v j m).2;have key:∀z,Uy up c z->Uy up z a->hd z=hd c:=by
  intro z o
  induction o with
  |refl=>intro _;rfl
  |@step b z hb e p=>
   intro d;have i:=(F.MF d g).1;have l:=((F.VF z b i e).1.lt F.uJ).1;rw[H.on z b i e ⟨a,v,d,f.symm,?_⟩]
   .exact p ((Uy.one e).trans d)
   .rcases (F.MF hb l).2 with h | h
    .subst h;exact k
    .omega
 exact key a ha (.refl a)
def lZ (F:Fo n es num up) (H:My n es num up hd) {v a b:Nat} (ha:xA es v a) (hb:xA es v b):hd (lower num v a)=hd (lower num v b)↔Cn (wo v) es a b:=by
 have m:=(ha.lt F.uJ).1;have t:∀c,up c=some v->c<n->hd v≠c:=fun c i f e=>by
  have z:=(F.Fm H (num v) v (J4 _) m).1;have h2:=(F.VF c v f i).2;rcases(F.MF z m).2 with h|h<;>rw[e]at h
  .subst h;omega
  .omega
 have mixed:∀{a b:Nat},xA es v a->xA es v b->num a<num v->num v<num b->(hd v=hd b↔Cn (wo v) es a b):=by
  intro a b ha hb z h2;have o:=(hb.lt F.uJ).2;have J:=F.HX a v ha.symm z;have K:a≠v:=fun e=>by subst e;omega
  obtain⟨c,i,A⟩:=(F.HX v b hb h2).child (fun e=>by subst e;omega);have f:=(F.MF A o).1;have P:=(F.VF c v f i).2;rw[F.O7 H i A hb];by_cases q:C6 es num up v c
  .rw [H.on c v f i q]
   obtain⟨w,B,C,D⟩:=F.Wi f i q;exact⟨fun _=>((F.uR m J K B C).trans D.symm).trans (F.below o i A),fun _=>rfl⟩
  .rw [H.new c v f i q]
   refine⟨fun e=>absurd e (t c i f),fun k=>?_⟩;have h3:=F.yj f i q ((F.below o i A).trans k.symm);rcases(F.MF h3.1 h3.2).2 with h|h
   .subst h;omega
   .omega
 have Q:=F.DO ha;have nb:=F.DO hb;rcases lQ Q with z|z<;>rcases lQ nb with h2|h2
 .have E : lower num v a = a := by unfold lower; rw [if_neg QT]
  have G:lower num v b=b:=by unfold lower;rw[if_neg QT]
  rw[E,G];have u:=(ha.lt F.uJ).2;have o:=(hb.lt F.uJ).2;obtain⟨c,i,r⟩:=(F.HX v a ha z).child (fun e=>by subst e;omega);obtain⟨d,g,s⟩:=(F.HX v b hb h2).child (fun e=>by subst e;omega);have f:=(F.MF r u).1;have j:=(F.MF s o).1;rw[F.O7 H i r ha,F.O7 H g s hb];by_cases q:C6 es num up v c
  .rw [H.on c v f i q]
   obtain⟨w,B,C,D⟩:=F.Wi f i q;by_cases p:C6 es num up v d
   .rw [H.on d v j g p]
    obtain⟨x,L,M,N⟩:=F.Wi j g p;exact⟨fun _=>(((F.below u i r).symm.trans D).trans (F.uR m B C L M)).trans (N.symm.trans (F.below o g s)),fun _=>rfl⟩
   .rw [H.new d v j g p]
    refine⟨fun e=>absurd e (t d g j),fun k=>?_⟩;have h3:=F.yj j g p (((F.below o g s).trans k.symm).trans ((F.below u i r).symm.trans D));have R:=F.aP B C m;have O:=(F.VF d v j g).2;rcases(F.MF h3.1 h3.2).2 with h|h
    .subst h;omega
    .omega
  .rw [H.new c v f i q]
   have toA:Cn (wo v) es a b->Uy up c b:=fun k=>(F.yj f i q ((F.below u i r).trans k)).1;have same:Uy up c b->c=d:=fun h=>by
    rcases h.chain s with h'|h'
    .by_cases e : c = d
     .exact e
     .obtain ⟨y, l, I⟩ := h'.last e
      rw[g]at l;injection l with l;subst l;have O:=(F.VF c v f i).2;rcases(F.MF I m).2 with h|h
      .subst h;omega
      .omega
    .by_cases e : d = c
     .exact e.symm
     .obtain ⟨y, l, I⟩ := h'.last e
      rw[i]at l;injection l with l;subst l;have O:=(F.VF d v j g).2;rcases(F.MF I m).2 with h|h
      .subst h;omega
      .omega
   constructor
   .intro e
    by_cases p:C6 es num up v d
    .rw[H.on d v j g p]at e;exact absurd e.symm (t c i f)
    .rw [H.new d v j g p] at e; subst e
     exact(F.below u i r).symm.trans (F.below o i s)
   .intro k
    have:=same (toA k);subst this;rw[H.new c v f i q]
 .have E : lower num v a = a := by unfold lower; rw [if_neg QT]
  have G:lower num v b=v:=by unfold lower;rw[if_pos QT]
  rw[E,G];have:=mixed hb ha h2 z;exact⟨fun e=>(this.1 e.symm).symm,fun k=>(this.2 k.symm).symm⟩
 .have E : lower num v a = v := by unfold lower; rw [if_pos QT]
  have G:lower num v b=b:=by unfold lower;rw[if_neg QT]
  rw[E,G];exact mixed ha hb z h2
 .have E : lower num v a = v := by unfold lower; rw [if_pos QT]
  have G:lower num v b=v:=by unfold lower;rw[if_pos QT]
  rw[E,G];exact⟨fun _=>F.uR m (F.HX a v ha.symm z) (fun e=>by subst e;omega) (F.HX b v hb.symm h2) (fun e=>by subst e;omega),fun _=>rfl⟩
def Ii (es:List Pr) (v:Nat):Prop:=∃a b,xA es v a/\xA es v b/\¬Cn (wo v) es a b
def cut_iff (F:Fo n es num up) (v:Nat) (m:v<n):
  Ii es v↔(∃c d,c<n/\d<n/\c≠d/\up c=some v/\up d=some v/\¬C6 es num up v c/\¬C6 es num up v d)\/(∃c,c<n/\up c=some v/\¬C6 es num up v c/\up v≠none):=by
 constructor
 .rintro ⟨a, b, ha, hb, t⟩
  have O:=F.DO ha;have nb:=F.DO hb;have mixed:∀{a b:Nat},xA es v a->xA es v b->num a<num v->num v<num b->¬Cn (wo v) es a b->∃c,c<n/\up c=some v/\¬C6 es num up v c/\up v≠none:=by
   intro a b ha hb u h2 t;have j:=(hb.lt F.uJ).2;have G:=F.HX a v ha.symm u;have H:a≠v:=fun e=>by subst e;omega
   obtain⟨c,g,I⟩:=(F.HX v b hb h2).child (fun e=>by subst e;omega);have f:=(F.MF I j).1;refine⟨c,f,g,fun q=>?_,?_⟩
   .obtain ⟨w, o, r, z⟩ := F.Wi f g q
    exact t (((F.uR m G H o r).trans z.symm).trans (F.below j g I))
   .obtain⟨d,h,_⟩:=G.last H;rw[h];simp
  rcases lQ O with u|u<;>rcases lQ nb with h2|h2
  .have A := (ha.lt F.uJ).2
   have j:=(hb.lt F.uJ).2;obtain⟨c,g,B⟩:=(F.HX v a ha u).child (fun e=>by subst e;omega);obtain⟨d,i,C⟩:=(F.HX v b hb h2).child (fun e=>by subst e;omega);have f:=(F.MF B A).1;have l:=(F.MF C j).1;have J:∀{w},Uy up w v->w≠v->up v≠none:=fun h ne=>by obtain⟨d,h,_⟩:=h.last ne;rw[h];simp
   by_cases q:C6 es num up v c
   .obtain ⟨w, o, r, z⟩ := F.Wi f g q
    refine .inr ⟨d,l,i,fun p=>?_,J o r⟩;obtain⟨x,D,E,K⟩:=F.Wi l i p;exact t ((((F.below A g B).symm.trans z).trans (F.uR m o r D E)).trans (K.symm.trans (F.below j i C)))
   .by_cases p : C6 es num up v d
    .obtain ⟨x, D, E, K⟩ := F.Wi l i p
     exact .inr ⟨c,f,g,q,J D E⟩
    .refine .inl ⟨c, d, f, l, fun e => ?_, g, i, q, p⟩
     subst e;exact t ((F.below A g B).symm.trans (F.below j g C))
  .exact .inr (mixed hb ha h2 u fun k=>t k.symm)
  .exact .inr (mixed ha hb u h2 t)
  .exact absurd (F.uR m (F.HX a v ha.symm u) (fun e=>by subst e;omega) (F.HX b v hb.symm h2) (fun e=>by subst e;omega)) t
 .rintro (⟨c, d, f, l, ne, g, i, q, p⟩ | ⟨c, f, g, q, P⟩)
  .refine ⟨c, d, (F.VF c v f g).1, (F.VF d v l i).1, fun k => ?_⟩
   have h3:=F.yj f g q k;obtain⟨y,s,L⟩:=h3.1.last ne;rw[i]at s;injection s with s;subst s;have Q:=(F.VF c v f g).2;rcases(F.MF L m).2 with h|h
   .subst h;omega
   .omega
  .cases N : up v with
   |none=>exact absurd N P
   |some p=>
    have M:=F.VF v p m N;refine⟨c,p,(F.VF c v f g).1,M.1.symm,fun k=>?_⟩;have h3:=F.yj f g q k;have Q:=(F.VF c v f g).2;rcases(F.MF h3.1 h3.2).2 with h|h
    .subst h;omega
    .omega
end Fo
end Go.Fw
namespace Go.Fw
def isE (a b x y:Nat):Prop:=x=a/\y=b\/x=b/\y=a
namespace Fo
variable {n : Nat} {es : List Pr} {num : Nat → Nat} {up : Nat → Option Nat} {hd : Nat → Nat}
def link (F:Fo n es num up) (H:My n es num up hd) {α:Type} (of:Nat->Nat->α) (d:∀x y,of x y=of y x) (f:∀v a b,xA es v a->xA es v b->Cn (wo v) es a b->of v a=of v b):
  ∀(k x y:Nat),num x<=k->xA es x y->num y<num x->∃u,up (hd x)=some u/\of x y=of (hd x) u:=by
 intro k
 induction k with
 |zero=>intro x y s h2 h3;omega
 |succ k t=>
  intro x y s h2 h3;have g:=(h2.lt F.uJ).1;have hA:=F.HX y x h2.symm h3;obtain⟨u,c,z⟩:=hA.last (fun e=>by subst e;omega);have h:=F.VF x u g c;have j:=(h.1.lt F.uJ).1;have r:of x y=of x u:=f x y u h2 h.1.symm (F.uR g hA (fun e=>by subst e;omega) (.one c) (fun e=>by subst e;omega));by_cases q:C6 es num up u x
  .have hh := H.on x u g c q
   obtain⟨w,l,m,_⟩:=F.Wi g c q;obtain⟨p,A,_⟩:=l.last m;have i:=F.VF u p j A;obtain⟨u',o,B⟩:=t u p QT i.1.symm i.2;rw[hh];refine⟨u',o,?_⟩;rw[r,d x u,<-B];refine f u x p h.1 i.1.symm ((F.lZ H h.1 i.1.symm).1 ?_);unfold lower;rw[if_neg QT,if_pos QT,hh]
  .rw [H.new x u g c q]
   exact⟨u,c,r⟩
def link2 (F:Fo n es num up) (H:My n es num up hd) {α:Type} (of:Nat->Nat->α) (c:∀x y,of x y=of y x) (d:∀v a b,xA es v a->xA es v b->Cn (wo v) es a b->of v a=of v b)
  {x y x' f:Nat} (h:xA es x y) (h':xA es x' f) (e:hd (lower num x y)=hd (lower num x' f)):of x y=of x' f:=by
 have key:∀{x y:Nat},xA es x y->∃u,up (hd (lower num x y))=some u/\of x y=of (hd (lower num x y)) u:=by
  intro x y h;have:=F.DO h;unfold lower;split
  .rename_i q;exact F.link H of c d (num x) x y (J4 _) h q
  .obtain ⟨u, g, h2⟩ := F.link H of c d (num y) y x (J4 _) h.symm QT
   exact⟨u,g,by rw[c,h2]⟩
 obtain⟨u,g,h2⟩:=key h;obtain⟨u',h3,i⟩:=key h';rw[<-e,g]at h3;injection h3 with h3;subst h3;rw[h2,i,e]
end Fo
def zh {n:Nat} {es:List Pr} (f:I7 n es):∀(v:Nat),v<n->∃h∈Ju n es,Xb es h v:=by
 intro v
 induction v using Nat.strongRecOn with
 |ind v c=>
  intro d;by_cases q:∀u,u<v->¬Xb es u v
  .exact⟨v,jS.2 ⟨d,q⟩,Xb.refl es v⟩
  .obtain⟨u,a,b⟩:∃u,u<v/\Xb es u v:=by
    refine mS fun k=>q fun u a b=>k ⟨u,a,b⟩
   obtain⟨h,e,h2⟩:=c u a QT;exact⟨h,e,h2.trans b⟩
def wW {n:Nat} {es:List Pr} {a b:Nat} (ha:a∈Ju n es) (hb:b∈Ju n es) (h:Xb es a b):a=b:=by
 have c:=(jS.1 ha).2 b;have h2:=(jS.1 hb).2 a;rcases zX a b with q|q|q
 .exact absurd h (h2 q)
 .exact q
 .exact absurd h.symm (c q)
def xk (n:Nat) (es:List Pr):(Ju n es).Nodup:=by
 unfold Ju;exact Em F5 SJ
end Go.Fw
namespace Go.Fw
section
open Go.Proofs
variable {h:AHeap} {i:Nat} {v:Value} {xs:LF}
def GI.store (g:GI h v xs) (a:WF h) (hi:i<xs.length) (x:Int):∃h',aStore Tryz.prog h 3 (.pointer (some (elemAddr v i))) (.int .i64 x)=some h'/\GI h' v (xs.set i x)/\WF h'/\(∀f,Le f h->tQ f v->Le f h')/\(∀b o,h.own b=some o->blk v≠some b->h'.own b=some o):=by
 obtain⟨p,⟨rfl,q⟩|⟨id,c,cap,rfl,j,k,l⟩⟩:=g
 .omega
 .have m : xs.length <= c.length := by have := congrArg List.length k; rw [Ja, oY, yA] at this; omega
  have st:=Qr (P:=Tryz.prog) (t:=3) (x:=.int .i64 x) Ik zd j (off:=i) QT rfl rfl;refine⟨h.put id (.cells (c.set i (.int .i64 x))),?_,⟨by simp[oY],.inr ⟨id,_,cap,YX,AHeap.zm _ _ _,?_,by simpa using l⟩⟩,a.put _ (a.lt j),fun f n af=>n.put _ (af id rfl),fun b o hb d=>?_⟩
  .simp only[Tl,Co,Qs];exact st
  .rw[uZ,qm,aaV,<-Ko,<-k,uZ]
  .rw[AHeap.Dz _ _ _ _ (fun e=>d (by rw[e];rfl))];exact hb
end
section
attribute [local irreducible] Ax YH XZ Uk KO KN KX KE VK DK Q7 dK W9
open Go.Proofs
variable {F m n:Nat} {g h h':AHeap} {v:Value} {xs:LF}
def alloc35 (h:AHeap):aAlloc Tryz.prog h 59=some (.pointer (some ⟨h.next,0,none⟩),h.alloc (.cells [.slice none 0 0])):=rfl
def alloc39 (h:AHeap):aAlloc Tryz.prog h 49=some (.pointer (some ⟨h.next,0,none⟩),h.alloc (.cells [.slice none 0 0])):=rfl
def newVar (hw:WF h) {t:TypeId} {d:TypeDesc} {z x:Value} (ha:∀g:AHeap,aAlloc Tryz.prog g t=some (.pointer (some ⟨g.next,0,none⟩),g.alloc (.cells [z]))) (e:Tryz.prog.underlying t=some d) (hs:JO Tryz.prog t=1) (f:x.cells=#[x]) (i:x.oneCell'=true):
  ∃a b,aAlloc Tryz.prog h t=some (.pointer (some ⟨h.next,0,none⟩),a)/\aStore Tryz.prog a t (.pointer (some ⟨h.next,0,none⟩)) x=some b/\Le h b/\WF b/\b.own h.next=some (.cells [x]):=by
 obtain⟨a,j,l1,w1,c⟩:=mV hw [z]
 have k:h.own h.next=none:=(Le.refl h).next hw (J4 _)
 refine⟨a,_,by rw[ha,j],Qr e hs c YX f i,l1.put _ k,w1.put _ (w1.lt c),AHeap.zm _ _ _⟩
def az {a:Addr} (b:a.spot=none->a.block≠F):(h.kill F).read a=h.read a:=by
 unfold AHeap.read;cases hs:a.spot with
 |none=>simp only[AHeap.pY h F a.block (b hs)]
 |some _=>rfl
def RS.kill {h:AHeap} {v:Value} {vs:List Value} {F:Nat} (r:RS h v vs) (hb:blk v≠some F):RS (h.kill F) v vs:=by
 refine⟨r.sl,fun i x f=>?_⟩;have g:=r.get i x f;obtain⟨a,c,rfl,hs⟩:=r.sl;obtain⟨a,rfl⟩:=yL.1 (hs (by have:=(bH.1 f).1;omega));rw[Tl]at g ⊢;rw[az];exact g;intro d;obtain⟨b,o,s⟩:=a;simp only[Co]at d ⊢;subst d;intro e;subst e;exact hb rfl
def RL.killI (r:RL IJ h v xs) (hb:blk v≠some F):RL IJ (h.kill F) v xs:=by
 obtain⟨vs,r,a,b⟩:=r;exact⟨vs,r.kill hb,a,b⟩
def Le.Fq (e:Le h h') (F:Nat) (o:Uw):Le (h.kill F) ((h'.put F o).kill F):=⟨e.ext,fun i a hi=>by
 by_cases c:i=F
 .subst c;rw[AHeap.IV]at hi;cases hi
 .rw[AHeap.pY _ _ _ c]at hi ⊢;rw[AHeap.Dz _ _ _ _ c];exact e.own _ _ hi⟩
def Le.CP (e:Le g h) (n:g.own F=Option.none) (o:Uw):Le g ((h.put F o).kill F):=⟨e.ext,fun i a hi=>by
 have c:i≠F:=fun e=>by subst e;rw[n]at hi;cases hi
 rw[AHeap.pY _ _ _ c,AHeap.Dz _ _ _ _ c];exact e.own _ _ hi⟩
def build41 {a b:Value} (ha:vW a n) (hb:vW b m):aBuild Tryz.prog 122 [(0,a),(1,b)]=some (.agg #[a,b]):=by
 obtain⟨_,_,rfl,_⟩:=ha;obtain⟨_,_,rfl,_⟩:=hb;kernel_rfl
def ql (n:Nat) (es web:List Pr) (L:LF):List FM:=
 (grpsM (qL n (fun u=>(QG n web).getD u false) L) es web es.length).map fun g=>⟨g.2,LW (fun u=>(QG n web).getD u false) g.2⟩
def EB (W0:Ac) (v wv:Value) (G:GM) (web:List Pr) (h:AHeap) (hg:GR h v G) (hw:PR h wv web) (hn:web.length<=1000):
  AC Tryz.prog W0 96 [v,wv] h fun x h'=>Le h h'/\∃lv e,x=.tuple #[lv,.int .i64 e]/\
   ((¬xO G/\lv=.slice none 0 0/\e=20)\/(xO G/\¬Ra G.es web/\lv=.slice none 0 0/\e=2)\/
    (xO G/\Ra G.es web/\e=0/\∃L,Sr G.n.toNat (fun u=>(QG G.n.toNat web).getD u false) G.es L/\FL h' lv (ql G.n.toNat G.es web L))):=by
 have aT:=hg;obtain⟨gn,es⟩:=G
 obtain⟨ev,rfl,hp⟩:=hg.open
 refine AC.vE ⟨Tryz.func96,rfl,xr⟩ Tryz.ntmps96 Tryz.results96 fun c4=>?_;simp only[xq,Nat.reduceAdd];obtain⟨h1,b1,D,ep,-,lA⟩:=WY (n:=gn) c4 hp
 generalize h.next=B at*
 have c5:=lA h1 (Le.refl _);simp only[Ud,Nat.reduceLT,↓reduceIte,Nat.reduceEqDiff,reduceCtorEq,b1,c5.1];refine dK.intro pK ⟨Zj,rfl,xr⟩ (qG W0 _ _ h1 (aT.le D)) ?_;rintro x h2 er ⟨⟨bb,rfl,bF⟩,s⟩;cases bb with
 |false=>
  refine yq ?_;exact⟨D.trans s,_,_,rfl,.inl ⟨(fun hr=>by cases bF.2 hr),rfl,rfl⟩⟩
 |true=>
 have hr:=bF.1 rfl;have h0:0<=gn:=hr.n0;obtain⟨n,rfl⟩:=RT h0;have en:(n:Int)<=200:=hr.n1;have eo:es.length<=594:=hr.len;have hR:=hr.si;have c6:=lA h2 s;simp only[Ud,Nat.reduceLT,↓reduceIte,Nat.reduceEqDiff,reduceCtorEq,c6.1];refine dK.intro pK ⟨Tryz.func134,rfl,xr⟩ (rC W0 _ wv _ web h2 (aT.le (D.trans s)) (hw.le (D.trans s)) hr hn) ?_;rintro x h3 da ⟨⟨ov,nv,bo,rfl,bI,bQ,ag⟩,ah⟩;obtain⟨et,h4,e4,db,N,ew,o4⟩:=newVar da alloc35 aO zd bI.1 bI.2;simp only[Ud,Nat.reduceLT,↓reduceIte,Nat.reduceEqDiff,reduceCtorEq,e4,db];cases bo with
 |false=>
  refine yq ?_;exact⟨((D.trans s).trans ah).trans N,_,_,rfl,.inr (.inl ⟨hr,(fun hk=>by cases bQ.2 hk),rfl,rfl⟩)⟩
 |true=>
 have bV:=bQ.1 rfl;obtain⟨bW,dd⟩:=ag rfl;have dj:=lA h4 ((s.trans ah).trans N);have ar:=dd.le Rr.Po N
 have lO:∀g,Le h4 g->aload Tryz.prog g 59 ⟨h3.next,0,none⟩=some nv:=fun g l=>by rw[wT aO rfl (l.own _ _ o4)];rfl
 have dk:=lO h4 (Le.refl _)
 generalize h3.next=O at*
 have bX:=((D.trans s).trans ah).trans N;simp only[Ud,Nat.reduceLT,↓reduceIte,Nat.reduceEqDiff,reduceCtorEq,dj.1,dk];have aX:(QG n web).length=n:=fZ n web;refine dK.intro pK ⟨Tryz.func135,rfl,xr⟩ (xI W0 _ nv n es (QG n web) h4 (aT.le bX) hr ar aX) ?_;rintro tv h5 dm ⟨L,hL,hT,dp⟩;have dr:=hL.sl.cells;obtain⟨ey,r,e6,dv,bY,aY,o6⟩:=newVar dm alloc39 Rm zd dr hL.one
 have lT:∀g,Le r g->aload Tryz.prog g 49 ⟨h5.next,0,none⟩=some tv:=fun g l=>by rw[wT Rm rfl (l.own _ _ o6)];rfl
 generalize h5.next=T at*
 have t:=dp.trans bY;have U:Le h1 r:=((s.trans ah).trans N).trans t;have av:=D.trans U;have b0:=hp.le av;have b2:=bW.le Rr.Po (N.trans t);have aB:=ar.le Rr.Po t;have dw:=hL.le Rr.IJ bY
 obtain⟨A,e7,w,H,o7⟩:∃A,r.alloc (.map [])=A/\Le r A/\WF A/\A.own r.next=some (.map []):=⟨_,rfl,(Le.refl r).alloc aY _,aY.alloc _,AHeap.vA _ _⟩
 obtain⟨h8,e8,aj,dx,o8⟩:=mV H []
 have b3:aBuildSlice Tryz.prog A 49 0 []=some (.slice (some ⟨A.next,0,none⟩) 0 0,h8):=by rw[<-e8];rfl
 have nM:r.own r.next=none:=(Le.refl r).next aY (J4 _)
 have nC:r.own A.next=none:=w.next H (J4 _)
 have aE:A.next≠r.next:=fun e=>by have:=H.lt o7;omega
 have b4:=lA h8 (U.trans (w.trans aj));have ll:=fun g=>hp.len g;simp only[Ud,Nat.reduceLT,↓reduceIte,Nat.reduceEqDiff,reduceCtorEq,e6,dv,e7,b3,vz,Co,Qs,b4.2.2,ll];have b5:=aj.own _ _ o7
 generalize r.next=M at*
 generalize A.next=C at*
 let on:Nat->Bool:=fun u=>(QG n web).getD u false;let fr:Pr->Nat->Int:=qL n on L;have R0:B9 r h8 M [] (grpsM fr es web 0):=⟨b5,rfl,fun j u g m=>by simp at m,fun j u m=>by simp at m,fun j k u u' b _ m=>by simp at m,fun j u m=>by simp at m,w.trans aj,nM⟩;have gC:GI h8 (.slice (some ⟨C,0,none⟩) 0 0) (sK (grpsM fr es web 0)):=GS.full o8 rfl xr;refine W9.intro (fun k V hh=>∃(i:Nat) (cv:Value) (us:List Value),k=es.length-i/\i<=es.length/\V=mkF [(6,ov),(7,.pointer (some ⟨O,0,none⟩)),(10,.func (.func 136) #[] #[.pointer (some ⟨B,0,none⟩),.pointer (some ⟨O,0,none⟩),.pointer (some ⟨T,0,none⟩)]),(11,.map (some M)),(12,cv),(38,ev),(39,.int .i64 es.length),(40,.int .i64 i)]/\
   B9 r hh M us (grpsM fr es web i)/\GI hh cv (sK (grpsM fr es web i))/\blk cv≠some M/\(∀(j:Nat) u b,us[j]?=some u->blk u=some b->blk cv≠some b)/\tQ r cv)
  es.length [(6,ov),(7,.pointer (some ⟨O,0,none⟩)),(10,.func (.func 136) #[] #[.pointer (some ⟨B,0,none⟩),.pointer (some ⟨O,0,none⟩),.pointer (some ⟨T,0,none⟩)]),(11,.map (some M)),(12,.slice (some ⟨C,0,none⟩) 0 0),(38,ev),(39,.int .i64 es.length),(40,.int .i64 (0:Nat))] vy
  ⟨0,_,[],rfl,KW _,rfl,R0,gC,by simpa[blk]using aE,fun j u b m=>by simp at m,fun b hb=>by simp[blk]at hb;subst hb;exact nC⟩ ?_
 clear R0 gC b5 b4 nC aE b3 o8 dx aj e8 o7 H w e7;rintro k V hh W ⟨i,cv,us,rfl,hi,rfl,R,gc,nc,dc,ac⟩;have P:=R.le;refine yq ?_;refine DK.intro (fun ht=>?_) (fun hf=>?_)
 rotate_left
 .have dy : es.length <= i := Yv hf
  obtain rfl:i=es.length:=QT;obtain⟨nd,b6,X,dz,aK⟩:=RW fr es web es.length;generalize ak:grpsM fr es web es.length=gs at*;have lc:=fun g=>gc.rl.zw g;have b8:(sK gs).length=gs.length:=by simp[sK]
  rw[b8]at lc;obtain⟨c0,mk,b9⟩:=mkFr hh gs.length QT;obtain⟨h9,e9,cc,dA,o9⟩:=mV W c0;rw[e9]at mk
  have nF:hh.own hh.next=none:=(Le.refl hh).next W (J4 _)
  generalize hh.next=F at*
  simp only[Ud,Nat.reduceLT,↓reduceIte,Nat.reduceEqDiff,reduceCtorEq,lc,mk];refine W9.intro (fun k V z=>∃(j:Nat) (cs:List Value),k=gs.length-j/\j<=gs.length/\V=mkF [(7,.pointer (some ⟨O,0,none⟩)),(11,.map (some M)),(16,.slice (some ⟨F,0,none⟩) gs.length gs.length),(73,cv),(74,.int .i64 gs.length),(75,.int .i64 j)]/\
    Le hh z/\z.own F=some (.cells cs)/\cs.length=gs.length*2/\∀(a:Nat) g,a<j->gs[a]?=some g->∃x y,cs[a*2]?=some x/\cs[a*2+1]?=some y/\PR (z.kill F) x g.2/\RL IJ (z.kill F) y (LW on g.2))
   gs.length [(7,.pointer (some ⟨O,0,none⟩)),(11,.map (some M)),(16,.slice (some ⟨F,0,none⟩) gs.length gs.length),(73,cv),(74,.int .i64 gs.length),(75,.int .i64 (0:Nat))] vy
   ⟨0,c0,rfl,KW _,rfl,cc,o9,b9,QT⟩ ?_
  clear e9 o9 dA cc mk b9 c0 h9;rintro k V z eA ⟨j,cs,rfl,hj,rfl,leq,oF,dB,Y⟩;refine yq ?_;refine DK.intro (fun ht=>?_) (fun hf=>?_)
  rotate_left
  .have dy : gs.length <= j := Yv hf
   refine yq ?_;refine⟨av.trans (P.trans leq),_,_,rfl,.inr (.inr ⟨hr,bV,rfl,L,hT,?_⟩)⟩;have dE:ql n es web L=gs.map fun g=>⟨g.2,LW on g.2⟩:=by rw[<-ak];rfl
   show FL z _ (ql n es web L);rw[dE];refine⟨cs,?_,fun a f ha=>?_⟩
   .have := CS.own (k := 2) (off := 0) (n := gs.length) (cap := gs.length) oF QT
    rw[sQ,xV QT]at this;simpa using this
   .rw [Rv] at ha
    cases d:gs[a]? with
    |none=>rw[d]at ha;cases ha
    |some g=>
     rw[d]at ha;simp at ha;subst ha;obtain⟨x,y,q1,q2,q3,q4⟩:=Y a g (by have:=(bH.1 d).1;omega) d;exact⟨x,y,q1,q2,q3.le (Le.js z F),q4.le Rr.IJ (Le.js z F)⟩
  have cd:j<gs.length:=Ub ht;clear ht;have Q:=XR cd;generalize gs[j]=g at Q;obtain⟨f,l⟩:=g;have cg:(sK gs)[j]?=some f:=by simp[sK,Q]
  have ck:=(bH.1 cg).1;have dH:=gc.rl.qW j ck;have cm:=(gc.rl.le Rr.IJ leq).HN j ck;rw[(bH.1 cg).2]at cm;have Rq:=R.up leq;obtain⟨u,dI,a1⟩:=R.look f;rw[q9 nd Q]at a1;have m:aLookup Tryz.prog z 110 (.map (some M)) (.int .i64 f) false=some u:=by rw[<-dI];simp only[aLookup,qS7,Ik,Rq.oM,R.oM]
  have gu:=a1.le leq;have dL:=lO z (t.trans (P.trans leq));have cr:I7 n l:=fun p hp=>hR p (aK _ (Jb Q) p hp);have cx:l.length<=1000:=by have:=X _ (Jb Q);simp at this;omega
  have dM:∀k:IntKind,aIndexAddr Tryz.prog 118 (.slice (some ⟨F,0,none⟩) gs.length gs.length) (.int k j)=some (.pointer (some ⟨F,j*2,none⟩)):=fun k=>by
   have h1:(j:Int)<(gs.length:Int):=QT;simp[aIndexAddr,qS21,AB,h1,H9,Co]
  have Xt:=zq W0 u nv n l (QG n web) z gu.pr (aB.le Rr.Po (P.trans leq)) cr aX cx;simp only[Ud,Nat.reduceLT,↓reduceIte,Nat.reduceEqDiff,reduceCtorEq,dH,cm];refine rD (vu [0,1,2,3,5,6,8] (.ch 4 [2,3] (PO 7 [5,6] (PO 9 [7,8] (vu [10,11] (PO 12 [0,1,2,3,4,5,6,7,8,9,10,11] .done)))) (PO 7 [5,6] (.ch 4 [2,3] (PO 9 [7,8] (vu [10,11] (PO 12 [0,1,2,3,4,5,6,7,8,9,10,11] .done))) (PO 9 [7,8] (PO 4 [2,3] (vu [10,11] (PO 12 [0,1,2,3,4,5,6,7,8,9,10,11] .done)))))))) ?_;simp only[Ud,Nat.reduceLT,↓reduceIte,Nat.reduceEqDiff,reduceCtorEq,Nat.reduceBEq,rm,m,dL];refine⟨?_,?_,?_⟩
  all_goals
   refine N1.intro pK ⟨Tryz.func137,rfl,xr⟩ Xt ?_;rintro y hz wz ⟨hy,lz,ay⟩;have dQ:aLookup Tryz.prog hz 110 (.map (some M)) (.int .i64 f) false=some u:=by rw[<-m];simp only[aLookup,qS7,Ik,lz.own _ _ Rq.oM,Rq.oM]
   have dT:=stFr (lz.own _ _ oF) (show j*2+2<=cs.length by omega) (gu.pr.le lz) hy;have dV:Le hh (hz.put F (.cells ((cs.set (j*2) u).set (j*2+1) y))):=(leq.trans lz).put _ nF;have dW:=build41 gu.pr.sl hy.sl;simp only[Ud,Nat.reduceLT,↓reduceIte,Nat.reduceEqDiff,reduceCtorEq,Nat.reduceBEq,rm,dQ,dW,dM,dT,Gm j QT];refine cX (gs.length-(j+1)) [(7,.pointer (some ⟨O,0,none⟩)),(11,.map (some M)),(16,.slice (some ⟨F,0,none⟩) gs.length gs.length),(73,cv),(74,.int .i64 gs.length),(75,.int .i64 (j+1:Nat))] QT vy
    ⟨j+1,(cs.set (j*2) u).set (j*2+1) y,rfl,cd,rfl,dV,AHeap.zm _ _ _,by simpa using dB,fun a g ha d=>?_⟩
   have cE:blk y≠some F:=fun hb=>by have:=ay F hb;rw[oF]at this;cases this
   by_cases e:a=j
   .subst e
    rw[Q]at d;injection d with d;subst d;refine⟨u,y,by rw[v8,if_neg QT,v8,if_pos rfl,if_pos QT],by rw[v8,if_pos rfl,if_pos (by simp;omega)],a1.pr.le ((leq.trans lz).CP nF _),?_⟩;refine RL.killI (F:=F) ?_ cE;have h1:=(hy.killI cE).le Rr.IJ (h':=(hz.put F (.cells ((cs.set (a*2) u).set (a*2+1) y))).kill F) ((Le.refl hz).Fq F _);exact h1.le Rr.IJ (Le.js _ F)
   .obtain ⟨x', y', q1, q2, q3, q4⟩ := Y a g QT d
    exact⟨x',y',by rw[v8,if_neg QT,v8,if_neg QT];exact q1,by rw[v8,if_neg QT,v8,if_neg QT];exact q2,q3.le (lz.Fq F _),q4.le Rr.IJ (lz.Fq F _)⟩
 have S:i<es.length:=Ub ht;clear ht;have I:=XR S;generalize es[i]=p at I;have dY:=Jb I;obtain⟨p1,p2,p3⟩:=hR p dY;have cM:(ofM es web)[i]?=some (decide (p∈web)):=by simp[ofM,I]
 have aM:i<(ofM es web).length:=by rw[EF];exact S
 have ec:=b0.le P;have ad:=hp.addr (k:=.i64) i S;have ld:=ec.load I;obtain⟨eB,A,e7,cQ,w,H,o7⟩:=bS W p
 have eC:r.own hh.next=none:=P.next W (J4 _)
 have a6:hh.own hh.next=none:=(Le.refl hh).next W (J4 _)
 have c:=P.trans w;have oA:∀k:IntKind,aIndexAddr Tryz.prog 59 ov (.int k (i:Int))=some (.pointer (some (elemAddr ov i))):=fun k=>bW.U6 i aM;have oL:aload Tryz.prog A 4 (elemAddr ov i)=some (.bool (decide (p∈web))):=by
  rw[(b2.le Rr.Po c).Qh i aM,(bH.1 cM).2]
 have R7:=R.up w;have Z:=gc.le w
 have eD:hh.next≠M:=fun e=>by have:=R.oM;rw[<-e,a6]at this;cases this
 have ed:blk cv≠some hh.next:=fun e=>GS.Rf gc e a6
 have eE:∀(j:Nat) u,us[j]?=some u->blk u≠some hh.next:=fun j u m e=>by
  have ak:∃q,(grpsM fr es web i)[j]?=some q:=⟨_,XR (by rw[<-R.len];exact(bH.1 m).1)⟩;obtain⟨q,z⟩:=ak;exact GS.Rf (R.gp j u q m z) e a6
 generalize hh.next=E at*
 by_cases c1:p∈web
 .rw [decide_eq_true c1] at oL
  rw[<-MD I c1]at R7 Z;simp only[Ud,Nat.reduceLT,↓reduceIte,Nat.reduceEqDiff,reduceCtorEq,ad,ld,e7,cQ,oA,oL,Gm i QT];exact cX (es.length-(i+1)) [(6,ov),(7,.pointer (some ⟨O,0,none⟩)),(10,.func (.func 136) #[] #[.pointer (some ⟨B,0,none⟩),.pointer (some ⟨O,0,none⟩),.pointer (some ⟨T,0,none⟩)]),(11,.map (some M)),(12,cv),(38,ev),(39,.int .i64 es.length),(40,.int .i64 (i+1:Nat))] QT vy
   ⟨i+1,cv,us,rfl,S,rfl,R7,Z,nc,dc,ac⟩
 rw[decide_eq_false c1]at oL;simp only[Ud,Nat.reduceLT,↓reduceIte,Nat.reduceEqDiff,reduceCtorEq,ad,ld,e7,cQ,oA,oL];have cY:=lA A (U.trans c);refine dK.intro pK ⟨Tryz.func136,rfl,xr⟩ (Nb W0 ev nv tv n es (QG n web) L B O T i p A (b0.le c) (aB.le Rr.Po c) (dw.le Rr.IJ c) hR aX hT.len cY.2.1 cY.2.2 (lO A (t.trans c)) (lT A c) I QT QT) ?_;rintro x h9-⟨rfl,rfl⟩;obtain⟨nd,b6,X,dz,aK⟩:=RW fr es web i;have aQ:=Hh (fr:=fr) I c1;have K:=Mu (grpsM fr es web i) (fr p i) p;have c3:=SO (f:=fr p i) b6;have cx:=Ey (fr p i) _ _ X;have ee:qL n (fun u=>(QG n web).getD u false) L p i=fr p i:=rfl;rw[ee];generalize ak:grpsM fr es web i=gs at*;generalize fr p i=f at*;have b8:(sK gs).length<=1000:=by simp[sK];omega
 obtain⟨u,m,gu⟩:=R7.look f;have lu:=fun g=>gu.pr.len g;have a7:∀(j:Nat) a b,us[j]?=some a->blk a=some b->∃o,h9.own b=some o:=fun j a b ha hb=>by
  have z:∃q,gs[j]?=some q:=⟨_,XR (by rw[<-R7.len];exact(bH.1 ha).1)⟩;obtain⟨q,z⟩:=z;exact yu.1 (GS.Rf (R7.gp j a q ha z) hb)
 by_cases c2:lstG gs f=[]
 .have ef : ∀ g, aLen Tryz.prog g 22 u = some (.int .i64 0) := fun g => by rw [lu g, c2]; rfl
  have eg:f∉sK gs:=fun hm=>c3.1 hm c2;rw[if_neg eg]at K;obtain⟨al,g4,g5,e4,e5,a8,w5,l4,eh,aq⟩:=Z.push H f QT;obtain⟨l5,a5⟩:=eh r c ac;have R5:B9 r g5 M us gs:=R7.keep l5 fun b o ho hb=>(aq b o ho (by
   rcases hb with rfl|⟨j,a,ha,hb⟩
   .exact nc
   .exact dc j a b ha hb)).1
  obtain⟨ei,eF⟩:=aq E _ o7 ed;have bj:=(aq M _ R7.oM nc).2;obtain⟨u2,ej,q4,q5,q6,bm,eu,eb,ea,em,Rn,wn,ek,kq⟩:=R5.push w5 f p (by rw[c2];simp);have br:=E3 ei;rw[<-K]at a8;have ku:∀(j:Nat) a b,us[j]?=some a->blk a=some b->blk al≠some b:=fun j a b ha hb=>by
   obtain⟨o,ho⟩:=a7 j a b ha hb;exact(aq b o ho (dc j a b ha hb)).2
  have bx:GI q6 al (sK (addG gs f p)):=GS.kept a8 fun b o hb ho=>(kq b o ho (fun e=>bj (by rw[<-e];exact hb)) (fun j a ha J=>ku j a b ha J hb)).2.1;simp only[Ud,Nat.reduceLT,↓reduceIte,Nat.reduceEqDiff,reduceCtorEq,m,ef,e4,e5,eu,br,eb,ea,em,Gm i QT];refine cX (es.length-(i+1)) [(6,ov),(7,.pointer (some ⟨O,0,none⟩)),(10,.func (.func 136) #[] #[.pointer (some ⟨B,0,none⟩),.pointer (some ⟨O,0,none⟩),.pointer (some ⟨T,0,none⟩)]),(11,.map (some M)),(12,al),(38,ev),(39,.int .i64 es.length),(40,.int .i64 (i+1:Nat))] QT vy
   ⟨i+1,al,bm,rfl,S,rfl,?_⟩
  rw[aQ];refine⟨Rn,bx,bj,fun j a b ha hb hc=>?_,a5⟩;obtain⟨o,ho⟩:=yu.1 (GS.Rf a8 hc);exact(kq b o ho (fun e=>bj (by rw[<-e];exact hc)) (fun j a ha J=>ku j a b ha J hc)).2.2 j a ha hb
 .have hz:(((lstG gs f).length:Nat):Int)≠0:=by
   have:(lstG gs f).length≠0:=fun e=>c2 (LB.1 e);omega
  rw[if_pos (c3.2 c2)]at K;obtain⟨u2,ej,q4,q5,q6,bm,eu,eb,ea,em,Rn,wn,ek,kq⟩:=R7.push H f p QT;obtain rfl:u=u2:=by rw[m]at eu;injection eu
  have br:=E3 o7;have bx:GI q6 cv (sK (addG gs f p)):=by
   rw[K];exact GS.kept Z fun b o hb ho=>(kq b o ho (fun e=>nc (by rw[<-e];exact hb)) (fun j a ha J=>dc j a b ha J hb)).2.1
  simp only[Ud,Nat.reduceLT,↓reduceIte,Nat.reduceEqDiff,reduceCtorEq,m,lu,eq_false hz,br,eb,ea,em,Gm i QT];refine cX (es.length-(i+1)) [(6,ov),(7,.pointer (some ⟨O,0,none⟩)),(10,.func (.func 136) #[] #[.pointer (some ⟨B,0,none⟩),.pointer (some ⟨O,0,none⟩),.pointer (some ⟨T,0,none⟩)]),(11,.map (some M)),(12,cv),(38,ev),(39,.int .i64 es.length),(40,.int .i64 (i+1:Nat))] QT vy
   ⟨i+1,cv,bm,rfl,S,rfl,?_⟩
  rw[aQ];refine⟨Rn,bx,nc,fun j a b ha hb hc=>?_,ac⟩;obtain⟨o,ho⟩:=yu.1 (GS.Rf Z hc);exact(kq b o ho (fun e=>nc (by rw[<-e];exact hc)) (fun j a ha J=>dc j a b ha J hc)).2.2 j a ha hb
end
section
open Go.Proofs
def Vh (web l:List Pr) (n:Nat):wi:=(List.range n).filter fun v=>mR web (v:Int)&&mR l (v:Int)
variable {a b v:Value} {fs:List FM} {g h:AHeap} {i m n:Nat}
def FL.len (r:FL h v fs) (g:AHeap):aLen Tryz.prog g 118 v=some (.int .i64 fs.length):=by
 obtain⟨cs,c,_⟩:=r;obtain⟨a,k,rfl,_⟩:=c.sl;simp[aLen]
def Ch (v:Value) (i:Nat):Addr:=elemAddr v (i*2)
def FL.addr (r:FL h v fs) {k:IntKind} (i:Nat) (hi:i<fs.length):aIndexAddr Tryz.prog 118 v (.int k i)=some (.pointer (some (Ch v i))):=by
 obtain⟨cs,c,_⟩:=r;obtain⟨a,k,rfl,hs⟩:=c.sl;obtain⟨a,rfl⟩:=yL.1 (hs QT);have b:(i:Int)<(fs.length:Int):=QT;simp[aIndexAddr,b,Ch,elemAddr,H9]
def ff0 (a:Addr):aField Tryz.prog 122 (.pointer (some a)) 0=some (.pointer (some (Co a 0))):=rfl
def ff1 (a:Addr):aField Tryz.prog 122 (.pointer (some a)) 1=some (.pointer (some (Co a 1))):=rfl
def FL.load (r:FL h v fs) {f:FM} (hf:fs[i]?=some f):
  ∃a b,(∀g,Le h g->aload Tryz.prog g 122 (Ch v i)=some (.agg #[a,b]))/\PR h a f.bG/\RL IJ h b f.Xt:=by
 obtain⟨cs,c,d⟩:=r;obtain⟨a,b,n,o,p,q⟩:=d i f hf;refine⟨a,b,fun g l=>?_,p,q⟩;have s:=l.read (c.get _ _ n);have t:=l.read (c.get _ _ o);obtain⟨m,k,rfl,hs⟩:=c.sl;obtain⟨m,rfl⟩:=yL.1 (hs (by have:=(bH.1 hf).1;omega));have e:readN g (Ch (.slice (some m) fs.length k) i) 2=some [a,b]:=by
  refine AM [a,b] _ fun j x d=>?_
  match j with
  |0=>simp at d;subst d;simpa[Ch,Tl,Co]using s
  |1=>simp at d;subst d;simpa[Ch,Tl,Co,Lj]using t
  |j+2=>simp at d
 simp only[aload,AB,H9,e];rfl
def alloc41 (h:AHeap):aAlloc Tryz.prog h 122=some (.pointer (some ⟨h.next,0,none⟩),h.alloc (.cells [.slice none 0 0,.slice none 0 0])):=rfl
def new41' (hw:WF h) (ha:vW a n) (hb:vW b m):∃c h2,aAlloc Tryz.prog h 122=some (.pointer (some ⟨h.next,0,none⟩),c)/\aStore Tryz.prog c 122 (.pointer (some ⟨h.next,0,none⟩)) (.agg #[a,b])=some h2/\Le h h2/\WF h2/\h.own h.next=none/\h2.own h.next=some (.cells [a,b]):=by
 obtain⟨c,f,l1,w1,d⟩:=mV hw [.slice none 0 0,.slice none 0 0]
 have e:h.own h.next=none:=(Le.refl h).next hw (J4 _)
 have st:aStore Tryz.prog c 122 (.pointer (some ⟨h.next,0,none⟩)) (.agg #[a,b])=some (c.put h.next (.cells [a,b])):=by
  obtain⟨_,_,rfl,_⟩:=ha;obtain⟨_,_,rfl,_⟩:=hb;simp[aStore,d,Value.cells,H9,putCells];exact⟨rfl,rfl⟩
 exact⟨c,_,by rw[alloc41,f],st,l1.put _ e,w1.put _ (w1.lt d),e,AHeap.zm _ _ _⟩
def OJ {C:Nat} (c:g.own C=some (.cells [a,b])):aload Tryz.prog g 122 ⟨C,0,none⟩=some (.agg #[a,b])/\aload Tryz.prog g 22 ⟨C,0,none⟩=some a/\aload Tryz.prog g 49 ⟨C,1,none⟩=some b:=by
 refine⟨?_,?_,?_⟩
 .rw[HU AB rfl H9 c YX];rfl
 .rw[wT pS rfl c];rfl
 .rw[wT Rm rfl c];rfl
end
end Go.Fw
namespace Go.Fw
open Go.Proofs
def iy (p:Pr) (v:Int):Mw p v=true↔p.1=v\/p.2=v:=by simp[Mw]
def j6 (web:List Pr) (v:Nat):mR web (v:Int)=true↔HF web v:=by simp[mR,HF,iy]
def LR {n:Nat} {web:List Pr} {u:Nat} (a:u<n):(QG n web).getD u false=mR web (u:Int):=by
 have:mR web (u:Int)=decide (HF web u):=by
  cases h:mR web (u:Int)with
  |true=>exact(decide_eq_true ((j6 web u).1 h)).symm
  |false=>exact(decide_eq_false (fun k=>by rw[(j6 web u).2 k]at h;cases h)).symm
 rw[this,YR (by rw[fZ];exact a)];simp[QG]
section
variable {n : Nat} {es web : List Pr} {L : List Int}
abbrev vi (n:Nat) (web:List Pr):Nat->Bool:=fun u=>(QG n web).getD u false
end
end Go.Fw
namespace Go.Fw
section
open Go.Proofs
variable {n:Nat} {α:Type}
def feet_eq {es web l:List Pr} (hR:I7 n es) (e:∀p∈l,p∈es):LW (vi n web) l=aW (Vh web l n):=by
 refine LK _ _ (Iq (xg _)) ?_ fun x=>?_
 .rw [aW, UB, Vh]
  exact List.Pairwise.imp (fun h=>by omega) (qL251 _ Be)
 .rw [LW, RZ, uh]
  simp only[jz,CO,H0,sX,aW,Vh,T8,vq,SH];constructor
  .rintro ⟨p, b, f, c⟩
   obtain⟨j,k,m⟩:=hR p (e p b);have a:x=p.1\/x=p.2:=by simpa using f
   have hb:0<=x/\x<(n:Int):=by rcases a with rfl|rfl<;>omega
   obtain⟨v,rfl⟩:=RT hb.1;rw[TK,vi,LR QT]at c;exact⟨v,⟨QT,c,by rw[mR,oZ];exact⟨p,b,by rw[iy];rcases a with h|h<;>omega⟩⟩,rfl⟩
  .rintro ⟨v, ⟨g, i, h2⟩, rfl⟩
   rw[mR,oZ]at h2;obtain⟨p,b,d⟩:=h2;rw[iy]at d;exact⟨p,b,by simp;rcases d with h|h<;>omega,by rw[TK,vi,LR g];exact i⟩
def fullU (fr:Pr->Nat->Int) (es web:List Pr) (k:Int):Nat->List Pr
  |0=>[]
  |i+1=>match es[i]? with
    |some p=>if p∈web then fullU fr es web k i else if fr p i=k then fullU fr es web k i++[p]else fullU fr es web k i
    |none=>fullU fr es web k i
def Q0 (gs:List Gr) (f k:Int) (p:Pr):lstG (addG gs f p) k=if f=k then lstG gs k++[p]else lstG gs k:=by
 induction gs with
 |nil=>simp only[addG,lstG];split<;>simp
 |cons g gs b=>
  obtain⟨a,l⟩:=g;by_cases c:a=f
  .subst c;simp only[addG,if_true,lstG];split<;>simp
  .simp only [addG, if_neg c, lstG, b]
   by_cases c2:a=k
   .subst c2;simp[Hn c]
   .simp[c2]
def Ty (fr:Pr->Nat->Int) (es web:List Pr) (k:Int) (i:Nat):lstG (grpsM fr es web i) k=fullU fr es web k i:=by
 induction i with
 |zero=>rfl
 |succ i a=>
  cases b:es[i]? with
  |none=>simp only[grpsM,fullU,b];exact a
  |some p=>
   by_cases c:p∈web
   .simp only[grpsM,fullU,b,c,if_true];exact a
   .simp only[grpsM,fullU,b,c,if_false];rw[Q0,a]
def xu (fr:Pr->Nat->Int) (es web:List Pr) (k:Int) (q:Pr) (i:Nat):q∈fullU fr es web k i↔∃j,j<i/\es[j]?=some q/\q∉web/\fr q j=k:=by
 induction i with
 |zero=>simp[fullU]
 |succ i b=>
  have split:(∃j,j<i+1/\es[j]?=some q/\q∉web/\fr q j=k)↔(∃j,j<i/\es[j]?=some q/\q∉web/\fr q j=k)\/(es[i]?=some q/\q∉web/\fr q i=k):=by
   constructor
   .rintro ⟨j, d, h⟩
    by_cases e:j=i
    .subst e;exact .inr h
    .exact .inl ⟨j,QT,h⟩
   .rintro (⟨j, d, h⟩ | h)
    .exact⟨j,QT,h⟩
    .exact⟨i,QT,h⟩
  rw[split,<-b];cases a:es[i]? with
  |none=>simp[fullU,a]
  |some p=>
   simp only[fullU,a,Xz];by_cases c:p∈web
   .simp only [c, if_true]
    exact⟨.inl,fun h=>h.elim id fun⟨e,h,_⟩=>absurd (by rw[<-e];exact c) h⟩
   .simp only [c, if_false]
    by_cases c2:fr p i=k
    .simp only [c2, if_true, uK, Rb]
     exact⟨fun h=>h.elim .inl fun e=>.inr ⟨e.symm,by rw[e];exact c,by rw[e];exact c2⟩,fun h=>h.elim .inl fun⟨e,_⟩=>.inr e.symm⟩
    .simp only [c2, if_false]
     exact⟨.inl,fun h=>h.elim id fun⟨e,_,h⟩=>absurd (by rw[e];exact h) c2⟩
def CU (F:List Pr->α) (gs:List Gr) (a:(sK gs).Nodup):gs.map (fun g=>F g.2)=(sK gs).map fun k=>F (lstG gs k):=by
 rw[sK,UD];refine vG fun g hg=>?_;obtain⟨i,hi⟩:=OH.1 hg;obtain⟨k,l⟩:=g;show F l=F (lstG gs k);rw[q9 a hi]
end
def Nk (gs:List Gr) (f k:Int) (p:Pr):k∈sK (addG gs f p)↔k∈sK gs\/k=f:=by
 induction gs with
 |nil=>simp[addG,sK]
 |cons g gs b=>
  obtain⟨a,l⟩:=g;simp only[addG];split
  .rename_i h; subst h
   simp only[sK,Kj,aH];constructor
   .intro h;exact .inl h
   .rintro (h | h)
    .exact h
    .exact .inl h
  .simp only [sK, Kj, aH] at b ⊢
   rw[b,or_assoc]
def MG (fr:Pr->Nat->Int) (es web:List Pr) (k:Int) (i:Nat):k∈sK (grpsM fr es web i)↔∃(j:Nat) (p:Pr),j<i/\es[j]?=some p/\p∉web/\fr p j=k:=by
 induction i with
 |zero=>simp[grpsM,sK]
 |succ i f=>
  cases a:es[i]? with
  |none=>
   have:grpsM fr es web (i+1)=grpsM fr es web i:=by simp[grpsM,a]
   rw[this,f];constructor
   .rintro⟨j,p,b,h2⟩;exact⟨j,p,QT,h2⟩
   .rintro ⟨j, p, b, h2, h3⟩
    refine⟨j,p,?_,h2,h3⟩;by_cases e:j=i
    .subst e;rw[a]at h2;cases h2
    .omega
  |some q=>
   by_cases c:q∈web
   .rw [MD a c, f]
    constructor
    .rintro⟨j,p,b,h2⟩;exact⟨j,p,QT,h2⟩
    .rintro ⟨j, p, b, h2, h3, d⟩
     refine⟨j,p,?_,h2,h3,d⟩;by_cases e:j=i
     .subst e;rw[a]at h2;injection h2 with h2;subst h2;exact absurd c h3
     .omega
   .rw [Hh a c, Nk, f]
    constructor
    .rintro (⟨j, p, b, h2⟩ | rfl)
     .exact⟨j,p,QT,h2⟩
     .exact⟨i,q,QT,a,c,rfl⟩
    .rintro ⟨j, p, b, h2, h3, d⟩
     by_cases e:j=i
     .subst e;rw[a]at h2;injection h2 with h2;subst h2;exact .inr d.symm
     .exact .inl ⟨j,p,QT,h2,h3,d⟩
variable {L:LF} {es ps:List Pr} {n u w:Nat} {on:Nat->Bool}
def zU (fr:Pr->Nat->Int) (es web:List Pr) (k:Int):∀i,(fullU fr es web k i).Sublist (es.take i)
 |0=>by simp[fullU]
 |i+1=>by
  have a:=zU fr es web k i;simp only[fullU];cases b:es[i]? with
  |none=>simp only[];rw[xV (by rw[xz]at b;omega)];exact a.trans (List.take_sublist _ _)
  |some p=>
   have:es.take (i+1)=es.take i++[p]:=by rw[Ox,b];rfl
   simp only[this];split
   .exact a.trans (Lx _ _)
   .split
    .exact a.append (aag _)
    .exact a.trans (Lx _ _)
def aR {web l:List Pr} {x:Int}:x∈aW (Vh web l n)↔∃v:Nat,v<n/\x=(v:Int)/\mR web (v:Int)=true/\mR l (v:Int)=true:=by
 simp only[aW,Vh,T8,sX,vq,SH];constructor
 .rintro⟨v,⟨a,h2,h3⟩,rfl⟩;exact⟨v,a,rfl,h2,h3⟩
 .rintro⟨v,a,rfl,h2,h3⟩;exact⟨v,⟨a,h2,h3⟩,rfl⟩
def LM {v:Int}:mR ps v=true↔∃p∈ps,Mw p v=true:=by simp[mR]
def kG (a:Sr n on es L) (b:u<n) (hw:w<n) (c:on u=false) (d:on w=false):L.getD u 0=L.getD w 0↔Cn on es u w:=by
 rw[<-a.same u w b hw c d];obtain⟨k,_,e,_⟩:=a.off u b c;obtain⟨f,_,h2,_⟩:=a.off w hw d;rw[OO,OO,e,h2];simp
end Go.Fw
namespace Go.Fw
open Go.Proofs
attribute [local instance] Classical.propDecidable
def Yg (rs:CA):Nat->wi:=fun v=>(rs.getD v []).map Int.toNat
structure Kk (n:Nat) (es:List Pr) (rs:CA):Prop where
 len:rs.length=n
 perm:∀v,v<n->(rs.getD v []).Perm ((Oc n es).getD v [])
section
variable {n : Nat} {es : List Pr} {rs : List (List Int)}
def Kk.nat (b:I7 n es) (G:Kk n es rs) {v:Nat} {x:Int} (a:x∈rs.getD v []):v<n/\∃w:Nat,x=(w:Int)/\w<n/\xA es v w:=by
 by_cases c:v<n
 .have d := (G.perm v c).mem_iff.1 a
  obtain⟨w,rfl,hw⟩:=iz b d;exact⟨c,w,rfl,hw,(M8 b v w).1 d⟩
 .rw[List.getD,Tz (by rw[G.len];omega)]at a;cases a
def Kk.mem (a:I7 n es) (G:Kk n es rs) {v w:Nat}:w∈Yg rs v↔xA es v w:=by
 rw[Yg,T8];constructor
 .rintro ⟨x, b, rfl⟩
  obtain⟨_,w,rfl,_,h⟩:=G.nat a b;exact h
 .intro h
  have c:=(h.lt a).1;exact⟨(w:Int),(G.perm v c).mem_iff.2 ((M8 a v w).2 h),rfl⟩
def Kk.back (a:I7 n es) (G:Kk n es rs) (v:Nat):(Yg rs v).map (fun(x:Nat)=>(x:Int))=rs.getD v []:=by
 rw[Yg,UD]
 conv=>rhs;rw[<-aac (rs.getD v [])]
 refine vG fun x b=>?_;obtain⟨_,w,rfl,_⟩:=G.nat a b;rfl
def Kk.Tw (c:I7 n es) (ha:BD es) (G:Kk n es rs):ZJ n (Yg rs):=by
 refine⟨fun v=>?_,fun v w h=>(((G.mem c).1 h).lt c).1,fun v w h=>(G.mem c).2 ((G.mem c).1 h).symm,fun v h=>CZ c ((G.mem c).1 h)⟩;by_cases f:v<n
 .have nd : (rs.getD v []).Nodup := (G.perm v f).nodup_iff.2 (gY.2 ((vM es c ha v).imp fun h e => by omega))
  rw[Yg];rw[gY,UB];refine(gY.1 nd).imp_of_mem fun{a b} g h2 d e=>d ?_;obtain⟨_,x,rfl,_⟩:=G.nat c g;obtain⟨_,y,rfl,_⟩:=G.nat c h2;rw[TK,TK]at e;rw[e]
 .rw[Yg,List.getD,Tz (by rw[G.len];omega)];exact Aq
def Kk.Gi (G:Kk n es rs) {v:Nat} (a:v<n):(rs.getD v []).length=((Oc n es).getD v []).length:=(G.perm v a).length_eq
end
def qK {l:wi} (nd:l.Nodup) {j:Nat} (a:j<l.length):nx l l[j]=l[(j+1)%l.length]'(JH _ QT):=by
 have e:l=l.take j++l[j]::l.drop (j+1):=by
  rw[qL240];exact(aV j l).symm
 have g:l[j]∉l.take j:=fun h=>by
  obtain⟨i,hi,d⟩:=iV.1 h;rw[Ja]at hi;rw[List.getElem_take]at d;rw[gY,cR]at nd;exact nd i j QT a QT d
 have k:nx l l[j]=(l.drop (j+1)++(l.take j++[l[j]])).headD 0:=by
  have:=BR (b:=l.drop (j+1)) g;rw[<-e]at this;exact this
 rw[k];by_cases c:j+1<l.length
 .have : l.drop (j + 1) = l[j + 1] :: l.drop (j + 2) := BG c
  rw[this,E9,OR];congr 1;rw[bR c]
 .have m : j + 1 = l.length := QT
  rw[BH QT,IT];have f:(j+1)%l.length=0:=by rw[m,Nat.mod_self]
  cases j with
  |zero=>simp only[f,AP,IT,OR]
  |succ j=>
   cases l with
   |nil=>simp at a
   |cons x l=>simp only[f,CG,E9,OR,List.getElem_cons_zero]
end Go.Fw
namespace Go.Fw
section
attribute [local instance] Classical.propDecidable
open Go.Proofs
structure Lb where
 bG:List Pr
 Xt:LF
 fits:wi
instance:Inhabited Lb:=⟨⟨[],[],[]⟩⟩
structure DB where
 on:List Bool
 K8:ai
 left:List Lb
abbrev qt (on:List Bool):Nat->Bool:=fun u=>on.getD u false
def Ex (n:Nat) (f:wi):List Bool:=(List.range n).map fun v=>decide (v∈f)
def TV (K8:ai) (Xt:LF) (f:Nat):Bool:=Xt.all fun v=>decide (v.toNat∈K8.getD f [])
def fg (K8:ai) (Xt:LF) (a:wi):wi:=a.filter (TV K8 Xt)
def qj (left:List Lb) (i:Nat):Nat:=(left.getD i default).fits.length
def bestK (left:List Lb):Nat->Nat
 |0=>0
 |i+1=>if qj left i<qj left (bestK left i)then i else bestK left i
def Cm (start:Nat) (st:LF×wi) (v by_:Nat):LF×wi:=if v≠start/\st.1.getD v 0<0 then(st.1.set v (by_:Int),st.2++[v])else st
def ye (start:Nat) (st:LF×wi) (e:Pr):LF×wi:=if e.1=(start:Int)then Cm start st e.2.toNat start else if e.2=(start:Int)then Cm start st e.1.toNat start else st
def Hs (n start:Nat) (bG:List Pr):LF×wi:=bG.foldl (ye start) (List.replicate n (-1),[])
def j7 (start:Nat) (st:LF×wi) (v:Nat) (row:LF):LF×wi:=row.foldl (fun st w=>Cm start st w.toNat v) st
def bfsM (rows:CA) (start:Nat) (s0:LF×wi):Nat->LF×wi
  |0=>s0
  |i+1=>match(bfsM rows start s0 i).2[i]? with
    |some v=>j7 start (bfsM rows start s0 i) v (rows.getD v [])
    |none=>bfsM rows start s0 i
def Ev (rows:CA) (on:List Bool) (start:Nat) (s0:LF×wi) (i:Nat):Bool:=
 match(bfsM rows start s0 i).2[i]? with
 |some v=>qt on v
 |none=>true
def traceM (fr:LF) (start:Nat):Nat->Nat->wi
 |0,_=>[start]
 |k+1,v=>if v=start then[start]else traceM fr start k (fr.getD v 0).toNat++[v]
def iY (n:Nat) (rows:CA) (on:List Bool) (p:Lb):wi:=
  if p.Xt.length<2 then[]else
  let start:=(p.Xt.headD 0).toNat;let s0:=Hs n start p.bG
  match(List.range (n+1)).find? (Ev rows on start s0)with
  |some i=>match(bfsM rows start s0 i).2[i]? with
    |some v=>traceM (bfsM rows start s0 i).1 start n v
    |none=>[]
  |none=>[]
def r9 (f:wi) (i j:Nat):wi:=(List.range ((j+f.length-i)%f.length+1)).map fun t=>f.getD ((i+t)%f.length) 0
def OU (f:wi) (v:Nat):Nat:=f.findIdx fun x=>decide (x=v)
def wm (way:wi):wi:=(way.drop 1).take (way.length-2)
def Mh (way:wi):Nat:=way.getD (way.length-1) 0
def BW (f way:wi):wi:=r9 f (OU f (way.headD 0)) (OU f (Mh way))++(wm way).reverse
def uC (f way:wi):wi:=r9 f (OU f (Mh way)) (OU f (way.headD 0))++wm way
def XP (n:Nat) (way:wi):Nat->LF
 |0=>List.replicate n (-1)
 |i+1=>(XP n way i).set (way.getD i 0) (i:Int)
def Cf (pl:LF) (e:Pr):Bool:=
 let a:=pl.getD e.1.toNat 0;let b:=pl.getD e.2.toNat 0;decide (a<0)||decide (b<0)||(decide (a-b≠1)&&decide (b-a≠1))
def im (n:Nat) (bG:List Pr) (way:wi):List Pr:=bG.filter (Cf (XP n way way.length))
def NO (l:LF) (x:Int):LF:=if x∈l then l else l++[x]
def Vv (l:LF):LF:=l.foldl NO []
noncomputable def ZB (n:Nat) (on:Nat->Bool) (es:List Pr):LF:=(List.range n).map fun v=>((((List.range n).find? fun u=>decide (Cn on es u v)).getD 0:Nat):Int)
noncomputable def vQ (n:Nat) (on:List Bool) (es:List Pr):List Lb:=(grpsM (qL n (qt on) (ZB n (qt on) es)) es [] es.length).map fun g=>⟨g.2,Vv (jz (qt on) g.2),[]⟩
def XH (on:List Bool) (way:wi):List Bool:=way.foldl (fun o v=>o.set v true) on
def z8 (K8:ai) (f g:Nat) (q:Lb):Lb:=if f∈q.fits then{q with fits:=fg K8 q.Xt (q.fits++[g])}else q
noncomputable def PN (n:Nat) (rows:CA) (S:DB):Option DB:=
 let a:=bestK S.left S.left.length;let p:=S.left.getD a default
 if p.fits.length=0 then none else
 let way:=iY n rows S.on p
 if way.length<2 then none else
 let f:=p.fits.headD 0;let g:=S.K8.length;let qZ:=S.K8.getD f [];let K8:=S.K8.set f (BW qZ way)++[uC qZ way];let on:=XH S.on way
 some ⟨on,K8,(S.left.eraseIdx a).map (z8 K8 f g)++(vQ n on (im n p.bG way)).map fun q=>{q with fits:=fg K8 q.Xt (p.fits++[g])}⟩
end
end Go.Fw
