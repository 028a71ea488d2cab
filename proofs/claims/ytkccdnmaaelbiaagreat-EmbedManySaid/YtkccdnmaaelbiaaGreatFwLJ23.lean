/- A text. -/
import Derived.Test.YtkccdnmaaelbiaaGreatFwLJ22
set_option linter.all false
set_option maxRecDepth 99999
set_option maxHeartbeats 9999999
namespace Go.Fw
section
attribute [local instance] Classical.propDecidable
attribute [local irreducible] Kp MQ lU rS KO KN KX KE VK Kl ZJ TC gU
open Go.Proofs
variable {B O n:Nat} {G:GM} {S:kR} {bv fv iv lv v:Value} {cs us ws:List Value} {es:List Pr} {g h:AHeap} {left:List wW} {r:Nat->II} {rows:AM}
theorem Nb (d:LA) (v:Value) (n:Nat) (es:List Pr) (h:AHeap) (hg:GR h v ⟨(n:Int),es⟩) (e:bX ⟨(n:Int),es⟩):
  AC Tryz.prog d 51 [v] h fun x h'=>RR (zW n es) x/\Le h h':=by
 have c:=hg
 obtain⟨ev,rfl,u⟩:=hg.open
 refine AC.vE ⟨Tryz.func51,rfl,WY⟩ Tryz.ntmps51 Tryz.results51 fun i=>?_;simp only[Br,Nat.reduceAdd];obtain⟨o,p,a,w,-,q⟩:=r8 (n:=(n:Int)) i u
 generalize h.next=B at*
 have b:=q o (Le.refl _);by_cases r:(n:Int)<3
 .have j : decide ((n : Int) < 3) = true := decide_eq_true r
  refine Sk (bG p @Ii @Ip.eq_1 @BS b.2.1 j) ?_;exact⟨RR.f fun T=>by have:=T.n3;omega,a⟩
 have j:decide ((n:Int)<3)=false:=decide_eq_false r;have h3:3<=n:=NH;refine Sk (rE p @Ii @Ip.eq_1 @BS b.2.1 b.1 j) ?_;refine TC.intro PJ ⟨Tryz.func64,rfl,WY⟩ (It d _ ⟨(n:Int),es⟩ o (c.le a) e) ?_;rintro pv s D ⟨gp,l4,-⟩;simp only[yY]at gp;have y:=gp.rl (Nn.RL Nn.RP);have k:=fun g=>y.fy g;have l:((Gx n es n).map kz).length=(Es n es).length:=by simp[Gx]
 rw[l]at k;have m:=q s l4;by_cases c1:((Es n es).length:Int)=1
 rotate_left
 .have d1 : decide (((Es n es).length : Int) = 1) = false := decide_eq_false c1
  refine Sk (Yb k @bne.eq_1.{0} d1) ?_
  grind [RR.f,zW.one,Le.trans]
 have d1:decide (((Es n es).length:Int)=1)=true:=decide_eq_true c1;have z:(Es n es).length=1:=NH;refine Sk (xU k @bne.eq_1.{0} d1 m.1) ?_
 refine TC.intro PJ ⟨Tryz.func46,rfl,WY⟩ (Cw d _ ⟨(n:Int),es⟩ s (c.le (a.trans l4))) ?_;rintro x E F ⟨l5,⟨A,_⟩|⟨_,G,rfl,t⟩⟩
 .exact absurd e A
 simp only[yY]at t;have C:=fun g=>t.len (P:=Tryz.prog) xF g;have H:=Uv e h3 z;refine Sk C ?_;refine⟨⟨_,rfl,?_⟩,(a.trans l4).trans l5⟩
 grind
noncomputable def embX (n:Nat) (es:List Pr):Option AM:=if 3*n<es.length+6 then none else embM n es
theorem MD {H:Nat->Nat->Prop} (hR:aV n es) (hA:D3 es) (D:QG (eN n es)) (I:Z8 n es H S) (h:OW es H=0):S.left=[]:=by
 rcases UK hR hA D 0 H S I NH with⟨a,-⟩|⟨b,c,a,-,h3⟩
 all_goals grind [runM]
theorem run_nil (h:S.left=[]):∀k,runM n rows k S=some S
 |0=>rfl
 |k+1=>by grind [runM.eq_2]
theorem lx.rlF {on:List Bool} {b d:Cs} (S:lx g h B O n rows bv fv iv lv us ws cs on b d left):RL (RL RP) h fv (b.map kz):=
 ⟨us,(GS.cs S.gF).rs,by grind [lx.uL],fun i x u a e=>by
  rw[BR]at a;cases c:b[i]? with
  |none=>grind
  |some f=>
   rw[c]at a;simp at a;subst a;exact(S.cF i u f e c).le Nn.RP S.le⟩
theorem face_bd {F:Cs} (G:vy n r F):∀f∈F,(∀x∈f,x<n)/\f.length<=n:=fun f hf=>by
 have a:∀x∈f,x<n:=fun x b=>G.Rl.lt _ _ (G.O.df G.Rl hf b);refine⟨a,?_⟩;have:=tf (G.O.nd f hf) (B:=List.range n) fun v c=>fR.2 (a v c)
 grind
theorem row_pos (a:zW n es) (hR:aV n es) {v:Nat} (b:v<n):0<((Zh n es).getD v []).length:=by
 obtain⟨w,hw⟩:=a.ne hR b;obtain⟨u,c,e⟩:=jf ((aU hR).2 ⟨w,hw⟩)
 grind [qG,Av.back]
theorem row_le {v:Nat} (b:v<n):((Zh n es).getD v []).length<=2*es.length:=by
 have a:v<(Zh n es).length:=by grind [Xq]
 rw[D4 a];exact bV n es _ (Eh a)
def Ux (h:AHeap) (v:Value) (G:GM):Prop:=∃ev,v=.agg #[.int .i64 G.n,ev]/\PR h ev G.es/\okc 2 ev
def Ux.gr (g:Ux h v G):GR h v G:=by
 obtain⟨ev,a,h2,-⟩:=g;exact⟨ev,a,h2⟩
theorem Ux.le {h h':AHeap} {v:Value} {G:GM} (g:Ux h v G) (l:Le h h'):Ux h' v G:=by
 obtain⟨ev,a,h2,h3⟩:=g;exact⟨ev,a,h2.le l,h3⟩
def Hw (G:GM) (h':AHeap) (a:Value) (e:Int):Prop:=
 (¬bX G/\e=20/\a=rW)\/(bX G/\¬zW G.n.toNat G.es/\e=60/\a=rW)\/
 (bX G/\zW G.n.toNat G.es/\embX G.n.toNat G.es=none/\¬XU G.n.toNat (eN G.n.toNat G.es)/\e=90/\a=rW)\/
 (bX G/\zW G.n.toNat G.es/\∃rs,embX G.n.toNat G.es=some rs/\Av G.n.toNat G.es rs/\Flat G.n.toNat (Xl rs)/\e=0/\RL (RL RP) h' a rs)
theorem Im (t:LA) (v:Value) (G:GM) (h:AHeap) (hg:Ux h v G):
  AC Tryz.prog t 19 [v] h fun x h'=>Le h h'/\∃rv e,x=.tuple #[rv,.int .i64 e]/\Hw G h' rv e:=by
 have z:=hg.gr;obtain⟨ev,rfl,N,hc⟩:=hg;obtain⟨gn,es⟩:=G;simp only at N;refine AC.vE ⟨zj,rfl,WY⟩ Tryz.ntmps19 Tryz.results19 fun Q=>?_;simp only[Br,Nat.reduceAdd];obtain⟨h1,b1,p,aJ,-,R⟩:=r8 (n:=gn) Q N
 generalize h.next=B1 at*
 have T:=R h1 (Le.refl _);refine Sk (XC b1 T.1) ?_;refine TC.intro PJ ⟨yo,rfl,WY⟩ (ak t _ _ h1 (z.le p)) ?_;rintro x h2 aK ⟨⟨U,rfl,i⟩,m⟩;cases U with
 |false=>
  refine Uy ?_;exact⟨p.trans m,_,_,rfl,.inl ⟨(fun d=>by grind),rfl,rfl⟩⟩
 |true=>
 have d:=i.1 rfl;clear i;have h0:0<=gn:=d.n0;obtain⟨n,rfl⟩:=HV h0;have aD:(n:Int)<=200:=d.n1;have aH:es.length<=594:=d.len;have hR:=d.GD;have hA:D3 es:=d.q9;have a:=p.trans m;refine Sk ((R h2 m).1) ?_;refine TC.intro PJ ⟨Tryz.func51,rfl,WY⟩ (Nb t _ n es h2 (z.le a) d) ?_;rintro x h3 aP ⟨⟨U,rfl,i⟩,j⟩;have fT:=R h3 (m.trans j);cases U with
 |false=>
  refine Uy ?_;exact⟨a.trans j,_,_,rfl,.inr (.inl ⟨d,(fun q=>by cases i.2 q),rfl,rfl⟩)⟩
 |true=>
 have l:=i.1 rfl;clear i;have aT:=l.n3;have lP:=fun g=>N.len g;have A:awrap .i64 (3*(n:Int))=3*(n:Int):=ie _ NH NH;have C:awrap .i64 (3*(n:Int)-6)=3*(n:Int)-6:=ie _ NH NH;by_cases c1:3*n<es.length+6
 .have d1 : decide ((es.length : Int) > 3 * (n : Int) - 6) = true := decide_eq_true NH
  simp only[HO,Nat.reduceLT,↓reduceIte,Nat.reduceEqDiff,reduceCtorEq,Ii,Di,Ip,BS,fT.2.1,fT.2.2,lP,A,C,d1];exact⟨a.trans j,_,_,rfl,.inr (.inr (.inl ⟨d,l,if_pos c1,aaO d l c1,rfl,rfl⟩))⟩
 have d1:decide ((es.length:Int)>3*(n:Int)-6)=false:=decide_eq_false NH;simp only[HO,Nat.reduceLT,↓reduceIte,Nat.reduceEqDiff,reduceCtorEq,Ii,Di,Ip,BS,fT.2.1,fT.2.2,fT.1,lP,A,C,d1];refine TC.intro PJ ⟨Tryz.func52,rfl,WY⟩ (Si t ev n es h3 (N.le (a.trans j)) hc d l) ?_;rintro x h4 w4 ⟨g4,B,O,bv,u,w,y,us,ws,cs,rfl,V,S4,Rg⟩;have I0:=Rg.start hR hA (L:=MF n (Qw n (sortP (ZH (zl n es)))) es) uY;have hX:embX n es=(runM n (Zh n es) es.length (RB n es)).map fun S=>xY n (Zh n es) S.Jv:=if_neg c1;have D:=l.Z7 hR;have E:OW es (Ei (zl n es))<=es.length:=M1 _ _;have F:=(a.trans j).trans V;refine Uy ?_;refine gU.intro (fun k fr W=>∃(S:kR) (H:Nat->Nat->Prop) (g:AHeap) (u w y:Value) (us ws cs:List Value),fr=mkF [(4,.pointer (some ⟨B,0,none⟩))]/\Z8 n es H S/\runM n (Zh n es) es.length (RB n es)=runM n (Zh n es) k S/\OW es H<=k/\
   lx g W B O n (Zh n es) bv u w y us ws cs S.on S.Jv S.Jv S.left/\Le g4 g)
  es.length [(4,.pointer (some ⟨B,0,none⟩))] fD
  ⟨RB n es,_,g4,u,w,y,us,ws,cs,rfl,I0,rfl,E,S4,Le.refl _⟩ ?_
 clear S4 I0 E w4;clear h4 u w y us ws cs;rintro k fr W aW ⟨S,H,g,u,w,y,us,ws,cs,rfl,I,b,hu,o,X⟩;have J:=sB B 5 NH;have lL:=o.lenL;by_cases c:S.left=[]
 .have Y : decide ((S.left.length : Int) > 0) = false := by rw [c]; rfl
  refine Sk (xU J o.f.l5 lL Y) ?_;rw[run_nil c]at b;obtain⟨r,Z,fl,hm⟩:=I.done c;obtain⟨k1,k2⟩:=aaN d l Z fl hm;have K:=face_bd Z;have aX:=I.My;refine TC.intro PJ ⟨Tryz.func54,rfl,WY⟩ (pY t B n bv _ u w y (Zh n es) S.Jv W o.f (o.cB.le (Nn.RL Nn.RP) o.le) o.rlF (Xq n es) (fun v hv=>⟨row_pos l hR hv,by have:=row_le (es:=es) hv;omega⟩) (fun f hf=>⟨(K f hf).1,by have:=(K f hf).2;omega⟩) NH NH NH (L9 d l Z hm)) ?_;rintro x h9 w9 ⟨hx,l9⟩;refine Uy ?_;refine⟨((F.trans X).trans o.le).trans l9,x,_,rfl,.inr (.inr (.inr ⟨d,l,_,?_,k1,k2,rfl,hx⟩))⟩
  grind
 .have Y : decide ((S.left.length : Int) > 0) = true := by grind [List.length_pos_iff]
  obtain⟨k',rfl⟩:∃k',k=k'+1:=by
   cases k<;>grind [MD]
  refine Sk (xU J o.f.l5 lL Y) ?_;refine TC.intro PJ ⟨Tryz.func53,rfl,WY⟩ (lay_any t o d D I c) ?_;rintro x h9 w9 ⟨g9,M,l9,s⟩;rw[runM,if_neg c]at b;rcases s with⟨q1,rfl⟩|⟨S',ad,ag,aj,al,aq,ar,q1,rfl,av⟩
  .rw [q1] at b
   refine Uy ?_;have ay:¬XU n (eN n es):=by grind [Z8.lay]
   refine⟨((F.trans X).trans M).trans l9,_,_,rfl,.inr (.inr (.inl ⟨d,l,?_,ay,rfl,rfl⟩))⟩
   grind
  .rw [q1] at b
   refine Uy ?_;obtain⟨P,I',a1⟩:∃P,Z8 n es P S'/\OW es P<OW es H:=by grind [Z8.lay]
   exact tn k' [(4,.pointer (some ⟨B,0,none⟩))] (pM _) fD ⟨S',P,g9,ad,ag,aj,al,aq,ar,rfl,I',b,NH,av,X.trans M⟩
end
end Go.Fw
namespace Go.Fw
open Go.Proofs
attribute [local irreducible] Jz JL vq cQ
def okB (n:Int) (es:List Pr) (i:Nat):Bool:=match es[i]? with
 |some p=>decide (0<=p.1)&&decide (p.1<p.2)&&decide (p.2<n)&&(i==0||match es[i-1]? with|some q=>decide (Nz q p<0)|none=>true)
 |none=>true
theorem V5 {n:Int} {es:List Pr} (a:0<=n) (b:n<=200) (c:es.length<=594) (d:(List.range es.length).all (okB n es)=true):bX ⟨n,es⟩:=by
 refine⟨a,b,c,fun i hi p f=>?_⟩;have:=qH.1 d i (fR.2 hi)
 grind [okB]
attribute [local instance] Classical.propDecidable in
theorem tT {n:Nat} {es:List Pr} {rs:AM} (a:bX ⟨(n:Int),es⟩) (G:Av n es rs) (b:0<n) (c:∀v,v<n->Pu es 0 v) (hf:n+(IN n rs).length=es.length+2):XU n (eN n es):=
 Vg a.GD a.q9 G ((En a.GD a.q9 G).1 ((vS a.GD a.q9 G b c).2 fun _=>hf))
attribute [local instance] Classical.propDecidable in
theorem XI {n:Nat} {es:List Pr} (b:bX ⟨(n:Int),es⟩) (h3:3<=n) (a:es≠[]) (c:∀v,v<n->Pu es 0 v) (hb:(vq n es).length=1):zW n es:=
 (Uv b h3 (FQ b.GD NH a c).2).1 hb
attribute [local instance] Classical.propDecidable in
theorem fJ {n:Nat} {es:List Pr} (b:bX ⟨(n:Int),es⟩) (h3:3<=n) (a:es≠[]) (c:∀v,v<n->Pu es 0 v) (hb:JL n es≠[]):¬zW n es:=fun T=>
 hb ((qW b h3 (FQ b.GD NH a c).2).2 T)
def LO:List Pr:=[(0,1),(0,3),(1,2),(2,3)]
def m5E:List Pr:=[(0,2),(0,3),(0,4),(1,2),(1,3),(1,4),(2,3),(2,4),(3,4)]
def k5L:List Pr:=(0,1)::m5E
def E9:List Pr:=[(0,3),(0,4),(0,5),(1,3),(1,4),(1,5),(2,3),(2,4),(2,5)]
def p3E:List Pr:=[(0,1),(1,2)]
def Rj:List Pr:=[(0,1),(0,2),(1,2),(2,3),(2,4),(3,4)]
def c4R:bX ⟨((4:Nat):Int),LO⟩:=V5 WY WY WY iw
def m5R:bX ⟨((5:Nat):Int),m5E⟩:=V5 WY WY WY iw
def k5R:bX ⟨((5:Nat):Int),k5L⟩:=V5 WY WY WY iw
def k33R:bX ⟨((6:Nat):Int),E9⟩:=V5 WY WY WY iw
def p3R:bX ⟨((3:Nat):Int),p3E⟩:=V5 WY WY WY iw
def bowR:bX ⟨((5:Nat):Int),Rj⟩:=V5 WY WY WY iw
theorem c4con:∀v,v<4->Pu LO 0 v:=fun v a=>by
 have c1:Pu LO 0 1:=vm (.inl WY)
 match v,a with
 |0,_=>grind [Pu.refl]
 |1,_=>exact c1
 |2,_=>exact tM c1 (.inl WY)
 |3,_=>exact vm (.inl WY)
theorem m5con:∀v,v<5->Pu m5E 0 v:=fun v a=>by
 have c2:Pu m5E 0 2:=vm (.inl WY)
 match v,a with
 |0,_=>grind [Pu.refl]
 |1,_=>exact tM c2 (.inr WY)
 |2,_=>exact c2
 |3,_=>exact vm (.inl WY)
 |4,_=>exact vm (.inl WY)
theorem k5con:∀v,v<5->Pu k5L 0 v:=fun v a=>by
 match v,a with
 |0,_=>grind [Pu.refl]
 |1,_=>exact vm (.inl WY)
 |2,_=>exact vm (.inl WY)
 |3,_=>exact vm (.inl WY)
 |4,_=>exact vm (.inl WY)
theorem k33con:∀v,v<6->Pu E9 0 v:=fun v b=>by
 have a:Pu E9 0 3:=vm (.inl WY)
 match v,b with
 |0,_=>grind [Pu.refl]
 |1,_=>exact tM a (.inr WY)
 |2,_=>exact tM a (.inr WY)
 |3,_=>exact a
 |4,_=>exact vm (.inl WY)
 |5,_=>exact vm (.inl WY)
theorem p3con:∀v,v<3->Pu p3E 0 v:=fun v a=>by
 have c1:Pu p3E 0 1:=vm (.inl WY)
 match v,a with
 |0,_=>grind [Pu.refl]
 |1,_=>exact c1
 |2,_=>exact tM c1 (.inl WY)
theorem bowcon:∀v,v<5->Pu Rj 0 v:=fun v a=>by
 have c2:Pu Rj 0 2:=vm (.inl WY)
 match v,a with
 |0,_=>grind [Pu.refl]
 |1,_=>exact vm (.inl WY)
 |2,_=>exact c2
 |3,_=>exact tM c2 (.inl WY)
 |4,_=>exact tM c2 (.inl WY)
def c4T:zW 4 LO:=XI c4R WY WY c4con iw
def m5T:zW 5 m5E:=XI m5R WY WY m5con iw
def k5T:zW 5 k5L:=XI k5R WY WY k5con iw
def k33T:zW 6 E9:=XI k33R WY WY k33con iw
def p3T:¬zW 3 p3E:=fJ p3R WY WY p3con iw
def bowT:¬zW 5 Rj:=fJ bowR WY WY bowcon iw
def c4Ro:AM:=[[1,3],[0,2],[1,3],[0,2]]
def m5Ro:AM:=[[2,3,4],[4,3,2],[0,4,1,3],[0,2,1,4],[0,3,1,2]]
def c4G:Av 4 LO c4Ro:=N9 rfl iw
def m5G:Av 5 m5E m5Ro:=N9 rfl iw
theorem c4F:(IN 4 c4Ro).length=2:=by rw[X9 c4R c4G (hs:=[((0,1),4),((0,3),4)]) iw];grind
theorem m5F:(IN 5 m5Ro).length=6:=by rw[X9 m5R m5G (hs:=[((0,2),3),((0,3),3),((0,4),3),((1,2),3),((1,3),3),((1,4),3)]) iw];grind
def c4P:XU 4 (eN 4 LO):=tT c4R c4G WY c4con (by rw[c4F];decide)
def m5P:XU 5 (eN 5 m5E):=tT m5R m5G WY m5con (by rw[m5F];decide)
theorem Jy {n:Nat} {es:List Pr} {E:Nat->II} (hR:aV n es) (a:∀v w,w∈E v->v<n/\w<n) (h:∀v,v<n->∀w,w<n->(w∈eN n es v↔w∈E v)):∀v w,w∈eN n es v↔w∈E v:=fun v w=>by grind [vD,Jp.lt]
theorem k5N:¬XU 5 (eN 5 k5L):=fun h=>k5_no (vT 5) ((XU.qE (Jy k5R.GD (fun v w q=>by grind [pZ]) iw)).1 h)
theorem k33N:¬XU 6 (eN 6 E9):=fun h=>k33_no (vT 6) ((XU.qE (Jy k33R.GD (fun v w q=>by grind [Vb]) iw)).1 h)
section
variable {G : GM} {h : AHeap} {rv : Value} {e : Int}
theorem Hw.no (I:Hw G h rv e) (b:bX G) (c:¬zW G.n.toNat G.es):e=60/\rv=rW:=by
 rcases I with⟨a,_⟩|⟨_,_,h2⟩|⟨_,a,_⟩|⟨_,a,_⟩
 all_goals grind
theorem Hw.bad (I:Hw G h rv e) (a:bX G) (f:zW G.n.toNat G.es) (c:¬XU G.n.toNat (eN G.n.toNat G.es)):e=90/\rv=rW:=by
 rcases I with⟨b,_⟩|⟨_,b,_⟩|⟨_,_,_,_,h2⟩|⟨_,_,rs,_,b,h2,_⟩
 .grind
 .grind
 .exact h2
 .have d : 0 <= G.n := a.n0
  obtain⟨n,es⟩:=G;obtain⟨n,rfl⟩:=HV d;exact absurd (Vg a.GD a.q9 b h2) c
theorem Hw.XK (I:Hw G h rv e) (b:bX G) (c:zW G.n.toNat G.es) (d:XU G.n.toNat (eN G.n.toNat G.es)):∃rs,embX G.n.toNat G.es=some rs/\Av G.n.toNat G.es rs/\Flat G.n.toNat (Xl rs)/\e=0/\RL (RL RP) h rv rs:=by
 rcases I with⟨a,_⟩|⟨_,a,_⟩|⟨_,_,_,h2,_⟩|⟨_,_,h2⟩
 all_goals grind
end
end Go.Fw
namespace Go.Fw
section
attribute [local irreducible] Kp MQ lU rS KO KN KX KE VK Kl ZJ TC gU
attribute [local irreducible] Jz JL vq cQ
open Go.Proofs
variable {a i j:Nat}
def GY (a j:Nat):List Pr:=(List.range (j-(a+1))).map fun t=>((a:Int),((a+1+t:Nat):Int))
def E3 (i:Nat):List Pr:=(List.range i).flatMap fun a=>GY a 5
def tN (h:a+1<=j):GY a (j+1)=GY a j++[((a:Int),(j:Int))]:=by
 unfold GY;rw[show j+1-(a+1)=(j-(a+1))+1 by omega,QD,b7];simp;omega
theorem SB (i:Nat):E3 (i+1)=E3 i++GY i 5:=by grind [E3,List.range_succ]
theorem GV (h:j<=5):(GY a j).length<=5:=by grind [GY]
theorem dH (h:i<=5):(E3 i).length<=25:=by
 match i,h with
 |0,_=>decide
 |1,_=>decide
 |2,_=>decide
 |3,_=>decide
 |4,_=>decide
 |5,_=>decide
theorem five_b (h:i<=5) (a:j<=5):(E3 i++GY i j).length+1<=100000:=by grind [GV,dH]
theorem XE (O:LA) (h:AHeap):AC Tryz.prog O 30 [] h fun x h'=>Ux h' x ⟨5,k5L⟩/\Le h h':=by
 refine AC.vE ⟨Tryz.func30,rfl,WY⟩ Tryz.ntmps30 Tryz.results30 fun l=>?_;simp only[Br,Nat.reduceAdd];obtain⟨G,P,l1,w1,Q⟩:=Tt l [.int .i64 0,.slice none 0 0];have H:=Lo h;rw[P]at H
 have S:h.own h.next=none:=(Le.refl h).next l (vT _)
 obtain⟨h2,h3,T,I,l3,U,nX,J⟩:=GX.new w1 5
 have t:G.next≠h.next:=fun e=>by grind
 generalize h.next=R at*
 generalize G.next=X at*
 refine Sk (xU H @Zp T I) ?_;have m:=l1.trans l3;have o:=l3.own _ _ Q;have u:h.own X=none:=by
  cases c:h.own X<;>grind [Le.own]
 refine gU.intro (fun k fr g=>∃(i:Nat) (ev:Value),k=5-i/\i<=5/\fr=mkF [(0,.pointer (some ⟨R,0,none⟩)),(1,.pointer (some ⟨X,0,none⟩)),(5,.int .i64 (i:Nat))]/\GX g X 5 ev (E3 i)/\Le h g/\Z2 h ev/\g.own R=some (.cells [.int .i64 0,.slice none 0 0])/\blk ev≠some R)
  5 [(0,.pointer (some ⟨R,0,none⟩)),(1,.pointer (some ⟨X,0,none⟩)),(5,.int .i64 (0:Nat))] fD ⟨0,_,rfl,IE _,rfl,J,m,fun b hb=>by simp[blk]at hb,o,by simp[blk]⟩ ?_
 clear J U o l3 m I;clear h3;rintro k fr g v ⟨i,ev,rfl,hi,rfl,f,w,K,oR,d⟩;refine Uy ?_;refine Kl.intro (fun p=>?_) (fun hf=>?_)
 .have q : i < 5 := CC (n := 5) p
  clear p;have aw:=Tw i NH;simp only[HO,Nat.reduceLT,↓reduceIte,Nat.reduceEqDiff,reduceCtorEq,aw];refine gU.intro (fun k fr s=>∃(j:Nat) (ev:Value),k=5-j/\i+1<=j/\j<=5/\fr=mkF [(0,.pointer (some ⟨R,0,none⟩)),(1,.pointer (some ⟨X,0,none⟩)),(2,.int .i64 (i:Nat)),(3,.int .i64 (j:Nat)),(5,.int .i64 (i:Nat))]/\GX s X 5 ev (E3 i++GY i j)/\Le h s/\Z2 h ev/\s.own R=some (.cells [.int .i64 0,.slice none 0 0])/\blk ev≠some R)
   (5-(i+1)) [(0,.pointer (some ⟨R,0,none⟩)),(1,.pointer (some ⟨X,0,none⟩)),(2,.int .i64 (i:Nat)),(3,.int .i64 (i+1:Nat)),(5,.int .i64 (i:Nat))] fD ⟨i+1,ev,rfl,vT _,NH,rfl,by simpa[GY]using f,w,K,oR,d⟩ ?_
  clear f w K oR d v;clear g ev;rintro k fr s y ⟨j,ev,rfl,z,V,rfl,f,L,M,oR,d⟩;refine Uy ?_;refine Kl.intro (fun p=>?_) (fun hf=>?_)
  .have r : j < 5 := CC (n := 5) p
   clear p;obtain⟨v',h4,h5,h6,W,A,Y,N,w6,l4,Z,k6⟩:=f.push' y ((i:Int),(j:Int)) (five_b hi V);obtain⟨l6,a6⟩:=Z h L u M;obtain⟨B,C⟩:=k6 R _ oR (uV t) d;have D:=Tw j NH;have Gl:=f.ld;rw[Bx,<-tN z]at N;have E:aBuild Tryz.prog 38 [(0,.int .i64 (i:Int)),(1,.int .i64 (j:Int))]=some (UI ((i:Int),(j:Int))):=rfl;refine Sk (xL @Di @Ip.eq_1 @BS Gl.2.2 E W A Y D) ?_;exact tn (5-(j+1)) [(0,.pointer (some ⟨R,0,none⟩)),(1,.pointer (some ⟨X,0,none⟩)),(2,.int .i64 (i:Nat)),(3,.int .i64 (j+1:Nat)),(5,.int .i64 (i:Nat))] (JS r) fD ⟨j+1,v',rfl,NH,r,rfl,N,l6,a6,B,C⟩
  .have F : 5 <= j := vp (n := 5) hf
   obtain rfl:j=5:=NH;rw[<-SB]at f;simp only[HO,Nat.reduceLT,↓reduceIte,Nat.reduceEqDiff,reduceCtorEq,aw];exact tn (5-(i+1)) [(0,.pointer (some ⟨R,0,none⟩)),(1,.pointer (some ⟨X,0,none⟩)),(5,.int .i64 (i+1:Nat))] (JS q) fD ⟨i+1,ev,rfl,q,rfl,f,L,M,oR,d⟩
 have F:5<=i:=vp (n:=5) hf;obtain rfl:i=5:=NH;have A:E3 5=k5L:=by decide
 rw[A]at f;have sl:=f.gp.pr.sl;have st:=DG (n:=5) (ev:=ev) oR sl.one sl.cell;have ld:aload Tryz.prog (g.put R (.cells [.int .i64 5,ev])) 24 ⟨R,0,none⟩=some (.agg #[.int .i64 5,ev]):=tY (AHeap.Y3 _ _ _) (by obtain⟨a,c,e,_⟩:=sl;exact⟨a,_,c,e⟩);simp only[HO,Nat.reduceLT,↓reduceIte,Nat.reduceEqDiff,reduceCtorEq,f.ld.1,st,ld];exact⟨⟨ev,rfl,(GS.put f.gp _ d).cs,GS.okc f.gp⟩,w.put _ S⟩
def OR (a j:Nat):List Pr:=(List.range j).map fun(t:Nat)=>((a:Int),3+(t:Int))
def Be (i:Nat):List Pr:=(List.range i).flatMap fun a=>OR a 3
theorem TR:OR a (j+1)=OR a j++[((a:Int),3+(j:Int))]:=by grind [OR,List.range_succ]
theorem iz (i:Nat):Be (i+1)=Be i++OR i 3:=by grind [Be,List.range_succ]
theorem six_b (h:i<=3) (a:j<=3):(Be i++OR i j).length+1<=100000:=by
 have b:(OR i j).length<=3:=by grind [OR]
 have h2:(Be i).length<=9:=by
  match i,h with
  |0,_=>decide
  |1,_=>decide
  |2,_=>decide
  |3,_=>decide
 grind
theorem six_any (N:LA) (h:AHeap):AC Tryz.prog N 31 [] h fun x h'=>Ux h' x ⟨6,E9⟩/\Le h h':=by
 refine AC.vE ⟨Tryz.func31,rfl,WY⟩ Tryz.ntmps31 Tryz.results31 fun l=>?_;simp only[Br,Nat.reduceAdd];obtain⟨F,O,l1,w1,P⟩:=Tt l [.int .i64 0,.slice none 0 0];have G:=Lo h;rw[O]at G
 have Q:h.own h.next=none:=(Le.refl h).next l (vT _)
 obtain⟨h2,h3,S,H,l3,T,nX,I⟩:=GX.new w1 6
 have t:F.next≠h.next:=fun e=>by grind
 generalize h.next=R at*
 generalize F.next=X at*
 refine Sk (xU G @Zp S H) ?_;have m:=l1.trans l3;have o:=l3.own _ _ P;have u:h.own X=none:=by
  cases c:h.own X<;>grind [Le.own]
 refine gU.intro (fun k fr g=>∃(i:Nat) (ev:Value),k=3-i/\i<=3/\fr=mkF [(0,.pointer (some ⟨R,0,none⟩)),(1,.pointer (some ⟨X,0,none⟩)),(5,.int .i64 (i:Nat))]/\GX g X 6 ev (Be i)/\Le h g/\Z2 h ev/\g.own R=some (.cells [.int .i64 0,.slice none 0 0])/\blk ev≠some R)
  3 [(0,.pointer (some ⟨R,0,none⟩)),(1,.pointer (some ⟨X,0,none⟩)),(5,.int .i64 (0:Nat))] fD ⟨0,_,rfl,IE _,rfl,I,m,fun b hb=>by simp[blk]at hb,o,by simp[blk]⟩ ?_
 clear I T o l3 m H;clear h3;rintro k fr g v ⟨i,ev,rfl,hi,rfl,f,w,J,oR,d⟩;refine Uy ?_;refine Kl.intro (fun p=>?_) (fun hf=>?_)
 .have q : i < 3 := CC (n := 3) p
  clear p;have aw:=Tw i NH;refine Uy ?_;refine gU.intro (fun k fr s=>∃(j:Nat) (ev:Value),k=3-j/\j<=3/\fr=mkF [(0,.pointer (some ⟨R,0,none⟩)),(1,.pointer (some ⟨X,0,none⟩)),(2,.int .i64 (i:Nat)),(5,.int .i64 (i:Nat)),(8,.int .i64 (j:Nat))]/\GX s X 6 ev (Be i++OR i j)/\Le h s/\Z2 h ev/\s.own R=some (.cells [.int .i64 0,.slice none 0 0])/\blk ev≠some R)
   3 [(0,.pointer (some ⟨R,0,none⟩)),(1,.pointer (some ⟨X,0,none⟩)),(2,.int .i64 (i:Nat)),(5,.int .i64 (i:Nat)),(8,.int .i64 (0:Nat))] fD ⟨0,ev,rfl,IE _,rfl,by simpa[OR]using f,w,J,oR,d⟩ ?_
  clear f w J oR d v;clear g ev;rintro k fr s y ⟨j,ev,rfl,U,rfl,f,K,L,oR,d⟩;refine Uy ?_;refine Kl.intro (fun p=>?_) (fun hf=>?_)
  .have r : j < 3 := CC (n := 3) p
   clear p;obtain⟨v',h4,h5,h6,V,z,W,M,w6,l4,Y,Z⟩:=f.push' y ((i:Int),3+(j:Int)) (six_b hi U);obtain⟨l6,a6⟩:=Y h K u L;obtain⟨A,B⟩:=Z R _ oR (uV t) d;have C:=Tw j NH;have Gl:=f.ld;rw[Bx,<-TR]at M;have a3:awrap .i64 (3+(j:Int))=3+(j:Int):=ie _ NH NH;have D:aBuild Tryz.prog 38 [(0,.int .i64 (i:Int)),(1,.int .i64 (3+(j:Int)))]=some (UI ((i:Int),3+(j:Int))):=rfl;refine Sk (Pj @Di @Ip.eq_1 @BS Gl.2.2 a3 D V z W C) ?_;exact tn (3-(j+1)) [(0,.pointer (some ⟨R,0,none⟩)),(1,.pointer (some ⟨X,0,none⟩)),(2,.int .i64 (i:Nat)),(5,.int .i64 (i:Nat)),(8,.int .i64 (j+1:Nat))] (JS r) fD ⟨j+1,v',rfl,r,rfl,M,l6,a6,A,B⟩
  .have E : 3 <= j := vp (n := 3) hf
   obtain rfl:j=3:=NH;rw[<-iz]at f;simp only[HO,Nat.reduceLT,↓reduceIte,Nat.reduceEqDiff,reduceCtorEq,aw];exact tn (3-(i+1)) [(0,.pointer (some ⟨R,0,none⟩)),(1,.pointer (some ⟨X,0,none⟩)),(5,.int .i64 (i+1:Nat))] (JS q) fD ⟨i+1,ev,rfl,q,rfl,f,K,L,oR,d⟩
 have E:3<=i:=vp (n:=3) hf;obtain rfl:i=3:=NH;have z:Be 3=E9:=by decide
 rw[z]at f;have sl:=f.gp.pr.sl;have st:=DG (n:=6) (ev:=ev) oR sl.one sl.cell;have ld:aload Tryz.prog (g.put R (.cells [.int .i64 6,ev])) 24 ⟨R,0,none⟩=some (.agg #[ .int .i64 6,ev]):=tY (AHeap.Y3 _ _ _) (by obtain⟨a,c,e,_⟩:=sl;exact⟨a,_,c,e⟩);simp only[HO,Nat.reduceLT,↓reduceIte,Nat.reduceEqDiff,reduceCtorEq,f.ld.1,st,ld];exact⟨⟨ev,rfl,(GS.put f.gp _ d).cs,GS.okc f.gp⟩,w.put _ Q⟩
def OC (k id n:Nat) (a:n<1000000):okc k (.slice (some ⟨id,0,none⟩) n n):=⟨_,_,_,rfl,.inl ⟨vT _,Ly a WY⟩⟩
theorem jS (c:LA) (h:AHeap):AC Tryz.prog c 17 [] h fun x h'=>x=.bool true/\Le h h':=by
 refine AC.vE ⟨zC,rfl,WY⟩ Tryz.ntmps17 Tryz.results17 fun N=>?_;simp only[Br,Nat.reduceAdd];have bP:∀a b:Int,aBuild Tryz.prog 38 [(0,.int .i64 a),(1,.int .i64 b)]=some (UI (a,b)):=fun _ _=>rfl;have fV:∀x e:Value,aFieldV Tryz.prog 24 (.agg #[x,e]) 1=some e:=fun _ _=>rfl;obtain⟨h1,e1,l1,w1,o1⟩:=Tt N (Iu LO);have m1:=mkP4 h (0,1) (0,3) (1,2) (2,3);have O:Iu [(0,1),(0,3),(1,2),(2,3)]=Iu LO:=rfl;rw[O,e1]at m1
 have Q:PR h1 (.slice (some ⟨h.next,0,none⟩) 4 4) LO:=PR.made o1 rfl
 obtain⟨h2,h3,a2,s2,l3,w3,lG⟩:=As (n:=4) w1 Q;have R:=Wj (n:=4) Q.sl;refine Sk (bG @bP m1 R a2 s2 ((lG h3 (Le.refl _)).1)) ?_
 generalize h1.next=G1 at*
 have g1:Ux h3 (.agg #[.int .i64 4,.slice (some ⟨h.next,0,none⟩) 4 4]) ⟨((4:Nat):Int),LO⟩:=⟨_,rfl,Q.le l3,OC _ _ _ WY⟩
 refine TC.intro PJ ⟨zj,rfl,WY⟩ (Im c _ ⟨((4:Nat):Int),LO⟩ h3 g1) ?_;rintro x h4 w4 ⟨l4,r1,aP,rfl,I1⟩;obtain⟨d,-,M,F1,rfl,f⟩:=I1.XK c4R c4T c4P;refine Uy ?_;refine TC.intro PJ ⟨Tryz.func30,rfl,WY⟩ (XE c h4) ?_;rintro x h5 w5 ⟨⟨aT,rfl,p5,c5⟩,l5⟩;obtain⟨S,l,o,T⟩:=p5.cut c5 (i:=1) WY;have U:=Wj (n:=5) o.sl;simp only[aam]at l;refine Sk (Yb fV l U) ?_;refine TC.intro PJ ⟨zj,rfl,WY⟩ (Im c _ ⟨((5:Nat):Int),m5E⟩ h5 ⟨S,rfl,o,T⟩) ?_;rintro x h6 w6 ⟨l6,r2,aW,rfl,I2⟩;obtain⟨V,-,R2,F2,rfl,W⟩:=I2.XK m5R m5T m5P;refine Uy ?_;refine TC.intro PJ ⟨Tryz.func30,rfl,WY⟩ (XE c h6) ?_;rintro x h7 w7 ⟨g7,l7⟩;refine Uy ?_;refine TC.intro PJ ⟨zj,rfl,WY⟩ (Im c _ ⟨((5:Nat):Int),k5L⟩ h7 g7) ?_;rintro x h8 w8 ⟨l8,r3,aX,rfl,I3⟩;obtain⟨rfl,rfl⟩:=I3.bad k5R k5T k5N;refine Uy ?_;refine TC.intro PJ ⟨Tryz.func31,rfl,WY⟩ (six_any c h8) ?_;rintro x h9 w9 ⟨g9,l9⟩;refine Uy ?_;refine TC.intro PJ ⟨zj,rfl,WY⟩ (Im c _ ⟨((6:Nat):Int),E9⟩ h9 g9) ?_;rintro x p X ⟨q,r4,a1,rfl,I4⟩;obtain⟨rfl,rfl⟩:=I4.bad k33R k33T k33N;obtain⟨r,Y,s,a6,Z⟩:=Tt X (Iu p3E);have t:=mkP2 p (0,1) (1,2);have ad:Iu [(0,1),(1,2)]=Iu p3E:=rfl;rw[ad,Y]at t
 have w:PR r (.slice (some ⟨p.next,0,none⟩) 2 2) p3E:=PR.made Z rfl
 have y:=Wj (n:=3) w.sl;refine Sk (Yb @bP t y) ?_;refine TC.intro PJ ⟨zj,rfl,WY⟩ (Im c _ ⟨((3:Nat):Int),p3E⟩ r ⟨_,rfl,w,OC _ _ _ WY⟩) ?_;rintro x z ag ⟨A,r5,a7,rfl,I5⟩;obtain⟨rfl,rfl⟩:=I5.no p3R p3T;obtain⟨B,aj,C,a8,al⟩:=Tt ag (Iu Rj);have D:=mkP6 z (0,1) (0,2) (1,2) (2,3) (2,4) (3,4);have aq:Iu [(0,1),(0,2),(1,2),(2,3),(2,4),(3,4)]=Iu Rj:=rfl;rw[aq,aj]at D
 have E:PR B (.slice (some ⟨z.next,0,none⟩) 6 6) Rj:=PR.made al rfl
 have F:=Wj (n:=5) E.sl;refine Sk (Yb @bP D F) ?_;refine TC.intro PJ ⟨zj,rfl,WY⟩ (Im c _ ⟨((5:Nat):Int),Rj⟩ B ⟨_,rfl,E,OC _ _ _ WY⟩) ?_;rintro x j bh ⟨G,r6,bo,rfl,I6⟩;obtain⟨rfl,rfl⟩:=I6.no bowR bowT;have k:Le h4 j:=l5.trans (l6.trans (l7.trans (l8.trans (l9.trans (q.trans (s.trans (A.trans (C.trans G))))))));have br:Le h6 j:=l7.trans (l8.trans (l9.trans (q.trans (s.trans (A.trans (C.trans G))))));have H:=(lG j (l4.trans k)).1;have ar:awrap .i64 (0+0)=0:=by decide
 have d0:decide ((0:Int)=0)=true:=by decide
 have av:decide ((90:Int)=90)=true:=by decide
 have ay:decide ((60:Int)=60)=true:=by decide
 refine Sk (IX ar d0 av ay H) ?_;refine TC.intro PJ ⟨Tryz.func27,rfl,WY⟩ (VS c _ r1 ⟨((4:Nat):Int),LO⟩ d j ((g1.gr.le l4).le k) (f.le (Nn.RL Nn.RP) k)) ?_;rintro x aD bx ⟨⟨bb,rfl,aH⟩,aJ⟩;have hb:bb=true:=aH.2 ⟨c4R,M,(En c4R.GD c4R.q9 M).2 F1⟩;subst hb;have I:=fun g=>f.len (P:=Tryz.prog) UP g;have J:=fun g=>W.len (P:=Tryz.prog) UP g;have m:0<d.length:=by grind [Av.len]
 have K:=f.qP6 0 m;obtain⟨u,lu,hu⟩:=f.NS 0 m;have aK:d[0].length=2:=by
  have:=M.J9 (v:=0) WY;rw[D4 m]at this;rw[this];decide+kernel
 have L:=fun g=>hu.Uc g;rw[aK]at L;have e4:d.length=4:=M.len;have e5:V.length=5:=R2.len;rw[e4]at I;rw[e5]at J;simp only[dU]at K;have d4:decide (((4:Nat):Int)=4)=true:=by decide
 have d5:decide (((5:Nat):Int)=5)=true:=by decide
 have d2:decide (((2:Nat):Int)=2)=true:=by decide
 simp only[HO,Nat.reduceLT,↓reduceIte,Nat.reduceEqDiff,reduceCtorEq,I,J,d4,d5,d2,K,lu aD (k.trans aJ),L]
 grind [Le.trans]
variable {h:AHeap} {v:Value}
def two_any (i:LA) (v:Value) (n:Nat) (es:List Pr) (h:AHeap) (hg:GR h v ⟨(n:Int),es⟩) (d:bX ⟨(n:Int),es⟩):
  AC Tryz.prog i 25 [v] h fun x h'=>RR (zW n es) x/\Le h h':=by
 have c:=hg
 obtain⟨ev,rfl,z⟩:=hg.open
 refine AC.vE ⟨Tryz.func25,rfl,WY⟩ Tryz.ntmps25 Tryz.results25 fun j=>?_;simp only[Br,Nat.reduceAdd];obtain⟨r,A,a,C,-,s⟩:=r8 (n:=(n:Int)) j z
 generalize h.next=B at*
 have k:=s r (Le.refl _);refine Sk (XC A k.1) ?_;refine TC.intro PJ ⟨Tryz.func46,rfl,WY⟩ (Cw i _ ⟨(n:Int),es⟩ r (c.le a)) ?_;rintro x t F ⟨l5,⟨D,_⟩|⟨_,G,rfl,u⟩⟩
 .exact absurd d D
 simp only[yY]at u;have w:=fun g=>u.len (P:=Tryz.prog) xF g;have b:=s t l5;have l:decide ((0:Int)=0)=true:=by decide
 by_cases m:(n:Int)>=3
 rotate_left
 .have e : decide ((n : Int) >= 3) = false := decide_eq_false m
  refine Sk (bG l @Ii @Ip.eq_1 @BS b.2.1 e) ?_;exact⟨RR.f fun T=>m (by have:=T.n3;omega),a.trans l5⟩
 have e:decide ((n:Int)>=3)=true:=decide_eq_true m;by_cases c1:((vq n es).length:Int)=1
 rotate_left
 .have o : decide (((vq n es).length : Int) = 1) = false := decide_eq_false c1
  refine Sk (s9 l @Ii @Ip.eq_1 @BS b.2.1 e w o) ?_;exact⟨RR.f fun T=>c1 (by have:=(Uv d T.n3 T.one).2 T;omega),a.trans l5⟩
 have o:decide (((vq n es).length:Int)=1)=true:=decide_eq_true c1;refine Sk (xL l @Ii @Ip.eq_1 @BS b.2.1 b.1 e w o) ?_;refine TC.intro PJ ⟨Tryz.func64,rfl,WY⟩ (It i _ ⟨(n:Int),es⟩ t (c.le (a.trans l5)) d) ?_;rintro pv H I ⟨gp,l4,-⟩;simp only[yY]at gp;have E:=gp.rl (Nn.RL Nn.RP);have y:=fun g=>E.fy g;have p:((Gx n es n).map kz).length=(Es n es).length:=by simp[Gx]
 rw[p]at y;refine Sk y ?_;refine⟨⟨_,rfl,?_⟩,(a.trans l5).trans l4⟩;simp only[decide_eq_true_eq];constructor
 .intro q;exact(Uv d NH NH).1 NH
 .intro T;have:=T.one;omega
theorem GRC.c {G:GM} (g:GRC h v G):Ux h v G:=by
 obtain⟨ev,d,h2,a,cap,h3,b⟩:=g;refine⟨ev,d,h2,a,_,cap,h3,?_⟩;rcases b with⟨e,f⟩|b
 .exact .inl ⟨f,e⟩
 .exact .inr b
variable {es:List Pr} {n:Nat}
def aap (n:Nat) (es:List Pr) (p:Pr):Prop:=∃x∈(Zh n es).getD p.1.toNat [],(min x p.2,max x p.2)∈es
def aaj (g:bX ⟨(n:Int),es⟩) (d:zW n es) (P:XU n (eN n es)) {f:Int}
  (h:f=3*(n:Int)-6\/f=2*(n:Int)-4/\∀p∈es,¬aap n es p):(es.length:Int)<=f:=by
 obtain⟨R,i,h2,h3⟩:=P;have hR:=g.GD;have D:=(d.Z7 hR).same h3;have ne:∀v,v<n->R v≠[]:=fun v l e=>by
  obtain⟨w,hw⟩:=d.ne hR l;have:=(h3 v w).2 ((vD hR).2 hw);rw[e]at this;cases this
 have B:=UU i h2 D d.n3 ne;have hA:D3 es:=g.q9;have A:∀v w,w∈R v↔Jp es v w:=fun v w=>(h3 v w).trans (vD hR);have:=Ud i hA.nodup hR A;rcases h with rfl|⟨rfl,h⟩
 .have:=B.1;omega
 have key:∀a b c:Nat,((a:Int),(b:Int))∈es->Jp es a c->Jp es b c->False:=fun a b c m o r=>
  h _ m ⟨(c:Int),(EW hR a c).2 o,T0 hR r.symm⟩
 have:=B.2 fun x y z m1 m2 m3=>by
  have j:=(A _ _).1 m1;have s:=(A _ _).1 m2;have k:=(A _ _).1 m3;rcases s with q|q
  .exact key y z x q j.symm k
  .exact key z y x q k j.symm
 omega
def aaq (A:LA) (v:Value) (G:GM) (h:AHeap) (hg:GRC h v G):
  AC Tryz.prog A 8 [v] h fun x h'=>x=.bool true/\Le h h':=by
 have hc:=hg.c;have J:=hc.gr;obtain⟨gn,es⟩:=G;obtain⟨ev,rfl,P,-⟩:=hg;simp only at P;refine AC.vE ⟨Tryz.func8,rfl,WY⟩ Tryz.ntmps8 Tryz.results8 fun W=>?_;simp only[Br,Nat.reduceAdd];obtain⟨h1,b1,K,bF,-,L⟩:=r8 (n:=gn) W P
 have nB:h.own h.next=none:=(Le.refl h).next W (vT _)
 generalize h.next=B at*
 have aq:=L h1 (Le.refl _);refine Sk (XC b1 aq.1) ?_;refine TC.intro PJ ⟨yo,rfl,WY⟩ (ak A _ _ h1 (J.le K)) ?_;rintro x h2 bH ⟨⟨X,rfl,d⟩,s⟩;have Q:=L h2 s;cases X with
 |false=>
  refine Uy ?_;refine TC.intro PJ ⟨zC,rfl,WY⟩ (jS A h2) ?_;rintro x h3 w3 ⟨rfl,l3⟩;refine Uy ?_;exact⟨trivial,(K.trans s).trans l3⟩
 |true=>
 have H:=d.1 rfl;clear d;have h0:0<=gn:=H.n0;obtain⟨n,rfl⟩:=HV h0;by_cases Y:(n:Int)>40
 .have S : decide ((n : Int) > 40) = true := decide_eq_true Y
  refine Sk (IX @Ii @Ip.eq_1 @BS Q.2.1 S) ?_;refine TC.intro PJ ⟨zC,rfl,WY⟩ (jS A h2) ?_;rintro x h3 w3 ⟨rfl,l3⟩;refine Uy ?_;exact⟨trivial,(K.trans s).trans l3⟩
 have S:decide ((n:Int)>40)=false:=decide_eq_false Y;have M:=K.trans s;refine Sk (bG @Ii @Ip.eq_1 @BS Q.2.1 Q.1 S) ?_;refine TC.intro PJ ⟨Tryz.func25,rfl,WY⟩ (two_any A _ n es h2 (J.le M) H) ?_;rintro x h3 w3 ⟨⟨X,rfl,d⟩,l3⟩;have C:=M.trans l3;have fT:=L h3 (s.trans l3);cases X with
 |false=>
  refine Uy ?_;refine TC.intro PJ ⟨zC,rfl,WY⟩ (jS A h3) ?_;rintro x h4 w4 ⟨rfl,l4⟩;refine Uy ?_;exact⟨trivial,C.trans l4⟩
 |true=>
 have hT:=d.1 rfl;clear d;simp only[HO,Nat.reduceLT,↓reduceIte,Nat.reduceEqDiff,reduceCtorEq,fT.1];refine TC.intro PJ ⟨zj,rfl,WY⟩ (Im A _ ⟨(n:Int),es⟩ h3 (hc.le C)) ?_;rintro x h4 w4 ⟨l4,rv,e,rfl,I⟩;have N:=C.trans l4;have a:=(s.trans l3).trans l4;have Z:=L h4 a;have bx:(n:Int)<=200:=H.n1;have bB:es.length<=594:=H.len;have hR:=H.GD;have ar:awrap .i64 (2*(n:Int))=2*(n:Int):=ie _ NH NH;have av:awrap .i64 (2*(n:Int)-4)=2*(n:Int)-4:=ie _ NH NH;have ay:awrap .i64 (3*(n:Int))=3*(n:Int):=ie _ NH NH;have aD:awrap .i64 (3*(n:Int)-6)=3*(n:Int)-6:=ie _ NH NH;refine Sk (rE @Ii @Ip.eq_1 @BS Z.2.1 Z.1 ar av) ?_;refine TC.intro PJ ⟨zL,rfl,WY⟩ (oe A _ n es h4 (J.le N) H) ?_;rintro bv h5 w5 ⟨hb,l5⟩;have o:=N.trans l5;have aH:=L h5 (a.trans l5);have lP:=fun g=>P.len g;refine Sk (IX @Di @Ip.eq_1 @BS aH.2.2 lP) ?_;refine gU.intro (fun k fr T=>∃(i:Nat) (f:Int),k=es.length-i/\i<=es.length/\fr=mkF [(1,.pointer (some ⟨B,0,none⟩)),(4,.int .i64 e),(5,.int .i64 f),(6,bv),(37,ev),(38,.int .i64 (es.length:Nat)),(39,.int .i64 (i:Nat))]/\
   Le h5 T/\(f=3*(n:Int)-6\/f=2*(n:Int)-4/\∀p∈es.take i,¬aap n es p))
  es.length [(1,.pointer (some ⟨B,0,none⟩)),(4,.int .i64 e),(5,.int .i64 (2*(n:Int)-4)),(6,bv),(37,ev),(38,.int .i64 (es.length:Nat)),(39,.int .i64 (0:Nat))] fD
  ⟨0,_,rfl,IE _,rfl,Le.refl _,.inr ⟨rfl,fun p P=>by cases P⟩⟩ ?_
 rintro k fr T aJ ⟨i,f,rfl,hi,rfl,lq,b⟩;refine Uy ?_;refine Kl.intro (fun ht=>?_) (fun hf=>?_)
 .have t : i < es.length := CC ht
  clear ht;have aK:=CA t;have aP:es.take (i+1)=es.take i++[es[i]]:=EL t;obtain⟨p1,p2,p3⟩:=hR es[i] (Eh t);have ad:=P.addr (k:=.i64) i t;have ld:=(P.le (o.trans lq)).load aK;generalize es[i]=p at*;obtain⟨g3,g4,q3,q4,m4,v4,u4⟩:=Ut aJ p;have ag:=lK u4
  have oL:∀g,Le g4 g->aload Tryz.prog g 3 ⟨T.next,1,none⟩=some (.int .i64 p.2):=fun g l=>HY (l.own _ _ u4)
  generalize T.next=E at*
  obtain⟨u,hu⟩:∃u:Nat,p.1=(u:Int):=⟨p.1.toNat,NH⟩;have D:u<(Zh n es).length:=by rw[Xq];omega
  have aT:=hb.Wm u D;obtain⟨uv,aW,r⟩:=hb.NS u D;have U:(Zh n es).getD p.1.toNat []=(Zh n es)[u]:=by rw[hu,yY];exact D4 D
  rw[hu]at ag;generalize (Zh n es)[u]=row at r U;have lr:=fun g=>r.Uc g;have bI:row.length<=3000:=by
   have:=bV n es row (by rw[<-U,hu,yY,D4 D];exact Eh D);omega
  have aw:=Tw i NH;have w:=lq.trans m4;simp only[HO,Nat.reduceLT,↓reduceIte,Nat.reduceEqDiff,reduceCtorEq,ad,ld,q3,q4,Dh,Ip,BS,ag,aT,aW g4 w,lr];have hT:aap n es p↔∃x∈row,(min x p.2,max x p.2)∈es:=by unfold aap;rw[U]
  refine gU.intro (fun k fr j=>∃(q:Nat) (f:Int),k=row.length-q/\q<=row.length/\fr=mkF [(1,.pointer (some ⟨B,0,none⟩)),(4,.int .i64 e),(5,.int .i64 f),(6,bv),(8,.pointer (some ⟨E,0,none⟩)),(37,ev),(38,.int .i64 (es.length:Nat)),(39,.int .i64 (i:Nat)),(47,uv),(48,.int .i64 (row.length:Nat)),(49,.int .i64 (q:Nat))]/\
    Le g4 j/\(f=3*(n:Int)-6\/f=2*(n:Int)-4/\(∀p∈es.take i,¬aap n es p)/\∀x∈row.take q,(min x p.2,max x p.2)∉es))
   row.length [(1,.pointer (some ⟨B,0,none⟩)),(4,.int .i64 e),(5,.int .i64 f),(6,bv),(8,.pointer (some ⟨E,0,none⟩)),(37,ev),(38,.int .i64 (es.length:Nat)),(39,.int .i64 (i:Nat)),(47,uv),(48,.int .i64 (row.length:Nat)),(49,.int .i64 (0:Nat))] fD
   ⟨0,f,rfl,IE _,rfl,Le.refl _,b.imp id fun h=>⟨h.1,h.2,fun x hx=>by cases hx⟩⟩ ?_
  clear b f;rintro k fr j bW ⟨q,f,rfl,b0,rfl,O,b⟩;refine Uy ?_;refine Kl.intro (fun ht=>?_) (fun hf=>?_)
  .have m : q < row.length := CC ht
   clear ht;have aX:=r.TA q m;have a1:=(r.le Nn.RP (w.trans O)).DH q m;have a6:row.take (q+1)=row.take q++[row[q]]:=EL m;generalize row[q]=x at*;have a7:=L j (((a.trans l5).trans w).trans O);have aj:=Tw q NH;simp only[HO,Nat.reduceLT,↓reduceIte,Nat.reduceEqDiff,reduceCtorEq,aX,a1,a7.1,Z0,Ip,BS,oL j O];refine TC.intro PJ ⟨Tryz.func33,rfl,WY⟩ (aas A _ ⟨(n:Int),es⟩ x p.2 j (J.le ((o.trans w).trans O))) ?_;rintro z g5 v5 ⟨⟨X,rfl,d⟩,l6⟩;have a8:=L g5 ((((a.trans l5).trans w).trans O).trans l6);cases X with
   |true=>
    refine Sk (rE @Ii @Ip.eq_1 @BS a8.2.1 ay aD aj) ?_;exact tn (row.length-(q+1)) [(1,.pointer (some ⟨B,0,none⟩)),(4,.int .i64 e),(5,.int .i64 (3*(n:Int)-6)),(6,bv),(8,.pointer (some ⟨E,0,none⟩)),(37,ev),(38,.int .i64 (es.length:Nat)),(39,.int .i64 (i:Nat)),(47,uv),(48,.int .i64 (row.length:Nat)),(49,.int .i64 (q+1:Nat))] (JS m) fD
     ⟨q+1,_,rfl,m,rfl,O.trans l6,.inl rfl⟩
   |false=>
    refine Sk aj ?_;refine tn (row.length-(q+1)) [(1,.pointer (some ⟨B,0,none⟩)),(4,.int .i64 e),(5,.int .i64 f),(6,bv),(8,.pointer (some ⟨E,0,none⟩)),(37,ev),(38,.int .i64 (es.length:Nat)),(39,.int .i64 (i:Nat)),(47,uv),(48,.int .i64 (row.length:Nat)),(49,.int .i64 (q+1:Nat))] (JS m) fD
     ⟨q+1,_,rfl,m,rfl,O.trans l6,b.imp id fun h=>⟨h.1,h.2.1,fun y j=>?_⟩⟩
    rw[a6,Sb,si]at j;rcases j with j|rfl
    .exact h.2.2 y j
    .exact fun hm=>by cases d.2 ⟨H,hm⟩
  .have V : row.length <= q := vp hf
   rw[vZ V]at b;simp only[HO,Nat.reduceLT,↓reduceIte,Nat.reduceEqDiff,reduceCtorEq,aw];refine tn (es.length-(i+1)) [(1,.pointer (some ⟨B,0,none⟩)),(4,.int .i64 e),(5,.int .i64 f),(6,bv),(37,ev),(38,.int .i64 (es.length:Nat)),(39,.int .i64 (i+1:Nat))] (JS t) fD
    ⟨i+1,_,rfl,t,rfl,w.trans O,b.imp id fun h=>⟨h.1,fun y j=>?_⟩⟩
   rw[aP,Sb,si]at j;rcases j with j|rfl
   .exact h.2.1 y j
   .rw[hT];exact fun⟨x,hx,hm⟩=>h.2.2 x hx hm
 have V:es.length<=i:=vp hf;rw[vZ V]at b;have bh:=L T ((a.trans l5).trans lq);have al:decide ((90:Int)=0)=false:=by decide
 have bo:decide ((90:Int)=90)=true:=by decide
 have br:decide ((0:Int)=0)=true:=by decide
 rcases I with⟨q,-⟩|⟨-,q,-⟩|⟨-,-,-,b2,rfl,rfl⟩|⟨-,-,b3,-,R,F,rfl,b4⟩
 .exact absurd H q
 .exact absurd hT q
 .refine Sk (XC al bo) ?_
  refine TC.intro PJ ⟨zC,rfl,WY⟩ (jS A T) ?_;rintro x h6 w6 ⟨rfl,l6⟩;refine Uy ?_;exact⟨trivial,(o.trans lq).trans l6⟩
 .have hm := aaj H hT (Vg hR H.q9 R F) b
  have dm:decide ((es.length:Int)<=f)=true:=decide_eq_true hm;refine Sk (rE br @Di @Ip.eq_1 @BS bh.2.2 lP dm) ?_;refine TC.intro PJ ⟨zC,rfl,WY⟩ (jS A T) ?_;rintro x h6 w6 ⟨rfl,l6⟩;refine Uy ?_;exact⟨trivial,(o.trans lq).trans l6⟩
end
section
open Go.Proofs Go.ChangeShapes Go.WideShapes Go.RowKit Go.ChangeAt
open Go.Proofs.YtkccdnmaaelbiaaGreat
def aac (os:Os) (started:os.Started) (H:Type) (enc:TypeId×Value->H):
  ReturnsInHanded {} Tryz.checked os 8 .any (Rows.embedManySpec.pre6 enc Tryz.prog Tryz.f8 Rows.embedManyRow.domain false) (Rows.embedManySpec.post enc Tryz.prog Tryz.f8 false true false false):=by
 have own:ownKnob Tryz.prog.godebug=Option.none:=Ji;have laidOut:laidOutB Tryz.prog=true:=Ji;refine returnsInHanded_of_change (C:=Tryz.checked) own started Ji Tryz.func8
  (ChangeSpec.witness6 (enc:=enc) (C:=Tryz.checked) false ⟨#[],#[.agg #[.int .i64 0,.slice Option.none 0 0]],[]⟩ 8 Ji Ji Ji Ji) ?_
 intro W base args ds gs before c m n _;have b:∀(j:Nat) t v,Tryz.f8.params[j]?=some t->args[j]?=some v->Value.okWide Tryz.prog W .any base t v:=c;have f:=m;obtain⟨p,q,h,r,rfl,s,u⟩:=m;have hA:DataW.TrodAll enc Tryz.prog W 0 (fun _=>true) true Tryz.f8.params.toList args.toList ds p:=h;rw[Tryz.params8]at hA b;obtain⟨i,E,F,G,w,I,a,rfl,rfl,o,hA⟩:=trodAll_cons hA;obtain⟨rfl,rfl,rfl⟩:=trodAll_nil hA;obtain rfl:args=#[i]:=by cases args;simp_all
 obtain⟨rfl,rfl⟩:=trodVars_none r;obtain⟨z,x0,k,l⟩:=Ia (b 0 24 i rfl rfl) o (fun _=>⟨0,0,0⟩);refine(aaq (LA.of W) z x0 (MR W) l [] (fun _=>⟨0,0,0⟩) W [i] (Rel.start W _) ?_).mono ?_
 .exact .cons k ((.nil _ _))
 .rintro e A ⟨x, x', J, h', rfl, R, -, -, B, rfl, -⟩
  obtain rfl:=B.YE;have hb:=R.below;have g:∀y∈w,y.block<W.heap.size:=fun y D=>f.lt y (by simp[D]);have d:DataW.Trod enc Tryz.prog A W.heap.size (fun _=>false) false 4 (.bool true) (.lit (.bool true)) []:=⟨1,by simp[DataW.trod,Value.cells,AV]⟩;have a:=
   tcons (Below.trod laidOut Ji (of_decide_eq_true Ji) o hb g) (trodAll_mk0)
  try simp only[Bc,fE]at a
  exact⟨_,rfl,_,_,_,[],_,[],f,trodAll_mk1 d,a,rfl,hb.frame _,fun e=>by cases e⟩
def embedMany_said:Rows.EmbedManySaid:=
 OpenClaim.holds_of_wide 8 Tryz.f8 rfl rfl rfl rfl rfl rfl rfl ⟨rfl,rfl,rfl,rfl,rfl⟩ rfl rfl rfl rfl rfl Ji Tryz.func8 Ji
  (of_decide_eq_true Ji) (by unfold Func.isWrapper;first|(rw[if_pos iw];kernel_rfl)|(rw[if_neg iw];exact⟨rfl,rfl⟩))
  (fun os started H enc _=>aac os started H enc)
end
end Go.Fw
