/- A text. -/
import Derived.Test.YtkccdnmaaelbiaaGreatFwLJ22
set_option linter.all false
set_option maxRecDepth 99999
set_option maxHeartbeats 9999999
namespace Go.Fw
section
attribute [local instance] Classical.propDecidable
attribute [local irreducible] Kp MQ lU rS KO KN KX KE VK Kl ZJ TC gU
open Go.Proofs
variable {B O n v:Nat} {S:kR} {bv fv iv lv:Value} {cs us ws:List Value} {es:List Pr} {g h:AHeap} {left:List wW} {r:Nat->II} {rows:AM}
theorem Nb (d:LA) (v:Value) (n:Nat) (es:List Pr) (h:AHeap) (hg:GR h v ⟨(n:Int),es⟩) (e:bX ⟨(n:Int),es⟩):
  AC Tryz.prog d 51 [v] h fun x h'=>RR (zW n es) x/\Le h h':=by
 have c:=hg
 obtain⟨ev,rfl,u⟩:=hg.open
 refine AC.vE ⟨Tryz.func51,rfl,WY⟩ Tryz.ntmps51 Tryz.results51 fun i=>?_;simp only[Br,Nat.reduceAdd];obtain⟨o,p,a,w,-,q⟩:=r8 (n:=(n:Int)) i u
 generalize h.next=B at*
 have b:=q o (Le.refl _);by_cases r:(n:Int)<3
 .have j : decide ((n : Int) < 3) = true := decide_eq_true r
  refine Sk (bG p @Ii @Ip.eq_1 @BS b.2.1 j) ?_;exact⟨RR.f fun T=>by have:=T.n3;omega,a⟩
 have j:decide ((n:Int)<3)=false:=decide_eq_false r;have h3:3<=n:=NH;refine Sk (rE p @Ii @Ip.eq_1 @BS b.2.1 b.1 j) ?_;refine TC.intro PJ ⟨Tryz.func64,rfl,WY⟩ (It d _ ⟨(n:Int),es⟩ o (c.le a) e) ?_;rintro pv s D ⟨gp,l4,-⟩;simp only[yY]at gp;have y:=gp.rl (Nn.RL Nn.RP);have k:=fun g=>y.fy g;have l:((Gx n es n).map aab).length=(Es n es).length:=by simp[Gx]
 rw[l]at k;have m:=q s l4;by_cases c1:((Es n es).length:Int)=1
 rotate_left
 .have d1 : decide (((Es n es).length : Int) = 1) = false := decide_eq_false c1
  refine Sk (Yb k @bne.eq_1.{0} d1) ?_
  grind [RR.f,zW.one,Le.trans]
 have d1:decide (((Es n es).length:Int)=1)=true:=decide_eq_true c1;have z:(Es n es).length=1:=NH;refine Sk (xU k @bne.eq_1.{0} d1 m.1) ?_
 refine TC.intro PJ ⟨Tryz.func46,rfl,WY⟩ (Cw d _ ⟨(n:Int),es⟩ s (c.le (a.trans l4))) ?_;rintro x E F ⟨l5,⟨A,_⟩|⟨_,G,rfl,t⟩⟩
 .exact absurd e A
 simp only[yY]at t;have C:=fun g=>t.len (P:=Tryz.prog) qS40 g;have H:=Uv e h3 z;refine Sk C ?_;refine⟨⟨_,rfl,?_⟩,(a.trans l4).trans l5⟩
 grind
noncomputable def embX (n:Nat) (es:List Pr):Option AM:=if 3*n<es.length+6 then none else embM n es
theorem MD {H:Nat->Nat->Prop} (hR:aV n es) (hA:D3 es) (D:QG (eN n es)) (I:Z8 n es H S) (h:OW es H=0):S.left=[]:=by
 rcases UK hR hA D 0 H S I NH with⟨a,-⟩|⟨b,c,a,-,h3⟩
 all_goals grind [runM]
theorem run_nil (h:S.left=[]):∀k,runM n rows k S=some S
 |0=>rfl
 |k+1=>by grind [runM.eq_2]
theorem lx.rlF {on:List Bool} {b d:Cs} (S:lx g h B O n rows bv fv iv lv us ws cs on b d left):RL (RL RP) h fv (b.map aab):=
 ⟨us,(GS.cs S.gF).rs,by grind [lx.uL],fun i x u a e=>by
  rw[zm]at a;cases c:b[i]? with
  |none=>grind
  |some f=>
   rw[c]at a;simp at a;subst a;exact(S.cF i u f e c).le Nn.RP S.le⟩
theorem face_bd {F:Cs} (G:vy n r F):∀f∈F,(∀x∈f,x<n)/\f.length<=n:=fun f hf=>by
 have a:∀x∈f,x<n:=fun x b=>G.Rl.lt _ _ (G.O.df G.Rl hf b);refine⟨a,?_⟩;have:=tf (G.O.nd f hf) (B:=List.range n) fun v c=>fR.2 (a v c)
 grind
theorem row_pos (a:zW n es) (hR:aV n es) (b:v<n):0<((Zh n es).getD v []).length:=by
 obtain⟨w,hw⟩:=a.ne hR b;obtain⟨u,c,e⟩:=Gw ((aU hR).2 ⟨w,hw⟩)
 grind [qG,Av.back]
theorem row_le (b:v<n):((Zh n es).getD v []).length<=2*es.length:=by
 have a:v<(Zh n es).length:=by grind [Xq]
 rw[D4 a];exact bV n es _ (VU a)
def GRc (h:AHeap) (v:Value) (G:GM):Prop:=∃ev,v=.agg #[.int .i64 G.n,ev]/\PR h ev G.es/\Ov 2 ev
def GRc.gr {v:Value} {G:GM} (g:GRc h v G):GR h v G:=by
 obtain⟨ev,a,h2,-⟩:=g;exact⟨ev,a,h2⟩
def Hw (G:GM) (h':AHeap) (a:Value) (e:Int):Prop:=
 (¬bX G/\e=20/\a=rW)\/(bX G/\¬zW G.n.toNat G.es/\e=60/\a=rW)\/
 (bX G/\zW G.n.toNat G.es/\embX G.n.toNat G.es=none/\¬XU G.n.toNat (eN G.n.toNat G.es)/\e=90/\a=rW)\/
 (bX G/\zW G.n.toNat G.es/\∃rs,embX G.n.toNat G.es=some rs/\Av G.n.toNat G.es rs/\Flat G.n.toNat (Xl rs)/\e=0/\RL (RL RP) h' a rs)
theorem Im (t:LA) (v:Value) (G:GM) (h:AHeap) (hg:GRc h v G):
  AC Tryz.prog t 19 [v] h fun x h'=>Le h h'/\∃rv e,x=.tuple #[rv,.int .i64 e]/\Hw G h' rv e:=by
 have z:=hg.gr;obtain⟨ev,rfl,N,hc⟩:=hg;obtain⟨gn,es⟩:=G;simp only at N;refine AC.vE ⟨YW,rfl,WY⟩ Tryz.ntmps19 Tryz.results19 fun Q=>?_;simp only[Br,Nat.reduceAdd];obtain⟨h1,b1,p,aH,-,R⟩:=r8 (n:=gn) Q N
 generalize h.next=B1 at*
 have T:=R h1 (Le.refl _);refine Sk (XC b1 T.1) ?_;refine TC.intro PJ ⟨Gs,rfl,WY⟩ (ak t _ _ h1 (z.le p)) ?_;rintro x h2 aJ ⟨⟨U,rfl,i⟩,m⟩;cases U with
 |false=>
  refine Uy ?_;exact⟨p.trans m,_,_,rfl,.inl ⟨(fun d=>by grind),rfl,rfl⟩⟩
 |true=>
 have d:=i.1 rfl;clear i;have h0:0<=gn:=d.n0;obtain⟨n,rfl⟩:=HV h0;have aC:(n:Int)<=200:=d.n1;have aD:es.length<=594:=d.len;have hR:=d.GD;have hA:D3 es:=d.q9;have a:=p.trans m;refine Sk ((R h2 m).1) ?_;refine TC.intro PJ ⟨Tryz.func51,rfl,WY⟩ (Nb t _ n es h2 (z.le a) d) ?_;rintro x h3 aK ⟨⟨U,rfl,i⟩,j⟩;have fT:=R h3 (m.trans j);cases U with
 |false=>
  refine Uy ?_;exact⟨a.trans j,_,_,rfl,.inr (.inl ⟨d,(fun q=>by cases i.2 q),rfl,rfl⟩)⟩
 |true=>
 have l:=i.1 rfl;clear i;have aL:=l.n3;have lP:=fun g=>N.len g;have A:awrap .i64 (3*(n:Int))=3*(n:Int):=ie _ NH NH;have C:awrap .i64 (3*(n:Int)-6)=3*(n:Int)-6:=ie _ NH NH;by_cases c1:3*n<es.length+6
 .have d1 : decide ((es.length : Int) > 3 * (n : Int) - 6) = true := decide_eq_true NH
  simp only[HO,Nat.reduceLT,↓reduceIte,Nat.reduceEqDiff,reduceCtorEq,Ii,Di,Ip,BS,fT.2.1,fT.2.2,lP,A,C,d1];exact⟨a.trans j,_,_,rfl,.inr (.inr (.inl ⟨d,l,if_pos c1,many_no d l c1,rfl,rfl⟩))⟩
 have d1:decide ((es.length:Int)>3*(n:Int)-6)=false:=decide_eq_false NH;simp only[HO,Nat.reduceLT,↓reduceIte,Nat.reduceEqDiff,reduceCtorEq,Ii,Di,Ip,BS,fT.2.1,fT.2.2,fT.1,lP,A,C,d1];refine TC.intro PJ ⟨Tryz.func52,rfl,WY⟩ (Si t ev n es h3 (N.le (a.trans j)) hc d l) ?_;rintro x h4 w4 ⟨g4,B,O,bv,u,w,y,us,ws,cs,rfl,V,S4,Rg⟩;have I0:=Rg.start hR hA (L:=MF n (Qw n (sortP (ZH (zl n es)))) es) uY;have hX:embX n es=(runM n (Zh n es) es.length (RB n es)).map fun S=>xY n (Zh n es) S.Jv:=if_neg c1;have D:=l.Z7 hR;have E:OW es (Ei (zl n es))<=es.length:=IK _ _;have F:=(a.trans j).trans V;refine Uy ?_;refine gU.intro (fun k fr W=>∃(S:kR) (H:Nat->Nat->Prop) (g:AHeap) (u w y:Value) (us ws cs:List Value),fr=mkF [(4,.pointer (some ⟨B,0,none⟩))]/\Z8 n es H S/\runM n (Zh n es) es.length (RB n es)=runM n (Zh n es) k S/\OW es H<=k/\
   lx g W B O n (Zh n es) bv u w y us ws cs S.on S.Jv S.Jv S.left/\Le g4 g)
  es.length [(4,.pointer (some ⟨B,0,none⟩))] fD
  ⟨RB n es,_,g4,u,w,y,us,ws,cs,rfl,I0,rfl,E,S4,Le.refl _⟩ ?_
 clear S4 I0 E w4;clear h4 u w y us ws cs;rintro k fr W aN ⟨S,H,g,u,w,y,us,ws,cs,rfl,I,b,hu,o,X⟩;have J:=sB B 5 NH;have lL:=o.lenL;by_cases c:S.left=[]
 .have Y : decide ((S.left.length : Int) > 0) = false := by rw [c]; rfl
  refine Sk (xU J o.f.l5 lL Y) ?_;rw[run_nil c]at b;obtain⟨r,Z,fl,hm⟩:=I.done c;obtain⟨k1,k2⟩:=circ_ok d l Z fl hm;have K:=face_bd Z;have aP:=I.My;refine TC.intro PJ ⟨Tryz.func54,rfl,WY⟩ (pY t B n bv _ u w y (Zh n es) S.Jv W o.f (o.cB.le (Nn.RL Nn.RP) o.le) o.rlF (Xq n es) (fun v hv=>⟨row_pos l hR hv,by have:=row_le (es:=es) hv;omega⟩) (fun f hf=>⟨(K f hf).1,by have:=(K f hf).2;omega⟩) NH NH NH (L9 d l Z hm)) ?_;rintro x h9 w9 ⟨hx,l9⟩;refine Uy ?_;refine⟨((F.trans X).trans o.le).trans l9,x,_,rfl,.inr (.inr (.inr ⟨d,l,_,?_,k1,k2,rfl,hx⟩))⟩
  grind
 .have Y : decide ((S.left.length : Int) > 0) = true := by grind [List.length_pos_iff]
  obtain⟨k',rfl⟩:∃k',k=k'+1:=by
   cases k<;>grind [MD]
  refine Sk (xU J o.f.l5 lL Y) ?_;refine TC.intro PJ ⟨Tryz.func53,rfl,WY⟩ (lay_any t o d D I c) ?_;rintro x h9 w9 ⟨g9,M,l9,s⟩;rw[runM,if_neg c]at b;rcases s with⟨q1,rfl⟩|⟨S',ad,ag,aj,al,aq,ar,q1,rfl,av⟩
  .rw [q1] at b
   refine Uy ?_;have ay:¬XU n (eN n es):=by grind [Z8.lay]
   refine⟨((F.trans X).trans M).trans l9,_,_,rfl,.inr (.inr (.inl ⟨d,l,?_,ay,rfl,rfl⟩))⟩
   grind
  .rw [q1] at b
   refine Uy ?_;obtain⟨P,I',aT⟩:∃P,Z8 n es P S'/\OW es P<OW es H:=by grind [Z8.lay]
   exact tn k' [(4,.pointer (some ⟨B,0,none⟩))] (V9 _) fD ⟨S',P,g9,ad,ag,aj,al,aq,ar,rfl,I',b,NH,av,X.trans M⟩
end
end Go.Fw
namespace Go.Fw
open Go.Proofs
attribute [local irreducible] Jz JL vq cQ
def okB (n:Int) (es:List Pr) (i:Nat):Bool:=match es[i]? with
 |some p=>decide (0<=p.1)&&decide (p.1<p.2)&&decide (p.2<n)&&(i==0||match es[i-1]? with|some q=>decide (Nz q p<0)|none=>true)
 |none=>true
theorem V5 {n:Int} {es:List Pr} (a:0<=n) (b:n<=200) (c:es.length<=594) (d:(List.range es.length).all (okB n es)=true):bX ⟨n,es⟩:=by
 refine⟨a,b,c,fun i hi p f=>?_⟩;have:=K4.1 d i (fR.2 hi)
 grind [okB]
attribute [local instance] Classical.propDecidable in
theorem tT {n:Nat} {es:List Pr} {rs:AM} (a:bX ⟨(n:Int),es⟩) (G:Av n es rs) (b:0<n) (c:∀v,v<n->Pu es 0 v) (hf:n+(IN n rs).length=es.length+2):XU n (eN n es):=
 Vg a.GD a.q9 G ((En a.GD a.q9 G).1 ((vS a.GD a.q9 G b c).2 fun _=>hf))
attribute [local instance] Classical.propDecidable in
theorem XI {n:Nat} {es:List Pr} (b:bX ⟨(n:Int),es⟩) (h3:3<=n) (a:es≠[]) (c:∀v,v<n->Pu es 0 v) (hb:(vq n es).length=1):zW n es:=
 (Uv b h3 (FQ b.GD NH a c).2).1 hb
attribute [local instance] Classical.propDecidable in
theorem fJ {n:Nat} {es:List Pr} (b:bX ⟨(n:Int),es⟩) (h3:3<=n) (a:es≠[]) (c:∀v,v<n->Pu es 0 v) (hb:JL n es≠[]):¬zW n es:=fun T=>
 hb ((qW b h3 (FQ b.GD NH a c).2).2 T)
def LO:List Pr:=[(0,1),(0,3),(1,2),(2,3)]
def m5E:List Pr:=[(0,2),(0,3),(0,4),(1,2),(1,3),(1,4),(2,3),(2,4),(3,4)]
def k5L:List Pr:=(0,1)::m5E
def E9:List Pr:=[(0,3),(0,4),(0,5),(1,3),(1,4),(1,5),(2,3),(2,4),(2,5)]
def p3E:List Pr:=[(0,1),(1,2)]
def Rj:List Pr:=[(0,1),(0,2),(1,2),(2,3),(2,4),(3,4)]
def c4R:bX ⟨((4:Nat):Int),LO⟩:=V5 WY WY WY iw
def m5R:bX ⟨((5:Nat):Int),m5E⟩:=V5 WY WY WY iw
def k5R:bX ⟨((5:Nat):Int),k5L⟩:=V5 WY WY WY iw
def k33R:bX ⟨((6:Nat):Int),E9⟩:=V5 WY WY WY iw
def p3R:bX ⟨((3:Nat):Int),p3E⟩:=V5 WY WY WY iw
def bowR:bX ⟨((5:Nat):Int),Rj⟩:=V5 WY WY WY iw
theorem c4con:∀v,v<4->Pu LO 0 v:=fun v a=>by
 have c1:Pu LO 0 1:=vm (.inl WY)
 match v,a with
 |0,_=>grind [Pu.refl]
 |1,_=>exact c1
 |2,_=>exact tM c1 (.inl WY)
 |3,_=>exact vm (.inl WY)
theorem m5con:∀v,v<5->Pu m5E 0 v:=fun v a=>by
 have c2:Pu m5E 0 2:=vm (.inl WY)
 match v,a with
 |0,_=>grind [Pu.refl]
 |1,_=>exact tM c2 (.inr WY)
 |2,_=>exact c2
 |3,_=>exact vm (.inl WY)
 |4,_=>exact vm (.inl WY)
theorem k5con:∀v,v<5->Pu k5L 0 v:=fun v a=>by
 match v,a with
 |0,_=>grind [Pu.refl]
 |1,_=>exact vm (.inl WY)
 |2,_=>exact vm (.inl WY)
 |3,_=>exact vm (.inl WY)
 |4,_=>exact vm (.inl WY)
theorem k33con:∀v,v<6->Pu E9 0 v:=fun v b=>by
 have a:Pu E9 0 3:=vm (.inl WY)
 match v,b with
 |0,_=>grind [Pu.refl]
 |1,_=>exact tM a (.inr WY)
 |2,_=>exact tM a (.inr WY)
 |3,_=>exact a
 |4,_=>exact vm (.inl WY)
 |5,_=>exact vm (.inl WY)
theorem p3con:∀v,v<3->Pu p3E 0 v:=fun v a=>by
 have c1:Pu p3E 0 1:=vm (.inl WY)
 match v,a with
 |0,_=>grind [Pu.refl]
 |1,_=>exact c1
 |2,_=>exact tM c1 (.inl WY)
theorem bowcon:∀v,v<5->Pu Rj 0 v:=fun v a=>by
 have c2:Pu Rj 0 2:=vm (.inl WY)
 match v,a with
 |0,_=>grind [Pu.refl]
 |1,_=>exact vm (.inl WY)
 |2,_=>exact c2
 |3,_=>exact tM c2 (.inl WY)
 |4,_=>exact tM c2 (.inl WY)
def c4T:zW 4 LO:=XI c4R WY WY c4con iw
def m5T:zW 5 m5E:=XI m5R WY WY m5con iw
def k5T:zW 5 k5L:=XI k5R WY WY k5con iw
def k33T:zW 6 E9:=XI k33R WY WY k33con iw
def p3T:¬zW 3 p3E:=fJ p3R WY WY p3con iw
def bowT:¬zW 5 Rj:=fJ bowR WY WY bowcon iw
def c4Ro:AM:=[[1,3],[0,2],[1,3],[0,2]]
def m5Ro:AM:=[[2,3,4],[4,3,2],[0,4,1,3],[0,2,1,4],[0,3,1,2]]
def c4G:Av 4 LO c4Ro:=N9 rfl iw
def m5G:Av 5 m5E m5Ro:=N9 rfl iw
theorem c4F:(IN 4 c4Ro).length=2:=by rw[X9 c4R c4G (hs:=[((0,1),4),((0,3),4)]) iw];grind
theorem m5F:(IN 5 m5Ro).length=6:=by rw[X9 m5R m5G (hs:=[((0,2),3),((0,3),3),((0,4),3),((1,2),3),((1,3),3),((1,4),3)]) iw];grind
def c4P:XU 4 (eN 4 LO):=tT c4R c4G WY c4con (by rw[c4F];decide)
def m5P:XU 5 (eN 5 m5E):=tT m5R m5G WY m5con (by rw[m5F];decide)
theorem Jy {n:Nat} {es:List Pr} {E:Nat->II} (hR:aV n es) (a:∀v w,w∈E v->v<n/\w<n) (h:∀v,v<n->∀w,w<n->(w∈eN n es v↔w∈E v)):∀v w,w∈eN n es v↔w∈E v:=fun v w=>by grind [vD,Jp.lt]
theorem k5N:¬XU 5 (eN 5 k5L):=fun h=>k5_no (vT 5) ((XU.qE (Jy k5R.GD (fun v w q=>by grind [pZ]) iw)).1 h)
theorem k33N:¬XU 6 (eN 6 E9):=fun h=>k33_no (vT 6) ((XU.qE (Jy k33R.GD (fun v w q=>by grind [Vb]) iw)).1 h)
section
variable {G : GM} {h : AHeap} {rv : Value} {e : Int}
theorem Hw.no (I:Hw G h rv e) (b:bX G) (c:¬zW G.n.toNat G.es):e=60/\rv=rW:=by
 rcases I with⟨a,_⟩|⟨_,_,h2⟩|⟨_,a,_⟩|⟨_,a,_⟩
 all_goals grind
theorem Hw.bad (I:Hw G h rv e) (a:bX G) (f:zW G.n.toNat G.es) (c:¬XU G.n.toNat (eN G.n.toNat G.es)):e=90/\rv=rW:=by
 rcases I with⟨b,_⟩|⟨_,b,_⟩|⟨_,_,_,_,h2⟩|⟨_,_,rs,_,b,h2,_⟩
 .grind
 .grind
 .exact h2
 .have d : 0 <= G.n := a.n0
  obtain⟨n,es⟩:=G;obtain⟨n,rfl⟩:=HV d;exact absurd (Vg a.GD a.q9 b h2) c
theorem Hw.XK (I:Hw G h rv e) (b:bX G) (c:zW G.n.toNat G.es) (d:XU G.n.toNat (eN G.n.toNat G.es)):∃rs,embX G.n.toNat G.es=some rs/\Av G.n.toNat G.es rs/\Flat G.n.toNat (Xl rs)/\e=0/\RL (RL RP) h rv rs:=by
 rcases I with⟨a,_⟩|⟨_,a,_⟩|⟨_,_,_,h2,_⟩|⟨_,_,h2⟩
 all_goals grind
end
end Go.Fw
namespace Go.Fw
section
attribute [local irreducible] Kp MQ lU rS KO KN KX KE VK Kl ZJ TC gU
attribute [local irreducible] Jz JL vq cQ
open Go.Proofs
variable {a i j:Nat}
def GY (a j:Nat):List Pr:=(List.range (j-(a+1))).map fun t=>((a:Int),((a+1+t:Nat):Int))
def E3 (i:Nat):List Pr:=(List.range i).flatMap fun a=>GY a 5
def tN (h:a+1<=j):GY a (j+1)=GY a j++[((a:Int),(j:Int))]:=by
 unfold GY;rw[show j+1-(a+1)=(j-(a+1))+1 by omega,QD,qH];simp;omega
theorem SB (i:Nat):E3 (i+1)=E3 i++GY i 5:=by grind [E3,List.range_succ]
theorem GV (h:j<=5):(GY a j).length<=5:=by grind [GY]
theorem dH (h:i<=5):(E3 i).length<=25:=by
 match i,h with
 |0,_=>decide
 |1,_=>decide
 |2,_=>decide
 |3,_=>decide
 |4,_=>decide
 |5,_=>decide
theorem five_b (h:i<=5) (a:j<=5):(E3 i++GY i j).length+1<=100000:=by grind [GV,dH]
theorem XE (O:LA) (h:AHeap):AC Tryz.prog O 30 [] h fun x h'=>GRc h' x ⟨5,k5L⟩/\Le h h':=by
 refine AC.vE ⟨Tryz.func30,rfl,WY⟩ Tryz.ntmps30 Tryz.results30 fun l=>?_;simp only[Br,Nat.reduceAdd];obtain⟨G,P,l1,w1,Q⟩:=Tt l [.int .i64 0,.slice none 0 0];have H:=Lo h;rw[P]at H
 have S:h.own h.next=none:=(Le.refl h).next l (vT _)
 obtain⟨h2,h3,T,I,l3,U,nX,J⟩:=GX.new w1 5
 have t:G.next≠h.next:=fun e=>by grind
 generalize h.next=R at*
 generalize G.next=X at*
 refine Sk (xU H @Zp T I) ?_;have m:=l1.trans l3;have o:=l3.own _ _ Q;have u:h.own X=none:=by
  cases c:h.own X<;>grind [Le.own]
 refine gU.intro (fun k fr g=>∃(i:Nat) (ev:Value),k=5-i/\i<=5/\fr=mkF [(0,.pointer (some ⟨R,0,none⟩)),(1,.pointer (some ⟨X,0,none⟩)),(5,.int .i64 (i:Nat))]/\GX g X 5 ev (E3 i)/\Le h g/\Z2 h ev/\g.own R=some (.cells [.int .i64 0,.slice none 0 0])/\blk ev≠some R)
  5 [(0,.pointer (some ⟨R,0,none⟩)),(1,.pointer (some ⟨X,0,none⟩)),(5,.int .i64 (0:Nat))] fD ⟨0,_,rfl,qy _,rfl,J,m,fun b hb=>by simp[blk]at hb,o,by simp[blk]⟩ ?_
 clear J U o l3 m I;clear h3;rintro k fr g v ⟨i,ev,rfl,hi,rfl,f,w,K,oR,d⟩;refine Uy ?_;refine Kl.intro (fun p=>?_) (fun hf=>?_)
 .have q : i < 5 := CC (n := 5) p
  clear p;have aw:=Tw i NH;simp only[HO,Nat.reduceLT,↓reduceIte,Nat.reduceEqDiff,reduceCtorEq,aw];refine gU.intro (fun k fr s=>∃(j:Nat) (ev:Value),k=5-j/\i+1<=j/\j<=5/\fr=mkF [(0,.pointer (some ⟨R,0,none⟩)),(1,.pointer (some ⟨X,0,none⟩)),(2,.int .i64 (i:Nat)),(3,.int .i64 (j:Nat)),(5,.int .i64 (i:Nat))]/\GX s X 5 ev (E3 i++GY i j)/\Le h s/\Z2 h ev/\s.own R=some (.cells [.int .i64 0,.slice none 0 0])/\blk ev≠some R)
   (5-(i+1)) [(0,.pointer (some ⟨R,0,none⟩)),(1,.pointer (some ⟨X,0,none⟩)),(2,.int .i64 (i:Nat)),(3,.int .i64 (i+1:Nat)),(5,.int .i64 (i:Nat))] fD ⟨i+1,ev,rfl,vT _,NH,rfl,by simpa[GY]using f,w,K,oR,d⟩ ?_
  clear f w K oR d v;clear g ev;rintro k fr s y ⟨j,ev,rfl,z,V,rfl,f,L,M,oR,d⟩;refine Uy ?_;refine Kl.intro (fun p=>?_) (fun hf=>?_)
  .have r : j < 5 := CC (n := 5) p
   clear p;obtain⟨v',h4,h5,h6,W,A,Y,N,w6,l4,Z,k6⟩:=f.push' y ((i:Int),(j:Int)) (five_b hi V);obtain⟨l6,a6⟩:=Z h L u M;obtain⟨B,C⟩:=k6 R _ oR (uV t) d;have D:=Tw j NH;have Gl:=f.ld;rw[KG,<-tN z]at N;have E:aBuild Tryz.prog 38 [(0,.int .i64 (i:Int)),(1,.int .i64 (j:Int))]=some (UI ((i:Int),(j:Int))):=rfl;refine Sk (xL @Di @Ip.eq_1 @BS Gl.2.2 E W A Y D) ?_;exact tn (5-(j+1)) [(0,.pointer (some ⟨R,0,none⟩)),(1,.pointer (some ⟨X,0,none⟩)),(2,.int .i64 (i:Nat)),(3,.int .i64 (j+1:Nat)),(5,.int .i64 (i:Nat))] (JS r) fD ⟨j+1,v',rfl,NH,r,rfl,N,l6,a6,B,C⟩
  .have F : 5 <= j := vp (n := 5) hf
   obtain rfl:j=5:=NH;rw[<-SB]at f;simp only[HO,Nat.reduceLT,↓reduceIte,Nat.reduceEqDiff,reduceCtorEq,aw];exact tn (5-(i+1)) [(0,.pointer (some ⟨R,0,none⟩)),(1,.pointer (some ⟨X,0,none⟩)),(5,.int .i64 (i+1:Nat))] (JS q) fD ⟨i+1,ev,rfl,q,rfl,f,L,M,oR,d⟩
 have F:5<=i:=vp (n:=5) hf;obtain rfl:i=5:=NH;have A:E3 5=k5L:=by decide
 rw[A]at f;have sl:=f.gp.pr.sl;have st:=DG (n:=5) (ev:=ev) oR sl.one sl.cell;have ld:aload Tryz.prog (g.put R (.cells [.int .i64 5,ev])) 24 ⟨R,0,none⟩=some (.agg #[.int .i64 5,ev]):=tY (AHeap.Y3 _ _ _) (by obtain⟨a,c,e,_⟩:=sl;exact⟨a,_,c,e⟩);simp only[HO,Nat.reduceLT,↓reduceIte,Nat.reduceEqDiff,reduceCtorEq,f.ld.1,st,ld];exact⟨⟨ev,rfl,(GS.put f.gp _ d).cs,GS.Ov f.gp⟩,w.put _ S⟩
def OR (a j:Nat):List Pr:=(List.range j).map fun(t:Nat)=>((a:Int),3+(t:Int))
def Be (i:Nat):List Pr:=(List.range i).flatMap fun a=>OR a 3
theorem TR:OR a (j+1)=OR a j++[((a:Int),3+(j:Int))]:=by grind [OR,List.range_succ]
theorem iz (i:Nat):Be (i+1)=Be i++OR i 3:=by grind [Be,List.range_succ]
theorem six_b (h:i<=3) (a:j<=3):(Be i++OR i j).length+1<=100000:=by
 have b:(OR i j).length<=3:=by grind [OR]
 have h2:(Be i).length<=9:=by
  match i,h with
  |0,_=>decide
  |1,_=>decide
  |2,_=>decide
  |3,_=>decide
 grind
theorem aa9 (N:LA) (h:AHeap):AC Tryz.prog N 31 [] h fun x h'=>GRc h' x ⟨6,E9⟩/\Le h h':=by
 refine AC.vE ⟨Tryz.func31,rfl,WY⟩ Tryz.ntmps31 Tryz.results31 fun l=>?_;simp only[Br,Nat.reduceAdd];obtain⟨F,O,l1,w1,P⟩:=Tt l [.int .i64 0,.slice none 0 0];have G:=Lo h;rw[O]at G
 have Q:h.own h.next=none:=(Le.refl h).next l (vT _)
 obtain⟨h2,h3,S,H,l3,T,nX,I⟩:=GX.new w1 6
 have t:F.next≠h.next:=fun e=>by grind
 generalize h.next=R at*
 generalize F.next=X at*
 refine Sk (xU G @Zp S H) ?_;have m:=l1.trans l3;have o:=l3.own _ _ P;have u:h.own X=none:=by
  cases c:h.own X<;>grind [Le.own]
 refine gU.intro (fun k fr g=>∃(i:Nat) (ev:Value),k=3-i/\i<=3/\fr=mkF [(0,.pointer (some ⟨R,0,none⟩)),(1,.pointer (some ⟨X,0,none⟩)),(5,.int .i64 (i:Nat))]/\GX g X 6 ev (Be i)/\Le h g/\Z2 h ev/\g.own R=some (.cells [.int .i64 0,.slice none 0 0])/\blk ev≠some R)
  3 [(0,.pointer (some ⟨R,0,none⟩)),(1,.pointer (some ⟨X,0,none⟩)),(5,.int .i64 (0:Nat))] fD ⟨0,_,rfl,qy _,rfl,I,m,fun b hb=>by simp[blk]at hb,o,by simp[blk]⟩ ?_
 clear I T o l3 m H;clear h3;rintro k fr g v ⟨i,ev,rfl,hi,rfl,f,w,J,oR,d⟩;refine Uy ?_;refine Kl.intro (fun p=>?_) (fun hf=>?_)
 .have q : i < 3 := CC (n := 3) p
  clear p;have aw:=Tw i NH;refine Uy ?_;refine gU.intro (fun k fr s=>∃(j:Nat) (ev:Value),k=3-j/\j<=3/\fr=mkF [(0,.pointer (some ⟨R,0,none⟩)),(1,.pointer (some ⟨X,0,none⟩)),(2,.int .i64 (i:Nat)),(5,.int .i64 (i:Nat)),(8,.int .i64 (j:Nat))]/\GX s X 6 ev (Be i++OR i j)/\Le h s/\Z2 h ev/\s.own R=some (.cells [.int .i64 0,.slice none 0 0])/\blk ev≠some R)
   3 [(0,.pointer (some ⟨R,0,none⟩)),(1,.pointer (some ⟨X,0,none⟩)),(2,.int .i64 (i:Nat)),(5,.int .i64 (i:Nat)),(8,.int .i64 (0:Nat))] fD ⟨0,ev,rfl,qy _,rfl,by simpa[OR]using f,w,J,oR,d⟩ ?_
  clear f w J oR d v;clear g ev;rintro k fr s y ⟨j,ev,rfl,U,rfl,f,K,L,oR,d⟩;refine Uy ?_;refine Kl.intro (fun p=>?_) (fun hf=>?_)
  .have r : j < 3 := CC (n := 3) p
   clear p;obtain⟨v',h4,h5,h6,V,z,W,M,w6,l4,Y,Z⟩:=f.push' y ((i:Int),3+(j:Int)) (six_b hi U);obtain⟨l6,a6⟩:=Y h K u L;obtain⟨A,B⟩:=Z R _ oR (uV t) d;have C:=Tw j NH;have Gl:=f.ld;rw[KG,<-TR]at M;have a3:awrap .i64 (3+(j:Int))=3+(j:Int):=ie _ NH NH;have D:aBuild Tryz.prog 38 [(0,.int .i64 (i:Int)),(1,.int .i64 (3+(j:Int)))]=some (UI ((i:Int),3+(j:Int))):=rfl;refine Sk (Pj @Di @Ip.eq_1 @BS Gl.2.2 a3 D V z W C) ?_;exact tn (3-(j+1)) [(0,.pointer (some ⟨R,0,none⟩)),(1,.pointer (some ⟨X,0,none⟩)),(2,.int .i64 (i:Nat)),(5,.int .i64 (i:Nat)),(8,.int .i64 (j+1:Nat))] (JS r) fD ⟨j+1,v',rfl,r,rfl,M,l6,a6,A,B⟩
  .have E : 3 <= j := vp (n := 3) hf
   obtain rfl:j=3:=NH;rw[<-iz]at f;simp only[HO,Nat.reduceLT,↓reduceIte,Nat.reduceEqDiff,reduceCtorEq,aw];exact tn (3-(i+1)) [(0,.pointer (some ⟨R,0,none⟩)),(1,.pointer (some ⟨X,0,none⟩)),(5,.int .i64 (i+1:Nat))] (JS q) fD ⟨i+1,ev,rfl,q,rfl,f,K,L,oR,d⟩
 have E:3<=i:=vp (n:=3) hf;obtain rfl:i=3:=NH;have z:Be 3=E9:=by decide
 rw[z]at f;have sl:=f.gp.pr.sl;have st:=DG (n:=6) (ev:=ev) oR sl.one sl.cell;have ld:aload Tryz.prog (g.put R (.cells [.int .i64 6,ev])) 24 ⟨R,0,none⟩=some (.agg #[ .int .i64 6,ev]):=tY (AHeap.Y3 _ _ _) (by obtain⟨a,c,e,_⟩:=sl;exact⟨a,_,c,e⟩);simp only[HO,Nat.reduceLT,↓reduceIte,Nat.reduceEqDiff,reduceCtorEq,f.ld.1,st,ld];exact⟨⟨ev,rfl,(GS.put f.gp _ d).cs,GS.Ov f.gp⟩,w.put _ Q⟩
def OC (k id n:Nat) (a:n<1000000):Ov k (.slice (some ⟨id,0,none⟩) n n):=⟨_,_,_,rfl,.inl ⟨vT _,zx a WY⟩⟩
theorem jS (c:LA) (h:AHeap):AC Tryz.prog c 17 [] h fun x h'=>x=.bool true/\Le h h':=by
 refine AC.vE ⟨Tryz.func17,rfl,WY⟩ Tryz.ntmps17 Tryz.results17 fun N=>?_;simp only[Br,Nat.reduceAdd];have bP:∀a b:Int,aBuild Tryz.prog 38 [(0,.int .i64 a),(1,.int .i64 b)]=some (UI (a,b)):=fun _ _=>rfl;have fV:∀x e:Value,aFieldV Tryz.prog 24 (.agg #[x,e]) 1=some e:=fun _ _=>rfl;obtain⟨h1,e1,l1,w1,o1⟩:=Tt N (Iu LO);have m1:=mkP4 h (0,1) (0,3) (1,2) (2,3);have O:Iu [(0,1),(0,3),(1,2),(2,3)]=Iu LO:=rfl;rw[O,e1]at m1
 have Q:PR h1 (.slice (some ⟨h.next,0,none⟩) 4 4) LO:=PR.made o1 rfl
 obtain⟨h2,h3,a2,s2,l3,w3,lG⟩:=newG (n:=4) w1 Q;have R:=Wj (n:=4) Q.sl;refine Sk (bG @bP m1 R a2 s2 ((lG h3 (Le.refl _)).1)) ?_
 generalize h1.next=G1 at*
 have g1:GRc h3 (.agg #[.int .i64 4,.slice (some ⟨h.next,0,none⟩) 4 4]) ⟨((4:Nat):Int),LO⟩:=⟨_,rfl,Q.le l3,OC _ _ _ WY⟩
 refine TC.intro PJ ⟨YW,rfl,WY⟩ (Im c _ ⟨((4:Nat):Int),LO⟩ h3 g1) ?_;rintro x h4 w4 ⟨l4,r1,aK,rfl,I1⟩;obtain⟨d,-,M,F1,rfl,f⟩:=I1.XK c4R c4T c4P;refine Uy ?_;refine TC.intro PJ ⟨Tryz.func30,rfl,WY⟩ (XE c h4) ?_;rintro x h5 w5 ⟨⟨aL,rfl,p5,c5⟩,l5⟩;obtain⟨S,l,o,T⟩:=p5.cut c5 (i:=1) WY;have U:=Wj (n:=5) o.sl;simp only[jO]at l;refine Sk (Yb fV l U) ?_;refine TC.intro PJ ⟨YW,rfl,WY⟩ (Im c _ ⟨((5:Nat):Int),m5E⟩ h5 ⟨S,rfl,o,T⟩) ?_;rintro x h6 w6 ⟨l6,r2,aN,rfl,I2⟩;obtain⟨V,-,R2,F2,rfl,W⟩:=I2.XK m5R m5T m5P;refine Uy ?_;refine TC.intro PJ ⟨Tryz.func30,rfl,WY⟩ (XE c h6) ?_;rintro x h7 w7 ⟨g7,l7⟩;refine Uy ?_;refine TC.intro PJ ⟨YW,rfl,WY⟩ (Im c _ ⟨((5:Nat):Int),k5L⟩ h7 g7) ?_;rintro x h8 w8 ⟨l8,r3,aP,rfl,I3⟩;obtain⟨rfl,rfl⟩:=I3.bad k5R k5T k5N;refine Uy ?_;refine TC.intro PJ ⟨Tryz.func31,rfl,WY⟩ (aa9 c h8) ?_;rintro x h9 w9 ⟨g9,l9⟩;refine Uy ?_;refine TC.intro PJ ⟨YW,rfl,WY⟩ (Im c _ ⟨((6:Nat):Int),E9⟩ h9 g9) ?_;rintro x p X ⟨q,r4,aT,rfl,I4⟩;obtain⟨rfl,rfl⟩:=I4.bad k33R k33T k33N;obtain⟨r,Y,s,aW,Z⟩:=Tt X (Iu p3E);have t:=mkP2 p (0,1) (1,2);have ad:Iu [(0,1),(1,2)]=Iu p3E:=rfl;rw[ad,Y]at t
 have w:PR r (.slice (some ⟨p.next,0,none⟩) 2 2) p3E:=PR.made Z rfl
 have y:=Wj (n:=3) w.sl;refine Sk (Yb @bP t y) ?_;refine TC.intro PJ ⟨YW,rfl,WY⟩ (Im c _ ⟨((3:Nat):Int),p3E⟩ r ⟨_,rfl,w,OC _ _ _ WY⟩) ?_;rintro x z ag ⟨A,r5,aX,rfl,I5⟩;obtain⟨rfl,rfl⟩:=I5.no p3R p3T;obtain⟨B,aj,C,a1,al⟩:=Tt ag (Iu Rj);have D:=mkP6 z (0,1) (0,2) (1,2) (2,3) (2,4) (3,4);have aq:Iu [(0,1),(0,2),(1,2),(2,3),(2,4),(3,4)]=Iu Rj:=rfl;rw[aq,aj]at D
 have E:PR B (.slice (some ⟨z.next,0,none⟩) 6 6) Rj:=PR.made al rfl
 have F:=Wj (n:=5) E.sl;refine Sk (Yb @bP D F) ?_;refine TC.intro PJ ⟨YW,rfl,WY⟩ (Im c _ ⟨((5:Nat):Int),Rj⟩ B ⟨_,rfl,E,OC _ _ _ WY⟩) ?_;rintro x j a6 ⟨G,r6,a7,rfl,I6⟩;obtain⟨rfl,rfl⟩:=I6.no bowR bowT;have k:Le h4 j:=l5.trans (l6.trans (l7.trans (l8.trans (l9.trans (q.trans (s.trans (A.trans (C.trans G))))))));have a8:Le h6 j:=l7.trans (l8.trans (l9.trans (q.trans (s.trans (A.trans (C.trans G))))));have H:=(lG j (l4.trans k)).1;have ar:awrap .i64 (0+0)=0:=by decide
 have d0:decide ((0:Int)=0)=true:=by decide
 have av:decide ((90:Int)=90)=true:=by decide
 have ay:decide ((60:Int)=60)=true:=by decide
 refine Sk (IX ar d0 av ay H) ?_;refine TC.intro PJ ⟨Tryz.func27,rfl,WY⟩ (VS c _ r1 ⟨((4:Nat):Int),LO⟩ d j ((g1.gr.le l4).le k) (f.le (Nn.RL Nn.RP) k)) ?_;rintro x aC bh ⟨⟨bb,rfl,aD⟩,aH⟩;have hb:bb=true:=aD.2 ⟨c4R,M,(En c4R.GD c4R.q9 M).2 F1⟩;subst hb;have I:=fun g=>f.len (P:=Tryz.prog) sU g;have J:=fun g=>W.len (P:=Tryz.prog) sU g;have m:0<d.length:=by grind [Av.len]
 have K:=f.qP6 0 m;obtain⟨u,lu,hu⟩:=f.NS 0 m;have aJ:d[0].length=2:=by
  have:=M.J9 (v:=0) WY;rw[D4 m]at this;rw[this];decide+kernel
 have L:=fun g=>hu.Uc g;rw[aJ]at L;have e4:d.length=4:=M.len;have e5:V.length=5:=R2.len;rw[e4]at I;rw[e5]at J;simp only[dU]at K;have d4:decide (((4:Nat):Int)=4)=true:=by decide
 have d5:decide (((5:Nat):Int)=5)=true:=by decide
 have d2:decide (((2:Nat):Int)=2)=true:=by decide
 simp only[HO,Nat.reduceLT,↓reduceIte,Nat.reduceEqDiff,reduceCtorEq,I,J,d4,d5,d2,K,lu aC (k.trans aH),L]
 grind [Le.trans]
end
section
attribute [local instance] Classical.propDecidable
open Go.Proofs
variable {es:List Pr} {n:Nat}
theorem jt (c:0<n) (h:∀u v,u<n->v<n->Pu es u v):(Es n es).length=1:=by
 have m0:0∈Es n es:=QO.2 ⟨c,fun u d=>by omega⟩;have nd:=qD n es
 match hh:Es n es with
 |[]=>grind
 |[_]=>rfl
 |a::b::l=>
  rw[hh]at nd;have ha:a∈Es n es:=by rw[hh];simp
  have hb:b∈Es n es:=by rw[hh];simp
  grind [QO]
end
end Go.Fw
namespace Go.Fw
open Go.Proofs
attribute [local instance] Classical.propDecidable
inductive Rc (A:Nat->Nat->Prop) (c:Nat):Nat->Nat->Prop
 |refl {u:Nat}:Rc A c u u
 |step {u v w:Nat}:Rc A c u v->A v w->v≠c->w≠c->Rc A c u w
section
variable {A B : Nat → Nat → Prop} {c u v w a b n : Nat}
theorem Rc.trans (h:Rc A c u v) (k:Rc A c v w):Rc A c u w:=by induction k with|refl=>exact h|step _ a d h2 e=>exact e.step a d h2
theorem Rc.one (h:A u v) (d:u≠c) (h2:v≠c):Rc A c u v:=Rc.refl.step h d h2
theorem Rc.symm (sy:∀x y,A x y->A y x) (h:Rc A c u v):Rc A c v u:=by
 induction h with
 |refl=>exact .refl
 |step _ a d h2 e=>exact(Rc.one (sy _ _ a) h2 d).trans e
theorem Rc.sub (h:∀x y,A x y->x≠c->y≠c->Rc B c x y) (k:Rc A c u v):Rc B c u v:=by
 induction k with|refl=>exact .refl|step _ a d h2 e=>exact e.trans (h _ _ a d h2)
structure TwR (n:Nat) (A:Nat->Nat->Prop):Prop where
 n3:3<=n
 rc:∀c u v,u<n->v<n->u≠c->v≠c->Rc A c u v
theorem TwR.mono (T:TwR n A) (h:∀x y,A x y->B x y):TwR n B:=⟨T.n3,fun c u v d h2 h3 e=>(T.rc c u v d h2 h3 e).sub fun x y q f g=>Rc.one (h x y q) f g⟩
def upA (A:Nat->Nat->Prop) (a b m x y:Nat):Prop:=(A x y/\¬(x=a/\y=b)/\¬(x=b/\y=a))\/(x=m/\(y=a\/y=b))\/(y=m/\(x=a\/x=b))
theorem TwR.upon (T:TwR n A) (sy:∀x y,A x y->A y x) (lt:∀x y,A x y->x<n) (ab:A a b) (ne:a≠b) (hB:∀x y,B x y↔upA A a b n x y):TwR (n+1) B:=by
 have n3:=T.n3;have ha:=lt _ _ ab;have hb:=lt _ _ (sy _ _ ab);have f:∀x y,B x y->B y x:=fun x y h=>by rw[hB]at*;unfold upA at*;grind
 have j:∀c,c≠n->a≠c->b≠c->Rc B c a b:=fun c d h2 h3=>
  (Rc.one (v:=n) ((hB _ _).2 (.inr (.inr ⟨rfl,.inl rfl⟩))) h2 (uV d)).trans (Rc.one ((hB _ _).2 (.inr (.inl ⟨rfl,.inr rfl⟩))) (uV d) h3)
 have other:Rc B n a b:=by
  obtain⟨t,m,t1,k⟩:∃t,t<n/\t≠a/\t≠b:=by
   by_cases r:0≠a/\0≠b
   .exact⟨0,NH,r.1,r.2⟩
   by_cases c1:1≠a/\1≠b
   .exact⟨1,NH,c1.1,c1.2⟩
   exact⟨2,NH,NH,NH⟩
  have d:Rc B n a t:=by
   have:=T.rc b a t ha m ne k;clear m t1 k
   induction this with
   |refl=>exact .refl
   |step _ q g i o=>
    have l1:=lt _ _ q;have l2:=lt _ _ (sy _ _ q);exact o.trans ((Rc.one ((hB _ _).2 (.inl ⟨q,fun e=>i e.2,fun e=>g e.1⟩)) NH NH))
  have h2:Rc B n b t:=by
   have:=T.rc a b t hb m (uV ne) t1;clear m t1 k d
   induction this with
   |refl=>exact .refl
   |step _ q g i o=>
    have l1:=lt _ _ q;have l2:=lt _ _ (sy _ _ q);exact o.trans ((Rc.one ((hB _ _).2 (.inl ⟨q,fun e=>g e.1,fun e=>i e.2⟩)) NH NH))
  exact d.trans (h2.symm f)
 have l:∀c,a≠c->b≠c->Rc B c a b:=fun c d h2=>by
  by_cases h:c=n
  .subst h;exact other
  .exact j c h d h2
 have qi:∀c u v,u<n->v<n->u≠c->v≠c->Rc B c u v:=fun c u v d h2 h3 p=>by
  refine(T.rc c u v d h2 h3 p).sub fun x y q g i=>?_;by_cases z:x=a/\y=b
  .obtain⟨rfl,rfl⟩:=z;exact l c g i
  by_cases C:x=b/\y=a
  .obtain⟨rfl,rfl⟩:=C;exact(l c i g).symm f
  .exact Rc.one ((hB _ _).2 (.inl ⟨q,z,C⟩)) g i
 have D:∀c,n≠c->∃t,t<n/\t≠c/\Rc B c n t:=fun c h=>by
  by_cases e:a=c
  .exact⟨b,hb,fun q=>ne (e.trans q.symm),Rc.one ((hB _ _).2 (.inr (.inl ⟨rfl,.inr rfl⟩))) h fun q=>ne (e.trans q.symm)⟩
  .exact⟨a,ha,e,Rc.one ((hB _ _).2 (.inr (.inl ⟨rfl,.inl rfl⟩))) h e⟩
 refine⟨NH,fun c u v d h2 h3 p=>?_⟩;have new:∀u,u<n+1->u≠c->∃t,t<n/\t≠c/\Rc B c u t:=fun u d h3=>by
  by_cases e:u=n
  .subst e;exact D c h3
  .exact⟨u,NH,h3,.refl⟩
 obtain⟨t,t1,k,E⟩:=new u d h3;obtain⟨s,s1,s2,F⟩:=new v h2 p;exact(E.trans (qi c t s t1 s1 k s2)).trans (F.symm f)
end
section
variable {n : Nat} {es : List Pr}
def TwR.twoG (T:TwR n (Jp es)) (hR:aV n es):zW n es:=by
 have n3:=T.n3;refine⟨n3,jt NH fun u v j k=>?_,fun c ⟨a,b,d,h2,h⟩=>h ?_⟩
 .have := T.rc n u v j k NH NH
  induction this with
  |refl=>exact Cn.refl rfl
  |step _ q l g f=>exact Cn.step (f (q.lt hR).1) q rfl
 .have n1 : a ≠ c := fun e => by rw [e] at d; exact Xa hR d
  have i:b≠c:=fun e=>by rw[e]at h2;exact Xa hR h2
  have:=T.rc c a b (d.lt hR).2 (h2.lt hR).2 n1 i;clear h h2 i
  induction this with
  |refl=>exact .refl (iO n1)
  |step _ q l g f=>exact .step f q (iO g)
abbrev sg (L:List Pr):List Pr:=sortP (L.map aac)
def aal (L:List Pr) (x y:Nat):Jp (sg L) x y↔Jp L x y:=by
 have key:∀p:Pr,aac p=((x:Int),(y:Int))->p=((x:Int),(y:Int))\/p=((y:Int),(x:Int)):=fun p h=>by
  obtain⟨a,b⟩:=p;simp only[aac,IE]at*;omega
 have f:∀p:Pr,aac p=((y:Int),(x:Int))->p=((x:Int),(y:Int))\/p=((y:Int),(x:Int)):=fun p h=>by
  obtain⟨a,b⟩:=p;simp only[aac,IE]at*;omega
 have g:aac ((x:Int),(y:Int))=((x:Int),(y:Int))\/aac ((x:Int),(y:Int))=((y:Int),(x:Int)):=by simp only[aac,IE];omega
 have d:aac ((y:Int),(x:Int))=aac ((x:Int),(y:Int)):=by simp only[aac,IE];omega
 unfold Jp sg;simp only[Wb,eR];constructor
 .rintro (⟨p, i, e⟩ | ⟨p, i, e⟩)
  .rcases key p e with rfl|rfl<;>simp[i]
  .rcases f p e with rfl|rfl<;>simp[i]
 .rintro (h | h)
  .exact g.imp (fun e=>⟨_,h,e⟩) (fun e=>⟨_,h,e⟩)
  .exact g.imp (fun e=>⟨_,h,d.trans e⟩) (fun e=>⟨_,h,d.trans e⟩)
def abx {L:List Pr} (k:YG (n:Int) L) {x y:Nat} (h:Jp L x y):x<n:=(((aal L x y).2 h).lt k.right.GD).1
theorem aV.up {m:Nat} (h:aV n es) (e:n<=m):aV m es:=fun p d=>by have:=h p d;omega
def aaU {L e:List Pr} {a b N:Nat} (k:YG (n:Int) L) (f:YG ((n+1:Nat):Int) e) (ab:Jp L a b) (hB:∀x y,Jp e x y↔upA (Jp L) a b n x y) (g:n+1<=N):
  XU N (eN N (sg e))↔XU N (eN N (sg L)):=by
 have d:=k.right.GD.up (m:=N) NH;have i:=f.right.GD.up (m:=N) g;have em:eN N (sg L) n=[]:=by
  rcases h:eN N (sg L) n with _|⟨w,l⟩
  .rfl
  .have := abx k ((aal _ _ _).1 ((vD d).1 (show w ∈ eN N (sg L) n by rw [h]; simp)))
   omega
 exact aaH.planar (n:=N) (a:=a) (b:=b) (m:=n) ⟨MG d k.right.q9,MG i f.right.q9,(vD d).2 ((aal _ _ _).2 ab),em,g,fun v w=>by rw[vD d,vD i,aal,aal,hB];rfl⟩
def abh (hR:aV n es) {m:Nat} (d:n<=m):XU m (eN m es)↔XU n (eN n es):=by
 obtain⟨k,rfl⟩:=oK d;have:=XU.mores (n:=n) (E:=eN n es) (fun v w h=>(((vD hR).1 h).lt hR).1) k;rw[<-this];exact XU.congr fun v w=>by rw[vD hR,vD (hR.up d)]
end
end Go.Fw
namespace Go.Fw
open Go.Proofs
attribute [local irreducible] Kp MQ lU rS KO KN KX KE VK Kl ZJ TC gU
attribute [local instance] Classical.propDecidable
def aba {p:Pr} (h:p.1<p.2):aac p=p:=by obtain⟨a,b⟩:=p;simp only[aac,IE]at*;omega
def bX.abb {n:Nat} {L:List Pr} (h:bX ⟨(n:Int),L⟩):YG (n:Int) L:=by
 have e:L.map aac=L:=by
  have:L.map aac=L.map id:=Yi fun p c=>aba (h.GD p c).2.1;rw[this,xj]
 exact⟨h.n0,h.n1,h.len,fun p c=>by rw[aba (h.GD p c).2.1];have:=h.GD p c;omega,by rw[e];exact(show D3 L from h.q9).nodup⟩
section
variable {n a b : Nat} {L1 L2 : List Pr}
end
end Go.Fw
namespace Go.Fw
section
attribute [local irreducible] Kp MQ lU rS KO KN KX KE VK Kl ZJ TC gU
attribute [local irreducible] Jz JL vq cQ
open Go.Proofs
variable {es:List Pr} {ev:Value} {g h:AHeap} {n:Int}
def aaq (hw:WF h):∃a,aAlloc Tryz.prog h 24=some (.pointer (some ⟨h.next,0,none⟩),a)/\Le h a/\WF a/\a.own h.next=some (.cells [.int .i64 0,.slice none 0 0]):=by
 obtain⟨a,b,l1,w1,c⟩:=Tt hw [.int .i64 0,.slice none 0 0];exact⟨a,by rw[Lo,b],l1,w1,c⟩
def aaV {h a:AHeap} (hw:WF h) {Y:Nat} (o:h.own Y=some (.cells [.int .i64 0,.slice none 0 0])) (g:GP h ev es) (b:blk ev≠some Y) (l:Le a h) (n0:a.own Y=none):
  ∃h',aStore Tryz.prog h 24 (.pointer (some ⟨Y,0,none⟩)) (.agg #[.int .i64 n,ev])=some h'/\Le a h'/\WF h'/\GP h' ev es/\∀q,Le h' q->aload Tryz.prog q 24 ⟨Y,0,none⟩=some (.agg #[.int .i64 n,ev]):=by
 obtain⟨_,_,e,-⟩:=g.pr.sl;refine⟨_,DG o g.pr.sl.one (by rw[e];rfl),l.put _ n0,hw.put _ (hw.lt o),GS.put g _ b,fun q c=>tY (c.own _ _ (AHeap.Y3 _ _ _)) ⟨_,_,_,e⟩⟩
def abc (hw:WF h) (r:PR h ev es):∃a h2,aAlloc Tryz.prog h 24=some (.pointer (some ⟨h.next,0,none⟩),a)/\aStore Tryz.prog a 24 (.pointer (some ⟨h.next,0,none⟩)) (.agg #[.int .i64 n,ev])=some h2/\Le h h2/\WF h2/\
  h2.own h.next=some (.cells [.int .i64 n,ev])/\Le h a:=by
 obtain⟨a,c,l1,w1,b⟩:=aaq hw;obtain⟨_,_,e,-⟩:=r.sl
 exact⟨a,_,c,DG b r.sl.one (by rw[e];rfl),l1.put _ ((Le.refl h).next hw (vT _)),w1.put _ (w1.lt b),AHeap.Y3 _ _ _,l1⟩
def ldGo {X:Nat} (r:PR h ev es) (o:g.own X=some (.cells [.int .i64 n,ev])):aload Tryz.prog g 24 ⟨X,0,none⟩=some (.agg #[.int .i64 n,ev]):=by
 obtain⟨_,_,e,-⟩:=r.sl;exact tY o ⟨_,_,_,e⟩
end
end Go.Fw
namespace Go.Fw
open Go.Proofs
attribute [local instance] Classical.propDecidable
section
variable {n a b : Nat} {D R : List Pr}
theorem aby (k:YG (n:Int) (D++((a:Int),(b:Int))::R)) (j:n+1<=200) (g:(D++((a:Int),(b:Int))::R).length+1<=594):
  YG ((n+1:Nat):Int) ((D++[((a:Int),(n:Int))])++((n:Int),(b:Int))::R):=by
 have e:=k.ok ((a:Int),(b:Int)) Ma;have n1:aac ((a:Int),(n:Int))=((a:Int),(n:Int)):=by simp only[aac,IE]at e ⊢;omega
 have f:aac ((n:Int),(b:Int))=((b:Int),(n:Int)):=by simp only[aac,IE]at e ⊢;omega
 have ne:a≠b:=fun h=>by simp only[aac]at e;omega
 have nd:=k.nd;rw[qH,Uz]at nd;refine⟨NH,NH,by simp at g ⊢;omega,fun p c=>?_,?_⟩
 .by_cases i : p = ((a : Int), (n : Int))
  .rw[i,n1];simp only[aac]at e ⊢;omega
  by_cases h2:p=((n:Int),(b:Int))
  .rw[h2,f];simp only[aac]at e ⊢;omega
  .have := k.ok p (by simp at c ⊢; grind)
   omega
 .rw [qH, Uz, qH, Uz, List.map_nil, n1, f]
  have no:∀p∈D++R,∀x:Int,aac p≠(x,(n:Int)):=fun p c x h=>by
   have:=k.ok p (by simp at c ⊢;grind);rw[h]at this;simp only at this;omega
  have d:(D.map aac++R.map aac).Nodup:=(jf.1 (sD.nodup_iff.1 nd)).2;have pm:(D.map aac++[((a:Int),(n:Int))]++((b:Int),(n:Int))::R.map aac).Perm (((a:Int),(n:Int))::((b:Int),(n:Int))::(D.map aac++R.map aac)):=by
   refine sD.trans ?_;refine((List.Perm.append_right _ (MA (l₁:=D.map aac) (l₂:=[((a:Int),(n:Int))]))).cons _).trans ?_;exact List.Perm.swap _ _ _
  refine pm.nodup_iff.2 (jf.2 ⟨?_,jf.2 ⟨?_,d⟩⟩)
  .rw [Z6, <- qH, eR]
   rintro(h|⟨p,c,h⟩)
   .simp only[IE]at h;omega
   .exact no p c _ h
  .rw [<- qH, eR]
   rintro⟨p,c,h⟩;exact no p c _ h
theorem abi (k:YG (n:Int) (D++((a:Int),(b:Int))::R)) (x y:Nat):
  Jp ((D++[((a:Int),(n:Int))])++((n:Int),(b:Int))::R) x y↔upA (Jp (D++((a:Int),(b:Int))::R)) a b n x y:=by
 have nd:=k.nd;rw[qH,Uz]at nd;have no:=(jf.1 (sD.nodup_iff.1 nd)).1;rw[<-qH]at no;have c:((a:Int),(b:Int))∉D++R:=fun h=>no (List.mem_map_of_mem h);have d:((b:Int),(a:Int))∉D++R:=fun h=>no (by
  have e:aac ((a:Int),(b:Int))=aac ((b:Int),(a:Int)):=by simp only[aac,IE];omega
  rw[e];exact List.mem_map_of_mem h)
 have q:∀x y:Nat,(Jp (D++((a:Int),(b:Int))::R) x y/\¬(x=a/\y=b)/\¬(x=b/\y=a))↔Jp (D++R) x y:=fun x y=>by
  unfold Jp;simp only[Sb,Z6,IE,Int.natCast_inj]at c d ⊢;constructor
  .rintro⟨h,f,h2⟩;grind
  .intro h
   refine⟨pw,fun w=>?_,fun w=>?_⟩
   .obtain⟨rfl,rfl⟩:=w;exact h.elim c d
   .obtain⟨rfl,rfl⟩:=w;exact h.elim d c
 unfold upA;rw[q];unfold Jp;simp only[Sb,Z6,vg,or_false,IE,Int.natCast_inj]
 grind
end
structure Twi (n:Nat) (S:List Pr):Prop where
 ok:YG (n:Int) S
 two:TwR n (Jp S)
 no:∀N,n<=N->N<=200->¬XU N (eN N (sg S))
def Twi.upon {n a b:Nat} {D R:List Pr} (T:Twi n (D++((a:Int),(b:Int))::R)) (e:n+1<=200) (f:(D++((a:Int),(b:Int))::R).length+1<=594):Twi (n+1) ((D++[((a:Int),(n:Int))])++((n:Int),(b:Int))::R):=by
 have c:=aby T.ok e f;have ab:Jp (D++((a:Int),(b:Int))::R) a b:=.inl Ma;have ne:a≠b:=fun h=>by
  have:=T.ok.ok ((a:Int),(b:Int)) Ma;simp only[aac]at this;omega
 have d:=fun x y=>abi T.ok x y;exact⟨c,T.two.upon (fun x y h=>h.symm) (fun x y h=>abx T.ok h) ab ne d,fun N g h2 h=>T.no N NH h2 ((aaU T.ok c ab d g).1 h)⟩
theorem Twi.more {n:Nat} {S c:List Pr} (T:Twi n S) (k:YG (n:Int) c) (h:∀x y,Jp S x y->Jp c x y):Twi n c:=by
 refine⟨k,T.two.mono h,fun N d h2 P=>T.no N d h2 ?_⟩;have e:=T.ok.right.GD.up d;have f:=k.right.GD.up d;refine P.less (fun v w q=>?_) fun v w q=>?_
 .rw [vD e, aal] at q
  rw[vD f,aal];exact h _ _ q
 .rw[vD e]at q ⊢;exact q.symm
def twi_of {n:Nat} {S:List Pr} (r:bX ⟨(n:Int),S⟩) (h3:3<=n) (hA:∀u v,u<n->v<n->u≠v->Jp S u v\/∃z w,z<n/\w<n/\z≠w/\Jp S u z/\Jp S z v/\Jp S u w/\Jp S w v)
  (f:∀N,n<=N->¬XU N (eN N S)):Twi n S:=by
 refine⟨r.abb,⟨h3,fun c u v d h2 g i=>?_⟩,fun N d _ P=>f N d ?_⟩
 .by_cases e : u = v
  .rw[e];exact .refl
  .rcases hA u v d h2 e with h | ⟨z, w, -, -, j, l, m, o, p⟩
   .exact Rc.one h g i
   .by_cases k : z = c
    .have hw : w ≠ c := fun q => j (k.trans q.symm)
     exact(Rc.one o g hw).trans (Rc.one p hw i)
    .exact(Rc.one l g k).trans (Rc.one m k i)
 .have s := r.GD.up d
  have t:=r.abb.right.GD.up d;exact(XU.congr fun v w=>by rw[vD s,vD t,aal]).1 P
def aa0 (S:List Pr) (u v:Nat):Bool:=S.contains ((u:Int),(v:Int))||S.contains ((v:Int),(u:Int))
def abz {S:List Pr} {u v:Nat} (h:aa0 S u v=true):Jp S u v:=by rw[aa0,fE,qL200,qL200]at h;exact h
def twoB (n:Nat) (S:List Pr):Bool:=(List.range n).all fun u=>(List.range n).all fun v=>u==v||aa0 S u v||(List.range n).any fun z=>(List.range n).any fun w=>z !=w&&aa0 S u z&&aa0 S z v&&aa0 S u w&&aa0 S w v
def abd {n:Nat} {S:List Pr} (r:bX ⟨(n:Int),S⟩) (h3:3<=n) (hB:twoB n S=true) (c:¬XU n (eN n S)):Twi n S:=by
 refine twi_of r h3 (fun u v d h2 h=>?_) fun N f P=>c ((abh r.GD f).1 P);unfold twoB at hB;have:=K4.1 (K4.1 hB u (fR.2 d)) v (fR.2 h2);simp only[fE,beq_iff_eq,List.any_eq_true,Vn,bne_iff_ne,fR]at this;rcases this with(e|e)|⟨z,g,w,hw,⟨⟨⟨q,i⟩,j⟩,k⟩,l⟩
 .exact absurd e h
 .exact .inl (abz e)
 .exact .inr ⟨z,w,g,hw,q,abz i,abz j,abz k,abz l⟩
def k5_twi:Twi 5 k5L:=abd k5R NH iw k5N
def k33_twi:Twi 6 E9:=abd k33R NH iw k33N
end Go.Fw
