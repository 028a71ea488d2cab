/- A text. -/
import Derived.Test.YtkccdnmaaelbiaaGreatFwLJ22
set_option linter.all false
set_option maxRecDepth 99999
set_option maxHeartbeats 9999999
namespace Go.Fw
section
attribute [local instance] Classical.propDecidable
attribute [local irreducible] Kp MQ lU rS KO KN KX KE VK Kl ZJ TC gU
open Go.Proofs
variable {B O n v:Nat} {S:kR} {bv fv iv lv:Value} {cs us ws:List Value} {es:List Pr} {g h:AHeap} {left:List wW} {r:Nat->II} {rows:AM}
theorem Nb (d:LA) (v:Value) (n:Nat) (es:List Pr) (h:AHeap) (hg:GR h v ⟨(n:Int),es⟩) (e:bX ⟨(n:Int),es⟩):
  AC Tryz.prog d 51 [v] h fun x h'=>RR (zW n es) x/\Le h h':=by
 have c:=hg
 obtain⟨ev,rfl,u⟩:=hg.open
 refine AC.vE ⟨Tryz.func51,rfl,WY⟩ Tryz.ntmps51 Tryz.results51 fun i=>?_;simp only[Br,Nat.reduceAdd];obtain⟨o,p,a,w,-,q⟩:=r8 (n:=(n:Int)) i u
 generalize h.next=B at*
 have b:=q o (Le.refl _);by_cases r:(n:Int)<3
 .have j : decide ((n : Int) < 3) = true := decide_eq_true r
  refine Sk (bG p @Ii @Ip.eq_1 @XJ b.2.1 j) ?_;exact⟨RR.f fun T=>by have:=T.n3;omega,a⟩
 have j:decide ((n:Int)<3)=false:=decide_eq_false r;have h3:3<=n:=NH;refine Sk (rE p @Ii @Ip.eq_1 @XJ b.2.1 b.1 j) ?_;refine TC.intro PJ ⟨Tryz.func64,rfl,WY⟩ (It d _ ⟨(n:Int),es⟩ o (c.le a) e) ?_;rintro pv s D ⟨gp,l4,-⟩;simp only[yY]at gp;have y:=gp.rl (Nn.RL Nn.RP);have k:=fun g=>y.fy g;have l:((Gx n es n).map kz).length=(Es n es).length:=by simp[Gx]
 rw[l]at k;have m:=q s l4;by_cases c1:((Es n es).length:Int)=1
 rotate_left
 .have d1 : decide (((Es n es).length : Int) = 1) = false := decide_eq_false c1
  refine Sk (Yb k @bne.eq_1.{0} d1) ?_
  grind [RR.f,zW.one,Le.trans]
 have d1:decide (((Es n es).length:Int)=1)=true:=decide_eq_true c1;have z:(Es n es).length=1:=NH;refine Sk (xU k @bne.eq_1.{0} d1 m.1) ?_
 refine TC.intro PJ ⟨Tryz.func46,rfl,WY⟩ (Cw d _ ⟨(n:Int),es⟩ s (c.le (a.trans l4))) ?_;rintro x E F ⟨l5,⟨A,_⟩|⟨_,G,rfl,t⟩⟩
 .exact absurd e A
 simp only[yY]at t;have C:=fun g=>t.len (P:=Tryz.prog) qS35 g;have H:=Uv e h3 z;refine Sk C ?_;refine⟨⟨_,rfl,?_⟩,(a.trans l4).trans l5⟩
 grind
noncomputable def embX (n:Nat) (es:List Pr):Option AM:=if 3*n<es.length+6 then none else embM n es
theorem MD {H:Nat->Nat->Prop} (hR:aV n es) (hA:D3 es) (D:QG (eN n es)) (I:Z8 n es H S) (h:OW es H=0):S.left=[]:=by
 rcases UK hR hA D 0 H S I NH with⟨a,-⟩|⟨b,c,a,-,h3⟩
 all_goals grind [runM]
theorem run_nil (h:S.left=[]):∀k,runM n rows k S=some S
 |0=>rfl
 |k+1=>by grind [runM.eq_2]
theorem lx.rlF {on:List Bool} {b d:Cs} (S:lx g h B O n rows bv fv iv lv us ws cs on b d left):RL (RL RP) h fv (b.map kz):=
 ⟨us,(GS.cs S.gF).rs,by grind [lx.uL],fun i x u a e=>by
  rw[zm]at a;cases c:b[i]? with
  |none=>grind
  |some f=>
   rw[c]at a;simp at a;subst a;exact(S.cF i u f e c).le Nn.RP S.le⟩
theorem face_bd {F:Cs} (G:vy n r F):∀f∈F,(∀x∈f,x<n)/\f.length<=n:=fun f hf=>by
 have a:∀x∈f,x<n:=fun x b=>G.Rl.lt _ _ (G.O.df G.Rl hf b);refine⟨a,?_⟩;have:=tf (G.O.nd f hf) (B:=List.range n) fun v c=>Og.2 (a v c)
 grind
theorem row_pos (a:zW n es) (hR:aV n es) (b:v<n):0<((Zh n es).getD v []).length:=by
 obtain⟨w,hw⟩:=a.ne hR b;obtain⟨u,c,e⟩:=Gw ((aU hR).2 ⟨w,hw⟩)
 grind [qG,Av.back]
theorem row_le (b:v<n):((Zh n es).getD v []).length<=2*es.length:=by
 have a:v<(Zh n es).length:=by grind [Xq]
 rw[D4 a];exact bV n es _ (EP a)
def GRc (h:AHeap) (v:Value) (G:GM):Prop:=∃ev,v=.agg #[.int .i64 G.n,ev]/\PR h ev G.es/\Ov 2 ev
def GRc.gr {v:Value} {G:GM} (g:GRc h v G):GR h v G:=by
 obtain⟨ev,a,h2,-⟩:=g;exact⟨ev,a,h2⟩
def Hw (G:GM) (h':AHeap) (a:Value) (e:Int):Prop:=
 (¬bX G/\e=20/\a=rW)\/(bX G/\¬zW G.n.toNat G.es/\e=60/\a=rW)\/
 (bX G/\zW G.n.toNat G.es/\embX G.n.toNat G.es=none/\¬XU G.n.toNat (eN G.n.toNat G.es)/\e=90/\a=rW)\/
 (bX G/\zW G.n.toNat G.es/\∃rs,embX G.n.toNat G.es=some rs/\Av G.n.toNat G.es rs/\Flat G.n.toNat (Xl rs)/\e=0/\RL (RL RP) h' a rs)
theorem Im (t:LA) (v:Value) (G:GM) (h:AHeap) (hg:GRc h v G):
  AC Tryz.prog t 19 [v] h fun x h'=>Le h h'/\∃rv e,x=.tuple #[rv,.int .i64 e]/\Hw G h' rv e:=by
 have z:=hg.gr;obtain⟨ev,rfl,N,hc⟩:=hg;obtain⟨gn,es⟩:=G;simp only at N;refine AC.vE ⟨NQ,rfl,WY⟩ Tryz.ntmps19 Tryz.results19 fun Q=>?_;simp only[Br,Nat.reduceAdd];obtain⟨h1,b1,p,aJ,-,R⟩:=r8 (n:=gn) Q N
 generalize h.next=B1 at*
 have T:=R h1 (Le.refl _);refine Sk (XC b1 T.1) ?_;refine TC.intro PJ ⟨zL,rfl,WY⟩ (ak t _ _ h1 (z.le p)) ?_;rintro x h2 aK ⟨⟨U,rfl,i⟩,m⟩;cases U with
 |false=>
  refine Uy ?_;exact⟨p.trans m,_,_,rfl,.inl ⟨(fun d=>by grind),rfl,rfl⟩⟩
 |true=>
 have d:=i.1 rfl;clear i;have h0:0<=gn:=d.n0;obtain⟨n,rfl⟩:=HV h0;have aD:(n:Int)<=200:=d.n1;have aH:es.length<=594:=d.len;have hR:=d.GD;have hA:D3 es:=d.q9;have a:=p.trans m;refine Sk ((R h2 m).1) ?_;refine TC.intro PJ ⟨Tryz.func51,rfl,WY⟩ (Nb t _ n es h2 (z.le a) d) ?_;rintro x h3 aP ⟨⟨U,rfl,i⟩,j⟩;have fT:=R h3 (m.trans j);cases U with
 |false=>
  refine Uy ?_;exact⟨a.trans j,_,_,rfl,.inr (.inl ⟨d,(fun q=>by cases i.2 q),rfl,rfl⟩)⟩
 |true=>
 have l:=i.1 rfl;clear i;have aT:=l.n3;have lP:=fun g=>N.len g;have A:awrap .i64 (3*(n:Int))=3*(n:Int):=ie _ NH NH;have C:awrap .i64 (3*(n:Int)-6)=3*(n:Int)-6:=ie _ NH NH;by_cases c1:3*n<es.length+6
 .have d1 : decide ((es.length : Int) > 3 * (n : Int) - 6) = true := decide_eq_true NH
  simp only[HO,Nat.reduceLT,↓reduceIte,Nat.reduceEqDiff,reduceCtorEq,Ii,Di,Ip,XJ,fT.2.1,fT.2.2,lP,A,C,d1];exact⟨a.trans j,_,_,rfl,.inr (.inr (.inl ⟨d,l,if_pos c1,aaF d l c1,rfl,rfl⟩))⟩
 have d1:decide ((es.length:Int)>3*(n:Int)-6)=false:=decide_eq_false NH;simp only[HO,Nat.reduceLT,↓reduceIte,Nat.reduceEqDiff,reduceCtorEq,Ii,Di,Ip,XJ,fT.2.1,fT.2.2,fT.1,lP,A,C,d1];refine TC.intro PJ ⟨Tryz.func52,rfl,WY⟩ (Si t ev n es h3 (N.le (a.trans j)) hc d l) ?_;rintro x h4 w4 ⟨g4,B,O,bv,u,w,y,us,ws,cs,rfl,V,S4,Rg⟩;have I0:=Rg.start hR hA (L:=MF n (Qw n (sortP (ZH (zl n es)))) es) uY;have hX:embX n es=(runM n (Zh n es) es.length (RB n es)).map fun S=>xY n (Zh n es) S.Jv:=if_neg c1;have D:=l.Z7 hR;have E:OW es (Ei (zl n es))<=es.length:=qQ _ _;have F:=(a.trans j).trans V;refine Uy ?_;refine gU.intro (fun k fr W=>∃(S:kR) (H:Nat->Nat->Prop) (g:AHeap) (u w y:Value) (us ws cs:List Value),fr=mkF [(4,.pointer (some ⟨B,0,none⟩))]/\Z8 n es H S/\runM n (Zh n es) es.length (RB n es)=runM n (Zh n es) k S/\OW es H<=k/\
   lx g W B O n (Zh n es) bv u w y us ws cs S.on S.Jv S.Jv S.left/\Le g4 g)
  es.length [(4,.pointer (some ⟨B,0,none⟩))] fD
  ⟨RB n es,_,g4,u,w,y,us,ws,cs,rfl,I0,rfl,E,S4,Le.refl _⟩ ?_
 clear S4 I0 E w4;clear h4 u w y us ws cs;rintro k fr W aW ⟨S,H,g,u,w,y,us,ws,cs,rfl,I,b,hu,o,X⟩;have J:=sB B 5 NH;have lL:=o.lenL;by_cases c:S.left=[]
 .have Y : decide ((S.left.length : Int) > 0) = false := by rw [c]; rfl
  refine Sk (xU J o.f.l5 lL Y) ?_;rw[run_nil c]at b;obtain⟨r,Z,fl,hm⟩:=I.done c;obtain⟨k1,k2⟩:=circ_ok d l Z fl hm;have K:=face_bd Z;have aX:=I.My;refine TC.intro PJ ⟨Tryz.func54,rfl,WY⟩ (pY t B n bv _ u w y (Zh n es) S.Jv W o.f (o.cB.le (Nn.RL Nn.RP) o.le) o.rlF (Xq n es) (fun v hv=>⟨row_pos l hR hv,by have:=row_le (es:=es) hv;omega⟩) (fun f hf=>⟨(K f hf).1,by have:=(K f hf).2;omega⟩) NH NH NH (L9 d l Z hm)) ?_;rintro x h9 w9 ⟨hx,l9⟩;refine Uy ?_;refine⟨((F.trans X).trans o.le).trans l9,x,_,rfl,.inr (.inr (.inr ⟨d,l,_,?_,k1,k2,rfl,hx⟩))⟩
  grind
 .have Y : decide ((S.left.length : Int) > 0) = true := by grind [List.length_pos_iff]
  obtain⟨k',rfl⟩:∃k',k=k'+1:=by
   cases k<;>grind [MD]
  refine Sk (xU J o.f.l5 lL Y) ?_;refine TC.intro PJ ⟨Tryz.func53,rfl,WY⟩ (lay_any t o d D I c) ?_;rintro x h9 w9 ⟨g9,M,l9,s⟩;rw[runM,if_neg c]at b;rcases s with⟨q1,rfl⟩|⟨S',ad,ag,aj,al,aq,ar,q1,rfl,av⟩
  .rw [q1] at b
   refine Uy ?_;have ay:¬XU n (eN n es):=by grind [Z8.lay]
   refine⟨((F.trans X).trans M).trans l9,_,_,rfl,.inr (.inr (.inl ⟨d,l,?_,ay,rfl,rfl⟩))⟩
   grind
  .rw [q1] at b
   refine Uy ?_;obtain⟨P,I',a1⟩:∃P,Z8 n es P S'/\OW es P<OW es H:=by grind [Z8.lay]
   exact tn k' [(4,.pointer (some ⟨B,0,none⟩))] (u3 _) fD ⟨S',P,g9,ad,ag,aj,al,aq,ar,rfl,I',b,NH,av,X.trans M⟩
end
end Go.Fw
namespace Go.Fw
open Go.Proofs
attribute [local irreducible] Jz JL vq cQ
def okB (n:Int) (es:List Pr) (i:Nat):Bool:=match es[i]? with
 |some p=>decide (0<=p.1)&&decide (p.1<p.2)&&decide (p.2<n)&&(i==0||match es[i-1]? with|some q=>decide (Nz q p<0)|none=>true)
 |none=>true
theorem V5 {n:Int} {es:List Pr} (a:0<=n) (b:n<=200) (c:es.length<=594) (d:(List.range es.length).all (okB n es)=true):bX ⟨n,es⟩:=by
 refine⟨a,b,c,fun i hi p f=>?_⟩;have:=mJ.1 d i (Og.2 hi)
 grind [okB]
attribute [local instance] Classical.propDecidable in
theorem tT {n:Nat} {es:List Pr} {rs:AM} (a:bX ⟨(n:Int),es⟩) (G:Av n es rs) (b:0<n) (c:∀v,v<n->Pu es 0 v) (hf:n+(IN n rs).length=es.length+2):XU n (eN n es):=
 Vg a.GD a.q9 G ((En a.GD a.q9 G).1 ((vS a.GD a.q9 G b c).2 fun _=>hf))
attribute [local instance] Classical.propDecidable in
theorem XI {n:Nat} {es:List Pr} (b:bX ⟨(n:Int),es⟩) (h3:3<=n) (a:es≠[]) (c:∀v,v<n->Pu es 0 v) (hb:(vq n es).length=1):zW n es:=
 (Uv b h3 (FQ b.GD NH a c).2).1 hb
attribute [local instance] Classical.propDecidable in
theorem fJ {n:Nat} {es:List Pr} (b:bX ⟨(n:Int),es⟩) (h3:3<=n) (a:es≠[]) (c:∀v,v<n->Pu es 0 v) (hb:JL n es≠[]):¬zW n es:=fun T=>
 hb ((qW b h3 (FQ b.GD NH a c).2).2 T)
def LO:List Pr:=[(0,1),(0,3),(1,2),(2,3)]
def m5E:List Pr:=[(0,2),(0,3),(0,4),(1,2),(1,3),(1,4),(2,3),(2,4),(3,4)]
def k5L:List Pr:=(0,1)::m5E
def E9:List Pr:=[(0,3),(0,4),(0,5),(1,3),(1,4),(1,5),(2,3),(2,4),(2,5)]
def p3E:List Pr:=[(0,1),(1,2)]
def Rj:List Pr:=[(0,1),(0,2),(1,2),(2,3),(2,4),(3,4)]
def c4R:bX ⟨((4:Nat):Int),LO⟩:=V5 WY WY WY iw
def m5R:bX ⟨((5:Nat):Int),m5E⟩:=V5 WY WY WY iw
def k5R:bX ⟨((5:Nat):Int),k5L⟩:=V5 WY WY WY iw
def k33R:bX ⟨((6:Nat):Int),E9⟩:=V5 WY WY WY iw
def p3R:bX ⟨((3:Nat):Int),p3E⟩:=V5 WY WY WY iw
def bowR:bX ⟨((5:Nat):Int),Rj⟩:=V5 WY WY WY iw
theorem c4con:∀v,v<4->Pu LO 0 v:=fun v a=>by
 have c1:Pu LO 0 1:=vm (.inl WY)
 match v,a with
 |0,_=>grind [Pu.refl]
 |1,_=>exact c1
 |2,_=>exact aae c1 (.inl WY)
 |3,_=>exact vm (.inl WY)
theorem m5con:∀v,v<5->Pu m5E 0 v:=fun v a=>by
 have c2:Pu m5E 0 2:=vm (.inl WY)
 match v,a with
 |0,_=>grind [Pu.refl]
 |1,_=>exact aae c2 (.inr WY)
 |2,_=>exact c2
 |3,_=>exact vm (.inl WY)
 |4,_=>exact vm (.inl WY)
theorem k5con:∀v,v<5->Pu k5L 0 v:=fun v a=>by
 match v,a with
 |0,_=>grind [Pu.refl]
 |1,_=>exact vm (.inl WY)
 |2,_=>exact vm (.inl WY)
 |3,_=>exact vm (.inl WY)
 |4,_=>exact vm (.inl WY)
theorem k33con:∀v,v<6->Pu E9 0 v:=fun v b=>by
 have a:Pu E9 0 3:=vm (.inl WY)
 match v,b with
 |0,_=>grind [Pu.refl]
 |1,_=>exact aae a (.inr WY)
 |2,_=>exact aae a (.inr WY)
 |3,_=>exact a
 |4,_=>exact vm (.inl WY)
 |5,_=>exact vm (.inl WY)
theorem p3con:∀v,v<3->Pu p3E 0 v:=fun v a=>by
 have c1:Pu p3E 0 1:=vm (.inl WY)
 match v,a with
 |0,_=>grind [Pu.refl]
 |1,_=>exact c1
 |2,_=>exact aae c1 (.inl WY)
theorem bowcon:∀v,v<5->Pu Rj 0 v:=fun v a=>by
 have c2:Pu Rj 0 2:=vm (.inl WY)
 match v,a with
 |0,_=>grind [Pu.refl]
 |1,_=>exact vm (.inl WY)
 |2,_=>exact c2
 |3,_=>exact aae c2 (.inl WY)
 |4,_=>exact aae c2 (.inl WY)
def c4T:zW 4 LO:=XI c4R WY WY c4con iw
def m5T:zW 5 m5E:=XI m5R WY WY m5con iw
def k5T:zW 5 k5L:=XI k5R WY WY k5con iw
def k33T:zW 6 E9:=XI k33R WY WY k33con iw
def p3T:¬zW 3 p3E:=fJ p3R WY WY p3con iw
def bowT:¬zW 5 Rj:=fJ bowR WY WY bowcon iw
def c4Ro:AM:=[[1,3],[0,2],[1,3],[0,2]]
def m5Ro:AM:=[[2,3,4],[4,3,2],[0,4,1,3],[0,2,1,4],[0,3,1,2]]
def c4G:Av 4 LO c4Ro:=N9 rfl iw
def m5G:Av 5 m5E m5Ro:=N9 rfl iw
theorem c4F:(IN 4 c4Ro).length=2:=by rw[X9 c4R c4G (hs:=[((0,1),4),((0,3),4)]) iw];grind
theorem m5F:(IN 5 m5Ro).length=6:=by rw[X9 m5R m5G (hs:=[((0,2),3),((0,3),3),((0,4),3),((1,2),3),((1,3),3),((1,4),3)]) iw];grind
def c4P:XU 4 (eN 4 LO):=tT c4R c4G WY c4con (by rw[c4F];decide)
def m5P:XU 5 (eN 5 m5E):=tT m5R m5G WY m5con (by rw[m5F];decide)
theorem Jy {n:Nat} {es:List Pr} {E:Nat->II} (hR:aV n es) (a:∀v w,w∈E v->v<n/\w<n) (h:∀v,v<n->∀w,w<n->(w∈eN n es v↔w∈E v)):∀v w,w∈eN n es v↔w∈E v:=fun v w=>by grind [vD,Jp.lt]
theorem k5N:¬XU 5 (eN 5 k5L):=fun h=>k5_no (Ny 5) ((XU.qE (Jy k5R.GD (fun v w q=>by grind [pZ]) iw)).1 h)
theorem k33N:¬XU 6 (eN 6 E9):=fun h=>k33_no (Ny 6) ((XU.qE (Jy k33R.GD (fun v w q=>by grind [Vb]) iw)).1 h)
section
variable {G : GM} {h : AHeap} {rv : Value} {e : Int}
theorem Hw.no (I:Hw G h rv e) (b:bX G) (c:¬zW G.n.toNat G.es):e=60/\rv=rW:=by
 rcases I with⟨a,_⟩|⟨_,_,h2⟩|⟨_,a,_⟩|⟨_,a,_⟩
 all_goals grind
theorem Hw.bad (I:Hw G h rv e) (a:bX G) (f:zW G.n.toNat G.es) (c:¬XU G.n.toNat (eN G.n.toNat G.es)):e=90/\rv=rW:=by
 rcases I with⟨b,_⟩|⟨_,b,_⟩|⟨_,_,_,_,h2⟩|⟨_,_,rs,_,b,h2,_⟩
 .grind
 .grind
 .exact h2
 .have d : 0 <= G.n := a.n0
  obtain⟨n,es⟩:=G;obtain⟨n,rfl⟩:=HV d;exact absurd (Vg a.GD a.q9 b h2) c
theorem Hw.XK (I:Hw G h rv e) (b:bX G) (c:zW G.n.toNat G.es) (d:XU G.n.toNat (eN G.n.toNat G.es)):∃rs,embX G.n.toNat G.es=some rs/\Av G.n.toNat G.es rs/\Flat G.n.toNat (Xl rs)/\e=0/\RL (RL RP) h rv rs:=by
 rcases I with⟨a,_⟩|⟨_,a,_⟩|⟨_,_,_,h2,_⟩|⟨_,_,h2⟩
 all_goals grind
end
end Go.Fw
namespace Go.Fw
section
attribute [local irreducible] Kp MQ lU rS KO KN KX KE VK Kl ZJ TC gU
attribute [local irreducible] Jz JL vq cQ
open Go.Proofs
variable {a i j:Nat}
def GY (a j:Nat):List Pr:=(List.range (j-(a+1))).map fun t=>((a:Int),((a+1+t:Nat):Int))
def E3 (i:Nat):List Pr:=(List.range i).flatMap fun a=>GY a 5
def tN (h:a+1<=j):GY a (j+1)=GY a j++[((a:Int),(j:Int))]:=by
 unfold GY;rw[show j+1-(a+1)=(j-(a+1))+1 by omega,Uz,Yi];simp;omega
theorem SB (i:Nat):E3 (i+1)=E3 i++GY i 5:=by grind [E3,List.range_succ]
theorem GV (h:j<=5):(GY a j).length<=5:=by grind [GY]
theorem dH (h:i<=5):(E3 i).length<=25:=by
 match i,h with
 |0,_=>decide
 |1,_=>decide
 |2,_=>decide
 |3,_=>decide
 |4,_=>decide
 |5,_=>decide
theorem five_b (h:i<=5) (a:j<=5):(E3 i++GY i j).length+1<=100000:=by grind [GV,dH]
theorem XE (O:LA) (h:AHeap):AC Tryz.prog O 30 [] h fun x h'=>GRc h' x ⟨5,k5L⟩/\Le h h':=by
 refine AC.vE ⟨Tryz.func30,rfl,WY⟩ Tryz.ntmps30 Tryz.results30 fun l=>?_;simp only[Br,Nat.reduceAdd];obtain⟨G,P,l1,w1,Q⟩:=Tt l [.int .i64 0,.slice none 0 0];have H:=Lo h;rw[P]at H
 have S:h.own h.next=none:=(Le.refl h).next l (Ny _)
 obtain⟨h2,h3,T,I,l3,U,nX,J⟩:=GX.new w1 5
 have t:G.next≠h.next:=fun e=>by grind
 generalize h.next=R at*
 generalize G.next=X at*
 refine Sk (xU H @Zp T I) ?_;have m:=l1.trans l3;have o:=l3.own _ _ Q;have u:h.own X=none:=by
  cases c:h.own X<;>grind [Le.own]
 refine gU.intro (fun k fr g=>∃(i:Nat) (ev:Value),k=5-i/\i<=5/\fr=mkF [(0,.pointer (some ⟨R,0,none⟩)),(1,.pointer (some ⟨X,0,none⟩)),(5,.int .i64 (i:Nat))]/\GX g X 5 ev (E3 i)/\Le h g/\Z2 h ev/\g.own R=some (.cells [.int .i64 0,.slice none 0 0])/\blk ev≠some R)
  5 [(0,.pointer (some ⟨R,0,none⟩)),(1,.pointer (some ⟨X,0,none⟩)),(5,.int .i64 (0:Nat))] fD ⟨0,_,rfl,vZ _,rfl,J,m,fun b hb=>by simp[blk]at hb,o,by simp[blk]⟩ ?_
 clear J U o l3 m I;clear h3;rintro k fr g v ⟨i,ev,rfl,hi,rfl,f,w,K,oR,d⟩;refine Uy ?_;refine Kl.intro (fun p=>?_) (fun hf=>?_)
 .have q : i < 5 := CC (n := 5) p
  clear p;have aw:=Tw i NH;simp only[HO,Nat.reduceLT,↓reduceIte,Nat.reduceEqDiff,reduceCtorEq,aw];refine gU.intro (fun k fr s=>∃(j:Nat) (ev:Value),k=5-j/\i+1<=j/\j<=5/\fr=mkF [(0,.pointer (some ⟨R,0,none⟩)),(1,.pointer (some ⟨X,0,none⟩)),(2,.int .i64 (i:Nat)),(3,.int .i64 (j:Nat)),(5,.int .i64 (i:Nat))]/\GX s X 5 ev (E3 i++GY i j)/\Le h s/\Z2 h ev/\s.own R=some (.cells [.int .i64 0,.slice none 0 0])/\blk ev≠some R)
   (5-(i+1)) [(0,.pointer (some ⟨R,0,none⟩)),(1,.pointer (some ⟨X,0,none⟩)),(2,.int .i64 (i:Nat)),(3,.int .i64 (i+1:Nat)),(5,.int .i64 (i:Nat))] fD ⟨i+1,ev,rfl,Ny _,NH,rfl,by simpa[GY]using f,w,K,oR,d⟩ ?_
  clear f w K oR d v;clear g ev;rintro k fr s y ⟨j,ev,rfl,z,V,rfl,f,L,M,oR,d⟩;refine Uy ?_;refine Kl.intro (fun p=>?_) (fun hf=>?_)
  .have r : j < 5 := CC (n := 5) p
   clear p;obtain⟨v',h4,h5,h6,W,A,Y,N,w6,l4,Z,k6⟩:=f.push' y ((i:Int),(j:Int)) (five_b hi V);obtain⟨l6,a6⟩:=Z h L u M;obtain⟨B,C⟩:=k6 R _ oR (uV t) d;have D:=Tw j NH;have Gl:=f.ld;rw[Bx,<-tN z]at N;have E:aBuild Tryz.prog 38 [(0,.int .i64 (i:Int)),(1,.int .i64 (j:Int))]=some (UI ((i:Int),(j:Int))):=rfl;refine Sk (xL @Di @Ip.eq_1 @XJ Gl.2.2 E W A Y D) ?_;exact tn (5-(j+1)) [(0,.pointer (some ⟨R,0,none⟩)),(1,.pointer (some ⟨X,0,none⟩)),(2,.int .i64 (i:Nat)),(3,.int .i64 (j+1:Nat)),(5,.int .i64 (i:Nat))] (JS r) fD ⟨j+1,v',rfl,NH,r,rfl,N,l6,a6,B,C⟩
  .have F : 5 <= j := vp (n := 5) hf
   obtain rfl:j=5:=NH;rw[<-SB]at f;simp only[HO,Nat.reduceLT,↓reduceIte,Nat.reduceEqDiff,reduceCtorEq,aw];exact tn (5-(i+1)) [(0,.pointer (some ⟨R,0,none⟩)),(1,.pointer (some ⟨X,0,none⟩)),(5,.int .i64 (i+1:Nat))] (JS q) fD ⟨i+1,ev,rfl,q,rfl,f,L,M,oR,d⟩
 have F:5<=i:=vp (n:=5) hf;obtain rfl:i=5:=NH;have A:E3 5=k5L:=by decide
 rw[A]at f;have sl:=f.gp.pr.sl;have st:=DG (n:=5) (ev:=ev) oR sl.one sl.cell;have ld:aload Tryz.prog (g.put R (.cells [.int .i64 5,ev])) 24 ⟨R,0,none⟩=some (.agg #[.int .i64 5,ev]):=tY (AHeap.Y3 _ _ _) (by obtain⟨a,c,e,_⟩:=sl;exact⟨a,_,c,e⟩);simp only[HO,Nat.reduceLT,↓reduceIte,Nat.reduceEqDiff,reduceCtorEq,f.ld.1,st,ld];exact⟨⟨ev,rfl,(GS.put f.gp _ d).cs,GS.Ov f.gp⟩,w.put _ S⟩
def OR (a j:Nat):List Pr:=(List.range j).map fun(t:Nat)=>((a:Int),3+(t:Int))
def Be (i:Nat):List Pr:=(List.range i).flatMap fun a=>OR a 3
theorem TR:OR a (j+1)=OR a j++[((a:Int),3+(j:Int))]:=by grind [OR,List.range_succ]
theorem iz (i:Nat):Be (i+1)=Be i++OR i 3:=by grind [Be,List.range_succ]
theorem six_b (h:i<=3) (a:j<=3):(Be i++OR i j).length+1<=100000:=by
 have b:(OR i j).length<=3:=by grind [OR]
 have h2:(Be i).length<=9:=by
  match i,h with
  |0,_=>decide
  |1,_=>decide
  |2,_=>decide
  |3,_=>decide
 grind
theorem six_any (N:LA) (h:AHeap):AC Tryz.prog N 31 [] h fun x h'=>GRc h' x ⟨6,E9⟩/\Le h h':=by
 refine AC.vE ⟨Tryz.func31,rfl,WY⟩ Tryz.ntmps31 Tryz.results31 fun l=>?_;simp only[Br,Nat.reduceAdd];obtain⟨F,O,l1,w1,P⟩:=Tt l [.int .i64 0,.slice none 0 0];have G:=Lo h;rw[O]at G
 have Q:h.own h.next=none:=(Le.refl h).next l (Ny _)
 obtain⟨h2,h3,S,H,l3,T,nX,I⟩:=GX.new w1 6
 have t:F.next≠h.next:=fun e=>by grind
 generalize h.next=R at*
 generalize F.next=X at*
 refine Sk (xU G @Zp S H) ?_;have m:=l1.trans l3;have o:=l3.own _ _ P;have u:h.own X=none:=by
  cases c:h.own X<;>grind [Le.own]
 refine gU.intro (fun k fr g=>∃(i:Nat) (ev:Value),k=3-i/\i<=3/\fr=mkF [(0,.pointer (some ⟨R,0,none⟩)),(1,.pointer (some ⟨X,0,none⟩)),(5,.int .i64 (i:Nat))]/\GX g X 6 ev (Be i)/\Le h g/\Z2 h ev/\g.own R=some (.cells [.int .i64 0,.slice none 0 0])/\blk ev≠some R)
  3 [(0,.pointer (some ⟨R,0,none⟩)),(1,.pointer (some ⟨X,0,none⟩)),(5,.int .i64 (0:Nat))] fD ⟨0,_,rfl,vZ _,rfl,I,m,fun b hb=>by simp[blk]at hb,o,by simp[blk]⟩ ?_
 clear I T o l3 m H;clear h3;rintro k fr g v ⟨i,ev,rfl,hi,rfl,f,w,J,oR,d⟩;refine Uy ?_;refine Kl.intro (fun p=>?_) (fun hf=>?_)
 .have q : i < 3 := CC (n := 3) p
  clear p;have aw:=Tw i NH;refine Uy ?_;refine gU.intro (fun k fr s=>∃(j:Nat) (ev:Value),k=3-j/\j<=3/\fr=mkF [(0,.pointer (some ⟨R,0,none⟩)),(1,.pointer (some ⟨X,0,none⟩)),(2,.int .i64 (i:Nat)),(5,.int .i64 (i:Nat)),(8,.int .i64 (j:Nat))]/\GX s X 6 ev (Be i++OR i j)/\Le h s/\Z2 h ev/\s.own R=some (.cells [.int .i64 0,.slice none 0 0])/\blk ev≠some R)
   3 [(0,.pointer (some ⟨R,0,none⟩)),(1,.pointer (some ⟨X,0,none⟩)),(2,.int .i64 (i:Nat)),(5,.int .i64 (i:Nat)),(8,.int .i64 (0:Nat))] fD ⟨0,ev,rfl,vZ _,rfl,by simpa[OR]using f,w,J,oR,d⟩ ?_
  clear f w J oR d v;clear g ev;rintro k fr s y ⟨j,ev,rfl,U,rfl,f,K,L,oR,d⟩;refine Uy ?_;refine Kl.intro (fun p=>?_) (fun hf=>?_)
  .have r : j < 3 := CC (n := 3) p
   clear p;obtain⟨v',h4,h5,h6,V,z,W,M,w6,l4,Y,Z⟩:=f.push' y ((i:Int),3+(j:Int)) (six_b hi U);obtain⟨l6,a6⟩:=Y h K u L;obtain⟨A,B⟩:=Z R _ oR (uV t) d;have C:=Tw j NH;have Gl:=f.ld;rw[Bx,<-TR]at M;have a3:awrap .i64 (3+(j:Int))=3+(j:Int):=ie _ NH NH;have D:aBuild Tryz.prog 38 [(0,.int .i64 (i:Int)),(1,.int .i64 (3+(j:Int)))]=some (UI ((i:Int),3+(j:Int))):=rfl;refine Sk (Pj @Di @Ip.eq_1 @XJ Gl.2.2 a3 D V z W C) ?_;exact tn (3-(j+1)) [(0,.pointer (some ⟨R,0,none⟩)),(1,.pointer (some ⟨X,0,none⟩)),(2,.int .i64 (i:Nat)),(5,.int .i64 (i:Nat)),(8,.int .i64 (j+1:Nat))] (JS r) fD ⟨j+1,v',rfl,r,rfl,M,l6,a6,A,B⟩
  .have E : 3 <= j := vp (n := 3) hf
   obtain rfl:j=3:=NH;rw[<-iz]at f;simp only[HO,Nat.reduceLT,↓reduceIte,Nat.reduceEqDiff,reduceCtorEq,aw];exact tn (3-(i+1)) [(0,.pointer (some ⟨R,0,none⟩)),(1,.pointer (some ⟨X,0,none⟩)),(5,.int .i64 (i+1:Nat))] (JS q) fD ⟨i+1,ev,rfl,q,rfl,f,K,L,oR,d⟩
 have E:3<=i:=vp (n:=3) hf;obtain rfl:i=3:=NH;have z:Be 3=E9:=by decide
 rw[z]at f;have sl:=f.gp.pr.sl;have st:=DG (n:=6) (ev:=ev) oR sl.one sl.cell;have ld:aload Tryz.prog (g.put R (.cells [.int .i64 6,ev])) 24 ⟨R,0,none⟩=some (.agg #[ .int .i64 6,ev]):=tY (AHeap.Y3 _ _ _) (by obtain⟨a,c,e,_⟩:=sl;exact⟨a,_,c,e⟩);simp only[HO,Nat.reduceLT,↓reduceIte,Nat.reduceEqDiff,reduceCtorEq,f.ld.1,st,ld];exact⟨⟨ev,rfl,(GS.put f.gp _ d).cs,GS.Ov f.gp⟩,w.put _ Q⟩
end
end Go.Fw
