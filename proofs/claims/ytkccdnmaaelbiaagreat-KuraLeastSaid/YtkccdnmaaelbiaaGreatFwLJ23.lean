/- A text. -/
import Derived.Test.YtkccdnmaaelbiaaGreatFwLJ22
set_option linter.all false
set_option maxRecDepth 99999
set_option maxHeartbeats 9999999
namespace Go.Fw
section
attribute [local instance] Classical.propDecidable
attribute [local irreducible] Kp MQ lU rS KO KN KX KE VK Kl ZJ TC aaa
open Go.Proofs
variable {B O n v:Nat} {G:GM} {S:kR} {bv fv iv lv:Value} {cs us ws:List Value} {es:List Pr} {g h:AHeap} {left:List wW} {rows:AM}
theorem Nb (d:LA) (v:Value) (n:Nat) (es:List Pr) (h:AHeap) (hg:GR h v ⟨(n:Int),es⟩) (e:bX ⟨(n:Int),es⟩):
  AC Tryz.prog d 51 [v] h fun x h'=>RR (zW n es) x/\Le h h':=by
 have c:=hg
 obtain⟨ev,rfl,u⟩:=hg.open
 refine AC.vE ⟨Tryz.func51,rfl,WY⟩ Tryz.ntmps51 Tryz.results51 fun i=>?_;simp only[Br,Nat.reduceAdd];obtain⟨o,p,a,w,-,q⟩:=r8 (n:=(n:Int)) i u
 generalize h.next=B at*
 have b:=q o (Le.refl _);by_cases r:(n:Int)<3
 .have j : decide ((n : Int) < 3) = true := decide_eq_true r
  refine Sk (bG p @Ii @Ip.eq_1 @BS b.2.1 j) ?_;exact⟨RR.f fun T=>by have:=T.n3;omega,a⟩
 have j:decide ((n:Int)<3)=false:=decide_eq_false r;have h3:3<=n:=NH;refine Sk (rE p @Ii @Ip.eq_1 @BS b.2.1 b.1 j) ?_;refine TC.intro PJ ⟨Tryz.func64,rfl,WY⟩ (It d _ ⟨(n:Int),es⟩ o (c.le a) e) ?_;rintro pv s D ⟨gp,l4,-⟩;simp only[yY]at gp;have y:=gp.rl (Nn.RL Nn.RP);have k:=fun g=>y.len (P:=Tryz.prog) pE g;have l:((Gx n es n).map kz).length=(Es n es).length:=by simp[Gx]
 rw[l]at k;have m:=q s l4;by_cases c1:((Es n es).length:Int)=1
 rotate_left
 .have d1 : decide (((Es n es).length : Int) = 1) = false := decide_eq_false c1
  refine Sk (Yb k @bne.eq_1.{0} d1) ?_
  grind [RR.f,zW.one,Le.trans]
 have d1:decide (((Es n es).length:Int)=1)=true:=decide_eq_true c1;have z:(Es n es).length=1:=NH;refine Sk (xU k @bne.eq_1.{0} d1 m.1) ?_
 refine TC.intro PJ ⟨Tryz.func46,rfl,WY⟩ (Cw d _ ⟨(n:Int),es⟩ s (c.le (a.trans l4))) ?_;rintro x E F ⟨l5,⟨A,_⟩|⟨_,G,rfl,t⟩⟩
 .exact absurd e A
 simp only[yY]at t;have C:=fun g=>t.len (P:=Tryz.prog) iZ g;have H:=Uv e h3 z;refine Sk C ?_;refine⟨⟨_,rfl,?_⟩,(a.trans l4).trans l5⟩
 grind
noncomputable def embX (n:Nat) (es:List Pr):Option AM:=if 3*n<es.length+6 then none else embM n es
theorem MD {H:Nat->Nat->Prop} (hR:aV n es) (hA:D3 es) (D:QG (eN n es)) (I:Z8 n es H S) (h:OW es H=0):S.left=[]:=by
 rcases UK hR hA D 0 H S I NH with⟨a,-⟩|⟨b,c,a,-,h3⟩
 all_goals grind [runM]
theorem run_nil (h:S.left=[]):∀k,runM n rows k S=some S
 |0=>rfl
 |k+1=>by grind [runM.eq_2]
theorem lx.rlF {on:List Bool} {b d:Cs} (S:lx g h B O n rows bv fv iv lv us ws cs on b d left):RL (RL RP) h fv (b.map kz):=
 ⟨us,(GS.cs S.gF).rs,by grind [lx.uL],fun i x u a e=>by
  rw[dZ]at a;cases c:b[i]? with
  |none=>grind
  |some f=>
   rw[c]at a;simp at a;subst a;exact(S.cF i u f e c).le Nn.RP S.le⟩
theorem face_bd {r:Nat->II} {F:Cs} (G:vy n r F):∀f∈F,(∀x∈f,x<n)/\f.length<=n:=fun f hf=>by
 have a:∀x∈f,x<n:=fun x b=>G.Rl.lt _ _ (G.O.df G.Rl hf b);refine⟨a,?_⟩;have:=tf (G.O.nd f hf) (B:=List.range n) fun v c=>j9.2 (a v c)
 grind
theorem row_pos (a:zW n es) (hR:aV n es) (b:v<n):0<((Zh n es).getD v []).length:=by
 obtain⟨w,hw⟩:=a.ne hR b;obtain⟨u,c,e⟩:=EP ((aU hR).2 ⟨w,hw⟩)
 grind [qG,Av.back]
theorem row_le (b:v<n):((Zh n es).getD v []).length<=2*es.length:=by
 have a:v<(Zh n es).length:=by grind [Xq]
 rw[D4 a];exact bV n es _ (Gw a)
def GRc (h:AHeap) (v:Value) (G:GM):Prop:=∃ev,v=.agg #[.int .i64 G.n,ev]/\PR h ev G.es/\okc 2 ev
def GRc.gr {v:Value} (g:GRc h v G):GR h v G:=by
 obtain⟨ev,a,h2,-⟩:=g;exact⟨ev,a,h2⟩
def Hw (G:GM) (h':AHeap) (a:Value) (e:Int):Prop:=
 (¬bX G/\e=20/\a=rW)\/(bX G/\¬zW G.n.toNat G.es/\e=60/\a=rW)\/
 (bX G/\zW G.n.toNat G.es/\embX G.n.toNat G.es=none/\¬XU G.n.toNat (eN G.n.toNat G.es)/\e=90/\a=rW)\/
 (bX G/\zW G.n.toNat G.es/\∃rs,embX G.n.toNat G.es=some rs/\Av G.n.toNat G.es rs/\Flat G.n.toNat (Xl rs)/\e=0/\RL (RL RP) h' a rs)
theorem Im (t:LA) (v:Value) (G:GM) (h:AHeap) (hg:GRc h v G):
  AC Tryz.prog t 19 [v] h fun x h'=>Le h h'/\∃rv e,x=.tuple #[rv,.int .i64 e]/\Hw G h' rv e:=by
 have z:=hg.gr;obtain⟨ev,rfl,N,hc⟩:=hg;obtain⟨gn,es⟩:=G;simp only at N;refine AC.vE ⟨Tryz.func19,rfl,WY⟩ Tryz.ntmps19 Tryz.results19 fun Q=>?_;simp only[Br,Nat.reduceAdd];obtain⟨h1,b1,p,aF,-,R⟩:=r8 (n:=gn) Q N
 generalize h.next=B1 at*
 have T:=R h1 (Le.refl _);refine Sk (XC b1 T.1) ?_;refine TC.intro PJ ⟨qS9,rfl,WY⟩ (ak t _ _ h1 (z.le p)) ?_;rintro x h2 aH ⟨⟨U,rfl,i⟩,m⟩;cases U with
 |false=>
  refine Uy ?_;exact⟨p.trans m,_,_,rfl,.inl ⟨(fun d=>by grind),rfl,rfl⟩⟩
 |true=>
 have d:=i.1 rfl;clear i;have h0:0<=gn:=d.n0;obtain⟨n,rfl⟩:=HV h0;have az:(n:Int)<=200:=d.n1;have aD:es.length<=594:=d.len;have hR:=d.GD;have hA:D3 es:=d.q9;have a:=p.trans m;refine Sk ((R h2 m).1) ?_;refine TC.intro PJ ⟨Tryz.func51,rfl,WY⟩ (Nb t _ n es h2 (z.le a) d) ?_;rintro x h3 aJ ⟨⟨U,rfl,i⟩,j⟩;have fT:=R h3 (m.trans j);cases U with
 |false=>
  refine Uy ?_;exact⟨a.trans j,_,_,rfl,.inr (.inl ⟨d,(fun q=>by cases i.2 q),rfl,rfl⟩)⟩
 |true=>
 have l:=i.1 rfl;clear i;have aK:=l.n3;have lP:=fun g=>N.len g;have A:awrap .i64 (3*(n:Int))=3*(n:Int):=ie _ NH NH;have C:awrap .i64 (3*(n:Int)-6)=3*(n:Int)-6:=ie _ NH NH;by_cases c1:3*n<es.length+6
 .have d1 : decide ((es.length : Int) > 3 * (n : Int) - 6) = true := decide_eq_true NH
  simp only[HO,Nat.reduceLT,↓reduceIte,Nat.reduceEqDiff,reduceCtorEq,Ii,Di,Ip,BS,fT.2.1,fT.2.2,lP,A,C,d1];exact⟨a.trans j,_,_,rfl,.inr (.inr (.inl ⟨d,l,if_pos c1,many_no d l c1,rfl,rfl⟩))⟩
 have d1:decide ((es.length:Int)>3*(n:Int)-6)=false:=decide_eq_false NH;simp only[HO,Nat.reduceLT,↓reduceIte,Nat.reduceEqDiff,reduceCtorEq,Ii,Di,Ip,BS,fT.2.1,fT.2.2,fT.1,lP,A,C,d1];refine TC.intro PJ ⟨Tryz.func52,rfl,WY⟩ (Si t ev n es h3 (N.le (a.trans j)) hc d l) ?_;rintro x h4 w4 ⟨g4,B,O,bv,u,w,y,us,ws,cs,rfl,V,S4,Rg⟩;have I0:=Rg.start hR hA (L:=MF n (Qw n (sortP (ZH (zl n es)))) es) uY;have hX:embX n es=(runM n (Zh n es) es.length (RB n es)).map fun S=>xY n (Zh n es) S.Jv:=if_neg c1;have D:=l.Z7 hR;have E:OW es (Ei (zl n es))<=es.length:=KG _ _;have F:=(a.trans j).trans V;refine Uy ?_;refine aaa.intro (fun k fr W=>∃(S:kR) (H:Nat->Nat->Prop) (g:AHeap) (u w y:Value) (us ws cs:List Value),fr=mkF [(4,.pointer (some ⟨B,0,none⟩))]/\Z8 n es H S/\runM n (Zh n es) es.length (RB n es)=runM n (Zh n es) k S/\OW es H<=k/\
   lx g W B O n (Zh n es) bv u w y us ws cs S.on S.Jv S.Jv S.left/\Le g4 g)
  es.length [(4,.pointer (some ⟨B,0,none⟩))] fD
  ⟨RB n es,_,g4,u,w,y,us,ws,cs,rfl,I0,rfl,E,S4,Le.refl _⟩ ?_
 clear S4 I0 E w4;clear h4 u w y us ws cs;rintro k fr W aP ⟨S,H,g,u,w,y,us,ws,cs,rfl,I,b,hu,o,X⟩;have J:=sB B 5 NH;have lL:=o.lenL;by_cases c:S.left=[]
 .have Y : decide ((S.left.length : Int) > 0) = false := by rw [c]; rfl
  refine Sk (xU J o.f.l5 lL Y) ?_;rw[run_nil c]at b;obtain⟨r,Z,fl,hm⟩:=I.done c;obtain⟨k1,k2⟩:=circ_ok d l Z fl hm;have K:=face_bd Z;have aT:=I.My;refine TC.intro PJ ⟨Tryz.func54,rfl,WY⟩ (pY t B n bv _ u w y (Zh n es) S.Jv W o.f (o.cB.le (Nn.RL Nn.RP) o.le) o.rlF (Xq n es) (fun v hv=>⟨row_pos l hR hv,by have:=row_le (es:=es) hv;omega⟩) (fun f hf=>⟨(K f hf).1,by have:=(K f hf).2;omega⟩) NH NH NH (L9 d l Z hm)) ?_;rintro x h9 w9 ⟨hx,l9⟩;refine Uy ?_;refine⟨((F.trans X).trans o.le).trans l9,x,_,rfl,.inr (.inr (.inr ⟨d,l,_,?_,k1,k2,rfl,hx⟩))⟩
  grind
 .have Y : decide ((S.left.length : Int) > 0) = true := by grind [List.length_pos_iff]
  obtain⟨k',rfl⟩:∃k',k=k'+1:=by
   cases k<;>grind [MD]
  refine Sk (xU J o.f.l5 lL Y) ?_;refine TC.intro PJ ⟨Tryz.func53,rfl,WY⟩ (lay_any t o d D I c) ?_;rintro x h9 w9 ⟨g9,M,l9,s⟩;rw[runM,if_neg c]at b;rcases s with⟨q1,rfl⟩|⟨S',ae,ag,aj,al,aq,ar,q1,rfl,av⟩
  .rw [q1] at b
   refine Uy ?_;have ay:¬XU n (eN n es):=by grind [Z8.lay]
   refine⟨((F.trans X).trans M).trans l9,_,_,rfl,.inr (.inr (.inl ⟨d,l,?_,ay,rfl,rfl⟩))⟩
   grind
  .rw [q1] at b
   refine Uy ?_;obtain⟨P,I',aW⟩:∃P,Z8 n es P S'/\OW es P<OW es H:=by grind [Z8.lay]
   exact tn k' [(4,.pointer (some ⟨B,0,none⟩))] (Dj _) fD ⟨S',P,g9,ae,ag,aj,al,aq,ar,rfl,I',b,NH,av,X.trans M⟩
end
end Go.Fw
namespace Go.Fw
open Go.Proofs
attribute [local irreducible] Jz JL vq cQ
def okB (n:Int) (es:List Pr) (i:Nat):Bool:=match es[i]? with
 |some p=>decide (0<=p.1)&&decide (p.1<p.2)&&decide (p.2<n)&&(i==0||match es[i-1]? with|some q=>decide (Nz q p<0)|none=>true)
 |none=>true
theorem V5 {n:Int} {es:List Pr} (a:0<=n) (b:n<=200) (c:es.length<=594) (hd:(List.range es.length).all (okB n es)=true):bX ⟨n,es⟩:=by
 refine⟨a,b,c,fun i hi p d=>?_⟩;have:=uV.1 hd i (j9.2 hi)
 grind [okB]
attribute [local instance] Classical.propDecidable in
theorem tT {n:Nat} {es:List Pr} {rs:AM} (a:bX ⟨(n:Int),es⟩) (G:Av n es rs) (b:0<n) (c:∀v,v<n->Pu es 0 v) (hf:n+(IN n rs).length=es.length+2):XU n (eN n es):=
 Vg a.GD a.q9 G ((En a.GD a.q9 G).1 ((vS a.GD a.q9 G b c).2 fun _=>hf))
attribute [local instance] Classical.propDecidable in
theorem two_of {n:Nat} {es:List Pr} (b:bX ⟨(n:Int),es⟩) (h3:3<=n) (a:es≠[]) (c:∀v,v<n->Pu es 0 v) (hb:(vq n es).length=1):zW n es:=
 (Uv b h3 (join_of b.GD NH a c).2).1 hb
def c4E:List Pr:=[(0,1),(0,3),(1,2),(2,3)]
def m5E:List Pr:=[(0,2),(0,3),(0,4),(1,2),(1,3),(1,4),(2,3),(2,4),(3,4)]
def k5L:List Pr:=(0,1)::m5E
def E9:List Pr:=[(0,3),(0,4),(0,5),(1,3),(1,4),(1,5),(2,3),(2,4),(2,5)]
def c4R:bX ⟨((4:Nat):Int),c4E⟩:=V5 WY WY WY iw
def m5R:bX ⟨((5:Nat):Int),m5E⟩:=V5 WY WY WY iw
def k5R:bX ⟨((5:Nat):Int),k5L⟩:=V5 WY WY WY iw
def k33R:bX ⟨((6:Nat):Int),E9⟩:=V5 WY WY WY iw
theorem Jy {n:Nat} {es:List Pr} {E:Nat->II} (hR:aV n es) (a:∀v w,w∈E v->v<n/\w<n) (h:∀v,v<n->∀w,w<n->(w∈eN n es v↔w∈E v)):∀v w,w∈eN n es v↔w∈E v:=fun v w=>by grind [vD,Jp.lt]
theorem k5N:¬XU 5 (eN 5 k5L):=fun h=>aeX (Ny 5) ((XU.qE (Jy k5R.GD (fun v w q=>by grind [pZ]) iw)).1 h)
theorem k33N:¬XU 6 (eN 6 E9):=fun h=>aeY (Ny 6) ((XU.qE (Jy k33R.GD (fun v w q=>by grind [Vb]) iw)).1 h)
section
variable {G : GM} {h : AHeap} {rv : Value} {e : Int}
theorem Hw.XK (I:Hw G h rv e) (b:bX G) (c:zW G.n.toNat G.es) (d:XU G.n.toNat (eN G.n.toNat G.es)):∃rs,embX G.n.toNat G.es=some rs/\Av G.n.toNat G.es rs/\Flat G.n.toNat (Xl rs)/\e=0/\RL (RL RP) h rv rs:=by
 rcases I with⟨a,_⟩|⟨_,a,_⟩|⟨_,_,_,h2,_⟩|⟨_,_,h2⟩
 all_goals grind
end
end Go.Fw
namespace Go.Fw
section
attribute [local instance] Classical.propDecidable
open Go.Proofs
variable {es:List Pr} {n:Nat}
theorem jt (c:0<n) (h:∀u v,u<n->v<n->Pu es u v):(Es n es).length=1:=by
 have m0:0∈Es n es:=QO.2 ⟨c,fun u d=>by omega⟩;have nd:=qD n es
 match hh:Es n es with
 |[]=>grind
 |[_]=>rfl
 |a::b::l=>
  rw[hh]at nd;have ha:a∈Es n es:=by rw[hh];simp
  have hb:b∈Es n es:=by rw[hh];simp
  grind [QO]
end
end Go.Fw
namespace Go.Fw
open Go.Proofs
attribute [local instance] Classical.propDecidable
inductive Rc (A:Nat->Nat->Prop) (c:Nat):Nat->Nat->Prop
 |refl {u:Nat}:Rc A c u u
 |step {u v w:Nat}:Rc A c u v->A v w->v≠c->w≠c->Rc A c u w
section
variable {A B : Nat → Nat → Prop} {c u v w a b n : Nat}
theorem Rc.trans (h:Rc A c u v) (k:Rc A c v w):Rc A c u w:=by induction k with|refl=>exact h|step _ a d h2 e=>exact e.step a d h2
theorem Rc.one (h:A u v) (d:u≠c) (h2:v≠c):Rc A c u v:=Rc.refl.step h d h2
theorem Rc.symm (sy:∀x y,A x y->A y x) (h:Rc A c u v):Rc A c v u:=by
 induction h with
 |refl=>exact .refl
 |step _ a d h2 e=>exact(Rc.one (sy _ _ a) h2 d).trans e
theorem Rc.sub (h:∀x y,A x y->x≠c->y≠c->Rc B c x y) (k:Rc A c u v):Rc B c u v:=by
 induction k with|refl=>exact .refl|step _ a d h2 e=>exact e.trans (h _ _ a d h2)
def upA (A:Nat->Nat->Prop) (a b m x y:Nat):Prop:=(A x y/\¬(x=a/\y=b)/\¬(x=b/\y=a))\/(x=m/\(y=a\/y=b))\/(y=m/\(x=a\/x=b))
end
section
variable {n : Nat} {es : List Pr}
abbrev sg (L:List Pr):List Pr:=sortP (L.map lZ)
def adj_sg (L:List Pr) (x y:Nat):Jp (sg L) x y↔Jp L x y:=by
 have key:∀p:Pr,lZ p=((x:Int),(y:Int))->p=((x:Int),(y:Int))\/p=((y:Int),(x:Int)):=fun p h=>by
  obtain⟨a,b⟩:=p;simp only[lZ,si]at*;omega
 have f:∀p:Pr,lZ p=((y:Int),(x:Int))->p=((x:Int),(y:Int))\/p=((y:Int),(x:Int)):=fun p h=>by
  obtain⟨a,b⟩:=p;simp only[lZ,si]at*;omega
 have g:lZ ((x:Int),(y:Int))=((x:Int),(y:Int))\/lZ ((x:Int),(y:Int))=((y:Int),(x:Int)):=by simp only[lZ,si];omega
 have d:lZ ((y:Int),(x:Int))=lZ ((x:Int),(y:Int)):=by simp only[lZ,si];omega
 unfold Jp sg;simp only[Wb,aae];constructor
 .rintro (⟨p, i, e⟩ | ⟨p, i, e⟩)
  .rcases key p e with rfl|rfl<;>simp[i]
  .rcases f p e with rfl|rfl<;>simp[i]
 .rintro (h | h)
  .exact g.imp (fun e=>⟨_,h,e⟩) (fun e=>⟨_,h,e⟩)
  .exact g.imp (fun e=>⟨_,h,d.trans e⟩) (fun e=>⟨_,h,d.trans e⟩)
theorem aV.up {m:Nat} (h:aV n es) (e:n<=m):aV m es:=fun p d=>by have:=h p d;omega
def aen (hR:aV n es) {m:Nat} (d:n<=m):XU m (eN m es)↔XU n (eN n es):=by
 obtain⟨k,rfl⟩:=MZ d;have:=XU.mores (n:=n) (E:=eN n es) (fun v w h=>(((vD hR).1 h).lt hR).1) k;rw[<-this];exact XU.congr fun v w=>by rw[vD hR,vD (hR.up d)]
end
end Go.Fw
namespace Go.Fw
section
attribute [local irreducible] Kp MQ lU rS KO KN KX KE VK Kl ZJ TC aaa
attribute [local irreducible] Jz JL vq cQ
open Go.Proofs
variable {es:List Pr} {ev:Value} {h:AHeap}
def allocG (hw:WF h):∃a,aAlloc Tryz.prog h 24=some (.pointer (some ⟨h.next,0,none⟩),a)/\Le h a/\WF a/\a.own h.next=some (.cells [.int .i64 0,.slice none 0 0]):=by
 obtain⟨a,b,l1,w1,c⟩:=Tt hw [.int .i64 0,.slice none 0 0];exact⟨a,by rw[Lo,b],l1,w1,c⟩
def newGo (hw:WF h) {n:Int} (r:PR h ev es):∃a h2,aAlloc Tryz.prog h 24=some (.pointer (some ⟨h.next,0,none⟩),a)/\aStore Tryz.prog a 24 (.pointer (some ⟨h.next,0,none⟩)) (.agg #[.int .i64 n,ev])=some h2/\Le h h2/\WF h2/\
  h2.own h.next=some (.cells [.int .i64 n,ev])/\Le h a:=by
 obtain⟨a,c,l1,w1,b⟩:=allocG hw;obtain⟨_,_,e,-⟩:=r.sl
 exact⟨a,_,c,DG b r.sl.one (by rw[e];rfl),l1.put _ ((Le.refl h).next hw (Ny _)),w1.put _ (w1.lt b),AHeap.Y3 _ _ _,l1⟩
end
section
attribute [local irreducible] Jz JL vq cQ
open Go.Proofs
variable {b l:List Pr} {n:Nat}
def aad (n:Nat) (b:List Pr):II:=(List.range n).filter fun v=>b.any fun p=>aO p (v:Int)
def aa6 (n:Nat) (b:List Pr) (x:Int):Nat:=(aad n b).countP fun(v:Nat)=>decide ((v:Int)<x)
def aam (n:Nat) (b:List Pr):List Pr:=b.map fun p=>((aa6 n b p.1:Int),(aa6 n b p.2:Int))
def acn (b:List Pr):RZ:=b.flatMap fun p=>[p.1,p.2]
def acU (b:List Pr) (x:Int):x∈acn b↔∃p∈b,aO p x=true:=by
 simp only[acn,Lm,aO,Z6,ff,or_false,MY,decide_eq_true_eq];constructor
 .rintro⟨p,a,h⟩;exact⟨p,a,NH⟩
 .rintro⟨p,a,h⟩;exact⟨p,a,NH⟩
def acV {v:Nat}:v∈aad n b↔v<n/\∃p∈b,aO p (v:Int)=true:=by simp[aad]
def acr (hR:aV n b):Lib.compact (qC (acn b))=kz (aad n b):=by
 refine wP _ _ (bT (aQ _)) ?_ fun x=>?_
 .unfold kz
  rw[vg];exact(Bx.filter _).imp fun h=>by omega
 .rw [jn, Wv, acU]
  simp only[kz,aae,acV];constructor
  .rintro ⟨p, a, h⟩
   obtain⟨c,h2,h3⟩:=hR p a;have h':=h;simp only[aO,MY,decide_eq_true_eq]at h';refine⟨x.toNat,⟨NH,p,a,?_⟩,NH⟩;rwa[Int.toNat_of_nonneg NH]
  .rintro ⟨v, ⟨d, p, a, h⟩, rfl⟩
   exact⟨p,a,h⟩
def aaB (n:Nat) (b:List Pr):Prop:=
 b.length<9\/(bX ⟨((aad n b).length:Int),aam n b⟩/\zW (aad n b).length (aam n b)/\XU (aad n b).length (eN (aad n b).length (aam n b)))
def aaf (n:Nat) (es:List Pr):Prop:=bX ⟨(n:Int),es⟩/\∀b∈vq n es,aaB n b
attribute [local instance] Classical.propDecidable in
noncomputable def findM (n:Nat):Nat->Nat->List Pr->List Pr
 |0,_,l=>l
 |f+1,i,l=>if i<l.length then(if aaf n (l.eraseIdx i)then findM n f (i+1) l else findM n f i (l.eraseIdx i))else l
attribute [local instance] Classical.propDecidable in
noncomputable def aaU (G:GM):List Pr:=if aaf G.n.toNat G.es then[]else findM G.n.toNat G.es.length 0 G.es
def abi {n:Nat} {l:List Pr} (h:∀i,i<l.length->aaf n (l.eraseIdx i)):∀f i,findM n f i l=l
 |0,i=>rfl
 |f+1,i=>by
  rw[findM];split
  .rename_i hi
   rw[if_pos (h i hi)];exact abi h f (i+1)
  .rfl
def aaX {f i:Nat} (hi:i<l.length) (h:¬aaf n (l.eraseIdx i)):findM n (f+1) i l=findM n f i (l.eraseIdx i):=by rw[findM,if_pos hi,if_neg h]
variable {c es:List Pr} {m:Nat}
def aby (es:List Pr) (n:Nat) (a:II):II:=(List.range n).filter fun v=>a.contains v||a.any fun p=>hasB es ((p:Int),(v:Int))||hasB es ((v:Int),(p:Int))
def conB (n:Nat) (es:List Pr):Bool:=(List.range n).all fun v=>(it (aby es n) n [0]).contains v
def con_chk (h:conB n es=true):∀v,v<n->Pu es 0 v:=by
 have:∀k,∀v∈it (aby es n) k [0],Pu es 0 v:=by
  intro k
  induction k with
  |zero=>
   intro v a;have:v=0:=by simpa[it]using a
   subst this;exact Pu.refl _ _
  |succ k c=>
   intro v a;have a:v∈aby es n (it (aby es n) k [0]):=a;simp only[aby,iy,Ex,MY,Ly,acT]at a;rcases a.2 with b|⟨p,d,b⟩
   .exact c v b
   .exact tM (c p d) b
 intro v a;exact this n v (Ex.1 (uV.1 h v (j9.2 a)))
def abn {rs:AM} {hs:List (H8×Nat)} (d1:(List.range es.length).all (okB 5 es)=true) (d2:conB 5 es=true) (d3:(vq 5 es).length=1) (d4:(List.range 5).all (fun v=>(rs.getD v []).isPerm ((Zh 5 es).getD v []))=true) (d5:Cert 5 (Xl rs) hs) (a:es.length=9) (d:rs.length=5) (f:hs.length=6:=by rfl):
  bX ⟨((5:Nat):Int),es⟩/\zW 5 es/\XU 5 (eN 5 es):=by
 have b:bX ⟨((5:Nat):Int),es⟩:=V5 WY WY (by rw[a];decide) d1;have c:=con_chk d2;have G:Av 5 es rs:=rotG_of d d4;refine⟨b,two_of b WY (fun e=>by rw[e]at a;cases a) c d3,tT b G WY c ?_⟩;rw[X9 b G d5,LH,f,a]
def ae7:∀i,i<10->bX ⟨((5:Nat):Int),k5L.eraseIdx i⟩/\zW 5 (k5L.eraseIdx i)/\XU 5 (eN 5 (k5L.eraseIdx i)):=fun i hi=>by
 match i,hi with
 |0,_=>exact abn (rs:=[[2,3,4],[4,3,2],[3,0,4,1],[4,0,2,1],[2,0,3,1]]) (hs:=[((0,2),3),((0,3),3),((0,4),3),((1,2),3),((1,3),3),((1,4),3)]) iw iw iw iw iw rfl rfl
 |1,_=>exact abn (rs:=[[1,3,4],[3,0,4,2],[4,3,1],[4,0,1,2],[1,0,3,2]]) (hs:=[((0,1),3),((0,3),3),((0,4),3),((1,2),3),((1,3),3),((2,3),3)]) iw iw iw iw iw rfl rfl
 |2,_=>exact abn (rs:=[[1,2,4],[2,0,4,3],[4,0,1,3],[4,2,1],[1,0,2,3]]) (hs:=[((0,1),3),((0,2),3),((0,4),3),((1,2),3),((1,3),3),((2,4),3)]) iw iw iw iw iw rfl rfl
 |3,_=>exact abn (rs:=[[1,2,3],[2,0,3,4],[3,0,1,4],[1,0,2,4],[3,2,1]]) (hs:=[((0,1),3),((0,2),3),((0,3),3),((1,2),3),((1,4),3),((2,3),3)]) iw iw iw iw iw rfl rfl
 |4,_=>exact abn (rs:=[[3,1,4,2],[0,3,4],[4,3,0],[4,1,0,2],[0,1,3,2]]) (hs:=[((0,1),3),((0,2),3),((0,3),3),((0,4),3),((1,4),3),((2,3),3)]) iw iw iw iw iw rfl rfl
 |5,_=>exact abn (rs:=[[2,1,4,3],[0,2,4],[4,1,0,3],[4,2,0],[0,1,2,3]]) (hs:=[((0,1),3),((0,2),3),((0,3),3),((0,4),3),((1,4),3),((2,4),3)]) iw iw iw iw iw rfl rfl
 |6,_=>exact abn (rs:=[[2,1,3,4],[0,2,3],[3,1,0,4],[0,1,2,4],[3,2,0]]) (hs:=[((0,1),3),((0,2),3),((0,3),3),((0,4),3),((1,3),3),((2,3),3)]) iw iw iw iw iw rfl rfl
 |7,_=>exact abn (rs:=[[1,2,4,3],[4,2,0,3],[0,1,4],[4,1,0],[0,2,1,3]]) (hs:=[((0,1),3),((0,2),3),((0,3),3),((0,4),3),((1,2),3),((1,4),3)]) iw iw iw iw iw rfl rfl
 |8,_=>exact abn (rs:=[[1,2,3,4],[3,2,0,4],[0,1,3],[0,2,1,4],[3,1,0]]) (hs:=[((0,1),3),((0,2),3),((0,3),3),((0,4),3),((1,2),3),((1,3),3)]) iw iw iw iw iw rfl rfl
 |9,_=>exact abn (rs:=[[1,3,2,4],[2,3,0,4],[0,3,1,4],[0,1,2],[2,1,0]]) (hs:=[((0,1),3),((0,2),3),((0,3),3),((0,4),3),((1,2),3),((1,3),3)]) iw iw iw iw iw rfl rfl
def k5U:List Pr:=[(1,2),(1,3),(1,4),(1,5),(2,3),(2,4),(2,5),(3,4),(3,5),(4,5)]
def k6L:List Pr:=[(0,1),(0,2),(0,3),(0,4),(0,5)]++k5U
def k6R:bX ⟨((6:Nat):Int),k6L⟩:=V5 WY WY WY iw
def ae8:bX ⟨((6:Nat):Int),k5U⟩:=V5 WY WY WY iw
def dnV (v:Nat):Nat:=(v+5)%6
def upV (v:Nat):Nat:=(v+1)%6
def k5U_no:¬XU 6 (eN 6 k5U):=fun a=>by
 have N:Ren 6 dnV upV:=⟨WY,WY,WY,WY⟩;have K:∀v,v<6->∀w,w<6->(w∈Hr v↔upV w∈eN 6 k5U (upV v)):=by decide+kernel
 refine aeX (n:=6) WY (a.ren N fun v w=>?_);constructor
 .intro h
  have h':=pZ.1 h;exact⟨NH,NH,(K v NH w NH).1 h⟩
 .rintro ⟨b, hw, h⟩
  exact(K v b w hw).2 h
def more_no (hR:aV 6 es) (hs:∀p∈k5U,p∈es):¬XU 6 (eN 6 es):=fun a=>by
 refine k5U_no (a.less (fun v w h=>?_) (fun v w h=>?_))
 .rw [vD hR]
  exact((vD ae8.GD).1 h).imp (hs _) (hs _)
 .exact(vD ae8.GD).2 ((vD ae8.GD).1 h).symm
def abP (a:bX ⟨(n:Int),es⟩) (h:es.length<9):aaf n es:=
 ⟨a,fun b hb=>by
  obtain⟨i,hi⟩:=Og.1 hb;obtain⟨k,-,rfl⟩:=Jh hi;exact .inl (Po (KG _ _) h)⟩
def aaI (a:bX ⟨(n:Int),es⟩) (hb:vq n es=[b]):aaf n es↔aaB n b:=by
 unfold aaf;rw[hb];simp[a]
def ad9 (a:(aad n b).length=m) (h2:aam n b=c) (h:bX ⟨(m:Int),c⟩/\zW m c/\XU m (eN m c)):aaB n b:=by
 subst a h2;exact .inr h
def abb (a:(aad n b).length=m) (h2:aam n b=c) (d:9<=b.length) (h:¬XU m (eN m c)):¬aaB n b:=by
 subst a h2;rintro(h3|h3)
 .omega
 .exact h h3.2.2
def aea:∀i,i<10->aaf 5 (k5L.eraseIdx i):=fun i hi=>by
 have h:=ae7 i hi;have hb:∀i,i<10->vq 5 (k5L.eraseIdx i)=[k5L.eraseIdx i]/\(aad 5 (k5L.eraseIdx i)).length=5/\aam 5 (k5L.eraseIdx i)=k5L.eraseIdx i:=by decide+kernel
 obtain⟨a,b,c⟩:=hb i hi;exact(aaI h.1 a).2 (ad9 b c h)
def ae9:∀i,i<10->aaf 6 (k5U.eraseIdx i):=fun i hi=>by
 have h:=ae7 i hi;have hb:∀i,i<10->vq 6 (k5U.eraseIdx i)=[k5U.eraseIdx i]/\(aad 6 (k5U.eraseIdx i)).length=5/\aam 6 (k5U.eraseIdx i)=k5L.eraseIdx i:=by decide+kernel
 obtain⟨a,b,c⟩:=hb i hi;exact(aaI (ae8.sub (Ah ..)) a).2 (ad9 b c h)
def k5_np:¬aaf 5 k5L:=fun h=>abb (n:=5) (b:=k5L) (m:=5) (c:=k5L) iw iw WY k5N ((aaI (b:=k5L) k5R iw).1 h)
def k5U_np:¬aaf 6 k5U:=fun h=>abb (n:=6) (b:=k5U) (m:=5) (c:=k5L) iw iw WY k5N ((aaI (b:=k5U) ae8 iw).1 h)
def acs:∀j,j<6->¬aaf 6 (k6L.drop j):=fun j l h=>by
 have hb:∀j,j<4->vq 6 (k6L.drop j)=[k6L.drop j]/\(aad 6 (k6L.drop j)).length=6/\aam 6 (k6L.drop j)=k6L.drop j/\9<=(k6L.drop j).length/\(k5U.all fun p=>hasB (k6L.drop j) p)=true:=by decide+kernel
 by_cases c:j<4
 .obtain ⟨a, d, e, f, g⟩ := hb j c
  exact abb d e f (more_no (k6R.sub (List.drop_sublist ..)).GD fun p i=>(acT _ _).1 (uV.1 g p i)) ((aaI (k6R.sub (List.drop_sublist ..)) a).1 h)
 .have k : (vq 6 (k6L.drop 4)).contains k5U = true := by decide +kernel
  obtain rfl|rfl:j=4\/j=5:=NH
  .exact abb (n:=6) (b:=k5U) (m:=5) (c:=k5L) iw iw WY k5N (h.2 k5U (Ex.1 k))
  .exact k5U_np h
def k33_np:¬aaf 6 E9:=fun h=>abb (m:=6) (c:=E9) iw iw WY k33N ((aaI (b:=E9) k33R iw).1 h)
def afa:∀i,i<9->aaf 6 (E9.eraseIdx i):=fun i hi=>
 abP (k33R.sub (Ah ..)) ((by decide:∀i,i<9->(E9.eraseIdx i).length<9) i hi)
def aeb:aaf 4 c4E:=abP c4R WY
def m5_plan:aaf 5 m5E:=aea 0 WY
def fnd_k5:aaU ⟨((5:Nat):Int),k5L⟩=k5L:=(if_neg k5_np).trans (abi (l:=k5L) (fun i hi=>aea i hi) _ _)
def fnd_k33:aaU ⟨((6:Nat):Int),E9⟩=E9:=(if_neg k33_np).trans (abi (l:=E9) (fun i hi=>afa i hi) _ _)
def fnd_c4:aaU ⟨((4:Nat):Int),c4E⟩=[]:=if_pos aeb
def fnd_k6:aaU ⟨((6:Nat):Int),k6L⟩=k5U:=by
 refine(if_neg (acs 0 WY)).trans ?_;show findM 6 15 0 (k6L.drop 0)=_;rw[aaX WY (acs 1 WY)];show findM 6 14 0 (k6L.drop 1)=_;rw[aaX WY (acs 2 WY)];show findM 6 13 0 (k6L.drop 2)=_;rw[aaX WY (acs 3 WY)];show findM 6 12 0 (k6L.drop 3)=_;rw[aaX WY (acs 4 WY)];show findM 6 11 0 (k6L.drop 4)=_;rw[aaX WY (acs 5 WY)];exact abi (l:=k5U) (fun i hi=>ae9 i hi) _ _
def abc {k:Int} (a:es.length<=594) (h:(List.range es.length).all (okB 200 es)=true) (e:abw es=k):aaW es=k:=by rw[aaW,if_pos (V5 WY WY a h)];exact e
def kind_k5:aaW k5L=5:=abc WY iw iw
def kind_m5:aaW m5E=0:=abc WY iw iw
def afb:aaW k5U=5:=abc WY iw iw
def afc:aaW E9=33:=abc WY iw iw
def kind_c4:aaW c4E=0:=abc WY iw iw
end
section
attribute [local irreducible] Kp MQ lU rS KO KN KX KE VK Kl ZJ TC aaa
open Go.Proofs
variable {B M T i n:Nat} {es:List Pr} {h:AHeap} {rows:AM} {x:Int}
def adh {l:List (Pr×Int)} (i:h.own M=some (.map (wy l))) (k:Pr):∃(j:Nat) (l1:List (Pr×Int)),
  aMapEntry Tryz.prog h 88 (.map (some M)) (UI k)=some (.tuple #[.int .i64 ((lookK l k).getD 0),.int .i64 (j:Int)],h.put M (.map (wy l1)))/\(lookK l1 k).getD 0=(lookK l k).getD 0/\
  ∀v:Int,aEntryStore (h.put M (.map (wy l1))) (.map (some M)) (.int .i64 (j:Int)) (.int .i64 v)=some ((h.put M (.map (wy l1))).put M (.map (wy (setK l k v)))):=by
 have m:azero Tryz.prog 3=some (.int .i64 0):=Ji;have hf:=afind_mapP k l 0;have hd:∀v:Int,_:=fun v=>Ek l k v;rcases Ek l k 0 with⟨a,n⟩|⟨j,b,a,h2,h3,n⟩
 .have d := hf.1 a
  refine⟨l.length,l++[(k,0)],?_,?_,fun v=>?_⟩
  .simp only [aMapEntry, qS25, keyP, i, m, if_true, d, show flat (.int .i64 0) = true from rfl, a]
   simp[wy]
  .rw[<-n,XR,if_pos rfl,a];rfl
  .have hs:setK l k v=l++[(k,v)]:=by
    rcases hd v with⟨_,e⟩|⟨j,b,e,_⟩
    .exact e
    .rw[a]at e;cases e
   have f:(0:Int)<=(l.length:Int):=NH;simp only[aEntryStore,AHeap.Y3,f,if_true,yY];rw[hs];simp[wy]
 .have c := hf.2 j b h2 h3
  rw[BS]at c;refine⟨j,l,?_,rfl,fun v=>?_⟩
  .simp only[aMapEntry,qS25,keyP,i,m,if_true,c,a,Option.getD_some]
  .have hs:setK l k v=l.set j (k,v):=by
    rcases hd v with⟨e,_⟩|⟨g,s,e,o,p,r⟩
    .rw[a]at e;cases e
    .have:g=j:=by
      rcases Gq g j with q|q|q
      .exact absurd rfl (h3 g q _ o)
      .exact q
      .exact absurd rfl (p j q _ h2)
     rw[r,this]
   have f:(0:Int)<=(j:Int):=NH;have hg:(wy l)[j]?=some (UI k,.int .i64 b):=by simp[wy,h2]
   simp only[aEntryStore,AHeap.Y3,f,if_true,yY,hg];rw[hs];simp[wy,wV]
def bX.n200 (a:bX ⟨(n:Int),es⟩):n<=200:=by
 have:(n:Int)<=200:=a.n1;omega
def stKI {x:Value} (o:h.own T=some (.cells [x])) (y:Int):aStore Tryz.prog h 3 (.pointer (some ⟨T,0,none⟩)) (.int .i64 y)=some (h.put T (.cells [.int .i64 y])):=
 QB Mb Ji o Nat.zero_lt_one rfl rfl
def ldKI (o:h.own T=some (.cells [.int .i64 x])):aload Tryz.prog h 3 ⟨T,0,none⟩=some (.int .i64 x):=by rw[Fq Mb rfl o];rfl
def ldKR {a:Value} (o:h.own B=some (.cells [a])):aload Tryz.prog h 27 ⟨B,0,none⟩=some a:=by rw[Fq pE rfl o];rfl
def aeo (V:LA) (T B:Nat) (Q:Value) (s c v:Nat) (t h:AHeap) (oT:h.own T=some (.cells [.int .i64 (s:Nat)])) (oB:h.own B=some (.cells [Q])) (F:B≠T) (hb:RL (RL RP) t Q (Zh n es)) (l0:Le t h) (nT:t.own T=none)
  (G:bX ⟨(n:Int),es⟩) (R:Jp es c v) (W:((Zh n es).getD c []).length≠2) (hs:s<=100000000):
  AC Tryz.prog V 128 [.int .i64 (c:Nat),.int .i64 (v:Nat),.pointer (some ⟨T,0,none⟩),.pointer (some ⟨B,0,none⟩)] h fun x h'=>x=.int .i64 ((aai (Zh n es) (c,v)).1:Nat)/\h'.own T=some (.cells [.int .i64 ((s+((aai (Zh n es) (c,v)).2+1):Nat):Int)])/\Le t h'/\∀b o,b≠T->h.own b=some o->h'.own b=some o:=by
 have hR:=G.GD;have hA:D3 es:=G.q9;obtain⟨K,hK,h2,h3,X⟩:=acE hR hA G.n200 R W;rw[X];have H:=aa2 hR hA (d:=(c,v)) R;have rt:=fun v=>abh hR hA (v:=v);have bl:=Xq n es;have bn:∀{x y},Jp es x y->y<n:=fun a=>(a.lt hR).2;generalize Zh n es=rows at*;refine AC.vE ⟨Tryz.func128,rfl,WY⟩ Tryz.ntmps128 Tryz.results128 fun w=>?_;simp only[Br,Nat.reduceAdd];have z:=ldKI oT;have A:=stKI oT ((s+1:Nat):Int);have C:=Tw s NH;refine Sk (Yb z C A) ?_;have w1:WF (h.put T (.cells [.int .i64 ((s+1:Nat):Int)])):=w.put _ (w.lt oT);refine aaa.intro (fun k fr j=>∃i:Nat,k=K-i/\i<=K/\fr=mkF [(1,.int .i64 ((it (goS rows) i (c,v)).2:Nat)),(2,.pointer (some ⟨T,0,none⟩)),(3,.pointer (some ⟨B,0,none⟩)),(7,.int .i64 ((it (goS rows) i (c,v)).1:Nat))]/\
   j.own T=some (.cells [.int .i64 ((s+1+i:Nat):Int)])/\Le t j/\∀b o,b≠T->h.own b=some o->j.own b=some o)
  K [(1,.int .i64 (v:Nat)),(2,.pointer (some ⟨T,0,none⟩)),(3,.pointer (some ⟨B,0,none⟩)),(7,.int .i64 (c:Nat))] fD
  ⟨0,rfl,AE _,rfl,AHeap.Y3 _ _ _,l0.put _ nT,fun b o hb I=>by rw[AHeap.By _ _ _ _ hb];exact I⟩ ?_
 clear w1 A z C oT;rintro k fr j Y ⟨i,rfl,hi,rfl,oT,p,J⟩;have lB:=ldKR (J B _ F oB);have ha:=H i fun q j=>h2 q NH;generalize e:it (goS rows) i (c,v)=d at*;have l:d.2<rows.length:=by rw[bl];exact bn ha
 have L:=hb.NS d.2 l;obtain⟨u,M,r⟩:=hb.Wm d.2 l;have lu:=M j p;have gd:rows.getD d.2 []=rows[d.2]:=D4 l;have ln:=fun g=>r.Uc g;have S:=ldKI oT;have st:=stKI oT ((s+1+(i+1):Nat):Int);have aw:=Tw (s+1+i) NH;rw[adS (s+1) i 1]at aw;by_cases c2:(rows.getD d.2 []).length=2
 rotate_left
 .have f:i=K:=by
   rcases C2 i K with q|q
   .have:=h2 i q;rw[e]at this;exact absurd this c2
   .omega
  subst f;have d2:decide ((rows[d.2].length:Int)=2)=false:=decide_eq_false (by rw[gd]at c2;omega);rw[e];simp only[HO,Nat.reduceLT,↓reduceIte,Nat.reduceEqDiff,reduceCtorEq,lB,L,lu,ln,d2];have Z:s+1+i=s+(i+1):=NH;rw[Z]at oT;exact⟨trivial,oT,p,J⟩
 have f:i<K:=by
  rcases C2 i K with q|q
  .exact q
  .obtain rfl : i = K := NH
   rw[e]at h3;exact absurd c2 h3
 obtain⟨a,b,N,ne,h4,h5,h6⟩:=rt d.2 c2;have D:it (goS rows) (i+1) (c,v)=goS rows d:=by rw[<-e];rfl
 have gs:goS rows d=(d.2,if(a:Int)=(d.1:Int)then b else a):=by
  unfold goS;rw[N];simp only[mV,aeB];split<;>simp
 rw[gd]at N;rw[N]at r ln;have d2:decide ((([(a:Int),(b:Int)]:RZ).length:Int)=2)=true:=by simp
 have O:=r.TA 0 Ma;have a1:=r.TA 1 Ma;have m:=(r.le Nn.RP p).DH 0 Ma;have E:=(r.le Nn.RP p).DH 1 Ma;simp only[qL218,List.getElem_cons_succ]at m E;simp only[Int.cast_ofNat_Int]at O a1;have U:∀b o,b≠T->h.own b=some o->(j.put T (.cells [.int .i64 ((s+1+(i+1):Nat):Int)])).own b=some o:=fun b o hb I=>by rw[AHeap.By _ _ _ _ hb];exact J b o hb I
 by_cases ca:(a:Int)=(d.1:Int)
 .have P : decide ((a : Int) = (d.1 : Int)) = true := decide_eq_true ca
  rw[if_pos ca]at gs;simp only[HO,Nat.reduceLT,↓reduceIte,Nat.reduceEqDiff,reduceCtorEq,lB,L,lu,ln,d2,O,m,P,a1,E,S,aw,st];exact tn (K-(i+1)) [(1,.int .i64 (b:Nat)),(2,.pointer (some ⟨T,0,none⟩)),(3,.pointer (some ⟨B,0,none⟩)),(7,.int .i64 (d.2:Nat))] NH fD
   ⟨i+1,rfl,f,by rw[D,gs];rfl,AHeap.Y3 _ _ _,p.put _ nT,U⟩
 .have P : decide ((a : Int) = (d.1 : Int)) = false := decide_eq_false ca
  rw[if_neg ca]at gs;simp only[HO,Nat.reduceLT,↓reduceIte,Nat.reduceEqDiff,reduceCtorEq,lB,L,lu,ln,d2,O,m,P,S,aw,st];exact tn (K-(i+1)) [(1,.int .i64 (a:Nat)),(2,.pointer (some ⟨T,0,none⟩)),(3,.pointer (some ⟨B,0,none⟩)),(7,.int .i64 (d.2:Nat))] NH fD
   ⟨i+1,rfl,f,by rw[D,gs];rfl,AHeap.Y3 _ _ _,p.put _ nT,U⟩
def acF (rows:AM) (D:List (Nat×Nat)):Nat:=(D.map fun d=>(aai rows d).2+1).sum
structure aec (rows:AM) (D:List (Nat×Nat)) (hq:AHeap) (M T B:Nat) (rv:Value) (l:List (Pr×Int)):Prop where
 oM:hq.own M=some (.map (wy l))
 oT:hq.own T=some (.cells [.int .i64 (acF rows D:Nat)])
 oB:hq.own B=some (.cells [rv])
 OT:∀p,(lookK l p).getD 0=(((D.map (aaz rows)).count p:Nat):Int)
def strS_le {D:List (Nat×Nat)} (h:∀d∈D,(aai rows d).2<=40000):acF rows D<=40001*D.length:=by
 induction D with
 |nil=>simp[acF]
 |cons d D a=>
  have c:=h d Ma;have h2:=a fun e b=>h e (by simp[b]);simp only[acF,j3,aaS,Uz]at*;omega
def aep (rows:AM) (D:List (Nat×Nat)) (d:Nat×Nat):acF rows (D++[d])=acF rows D+((aai rows d).2+1):=by simp[acF]
def aeq {cs:II} (h:i<cs.length):aag rows (cs.take (i+1))=aag rows (cs.take i)++(rows.getD cs[i] []).map fun x=>(cs[i],x.toNat):=by
 unfold aag;rw[EL h,Jj];simp only[Dk,List.flatMap_nil,cJ]
def adi (W0:LA) (C cv:Value) (cs:II) (h:AHeap) (hb:RL (RL RP) h C (Zh n es)) (J:RL RP h cv (kz cs)) (hr:bX ⟨(n:Int),es⟩)
  (hc:∀c∈cs,c<n/\((Zh n es).getD c []).length≠2) (hl:(aag (Zh n es) cs).length<=1000) (b9:cs.length<=1000):
  AC Tryz.prog W0 78 [C,cv] h fun x h'=>∃(M:Nat) (l:List (Pr×Int)),x=.tuple #[.map (some M),.int .i64 (aaF (Zh n es) cs:Nat)]/\h'.own M=some (.map (wy l))/\(∀p,(lookK l p).getD 0=(aaM (Zh n es) cs p:Int))/\Le h h':=by
 have hR:=hr.GD;have hA:D3 es:=hr.q9;have Wn:=fun c v=>acE hR hA hr.n200 (c:=c) (v:=v);have f:=fun(T B:Nat) (s c v:Nat) (g:AHeap) a1 a2 a3 a4 a5 a6 a7 a8=>aeo W0 T B C s c v h g a1 a2 a3 hb a4 a5 hr a6 a7 a8;have bl:=Xq n es;have bm:=EW hR;have bN:=fun u x=>Ru hR (u:=u) (x:=x);generalize Zh n es=rows at*;refine AC.vE ⟨Tryz.func78,rfl,WY⟩ Tryz.ntmps78 Tryz.results78 fun ae=>?_;simp only[Br,Nat.reduceAdd];obtain⟨m,e1,l1,w1,o1⟩:=Tt ae [C]
 have bx:zF h C=some (.pointer (some ⟨h.next,0,none⟩),m):=by
  obtain⟨a,c,rfl,_⟩:=hb.sl;rw[<-e1];rfl
 obtain⟨h2,e2,l2,w2,o2⟩:=Tt w1 [.int .i64 0]
 have al:aAlloc Tryz.prog m 3=some (.pointer (some ⟨m.next,0,none⟩),h2):=by rw[<-e2];rfl
 have ag:=stKI o2 0
 have nB:h.own h.next=none:=(Le.refl h).next ae (Ny _)
 have z:m.own m.next=none:=(Le.refl m).next w1 (Ny _)
 have nT:=l1.none z
 have aj:h.next≠m.next:=fun e=>by rw[<-e,o1]at z;cases z
 have E:Le m (h2.put m.next (.cells [.int .i64 0])):=l2.put _ z
 have L:WF (h2.put m.next (.cells [.int .i64 0])):=w2.put _ (w2.lt o2)
 have N:=AHeap.Y3 h2 m.next (.cells [.int .i64 0])
 generalize h2.put m.next (.cells [.int .i64 0])=y at*
 obtain⟨Z,e3,l3,w3,o3⟩:∃Z,y.alloc (.map [])=Z/\Le y Z/\WF Z/\Z.own y.next=some (.map []):=⟨_,rfl,(Le.refl y).alloc L _,L.alloc _,AHeap.zT _ _⟩
 have o:y.own y.next=none:=(Le.refl y).next L (Ny _)
 have nM:h.own y.next=none:=(l1.trans E).none o
 have A:m.next≠y.next:=fun e=>by rw[<-e,N]at o;cases o
 have G:h.next≠y.next:=fun e=>by rw[<-e,E.own _ _ o1]at o;cases o
 have ln:=fun g=>J.Uc g;rw[y6]at ln;simp only[HO,Nat.reduceLT,↓reduceIte,Nat.reduceEqDiff,reduceCtorEq,bx,al,ag,e3,ln]
 have S0:aec rows (aag rows (cs.take 0)) Z y.next m.next h.next C []:=⟨o3,l3.own _ _ N,l3.own _ _ (E.own _ _ o1),fun p=>rfl⟩
 have aq:=(l1.trans E).trans l3
 generalize h.next=B at*
 generalize m.next=T at*
 generalize y.next=M at*
 clear e3 o3 o N ag z al e2 bx e1 o1 o2 l2 w2 l1 w1;refine aaa.intro (fun k fr hq=>∃(i:Nat) (l:List (Pr×Int)),k=cs.length-i/\i<=cs.length/\fr=mkF [(2,.pointer (some ⟨B,0,none⟩)),(6,.pointer (some ⟨T,0,none⟩)),(7,.func (.func 128) #[] #[.pointer (some ⟨T,0,none⟩),.pointer (some ⟨B,0,none⟩)]),(8,.map (some M)),(16,cv),(17,.int .i64 cs.length),(18,.int .i64 i)]/\aec rows (aag rows (cs.take i)) hq M T B C l/\Le h hq)
  cs.length [(2,.pointer (some ⟨B,0,none⟩)),(6,.pointer (some ⟨T,0,none⟩)),(7,.func (.func 128) #[] #[.pointer (some ⟨T,0,none⟩),.pointer (some ⟨B,0,none⟩)]),(8,.map (some M)),(16,cv),(17,.int .i64 cs.length),(18,.int .i64 (0:Nat))] fD
  ⟨0,[],rfl,AE _,rfl,S0,aq⟩ ?_
 clear S0 aq l3 w3;rintro k fr hq bb ⟨i,l,rfl,hi,rfl,S,lq⟩;refine Uy ?_;refine Kl.intro (fun ht=>?_) (fun hf=>?_)
 rotate_left
 .have O : cs.length <= i := vp hf
  rw[vZ O]at S;have lT:=ldKI S.oT;refine Uy ?_;refine gh (tA [0,1,2,3] .done) ?_;refine CO lT ?_;exact⟨M,l,rfl,S.oM,S.OT,lq⟩
 have b:i<cs.length:=CC ht;clear ht;obtain⟨bg,P⟩:=hc cs[i] (Gw b);have Q:cs[i]<rows.length:=by rw[bl];exact bg
 have av:∀i,i<=cs.length->(aag rows (cs.take i)).length<=(aag rows cs).length:=fun i _=>by
  have:aag rows cs=aag rows (cs.take i)++aag rows (cs.drop i):=by rw[aag,aag,aag,<-Jj,qL98]
  rw[this,kc];omega
 have R:=aeq (rows:=rows) b;have U:=av (i+1) b;have bh:∀d∈aag rows (cs.take i),(aai rows d).2<=40000:=fun d hd=>by
  simp only[aag,Lm,aae]at hd;obtain⟨c,bk,x,V,rfl⟩:=hd;obtain⟨w,rfl,_⟩:=bN c x V;obtain⟨K,k1,-,-,k2⟩:=Wn c w ((bm c w).1 V) (hc c (Bc bk)).2;rw[yY,k2];exact k1
 have adc:=J.TA i (by rw[y6];exact b);have W:=(J.le Nn.RP lq).DH i (by rw[y6];exact b);rw[sY b]at W;generalize cs[i]=c at*;have ar:=hb.NS c Q;obtain⟨u,ay,hu⟩:=hb.Wm c Q;have lu:=ay hq lq;have gd:rows.getD c []=rows[c]:=D4 Q;have bo:=fun g=>hu.Uc g;have X:∀x∈rows.getD c [],∃w:Nat,x=(w:Int)/\Jp es c w:=fun x V=>by
  obtain⟨w,rfl,_⟩:=bN c x V;exact⟨w,rfl,(bm c w).1 V⟩
 rw[R]at U;rw[gd]at R X U;have f:=fun s v g a1 a2 a4 a6 a8=>f T B s c v g a1 a2 aj a4 nT a6 P a8;have Wn:=fun v a=>Wn c v a P;clear P ay;generalize rows[c]=r at*;have lB:=ldKR S.oB;have br:=Tw i NH;simp only[HO,Nat.reduceLT,↓reduceIte,Nat.reduceEqDiff,reduceCtorEq,adc,W,lB,ar,lu,bo];simp only[kc,LH]at U;have cc:r.length<=1000:=NH;refine aaa.intro (fun k fr hz=>∃(j:Nat) (l:List (Pr×Int)),k=r.length-j/\j<=r.length/\fr=mkF [(2,.pointer (some ⟨B,0,none⟩)),(6,.pointer (some ⟨T,0,none⟩)),(7,.func (.func 128) #[] #[.pointer (some ⟨T,0,none⟩),.pointer (some ⟨B,0,none⟩)]),(8,.map (some M)),(10,.int .i64 (c:Nat)),(16,cv),(17,.int .i64 cs.length),(18,.int .i64 i),(25,u),(26,.int .i64 r.length),(27,.int .i64 j)]/\aec rows (aag rows (cs.take i)++(r.take j).map fun x=>(c,x.toNat)) hz M T B C l/\Le h hz)
  r.length [(2,.pointer (some ⟨B,0,none⟩)),(6,.pointer (some ⟨T,0,none⟩)),(7,.func (.func 128) #[] #[.pointer (some ⟨T,0,none⟩),.pointer (some ⟨B,0,none⟩)]),(8,.map (some M)),(10,.int .i64 (c:Nat)),(16,cv),(17,.int .i64 cs.length),(18,.int .i64 i),(25,u),(26,.int .i64 r.length),(27,.int .i64 (0:Nat))] fD
  ⟨0,l,rfl,AE _,rfl,by simpa using S,lq⟩ ?_
 clear S lq lu lB W;clear bb hq l;rintro k fr hz cd ⟨j,l,rfl,hj,rfl,S,lz⟩;refine Uy ?_;refine Kl.intro (fun ht=>?_) (fun hf=>?_)
 rotate_left
 .have O : r.length <= j := vp hf
  rw[vZ O,<-R]at S;refine Sk br ?_;exact tn (cs.length-(i+1)) [(2,.pointer (some ⟨B,0,none⟩)),(6,.pointer (some ⟨T,0,none⟩)),(7,.func (.func 128) #[] #[.pointer (some ⟨T,0,none⟩),.pointer (some ⟨B,0,none⟩)]),(8,.map (some M)),(16,cv),(17,.int .i64 cs.length),(18,.int .i64 (i+1:Nat))] (JS b) fD
   ⟨i+1,l,rfl,b,rfl,S,lz⟩
 have t:j<r.length:=CC ht;clear ht;obtain⟨v,az,aD⟩:=X r[j] (Gw t);have bB:=hu.TA j t;have aF:=(hu.le Nn.RP lz).DH j t;have aH:(r.take (j+1)).map (fun x=>(c,x.toNat))=(r.take j).map (fun x=>(c,x.toNat))++[(c,v)]:=by rw[EL t,U9,az];simp
 rw[az]at aF;have cf:(aag rows (cs.take i)++(r.take j).map fun x=>(c,x.toNat)).length<=1000:=by simp only[kc,LH,Bn];omega
 have bF:∀d∈aag rows (cs.take i)++(r.take j).map (fun x=>(c,x.toNat)),(aai rows d).2<=40000:=fun d hd=>by
  rcases WA.1 hd with q|q
  .exact bh d q
  .obtain ⟨x, V, rfl⟩ := aae.1 q
   obtain⟨w,rfl,ha⟩:=X x (Bc V);obtain⟨K,k1,-,-,k2⟩:=Wn w ha;rw[yY,k2];exact k1
 have cg:=strS_le bF;have aJ:=aep rows (aag rows (cs.take i)++(r.take j).map fun x=>(c,x.toNat)) (c,v);rw[Cg,<-aH]at aJ;have aK:=fun p=>List.count_le_length (a:=p) (l:=(aag rows (cs.take i)++(r.take j).map fun x=>(c,x.toNat)).map (aaz rows));have bH:(aag rows (cs.take i)++(r.take (j+1)).map fun x=>(c,x.toNat)).map (aaz rows)=(aag rows (cs.take i)++(r.take j).map fun x=>(c,x.toNat)).map (aaz rows)++[aaz rows (c,v)]:=by rw[aH,<-Cg,U9];rfl
 generalize aag rows (cs.take i)++(r.take j).map (fun x=>(c,x.toNat))=D at*;generalize bI:aag rows (cs.take i)++(r.take (j+1)).map (fun x=>(c,x.toNat))=D1 at*;refine Sk (XC bB aF) ?_;refine TC.intro PJ ⟨Tryz.func128,rfl,WY⟩ (f (acF rows D) v hz S.oT S.oB lz aD NH) ?_;rintro x H w9 ⟨rfl,bQ,l9,kp⟩;have F:=kp M _ A.symm S.oM;have bW:=kp B _ aj S.oB;have hE:aaz rows (c,v)=(min (c:Int) ((aai rows (c,v)).1:Int),max (c:Int) ((aai rows (c,v)).1:Int)):=rfl;generalize aai rows (c,v)=od at*;generalize aaz rows (c,v)=p at*;obtain⟨jj,I,aP,bZ,b0⟩:=adh F p;have aT:=SA F p;have aW:=AHeap.Y3 H M (.map (wy I));have Y:=SA aW p;rw[bZ]at Y;have cp:=S.OT p;have aX:=aK p;rw[LH]at aX;rw[cp]at aT Y aP;have b1:=Tw ((D.map (aaz rows)).count p) NH;have b2:=b0 (((D.map (aaz rows)).count p+1:Nat):Int);have mn:=Dv (c:Int) (od.1:Int);have mx:=z6 (c:Int) (od.1:Int);have b3:aBuild Tryz.prog 38 [(0,.int .i64 (min (c:Int) (od.1:Int))),(1,.int .i64 (max (c:Int) (od.1:Int)))]=some (UI p):=by rw[hE];exact xe _ _
 have b4:=Tw j NH;have b5:=AHeap.Y3 (H.put M (.map (wy I))) M (.map (wy (setK l p (((D.map (aaz rows)).count p+1:Nat):Int))));have lb:Le h ((H.put M (.map (wy I))).put M (.map (wy (setK l p (((D.map (aaz rows)).count p+1:Nat):Int))))):=(l9.put _ nM).put _ nM;have b6:((H.put M (.map (wy I))).put M (.map (wy (setK l p (((D.map (aaz rows)).count p+1:Nat):Int))))).own T=some (.cells [.int .i64 ((acF rows D+(od.2+1):Nat):Int)]):=(by rw[AHeap.By _ _ _ _ A,AHeap.By _ _ _ _ A];exact bQ);have b8:((H.put M (.map (wy I))).put M (.map (wy (setK l p (((D.map (aaz rows)).count p+1:Nat):Int))))).own B=some (.cells [C]):=(by rw[AHeap.By _ _ _ _ G,AHeap.By _ _ _ _ G];exact bW);have wb:WF ((H.put M (.map (wy I))).put M (.map (wy (setK l p (((D.map (aaz rows)).count p+1:Nat):Int))))):=(w9.put _ (w9.lt F)).put _ ((w9.put _ (w9.lt F)).lt aW);have S1:aec rows D1 ((H.put M (.map (wy I))).put M (.map (wy (setK l p (((D.map (aaz rows)).count p+1:Nat):Int))))) M T B C (setK l p (((D.map (aaz rows)).count p+1:Nat):Int)):=by
  refine⟨b5,by rw[aJ];exact b6,b8,fun q=>?_⟩;rw[XR,bH,List.count_append,List.count_singleton];by_cases e:p=q
  .subst e;rw[if_pos rfl];simp
  .rw[if_neg e,S.OT q,if_neg (by simpa using e)];rfl
 refine Uy ?_;refine gh (tA [0,1,2,3,4,5,6,7] (.ch 8 [0,7] (tA [9] (JQ 10 [0,1,2,3,4,5,6,7] (tA [11] (JQ 12 [0,1,2,3,4,5,6,7,8,9,10,11] .done)))) (JQ 10 [0,1,2,3,4,5,6,7] (tA [11] (JQ 8 [0,7] (tA [9] (JQ 12 [0,1,2,3,4,5,6,7,8,9,10,11] .done))))))) ?_;simp only[HO,Nat.reduceLT,↓reduceIte,Nat.reduceEqDiff,reduceCtorEq,Nat.reduceBEq,Qg,mn,mx,b3,wD,aT,Y,b1,aP,b2,b4];generalize (H.put M (.map (wy I))).put M (.map (wy (setK l p (((D.map (aaz rows)).count p+1:Nat):Int))))=g at*;refine⟨?_,?_⟩
 all_goals exact tn (r.length-(j+1)) [(2,.pointer (some ⟨B,0,none⟩)),(6,.pointer (some ⟨T,0,none⟩)),(7,.func (.func 128) #[] #[.pointer (some ⟨T,0,none⟩),.pointer (some ⟨B,0,none⟩)]),(8,.map (some M)),(10,.int .i64 (c:Nat)),(16,cv),(17,.int .i64 cs.length),(18,.int .i64 i),(25,u),(26,.int .i64 r.length),(27,.int .i64 (j+1:Nat))] (JS t) fD ⟨j+1,_,rfl,t,rfl,by rw[bI];exact S1,lb⟩
end
end Go.Fw
