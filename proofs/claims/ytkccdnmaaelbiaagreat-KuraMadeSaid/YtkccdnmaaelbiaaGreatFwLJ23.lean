/- A text. -/
import Derived.Test.YtkccdnmaaelbiaaGreatFwLJ22
set_option linter.all false
set_option maxRecDepth 99999
set_option maxHeartbeats 9999999
namespace Go.Fw
section
attribute [local instance] Classical.propDecidable
attribute [local irreducible] Kp MQ lU rS KO KN KX KE VK Kl ZJ TC aab
open Go.Proofs
variable {B O n v:Nat} {S:kR} {bv fv iv lv:Value} {cs us ws:List Value} {es:List Pr} {g h:AHeap} {left:List wW} {rows:AM}
theorem Nb (d:LA) (v:Value) (n:Nat) (es:List Pr) (h:AHeap) (hg:GR h v ⟨(n:Int),es⟩) (e:bX ⟨(n:Int),es⟩):
  AC Tryz.prog d 51 [v] h fun x h'=>RR (zW n es) x/\Le h h':=by
 have c:=hg
 obtain⟨ev,rfl,u⟩:=hg.open
 refine AC.vE ⟨Tryz.func51,rfl,WY⟩ Tryz.ntmps51 Tryz.results51 fun i=>?_;simp only[Br,Nat.reduceAdd];obtain⟨o,p,a,w,-,q⟩:=r8 (n:=(n:Int)) i u
 generalize h.next=B at*
 have b:=q o (Le.refl _);by_cases r:(n:Int)<3
 .have j : decide ((n : Int) < 3) = true := decide_eq_true r
  refine Sk (bG p @Ii @Ip.eq_1 @BS b.2.1 j) ?_;exact⟨RR.f fun T=>by have:=T.n3;omega,a⟩
 have j:decide ((n:Int)<3)=false:=decide_eq_false r;have h3:3<=n:=NH;refine Sk (rE p @Ii @Ip.eq_1 @BS b.2.1 b.1 j) ?_;refine TC.intro PJ ⟨Tryz.func64,rfl,WY⟩ (It d _ ⟨(n:Int),es⟩ o (c.le a) e) ?_;rintro pv s D ⟨gp,l4,-⟩;simp only[Z6]at gp;have y:=gp.rl (Nn.RL Nn.RP);have k:=fun g=>y.len (P:=Tryz.prog) pE g;have l:((Gx n es n).map aaa).length=(Es n es).length:=by simp[Gx]
 rw[l]at k;have m:=q s l4;by_cases c1:((Es n es).length:Int)=1
 rotate_left
 .have d1 : decide (((Es n es).length : Int) = 1) = false := decide_eq_false c1
  refine Sk (Yb k @bne.eq_1.{0} d1) ?_
  grind [RR.f,zW.one,Le.trans]
 have d1:decide (((Es n es).length:Int)=1)=true:=decide_eq_true c1;have z:(Es n es).length=1:=NH;refine Sk (xU k @bne.eq_1.{0} d1 m.1) ?_
 refine TC.intro PJ ⟨Tryz.func46,rfl,WY⟩ (Cw d _ ⟨(n:Int),es⟩ s (c.le (a.trans l4))) ?_;rintro x E F ⟨l5,⟨A,_⟩|⟨_,G,rfl,t⟩⟩
 .exact absurd e A
 simp only[Z6]at t;have C:=fun g=>t.len (P:=Tryz.prog) Gs g;have H:=Uv e h3 z;refine Sk C ?_;refine⟨⟨_,rfl,?_⟩,(a.trans l4).trans l5⟩
 grind
noncomputable def embX (n:Nat) (es:List Pr):Option AM:=if 3*n<es.length+6 then none else embM n es
theorem left_nil {H:Nat->Nat->Prop} (hR:aV n es) (hA:D3 es) (D:QG (eN n es)) (I:Z8 n es H S) (h:OW es H=0):S.left=[]:=by
 rcases agv hR hA D 0 H S I NH with⟨a,-⟩|⟨b,c,a,-,h3⟩
 all_goals grind [runM]
theorem run_nil (h:S.left=[]):∀k,runM n rows k S=some S
 |0=>rfl
 |k+1=>by grind [runM.eq_2]
theorem lx.rlF {on:List Bool} {b d:Cs} (S:lx g h B O n rows bv fv iv lv us ws cs on b d left):RL (RL RP) h fv (b.map aaa):=
 ⟨us,(GS.cs S.gF).rs,by grind [lx.uL],fun i x u a e=>by
  rw[PN]at a;cases c:b[i]? with
  |none=>grind
  |some f=>
   rw[c]at a;simp at a;subst a;exact(S.cF i u f e c).le Nn.RP S.le⟩
theorem face_bd {r:Nat->II} {F:Cs} (G:vy n r F):∀f∈F,(∀x∈f,x<n)/\f.length<=n:=fun f hf=>by
 have a:∀x∈f,x<n:=fun x b=>G.Rl.lt _ _ (G.O.df G.Rl hf b);refine⟨a,?_⟩;have:=tf (G.O.nd f hf) (B:=List.range n) fun v c=>uV.2 (a v c)
 grind
theorem row_pos (a:zW n es) (hR:aV n es) (b:v<n):0<((Zh n es).getD v []).length:=by
 obtain⟨w,hw⟩:=a.ne hR b;obtain⟨u,c,e⟩:=iy ((aU hR).2 ⟨w,hw⟩)
 grind [qG,Av.back]
theorem row_le (b:v<n):((Zh n es).getD v []).length<=2*es.length:=by
 have a:v<(Zh n es).length:=by grind [Xq]
 rw[D4 a];exact bV n es _ (Og a)
def GRc (h:AHeap) (v:Value) (G:GM):Prop:=∃ev,v=.agg #[.int .i64 G.n,ev]/\PR h ev G.es/\okc 2 ev
def GRc.gr {v:Value} {G:GM} (g:GRc h v G):GR h v G:=by
 obtain⟨ev,a,h2,-⟩:=g;exact⟨ev,a,h2⟩
def EmbIs (G:GM) (h':AHeap) (a:Value) (e:Int):Prop:=
 (¬bX G/\e=20/\a=rW)\/(bX G/\¬zW G.n.toNat G.es/\e=60/\a=rW)\/
 (bX G/\zW G.n.toNat G.es/\embX G.n.toNat G.es=none/\¬XU G.n.toNat (eN G.n.toNat G.es)/\e=90/\a=rW)\/
 (bX G/\zW G.n.toNat G.es/\∃rs,embX G.n.toNat G.es=some rs/\Av G.n.toNat G.es rs/\Flat G.n.toNat (Xl rs)/\e=0/\RL (RL RP) h' a rs)
theorem Im (t:LA) (v:Value) (G:GM) (h:AHeap) (hg:GRc h v G):
  AC Tryz.prog t 19 [v] h fun x h'=>Le h h'/\∃rv e,x=.tuple #[rv,.int .i64 e]/\EmbIs G h' rv e:=by
 have z:=hg.gr;obtain⟨ev,rfl,N,hc⟩:=hg;obtain⟨gn,es⟩:=G;simp only at N;refine AC.vE ⟨Tryz.func19,rfl,WY⟩ Tryz.ntmps19 Tryz.results19 fun Q=>?_;simp only[Br,Nat.reduceAdd];obtain⟨h1,b1,p,aD,-,R⟩:=r8 (n:=gn) Q N
 generalize h.next=B1 at*
 have T:=R h1 (Le.refl _);refine Sk (XC b1 T.1) ?_;refine TC.intro PJ ⟨qv,rfl,WY⟩ (ak t _ _ h1 (z.le p)) ?_;rintro x h2 aH ⟨⟨U,rfl,i⟩,m⟩;cases U with
 |false=>
  refine Uy ?_;exact⟨p.trans m,_,_,rfl,.inl ⟨(fun d=>by grind),rfl,rfl⟩⟩
 |true=>
 have d:=i.1 rfl;clear i;have h0:0<=gn:=d.n0;obtain⟨n,rfl⟩:=yY h0;have az:(n:Int)<=200:=d.n1;have aC:es.length<=594:=d.len;have hR:=d.GD;have hA:D3 es:=d.q9;have a:=p.trans m;refine Sk ((R h2 m).1) ?_;refine TC.intro PJ ⟨Tryz.func51,rfl,WY⟩ (Nb t _ n es h2 (z.le a) d) ?_;rintro x h3 aJ ⟨⟨U,rfl,i⟩,j⟩;have fT:=R h3 (m.trans j);cases U with
 |false=>
  refine Uy ?_;exact⟨a.trans j,_,_,rfl,.inr (.inl ⟨d,(fun q=>by cases i.2 q),rfl,rfl⟩)⟩
 |true=>
 have l:=i.1 rfl;clear i;have aK:=l.n3;have lP:=fun g=>N.len g;have A:awrap .i64 (3*(n:Int))=3*(n:Int):=ie _ NH NH;have C:awrap .i64 (3*(n:Int)-6)=3*(n:Int)-6:=ie _ NH NH;by_cases c1:3*n<es.length+6
 .have d1 : decide ((es.length : Int) > 3 * (n : Int) - 6) = true := decide_eq_true NH
  simp only[HO,Nat.reduceLT,↓reduceIte,Nat.reduceEqDiff,reduceCtorEq,Ii,Di,Ip,BS,fT.2.1,fT.2.2,lP,A,C,d1];exact⟨a.trans j,_,_,rfl,.inr (.inr (.inl ⟨d,l,if_pos c1,many_no d l c1,rfl,rfl⟩))⟩
 have d1:decide ((es.length:Int)>3*(n:Int)-6)=false:=decide_eq_false NH;simp only[HO,Nat.reduceLT,↓reduceIte,Nat.reduceEqDiff,reduceCtorEq,Ii,Di,Ip,BS,fT.2.1,fT.2.2,fT.1,lP,A,C,d1];refine TC.intro PJ ⟨Tryz.func52,rfl,WY⟩ (Si t ev n es h3 (N.le (a.trans j)) hc d l) ?_;rintro x h4 w4 ⟨g4,B,O,bv,u,w,y,us,ws,cs,rfl,V,S4,Rg⟩;have I0:=Rg.start hR hA (L:=MF n (Qw n (sortP (ZH (zl n es)))) es) uY;have hX:embX n es=(runM n (Zh n es) es.length (RB n es)).map fun S=>xY n (Zh n es) S.Jv:=if_neg c1;have D:=l.Z7 hR;have E:OW es (Ei (zl n es))<=es.length:=zx _ _;have F:=(a.trans j).trans V;refine Uy ?_;refine lIn (fun k fr W=>∃(S:kR) (H:Nat->Nat->Prop) (g:AHeap) (u w y:Value) (us ws cs:List Value),fr=mkF [(4,.pointer (some ⟨B,0,none⟩))]/\Z8 n es H S/\runM n (Zh n es) es.length (RB n es)=runM n (Zh n es) k S/\OW es H<=k/\
   lx g W B O n (Zh n es) bv u w y us ws cs S.on S.Jv S.Jv S.left/\Le g4 g) ⟨RB n es,_,g4,u,w,y,us,ws,cs,rfl,I0,rfl,E,S4,Le.refl _⟩ ?_
 clear S4 I0 E w4;clear h4 u w y us ws cs;rintro k fr W aP ⟨S,H,g,u,w,y,us,ws,cs,rfl,I,b,hu,o,X⟩;have J:=sB B 5 NH;have lL:=o.lenL;by_cases c:S.left=[]
 .have Y : decide ((S.left.length : Int) > 0) = false := by rw [c]; rfl
  refine Sk (xU J o.f.l5 lL Y) ?_;rw[run_nil c]at b;obtain⟨r,Z,fl,hm⟩:=I.done c;obtain⟨k1,k2⟩:=circ_ok d l Z fl hm;have K:=face_bd Z;have aT:=I.My;refine TC.intro PJ ⟨Tryz.func54,rfl,WY⟩ (pY t B n bv _ u w y (Zh n es) S.Jv W o.f (o.cB.le (Nn.RL Nn.RP) o.le) o.rlF (Xq n es) (fun v hv=>⟨row_pos l hR hv,by have:=row_le (es:=es) hv;omega⟩) (fun f hf=>⟨(K f hf).1,by have:=(K f hf).2;omega⟩) NH NH NH (circ_hit d l Z hm)) ?_;rintro x h9 w9 ⟨hx,l9⟩;refine Uy ?_;refine⟨((F.trans X).trans o.le).trans l9,x,_,rfl,.inr (.inr (.inr ⟨d,l,_,?_,k1,k2,rfl,hx⟩))⟩
  grind
 .have Y : decide ((S.left.length : Int) > 0) = true := by grind [List.length_pos_iff]
  obtain⟨k',rfl⟩:∃k',k=k'+1:=by
   cases k<;>grind [left_nil]
  refine Sk (xU J o.f.l5 lL Y) ?_;refine TC.intro PJ ⟨Tryz.func53,rfl,WY⟩ (lay_any t o d D I c) ?_;rintro x h9 w9 ⟨g9,M,l9,s⟩;rw[runM,if_neg c]at b;rcases s with⟨q1,rfl⟩|⟨S',ae,ag,aj,al,aq,ar,q1,rfl,av⟩
  .rw [q1] at b
   refine Uy ?_;have ay:¬XU n (eN n es):=by grind [Z8.lay]
   refine⟨((F.trans X).trans M).trans l9,_,_,rfl,.inr (.inr (.inl ⟨d,l,?_,ay,rfl,rfl⟩))⟩
   grind
  .rw [q1] at b
   refine Uy ?_;obtain⟨P,I',aW⟩:∃P,Z8 n es P S'/\OW es P<OW es H:=by grind [Z8.lay]
   exact lgA (wV _) ⟨S',P,g9,ae,ag,aj,al,aq,ar,rfl,I',b,NH,av,X.trans M⟩
end
end Go.Fw
namespace Go.Fw
open Go.Proofs
attribute [local irreducible] Jz JL vq cQ
def okB (n:Int) (es:List Pr) (i:Nat):Bool:=match es[i]? with
 |some p=>decide (0<=p.1)&&decide (p.1<p.2)&&decide (p.2<n)&&(i==0||match es[i-1]? with|some q=>decide (Nz q p<0)|none=>true)
 |none=>true
theorem V5 {n:Int} {es:List Pr} (a:0<=n) (b:n<=200) (c:es.length<=594) (hd:(List.range es.length).all (okB n es)=true):bX ⟨n,es⟩:=by
 refine⟨a,b,c,fun i hi p d=>?_⟩;have:=LH.1 hd i (uV.2 hi)
 grind [okB]
attribute [local instance] Classical.propDecidable in
theorem tT {n:Nat} {es:List Pr} {rs:AM} (a:bX ⟨(n:Int),es⟩) (G:Av n es rs) (b:0<n) (c:∀v,v<n->Pu es 0 v) (hf:n+(IN n rs).length=es.length+2):XU n (eN n es):=
 Vg a.GD a.q9 G ((En a.GD a.q9 G).1 ((vS a.GD a.q9 G b c).2 fun _=>hf))
attribute [local instance] Classical.propDecidable in
theorem two_of {n:Nat} {es:List Pr} (b:bX ⟨(n:Int),es⟩) (h3:3<=n) (a:es≠[]) (c:∀v,v<n->Pu es 0 v) (hb:(vq n es).length=1):zW n es:=
 (Uv b h3 (join_of b.GD NH a c).2).1 hb
def c4E:List Pr:=[(0,1),(0,3),(1,2),(2,3)]
def m5E:List Pr:=[(0,2),(0,3),(0,4),(1,2),(1,3),(1,4),(2,3),(2,4),(3,4)]
def k5L:List Pr:=(0,1)::m5E
def E9:List Pr:=[(0,3),(0,4),(0,5),(1,3),(1,4),(1,5),(2,3),(2,4),(2,5)]
def c4R:bX ⟨((4:Nat):Int),c4E⟩:=V5 WY WY WY iw
def m5R:bX ⟨((5:Nat):Int),m5E⟩:=V5 WY WY WY iw
def k5R:bX ⟨((5:Nat):Int),k5L⟩:=V5 WY WY WY iw
def k33R:bX ⟨((6:Nat):Int),E9⟩:=V5 WY WY WY iw
theorem Jy {n:Nat} {es:List Pr} {E:Nat->II} (hR:aV n es) (a:∀v w,w∈E v->v<n/\w<n) (h:∀v,v<n->∀w,w<n->(w∈eN n es v↔w∈E v)):∀v w,w∈eN n es v↔w∈E v:=by grind [vD,Jp.lt]
theorem k5N:¬XU 5 (eN 5 k5L):=fun h=>afQ (qL0 5) ((XU.qE (Jy k5R.GD (by grind [pZ]) iw)).1 h)
theorem k33N:¬XU 6 (eN 6 E9):=fun h=>afR (qL0 6) ((XU.qE (Jy k33R.GD (fun v w q=>by grind [Vb]) iw)).1 h)
section
variable {G : GM} {h : AHeap} {rv : Value} {e : Int}
theorem EmbIs.XK (I:EmbIs G h rv e) (b:bX G) (c:zW G.n.toNat G.es) (d:XU G.n.toNat (eN G.n.toNat G.es)):∃rs,embX G.n.toNat G.es=some rs/\Av G.n.toNat G.es rs/\Flat G.n.toNat (Xl rs)/\e=0/\RL (RL RP) h rv rs:=by
 rcases I with⟨a,_⟩|⟨_,a,_⟩|⟨_,_,_,h2,_⟩|⟨_,_,h2⟩
 all_goals grind
end
end Go.Fw
namespace Go.Fw
section
attribute [local instance] Classical.propDecidable
open Go.Proofs
variable {es:List Pr} {n:Nat}
theorem jt (c:0<n) (h:∀u v,u<n->v<n->Pu es u v):(Es n es).length=1:=by
 have m0:0∈Es n es:=by grind [QO]
 have nd:=qD n es
 match hh:Es n es with
 |[]=>grind
 |[_]=>rfl
 |a::b::l=>
  have ha:a∈Es n es:=by rw[hh];simp
  have hb:b∈Es n es:=by rw[hh];simp
  grind [QO]
end
end Go.Fw
namespace Go.Fw
open Go.Proofs
attribute [local instance] Classical.propDecidable
inductive Rc (A:Nat->Nat->Prop) (c:Nat):Nat->Nat->Prop
 |refl {u:Nat}:Rc A c u u
 |step {u v w:Nat}:Rc A c u v->A v w->v≠c->w≠c->Rc A c u w
section
variable {A B : Nat → Nat → Prop} {c u v w a b n : Nat}
theorem Rc.trans (h:Rc A c u v) (k:Rc A c v w):Rc A c u w:=by induction k with|refl=>exact h|step _ a d h2 e=>exact e.step a d h2
theorem Rc.one (h:A u v) (d:u≠c) (h2:v≠c):Rc A c u v:=Rc.refl.step h d h2
theorem Rc.symm (sy:∀x y,A x y->A y x) (h:Rc A c u v):Rc A c v u:=by
 induction h with
 |refl=>exact .refl
 |step _ a d h2 e=>exact(Rc.one (sy _ _ a) h2 d).trans e
theorem Rc.sub (h:∀x y,A x y->x≠c->y≠c->Rc B c x y) (k:Rc A c u v):Rc B c u v:=by
 induction k with|refl=>exact .refl|step _ a d h2 e=>exact(by grind [Rc.trans])
def upA (A:Nat->Nat->Prop) (a b m x y:Nat):Prop:=(A x y/\¬(x=a/\y=b)/\¬(x=b/\y=a))\/(x=m/\(y=a\/y=b))\/(y=m/\(x=a\/x=b))
end
section
variable {n : Nat} {es : List Pr}
abbrev sg (L:List Pr):List Pr:=sortP (L.map lZ)
theorem abj (L:List Pr) (x y:Nat):Jp (sg L) x y↔Jp L x y:=by
 have key:∀p:Pr,lZ p=((x:Int),(y:Int))->p=((x:Int),(y:Int))\/p=((y:Int),(x:Int)):=by grind [lZ]
 have d:∀p:Pr,lZ p=((y:Int),(x:Int))->p=((x:Int),(y:Int))\/p=((y:Int),(x:Int)):=by grind [lZ]
 have i:lZ ((x:Int),(y:Int))=((x:Int),(y:Int))\/lZ ((x:Int),(y:Int))=((y:Int),(x:Int)):=by simp only[lZ,qy];omega
 have g:lZ ((y:Int),(x:Int))=lZ ((x:Int),(y:Int)):=by simp only[lZ,qy];omega
 unfold Jp sg;simp only[Wb,HV];constructor
 .rintro (⟨p, f, e⟩ | ⟨p, f, e⟩)
  .rcases key p e with rfl|rfl<;>simp[f]
  .rcases d p e with rfl|rfl<;>simp[f]
 .rintro (h | h)
  .exact pw
  .exact pw
def acD {L:List Pr} (k:YG (n:Int) L) {x y:Nat} (h:Jp L x y):x<n:=(((abj L x y).2 h).lt k.right.GD).1
theorem aV.up {m:Nat} (h:aV n es) (e:n<=m):aV m es:=fun p d=>by have:=h p d;omega
theorem ab7 (hR:aV n es) {m:Nat} (d:n<=m):XU m (eN m es)↔XU n (eN n es):=by
 obtain⟨k,rfl⟩:=Gp d;have:=XU.mores (n:=n) (E:=eN n es) (fun v w h=>(((vD hR).1 h).lt hR).1) k;rw[<-this];exact(by grind [XU.congr,vD,aV.up])
end
end Go.Fw
namespace Go.Fw
open Go.Proofs
attribute [local irreducible] Kp MQ lU rS KO KN KX KE VK Kl ZJ TC aab
attribute [local instance] Classical.propDecidable
def aeT {p:Pr} (h:p.1<p.2):lZ p=p:=by obtain⟨a,b⟩:=p;simp only[lZ,qy]at*;omega
def bX.newOK {n:Nat} {L:List Pr} (h:bX ⟨(n:Int),L⟩):YG (n:Int) L:=by
 have e:L.map lZ=L:=by
  have:L.map lZ=L.map id:=Uz fun p c=>aeT (h.GD p c).2.1;rw[this,aeC]
 exact⟨h.n0,h.n1,h.len,fun p c=>by rw[aeT (h.GD p c).2.1];have:=h.GD p c;omega,by rw[e];exact(show D3 L from h.q9).nodup⟩
section
variable {n a b : Nat} {L1 L2 : List Pr}
theorem less_adj (h:bX ⟨(n:Int),L1++((a:Int),(b:Int))::L2⟩) (x y:Nat):Jp (L1++L2) x y↔Jp (L1++((a:Int),(b:Int))::L2) x y/\¬(x=a/\y=b)/\¬(x=b/\y=a):=by
 have hR:=h.GD;have nd:=(show D3 (L1++((a:Int),(b:Int))::L2)from h.q9).nodup;have e:=hR _ (show((a:Int),(b:Int))∈L1++((a:Int),(b:Int))::L2 by simp);simp only at e;have no:((a:Int),(b:Int))∉L1++L2:=(ZT.1 (zd.nodup_iff.1 nd)).1;have c:((b:Int),(a:Int))∉L1++L2:=fun q=>by
  have:=hR ((b:Int),(a:Int)) pw;simp only at this;omega
 unfold Jp;simp only[Sb,WA,qy]at no c ⊢;constructor
 .intro q
  refine⟨by rcases q with q|q<;>grind,fun w=>?_,fun w=>?_⟩
  .obtain⟨rfl,rfl⟩:=w;exact q.elim no c
  .obtain⟨rfl,rfl⟩:=w;exact q.elim c no
 .rintro ⟨q, d, h2⟩
  grind
end
end Go.Fw
namespace Go.Fw
open Go.Proofs
attribute [local instance] Classical.propDecidable
section
variable {n a b : Nat} {D R : List Pr}
theorem twist_ok (k:YG (n:Int) (D++((a:Int),(b:Int))::R)) (j:n+1<=200) (g:(D++((a:Int),(b:Int))::R).length+1<=594):
  YG ((n+1:Nat):Int) ((D++[((a:Int),(n:Int))])++((n:Int),(b:Int))::R):=by
 have e:=k.ok ((a:Int),(b:Int)) Ma;have n1:lZ ((a:Int),(n:Int))=((a:Int),(n:Int)):=by simp only[lZ,qy]at e ⊢;omega
 have f:lZ ((n:Int),(b:Int))=((b:Int),(n:Int)):=by simp only[lZ,qy]at e ⊢;omega
 have ne:a≠b:=fun h=>by simp only[lZ]at e;omega
 have nd:=k.nd;rw[j3,wI]at nd;refine⟨NH,NH,by simp at g ⊢;omega,fun p c=>?_,?_⟩
 .by_cases i : p = ((a : Int), (n : Int))
  .rw[i,n1];simp only[lZ]at e ⊢;omega
  by_cases h2:p=((n:Int),(b:Int))
  .rw[h2,f];simp only[lZ]at e ⊢;omega
  .have := k.ok p (by simp at c ⊢; grind)
   omega
 .rw [j3, wI, j3, wI, List.map_nil, n1, f]
  have no:∀p∈D++R,∀x:Int,lZ p≠(x,(n:Int)):=fun p c x h=>by
   have:=k.ok p (by simp at c ⊢;grind);rw[h]at this;simp only at this;omega
  have d:(D.map lZ++R.map lZ).Nodup:=(ZT.1 (zd.nodup_iff.1 nd)).2;have pm:(D.map lZ++[((a:Int),(n:Int))]++((b:Int),(n:Int))::R.map lZ).Perm (((a:Int),(n:Int))::((b:Int),(n:Int))::(D.map lZ++R.map lZ)):=by
   refine zd.trans ?_;refine((List.Perm.append_right _ (Dl (l₁:=D.map lZ) (l₂:=[((a:Int),(n:Int))]))).cons _).trans ?_;exact List.Perm.swap _ _ _
  refine pm.nodup_iff.2 (ZT.2 ⟨?_,ZT.2 ⟨?_,d⟩⟩)
  .rw [WA, <- j3, HV]
   rintro(h|⟨p,c,h⟩)
   .simp only[qy]at h;omega
   .exact no p c _ h
  .rw [<- j3, HV]
   rintro⟨p,c,h⟩;exact no p c _ h
theorem afc (k:YG (n:Int) (D++((a:Int),(b:Int))::R)) (x y:Nat):
  Jp ((D++[((a:Int),(n:Int))])++((n:Int),(b:Int))::R) x y↔upA (Jp (D++((a:Int),(b:Int))::R)) a b n x y:=by
 have nd:=k.nd;rw[j3,wI]at nd;have no:=(ZT.1 (zd.nodup_iff.1 nd)).1;rw[<-j3]at no;have c:((a:Int),(b:Int))∉D++R:=fun h=>no (List.mem_map_of_mem h);have d:((b:Int),(a:Int))∉D++R:=fun h=>no (by
  have e:lZ ((a:Int),(b:Int))=lZ ((b:Int),(a:Int)):=by simp only[lZ,qy];omega
  rw[e];exact List.mem_map_of_mem h)
 have q:∀x y:Nat,(Jp (D++((a:Int),(b:Int))::R) x y/\¬(x=a/\y=b)/\¬(x=b/\y=a))↔Jp (D++R) x y:=fun x y=>by
  unfold Jp;simp only[Sb,WA,qy,afF]at c d ⊢;constructor
  .rintro⟨h,f,h2⟩;grind
  .intro h
   refine⟨pw,fun w=>?_,fun w=>?_⟩
   .obtain⟨rfl,rfl⟩:=w;exact h.elim c d
   .obtain⟨rfl,rfl⟩:=w;exact h.elim d c
 unfold upA;rw[q];unfold Jp;simp only[Sb,WA,vY,or_false,qy,afF]
 grind
end
end Go.Fw
namespace Go.Fw
section
attribute [local irreducible] Kp MQ lU rS KO KN KX KE VK Kl ZJ TC aab
attribute [local irreducible] Jz JL vq cQ
open Go.Proofs
def New_n (d:LA) (n:Int) (v:Value) (ps:List Pr) (h:AHeap) (f:PR h v ps) (c:ps.length<=100000):
  AC Tryz.prog d 29 [.int .i64 n,v] h fun x h'=>Le h h'/\∃(m k:Int) (ev:Value) (L:List Pr),x=.tuple #[.agg #[.int .i64 m,ev],.int .i64 k]/\GP h' ev L/\Z2 h ev/\(k=0->m=n/\YG n ps/\L=sg ps):=
 (gZ d n v ps h f c).mono fun x h' ⟨l,q⟩=>⟨l,by
  rcases q with⟨-,k,i,rfl⟩|⟨ok,ev,rfl,g,a⟩
  .exact⟨0,k,_,[],rfl,GP.nil _,fun b hb=>by simp[blk]at hb,fun e=>absurd e i⟩
  .exact⟨n,0,ev,_,rfl,g,a,fun _=>⟨rfl,ok,rfl⟩⟩⟩
end
section
attribute [local irreducible] Jz JL vq cQ
open Go.Proofs
variable {b l:List Pr} {n:Nat}
def aah (n:Nat) (b:List Pr):II:=(List.range n).filter fun v=>b.any fun p=>aO p (v:Int)
def abw (n:Nat) (b:List Pr) (x:Int):Nat:=(aah n b).countP fun(v:Nat)=>decide ((v:Int)<x)
def aao (n:Nat) (b:List Pr):List Pr:=b.map fun p=>((abw n b p.1:Int),(abw n b p.2:Int))
def acM (b:List Pr):RZ:=b.flatMap fun p=>[p.1,p.2]
theorem adY (b:List Pr) (x:Int):x∈acM b↔∃p∈b,aO p x=true:=by
 simp only[acM,QD,aO,WA,vY,or_false,uu,decide_eq_true_eq];constructor
 .rintro⟨p,a,h⟩;exact pw
 .rintro⟨p,a,h⟩;exact pw
def adZ {v:Nat}:v∈aah n b↔v<n/\∃p∈b,aO p (v:Int)=true:=by simp[aah]
theorem acT (hR:aV n b):Lib.compact (qC (acM b))=aaa (aah n b):=by
 refine wP _ _ (bT (aQ _)) ?_ fun x=>?_
 .unfold aaa
  rw[Hs];exact(pz.filter _).imp fun h=>by omega
 .rw [jn, Wv, adY]
  simp only[aaa,HV,adZ];constructor
  .rintro ⟨p, a, h⟩
   obtain⟨c,h2,h3⟩:=hR p a;have h':=h;simp only[aO,uu,decide_eq_true_eq]at h';refine⟨x.toNat,⟨NH,p,a,?_⟩,NH⟩;rwa[sD NH]
  .rintro ⟨v, ⟨d, p, a, h⟩, rfl⟩
   exact⟨p,a,h⟩
def aaQ (n:Nat) (b:List Pr):Prop:=
 b.length<9\/(bX ⟨((aah n b).length:Int),aao n b⟩/\zW (aah n b).length (aao n b)/\XU (aah n b).length (eN (aah n b).length (aao n b)))
def aar (n:Nat) (es:List Pr):Prop:=bX ⟨(n:Int),es⟩/\∀b∈vq n es,aaQ n b
attribute [local instance] Classical.propDecidable in
noncomputable def findM (n:Nat):Nat->Nat->List Pr->List Pr
 |0,_,l=>l
 |f+1,i,l=>if i<l.length then(if aar n (l.eraseIdx i)then findM n f (i+1) l else findM n f i (l.eraseIdx i))else l
attribute [local instance] Classical.propDecidable in
noncomputable def adh (G:GM):List Pr:=if aar G.n.toNat G.es then[]else findM G.n.toNat G.es.length 0 G.es
def abk {n:Nat} {l:List Pr} (h:∀i,i<l.length->aar n (l.eraseIdx i)):∀f i,findM n f i l=l
 |0,i=>rfl
 |f+1,i=>by
  rw[findM];split
  .rename_i hi
   rw[if_pos (h i hi)];exact abk h f (i+1)
  .rfl
def abl {f i:Nat} (hi:i<l.length) (h:¬aar n (l.eraseIdx i)):findM n (f+1) i l=findM n f i (l.eraseIdx i):=by rw[findM,if_pos hi,if_neg h]
variable {c es:List Pr} {m:Nat} {rs:AM}
def ab0 (es:List Pr) (n:Nat) (a:II):II:=(List.range n).filter fun v=>a.contains v||a.any fun p=>hasB es ((p:Int),(v:Int))||hasB es ((v:Int),(p:Int))
def conB (n:Nat) (es:List Pr):Bool:=(List.range n).all fun v=>(it (ab0 es n) n [0]).contains v
def aeU (h:conB n es=true):∀v,v<n->Pu es 0 v:=by
 have:∀k,∀v∈it (ab0 es n) k [0],Pu es 0 v:=by
  intro k
  induction k with
  |zero=>
   intro v a;have:v=0:=by simpa[it]using a
   subst this;exact Pu.refl _ _
  |succ k c=>
   intro v a;have a:v∈ab0 es n (it (ab0 es n) k [0]):=a;simp only[ab0,VU,Po,uu,b7,adR]at a;rcases a.2 with b|⟨p,d,b⟩
   .exact c v b
   .exact tM (c p d) b
 intro v a;exact this n v (Po.1 (LH.1 h v (uV.2 a)))
theorem abP {hs:List (H8×Nat)} (d1:(List.range es.length).all (okB 5 es)=true) (d2:conB 5 es=true) (d3:(vq 5 es).length=1) (d4:(List.range 5).all (fun v=>(rs.getD v []).isPerm ((Zh 5 es).getD v []))=true) (d5:Cert 5 (Xl rs) hs) (c:es.length=9) (d:rs.length=5) (e:hs.length=6:=by rfl):
  bX ⟨((5:Nat):Int),es⟩/\zW 5 es/\XU 5 (eN 5 es):=by
 have a:bX ⟨((5:Nat):Int),es⟩:=by grind [V5]
 have b:=aeU d2;have G:Av 5 es rs:=N9 d d4;refine⟨a,two_of a WY pw b d3,tT a G WY b ?_⟩;rw[X9 a G d5,eR,e,c]
def aem:∀i,i<10->bX ⟨((5:Nat):Int),k5L.eraseIdx i⟩/\zW 5 (k5L.eraseIdx i)/\XU 5 (eN 5 (k5L.eraseIdx i)):=fun i hi=>by
 match i,hi with
 |0,_=>exact abP (rs:=[[2,3,4],[4,3,2],[3,0,4,1],[4,0,2,1],[2,0,3,1]]) (hs:=[((0,2),3),((0,3),3),((0,4),3),((1,2),3),((1,3),3),((1,4),3)]) iw iw iw iw iw rfl rfl
 |1,_=>exact abP (rs:=[[1,3,4],[3,0,4,2],[4,3,1],[4,0,1,2],[1,0,3,2]]) (hs:=[((0,1),3),((0,3),3),((0,4),3),((1,2),3),((1,3),3),((2,3),3)]) iw iw iw iw iw rfl rfl
 |2,_=>exact abP (rs:=[[1,2,4],[2,0,4,3],[4,0,1,3],[4,2,1],[1,0,2,3]]) (hs:=[((0,1),3),((0,2),3),((0,4),3),((1,2),3),((1,3),3),((2,4),3)]) iw iw iw iw iw rfl rfl
 |3,_=>exact abP (rs:=[[1,2,3],[2,0,3,4],[3,0,1,4],[1,0,2,4],[3,2,1]]) (hs:=[((0,1),3),((0,2),3),((0,3),3),((1,2),3),((1,4),3),((2,3),3)]) iw iw iw iw iw rfl rfl
 |4,_=>exact abP (rs:=[[3,1,4,2],[0,3,4],[4,3,0],[4,1,0,2],[0,1,3,2]]) (hs:=[((0,1),3),((0,2),3),((0,3),3),((0,4),3),((1,4),3),((2,3),3)]) iw iw iw iw iw rfl rfl
 |5,_=>exact abP (rs:=[[2,1,4,3],[0,2,4],[4,1,0,3],[4,2,0],[0,1,2,3]]) (hs:=[((0,1),3),((0,2),3),((0,3),3),((0,4),3),((1,4),3),((2,4),3)]) iw iw iw iw iw rfl rfl
 |6,_=>exact abP (rs:=[[2,1,3,4],[0,2,3],[3,1,0,4],[0,1,2,4],[3,2,0]]) (hs:=[((0,1),3),((0,2),3),((0,3),3),((0,4),3),((1,3),3),((2,3),3)]) iw iw iw iw iw rfl rfl
 |7,_=>exact abP (rs:=[[1,2,4,3],[4,2,0,3],[0,1,4],[4,1,0],[0,2,1,3]]) (hs:=[((0,1),3),((0,2),3),((0,3),3),((0,4),3),((1,2),3),((1,4),3)]) iw iw iw iw iw rfl rfl
 |8,_=>exact abP (rs:=[[1,2,3,4],[3,2,0,4],[0,1,3],[0,2,1,4],[3,1,0]]) (hs:=[((0,1),3),((0,2),3),((0,3),3),((0,4),3),((1,2),3),((1,3),3)]) iw iw iw iw iw rfl rfl
 |9,_=>exact abP (rs:=[[1,3,2,4],[2,3,0,4],[0,3,1,4],[0,1,2],[2,1,0]]) (hs:=[((0,1),3),((0,2),3),((0,3),3),((0,4),3),((1,2),3),((1,3),3)]) iw iw iw iw iw rfl rfl
def k5U:List Pr:=[(1,2),(1,3),(1,4),(1,5),(2,3),(2,4),(2,5),(3,4),(3,5),(4,5)]
def k6L:List Pr:=[(0,1),(0,2),(0,3),(0,4),(0,5)]++k5U
def k6R:bX ⟨((6:Nat):Int),k6L⟩:=V5 WY WY WY iw
def k5UR:bX ⟨((6:Nat):Int),k5U⟩:=V5 WY WY WY iw
def dnV (v:Nat):Nat:=(v+5)%6
def upV (v:Nat):Nat:=(v+1)%6
def k5U_no:¬XU 6 (eN 6 k5U):=fun a=>by
 have N:Ren 6 dnV upV:=⟨WY,WY,WY,WY⟩;have K:∀v,v<6->∀w,w<6->(w∈Hr v↔upV w∈eN 6 k5U (upV v)):=by decide+kernel
 refine afQ (n:=6) WY (a.ren N fun v w=>?_);constructor
 .intro h
  have h':=pZ.1 h;exact⟨NH,NH,(K v NH w NH).1 h⟩
 .rintro ⟨b, hw, h⟩
  exact(K v b w hw).2 h
def more_no (hR:aV 6 es) (hs:∀p∈k5U,p∈es):¬XU 6 (eN 6 es):=fun a=>by
 refine k5U_no (a.less (fun v w h=>?_) (fun v w h=>?_))
 .rw [vD hR]
  exact((vD k5UR.GD).1 h).imp (hs _) (hs _)
 .exact(vD k5UR.GD).2 ((vD k5UR.GD).1 h).symm
theorem acj (a:bX ⟨(n:Int),es⟩) (h:es.length<9):aar n es:=
 ⟨a,fun b hb=>by
  obtain⟨i,hi⟩:=yM.1 hb;obtain⟨k,-,rfl⟩:=Jh hi;exact .inl (by grind [List.length_filter_le])⟩
def aa1 (a:bX ⟨(n:Int),es⟩) (hb:vq n es=[b]):aar n es↔aaQ n b:=by
 unfold aar;rw[hb];simp[a]
def aeV (a:(aah n b).length=m) (h2:aao n b=c) (h:bX ⟨(m:Int),c⟩/\zW m c/\XU m (eN m c)):aaQ n b:=by
 subst a h2;exact .inr h
def abA (a:(aah n b).length=m) (h2:aao n b=c) (d:9<=b.length) (h:¬XU m (eN m c)):¬aaQ n b:=by
 subst a h2;rintro(h3|h3)
 .omega
 .exact h h3.2.2
def aeW:∀i,i<10->aar 5 (k5L.eraseIdx i):=fun i hi=>by
 have h:=aem i hi;have hb:∀i,i<10->vq 5 (k5L.eraseIdx i)=[k5L.eraseIdx i]/\(aah 5 (k5L.eraseIdx i)).length=5/\aao 5 (k5L.eraseIdx i)=k5L.eraseIdx i:=by decide+kernel
 obtain⟨a,b,c⟩:=hb i hi;exact(aa1 h.1 a).2 (aeV b c h)
def k5U_plan:∀i,i<10->aar 6 (k5U.eraseIdx i):=fun i hi=>by
 have h:=aem i hi;have hb:∀i,i<10->vq 6 (k5U.eraseIdx i)=[k5U.eraseIdx i]/\(aah 6 (k5U.eraseIdx i)).length=5/\aao 6 (k5U.eraseIdx i)=k5L.eraseIdx i:=by decide+kernel
 obtain⟨a,b,c⟩:=hb i hi;exact(aa1 (k5UR.sub (qQ ..)) a).2 (aeV b c h)
def k5_np:¬aar 5 k5L:=fun h=>abA (n:=5) (b:=k5L) (m:=5) (c:=k5L) iw iw WY k5N ((aa1 (b:=k5L) k5R iw).1 h)
def k5U_np:¬aar 6 k5U:=fun h=>abA (n:=6) (b:=k5U) (m:=5) (c:=k5L) iw iw WY k5N ((aa1 (b:=k5U) k5UR iw).1 h)
def acU:∀j,j<6->¬aar 6 (k6L.drop j):=fun j l h=>by
 have hb:∀j,j<4->vq 6 (k6L.drop j)=[k6L.drop j]/\(aah 6 (k6L.drop j)).length=6/\aao 6 (k6L.drop j)=k6L.drop j/\9<=(k6L.drop j).length/\(k5U.all fun p=>hasB (k6L.drop j) p)=true:=by decide+kernel
 by_cases c:j<4
 .obtain ⟨a, d, e, f, g⟩ := hb j c
  exact abA d e f (more_no (k6R.sub (List.drop_sublist ..)).GD fun p i=>(adR _ _).1 (LH.1 g p i)) ((aa1 (k6R.sub (List.drop_sublist ..)) a).1 h)
 .have k : (vq 6 (k6L.drop 4)).contains k5U = true := by decide +kernel
  obtain rfl|rfl:j=4\/j=5:=NH
  .exact abA (n:=6) (b:=k5U) (m:=5) (c:=k5L) iw iw WY k5N (h.2 k5U (Po.1 k))
  .exact k5U_np h
def k33_np:¬aar 6 E9:=fun h=>abA (m:=6) (c:=E9) iw iw WY k33N ((aa1 (b:=E9) k33R iw).1 h)
def k33_plan:∀i,i<9->aar 6 (E9.eraseIdx i):=fun i hi=>
 acj (k33R.sub (qQ ..)) ((by decide:∀i,i<9->(E9.eraseIdx i).length<9) i hi)
def aeX:aar 4 c4E:=acj c4R WY
def m5_plan:aar 5 m5E:=aeW 0 WY
def fnd_k5:adh ⟨((5:Nat):Int),k5L⟩=k5L:=(if_neg k5_np).trans (abk (l:=k5L) (fun i hi=>aeW i hi) _ _)
def fnd_k33:adh ⟨((6:Nat):Int),E9⟩=E9:=(if_neg k33_np).trans (abk (l:=E9) (fun i hi=>k33_plan i hi) _ _)
def fnd_c4:adh ⟨((4:Nat):Int),c4E⟩=[]:=if_pos aeX
def fnd_k6:adh ⟨((6:Nat):Int),k6L⟩=k5U:=by
 refine(if_neg (acU 0 WY)).trans ?_;show findM 6 15 0 (k6L.drop 0)=_;rw[abl WY (acU 1 WY)];show findM 6 14 0 (k6L.drop 1)=_;rw[abl WY (acU 2 WY)];show findM 6 13 0 (k6L.drop 2)=_;rw[abl WY (acU 3 WY)];show findM 6 12 0 (k6L.drop 3)=_;rw[abl WY (acU 4 WY)];show findM 6 11 0 (k6L.drop 4)=_;rw[abl WY (acU 5 WY)];exact abk (l:=k5U) (fun i hi=>k5U_plan i hi) _ _
theorem abC {k:Int} (a:es.length<=594) (h:(List.range es.length).all (okB 200 es)=true) (e:aaT es=k):aat es=k:=by rw[aat,if_pos (by grind [V5])];exact e
def aeY:aat k5L=5:=abC WY iw iw
def kind_m5:aat m5E=0:=abC WY iw iw
def kind_k5U:aat k5U=5:=abC WY iw iw
def ad4:aat E9=33:=abC WY iw iw
def kind_c4:aat c4E=0:=abC WY iw iw
end
end Go.Fw
