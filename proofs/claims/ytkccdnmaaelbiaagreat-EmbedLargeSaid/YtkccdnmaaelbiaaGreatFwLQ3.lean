/- A text. -/
import Derived.Test.YtkccdnmaaelbiaaGreatFwLJ23
set_option linter.all false
set_option maxRecDepth 99999
set_option maxHeartbeats 9999999
namespace Go.Fw
section
attribute [local irreducible] Kp MQ lU rS KO KN KX KE VK Kl ZJ TC gU
attribute [local irreducible] Jz JL vq cQ
open Go.Proofs
def OC (k id n:Nat) (a:n<1000000):Ov k (.slice (some ⟨id,0,none⟩) n n):=⟨_,_,_,rfl,.inl ⟨Ny _,pM a WY⟩⟩
theorem jS (c:LA) (h:AHeap):AC Tryz.prog c 17 [] h fun x h'=>x=.bool true/\Le h h':=by
 refine AC.vE ⟨Tryz.func17,rfl,WY⟩ Tryz.ntmps17 Tryz.results17 fun N=>?_;simp only[Br,Nat.reduceAdd];have bP:∀a b:Int,aBuild Tryz.prog 38 [(0,.int .i64 a),(1,.int .i64 b)]=some (UI (a,b)):=fun _ _=>rfl;have fV:∀x e:Value,aFieldV Tryz.prog 24 (.agg #[x,e]) 1=some e:=fun _ _=>rfl;obtain⟨h1,e1,l1,w1,o1⟩:=Tt N (Iu LO);have m1:=mkP4 h (0,1) (0,3) (1,2) (2,3);have O:Iu [(0,1),(0,3),(1,2),(2,3)]=Iu LO:=rfl;rw[O,e1]at m1
 have Q:PR h1 (.slice (some ⟨h.next,0,none⟩) 4 4) LO:=PR.made o1 rfl
 obtain⟨h2,h3,a2,s2,l3,w3,lG⟩:=As (n:=4) w1 Q;have R:=Wj (n:=4) Q.sl;refine Sk (bG @bP m1 R a2 s2 ((lG h3 (Le.refl _)).1)) ?_
 generalize h1.next=G1 at*
 have g1:GRc h3 (.agg #[.int .i64 4,.slice (some ⟨h.next,0,none⟩) 4 4]) ⟨((4:Nat):Int),LO⟩:=⟨_,rfl,Q.le l3,OC _ _ _ WY⟩
 refine TC.intro PJ ⟨NQ,rfl,WY⟩ (Im c _ ⟨((4:Nat):Int),LO⟩ h3 g1) ?_;rintro x h4 w4 ⟨l4,r1,aP,rfl,I1⟩;obtain⟨d,-,M,F1,rfl,f⟩:=I1.XK c4R c4T c4P;refine Uy ?_;refine TC.intro PJ ⟨Tryz.func30,rfl,WY⟩ (XE c h4) ?_;rintro x h5 w5 ⟨⟨aT,rfl,p5,c5⟩,l5⟩;obtain⟨S,l,o,T⟩:=p5.cut c5 (i:=1) WY;have U:=Wj (n:=5) o.sl;simp only[aaR]at l;refine Sk (Yb fV l U) ?_;refine TC.intro PJ ⟨NQ,rfl,WY⟩ (Im c _ ⟨((5:Nat):Int),m5E⟩ h5 ⟨S,rfl,o,T⟩) ?_;rintro x h6 w6 ⟨l6,r2,aW,rfl,I2⟩;obtain⟨V,-,R2,F2,rfl,W⟩:=I2.XK m5R m5T m5P;refine Uy ?_;refine TC.intro PJ ⟨Tryz.func30,rfl,WY⟩ (XE c h6) ?_;rintro x h7 w7 ⟨g7,l7⟩;refine Uy ?_;refine TC.intro PJ ⟨NQ,rfl,WY⟩ (Im c _ ⟨((5:Nat):Int),k5L⟩ h7 g7) ?_;rintro x h8 w8 ⟨l8,r3,aX,rfl,I3⟩;obtain⟨rfl,rfl⟩:=I3.bad k5R k5T k5N;refine Uy ?_;refine TC.intro PJ ⟨Tryz.func31,rfl,WY⟩ (six_any c h8) ?_;rintro x h9 w9 ⟨g9,l9⟩;refine Uy ?_;refine TC.intro PJ ⟨NQ,rfl,WY⟩ (Im c _ ⟨((6:Nat):Int),E9⟩ h9 g9) ?_;rintro x p X ⟨q,r4,a1,rfl,I4⟩;obtain⟨rfl,rfl⟩:=I4.bad k33R k33T k33N;obtain⟨r,Y,s,a6,Z⟩:=Tt X (Iu p3E);have t:=mkP2 p (0,1) (1,2);have ad:Iu [(0,1),(1,2)]=Iu p3E:=rfl;rw[ad,Y]at t
 have w:PR r (.slice (some ⟨p.next,0,none⟩) 2 2) p3E:=PR.made Z rfl
 have y:=Wj (n:=3) w.sl;refine Sk (Yb @bP t y) ?_;refine TC.intro PJ ⟨NQ,rfl,WY⟩ (Im c _ ⟨((3:Nat):Int),p3E⟩ r ⟨_,rfl,w,OC _ _ _ WY⟩) ?_;rintro x z ag ⟨A,r5,a7,rfl,I5⟩;obtain⟨rfl,rfl⟩:=I5.no p3R p3T;obtain⟨B,aj,C,a8,al⟩:=Tt ag (Iu Rj);have D:=mkP6 z (0,1) (0,2) (1,2) (2,3) (2,4) (3,4);have aq:Iu [(0,1),(0,2),(1,2),(2,3),(2,4),(3,4)]=Iu Rj:=rfl;rw[aq,aj]at D
 have E:PR B (.slice (some ⟨z.next,0,none⟩) 6 6) Rj:=PR.made al rfl
 have F:=Wj (n:=5) E.sl;refine Sk (Yb @bP D F) ?_;refine TC.intro PJ ⟨NQ,rfl,WY⟩ (Im c _ ⟨((5:Nat):Int),Rj⟩ B ⟨_,rfl,E,OC _ _ _ WY⟩) ?_;rintro x j bh ⟨G,r6,bo,rfl,I6⟩;obtain⟨rfl,rfl⟩:=I6.no bowR bowT;have k:Le h4 j:=l5.trans (l6.trans (l7.trans (l8.trans (l9.trans (q.trans (s.trans (A.trans (C.trans G))))))));have br:Le h6 j:=l7.trans (l8.trans (l9.trans (q.trans (s.trans (A.trans (C.trans G))))));have H:=(lG j (l4.trans k)).1;have ar:awrap .i64 (0+0)=0:=by decide
 have d0:decide ((0:Int)=0)=true:=by decide
 have av:decide ((90:Int)=90)=true:=by decide
 have ay:decide ((60:Int)=60)=true:=by decide
 refine Sk (IX ar d0 av ay H) ?_;refine TC.intro PJ ⟨Tryz.func27,rfl,WY⟩ (VS c _ r1 ⟨((4:Nat):Int),LO⟩ d j ((g1.gr.le l4).le k) (f.le (Nn.RL Nn.RP) k)) ?_;rintro x aD bx ⟨⟨bb,rfl,aH⟩,aJ⟩;have hb:bb=true:=aH.2 ⟨c4R,M,(En c4R.GD c4R.q9 M).2 F1⟩;subst hb;have I:=fun g=>f.len (P:=Tryz.prog) UP g;have J:=fun g=>W.len (P:=Tryz.prog) UP g;have m:0<d.length:=by grind [Av.len]
 have K:=f.qP6 0 m;obtain⟨u,lu,hu⟩:=f.NS 0 m;have aK:d[0].length=2:=by
  have:=M.J9 (v:=0) WY;rw[D4 m]at this;rw[this];decide+kernel
 have L:=fun g=>hu.Uc g;rw[aK]at L;have e4:d.length=4:=M.len;have e5:V.length=5:=R2.len;rw[e4]at I;rw[e5]at J;simp only[Ex]at K;have d4:decide (((4:Nat):Int)=4)=true:=by decide
 have d5:decide (((5:Nat):Int)=5)=true:=by decide
 have d2:decide (((2:Nat):Int)=2)=true:=by decide
 simp only[HO,Nat.reduceLT,↓reduceIte,Nat.reduceEqDiff,reduceCtorEq,I,J,d4,d5,d2,K,lu aD (k.trans aJ),L]
 grind [Le.trans]
end
section
attribute [local instance] Classical.propDecidable
open Go.Proofs
variable {es:List Pr} {n:Nat}
theorem jt (c:0<n) (h:∀u v,u<n->v<n->Pu es u v):(Es n es).length=1:=by
 have m0:0∈Es n es:=QO.2 ⟨c,fun u d=>by omega⟩;have nd:=qD n es
 match hh:Es n es with
 |[]=>grind
 |[_]=>rfl
 |a::b::l=>
  rw[hh]at nd;have ha:a∈Es n es:=by rw[hh];simp
  have hb:b∈Es n es:=by rw[hh];simp
  grind [QO]
end
end Go.Fw
namespace Go.Fw
open Go.Proofs
attribute [local instance] Classical.propDecidable
inductive Rc (A:Nat->Nat->Prop) (c:Nat):Nat->Nat->Prop
 |refl {u:Nat}:Rc A c u u
 |step {u v w:Nat}:Rc A c u v->A v w->v≠c->w≠c->Rc A c u w
section
variable {A B : Nat → Nat → Prop} {c u v w a b n : Nat}
theorem Rc.trans (h:Rc A c u v) (k:Rc A c v w):Rc A c u w:=by induction k with|refl=>exact h|step _ a d h2 e=>exact e.step a d h2
theorem Rc.one (h:A u v) (d:u≠c) (h2:v≠c):Rc A c u v:=Rc.refl.step h d h2
theorem Rc.symm (sy:∀x y,A x y->A y x) (h:Rc A c u v):Rc A c v u:=by
 induction h with
 |refl=>exact .refl
 |step _ a d h2 e=>exact(Rc.one (sy _ _ a) h2 d).trans e
theorem Rc.sub (h:∀x y,A x y->x≠c->y≠c->Rc B c x y) (k:Rc A c u v):Rc B c u v:=by
 induction k with|refl=>exact .refl|step _ a d h2 e=>exact e.trans (h _ _ a d h2)
structure TwR (n:Nat) (A:Nat->Nat->Prop):Prop where
 n3:3<=n
 rc:∀c u v,u<n->v<n->u≠c->v≠c->Rc A c u v
theorem TwR.mono (T:TwR n A) (h:∀x y,A x y->B x y):TwR n B:=⟨T.n3,fun c u v d h2 h3 e=>(T.rc c u v d h2 h3 e).sub fun x y q f g=>Rc.one (h x y q) f g⟩
end
section
variable {n : Nat} {es : List Pr}
def TwR.twoG (T:TwR n (Jp es)) (hR:aV n es):zW n es:=by
 have n3:=T.n3;refine⟨n3,jt NH fun u v j k=>?_,fun c ⟨a,b,d,h2,h⟩=>h ?_⟩
 .have := T.rc n u v j k NH NH
  induction this with
  |refl=>exact Cn.refl rfl
  |step _ q l g f=>exact Cn.step (f (q.lt hR).1) q rfl
 .have n1 : a ≠ c := fun e => by rw [e] at d; exact Xa hR d
  have i:b≠c:=fun e=>by rw[e]at h2;exact Xa hR h2
  have:=T.rc c a b (d.lt hR).2 (h2.lt hR).2 n1 i;clear h h2 i
  induction this with
  |refl=>exact .refl (iO n1)
  |step _ q l g f=>exact .step f q (iO g)
abbrev sg (L:List Pr):List Pr:=sortP (L.map aaa)
def aaB (L:List Pr) (x y:Nat):Jp (sg L) x y↔Jp L x y:=by
 have key:∀p:Pr,aaa p=((x:Int),(y:Int))->p=((x:Int),(y:Int))\/p=((y:Int),(x:Int)):=fun p h=>by
  obtain⟨a,b⟩:=p;simp only[aaa,yM]at*;omega
 have f:∀p:Pr,aaa p=((y:Int),(x:Int))->p=((x:Int),(y:Int))\/p=((y:Int),(x:Int)):=fun p h=>by
  obtain⟨a,b⟩:=p;simp only[aaa,yM]at*;omega
 have g:aaa ((x:Int),(y:Int))=((x:Int),(y:Int))\/aaa ((x:Int),(y:Int))=((y:Int),(x:Int)):=by simp only[aaa,yM];omega
 have d:aaa ((y:Int),(x:Int))=aaa ((x:Int),(y:Int)):=by simp only[aaa,yM];omega
 unfold Jp sg;simp only[Wb,Eh];constructor
 .rintro (⟨p, i, e⟩ | ⟨p, i, e⟩)
  .rcases key p e with rfl|rfl<;>simp[i]
  .rcases f p e with rfl|rfl<;>simp[i]
 .rintro (h | h)
  .exact g.imp (fun e=>⟨_,h,e⟩) (fun e=>⟨_,h,e⟩)
  .exact g.imp (fun e=>⟨_,h,d.trans e⟩) (fun e=>⟨_,h,d.trans e⟩)
end
end Go.Fw
namespace Go.Fw
section
attribute [local irreducible] Kp MQ lU rS KO KN KX KE VK Kl ZJ TC gU
attribute [local irreducible] Jz JL vq cQ
open Go.Proofs
variable {es:List Pr} {ev:Value} {g h:AHeap} {n:Int}
def allocG (hw:WF h):∃a,aAlloc Tryz.prog h 24=some (.pointer (some ⟨h.next,0,none⟩),a)/\Le h a/\WF a/\a.own h.next=some (.cells [.int .i64 0,.slice none 0 0]):=by
 obtain⟨a,b,l1,w1,c⟩:=Tt hw [.int .i64 0,.slice none 0 0];exact⟨a,by rw[Lo,b],l1,w1,c⟩
def newGo (hw:WF h) (r:PR h ev es):∃a h2,aAlloc Tryz.prog h 24=some (.pointer (some ⟨h.next,0,none⟩),a)/\aStore Tryz.prog a 24 (.pointer (some ⟨h.next,0,none⟩)) (.agg #[.int .i64 n,ev])=some h2/\Le h h2/\WF h2/\
  h2.own h.next=some (.cells [.int .i64 n,ev])/\Le h a:=by
 obtain⟨a,c,l1,w1,b⟩:=allocG hw;obtain⟨_,_,e,-⟩:=r.sl
 exact⟨a,_,c,DG b r.sl.one (by rw[e];rfl),l1.put _ ((Le.refl h).next hw (Ny _)),w1.put _ (w1.lt b),AHeap.Y3 _ _ _,l1⟩
def ldGo {X:Nat} (r:PR h ev es) (o:g.own X=some (.cells [.int .i64 n,ev])):aload Tryz.prog g 24 ⟨X,0,none⟩=some (.agg #[.int .i64 n,ev]):=by
 obtain⟨_,_,e,-⟩:=r.sl;exact tY o ⟨_,_,_,e⟩
end
end Go.Fw
namespace Go.Fw
open Go.Proofs
attribute [local instance] Classical.propDecidable
def dw3 (k v:Nat):List Pr:=[((v:Int),(((v+1)%k:Nat):Int)),((v:Int),(k:Int)),((v:Int),((k+1:Nat):Int))]
def dwL (k i:Nat):List Pr:=(List.range i).flatMap (dw3 k)
def aaz (k i:Nat):dwL k (i+1)=dwL k i++dw3 k i:=by unfold dwL;rw[Uz,List.flatMap_append];simp
def aaj (k i:Nat):(dwL k i).length=3*i:=by
 induction i with
 |zero=>rfl
 |succ i a=>rw[aaz,jf,a];simp[dw3];omega
def aaW {k v:Nat} (a:v<k):(v+1)%k=sw k v:=by
 unfold sw;split
 .rename_i h;rw[h];exact qL204 k
 .exact rY NH
def aak {k v:Nat} {p:Pr} (a:v<k):p∈dw3 k v↔p=((v:Int),(sw k v:Int))\/p=((v:Int),(k:Int))\/p=((v:Int),((k+1:Nat):Int)):=by
 unfold dw3;rw[aaW a];simp
def aaw {k:Nat} {p:Pr}:p∈dwL k k↔∃v,v<k/\(p=((v:Int),(sw k v:Int))\/p=((v:Int),(k:Int))\/p=((v:Int),((k+1:Nat):Int))):=by
 unfold dwL;rw[BR];constructor
 .rintro⟨v,h,a⟩;rw[Og]at h;exact⟨v,h,(aak h).1 a⟩
 .rintro⟨v,h,a⟩;exact⟨v,Og.2 h,(aak h).2 a⟩
section
variable {k : Nat}
def aaG (h3:3<=k) (d:k<=198):YG ((k+2:Nat):Int) (dwL k k):=by
 refine⟨NH,NH,by rw[aaj];omega,fun p c=>?_,?_⟩
 .obtain ⟨v, a, h⟩ := aaw.1 c
  have:=aab h3 a;rcases h with rfl|rfl|rfl<;>simp only[aaa]<;>omega
 .rw [EU, vY]
  unfold dwL;rw[KV];refine⟨fun v a=>?_,LH.imp_of_mem ?_⟩
  .have a := Og.1 a
   have:=aab h3 a;unfold dw3;rw[aaW a];simp only[aan,WA,Db,or_false,aaa];refine⟨fun q b=>?_,fun q b=>?_,fun q b=>?_,List.Pairwise.nil⟩
   .rcases b with rfl|rfl<;>simp only[ne_eq,yM]<;>omega
   .subst b;simp only[ne_eq,yM];omega
   .cases b
  .intro v w a hw f p c q b e
   have a:=Og.1 a;have hw:=Og.1 hw;have j:=aab h3 a;have l:=aab h3 hw;rw[aak a]at c;rw[aak hw]at b;have s1:sw k v=w->sw k w=v->False:=fun g i=>by unfold sw at*;split at g<;>split at i<;>omega
   rcases c with rfl|rfl|rfl<;>rcases b with rfl|rfl|rfl<;>simp only[aaa,yM]at e<;>first|omega|exact s1 NH NH
def aaC (h3:3<=k) (x y:Nat):Jp (dwL k k) x y↔y∈dwR k x:=by
 have key:∀x y:Nat,((x:Int),(y:Int))∈dwL k k↔x<k/\(y=sw k x\/y=k\/y=k+1):=fun x y=>by
  rw[aaw];simp only[yM,Int.natCast_inj];constructor
  .rintro⟨v,c,h⟩;rcases h with⟨rfl,rfl⟩|⟨rfl,rfl⟩|⟨rfl,rfl⟩<;>simp[c]
  .rintro⟨b,h⟩;exact⟨x,b,h.imp (fun h=>⟨rfl,h⟩) fun h=>h.imp (fun h=>⟨rfl,h⟩) fun h=>⟨rfl,h⟩⟩
 unfold Jp;rw[key,key];have sl:∀{v},v<k->_:=fun{v} h=>aab h3 (v:=v) h;unfold dwR;split
 .rename_i b
  have a:=sl b;simp only[WA,Db,or_false];constructor
  .rintro (⟨_, h⟩ | ⟨d, h⟩)
   .rcases h with h|h|h<;>simp[h]
   .rcases h with h | h | h
    .have:=sl d;rw[h];omega
    .omega
    .omega
  .rintro (h | h | h | h)
   .exact .inl ⟨b,.inl h⟩
   .exact .inl ⟨b,.inr (.inl h)⟩
   .exact .inr ⟨NH,.inl (by rw[h];omega)⟩
   .exact .inl ⟨b,.inr (.inr h)⟩
 .rename_i b
  split
  .rw[Og];omega
  .split
   .rw[wI,Og];omega
   .have : y < k -> sw k y < k := fun h => (sl h).1
    simp only[Db,iff_false];omega
def aaX (h3:3<=k):TwR (k+2) (fun x y=>y∈dwR k x):=by
 have b:∀v,v<k->k∈dwR k v/\k+1∈dwR k v:=fun v f=>by unfold dwR;rw[if_pos f];simp
 have g:∀v,v<k->v∈dwR k k/\v∈dwR k (k+1):=fun v f=>by
  unfold dwR;rw[if_neg NH,if_pos rfl,if_neg NH,if_neg NH,if_pos rfl];simp[f]
 have sy:∀x y,y∈dwR k x->x∈dwR k y:=fun x y h=>(aaA h3).sy _ _ h;have H:∀c,∃z,z≠c/\∀u,u<k+2->u≠c->Rc (fun x y=>y∈dwR k x) c u z:=fun c=>by
  have t:∃t,t<k/\t≠c:=by
   by_cases e:c=0
   .exact⟨1,NH,NH⟩
   .exact⟨0,NH,uV e⟩
  obtain⟨t,i,d⟩:=t;by_cases c1:c=k
  .refine ⟨k + 1, NH, fun u j a => ?_⟩
   by_cases e:u=k+1
   .rw[e];exact .refl
   .exact Rc.one (b u NH).2 a NH
  .refine ⟨k, uV c1, fun u j a => ?_⟩
   by_cases e:u=k
   .rw[e];exact .refl
   by_cases l:u=k+1
   .rw [l] at a ⊢
    exact(Rc.one (g t i).2 a d).trans (Rc.one (b t i).1 d (uV c1))
   .exact Rc.one (b u NH).1 a (uV c1)
 refine⟨NH,fun c u v m h2 n o=>?_⟩;obtain⟨z,p,h⟩:=H c;exact(h u m n).trans ((h v h2 o).symm sy)
def dw_twoG (h3:3<=k) (a:k<=198):zW (k+2) (sg (dwL k k)):=
 ((aaX h3).mono fun x y h=>(aaB _ _ _).2 ((aaC h3 x y).2 h)).twoG (aaG h3 a).right.GD
def dw_pl (h3:3<=k) (a:k<=198):XU (k+2) (eN (k+2) (sg (dwL k k))):=
 (XU.congr fun v w=>by rw[vD (aaG h3 a).right.GD,aaB,aaC h3]).2 (aaI h3)
def aaH (h3:3<=k) (b:k<198):YG ((k+2:Nat):Int) (dwL k k++[((k:Int),((k+1:Nat):Int))]):=by
 have o:=aaG h3 (Nat.le_of_lt b);have nn:aaa ((k:Int),((k+1:Nat):Int))=((k:Int),((k+1:Nat):Int)):=by simp only[aaa,yM];omega
 refine⟨NH,NH,by rw[jf,aaj];simp;omega,fun p a=>?_,?_⟩
 .rw [Sb, j9] at a
  rcases a with a|rfl
  .exact o.ok p a
  .rw[nn];simp only;omega
 .rw [Yi, QD, List.map_nil, nn]
  refine Z6.2 ⟨o.nd,Ma,fun p a q c e=>?_⟩;rw[j9]at c;subst c e;obtain⟨q,c,h⟩:=Eh.1 a;obtain⟨v,d,h'⟩:=aaw.1 c;have:=aab h3 d;rcases h' with rfl|rfl|rfl<;>simp only[aaa,yM]at h<;>omega
def dw_twoM (h3:3<=k) (a:k<198):zW (k+2) (sg (dwL k k++[((k:Int),((k+1:Nat):Int))])):=
 ((aaX h3).mono fun x y h=>(aaB _ _ _).2 (((aaC h3 x y).2 h).imp (Hs _) (Hs _))).twoG (aaH h3 a).right.GD
end
end Go.Fw
namespace Go.Fw
section
attribute [local irreducible] Kp MQ lU rS KO KN KX KE VK Kl ZJ TC gU
attribute [local irreducible] Jz JL vq cQ
open Go.Proofs
variable {j:Nat}
def u8_rng {x:Int} (h:(Go.Lit.int .u8 x).wf=true):0<=x/\x<=255:=by
 have a:IntKind.u8.min=0:=by decide
 have b:IntKind.u8.max=255:=by decide
 simp only[Go.Lit.wf,a,b,Vn,decide_eq_true_eq]at h;exact h
def lg_a (h:j<=198) (h2:¬3*j=594):j<198:=NH
def lg_b {j l:Nat} (h:j<=198) (h2:l=3*j):l+1<=100000:=NH
def lg_c:3*(j+2)<3*j+1+6:=NH
theorem aaK (W0:LA) (x:Int) (h:AHeap) (hx:(Go.Lit.int .u8 x).wf=true):AC Tryz.prog W0 7 [.int .u8 x] h fun y h'=>y=.bool true:=by
 obtain⟨x0,x1⟩:=u8_rng hx;clear hx;obtain⟨y0,rfl⟩:=HV x0;clear x0;refine AC.vE ⟨Tryz.func7,rfl,WY⟩ Tryz.ntmps7 Tryz.results7 fun hwf=>?_;simp only[Br,Nat.reduceAdd];obtain⟨m,hm⟩:∃m,m=y0%196:=⟨_,rfl⟩;obtain⟨k,hk⟩:∃k,k=m+3:=⟨_,rfl⟩;have h3:3≤k:=NH;have h198:k≤198:=NH;have hrem:awrap .i64 (3+(awrap .i64 (y0:Int)).tmod 196)=(k:Int):=by
  rw[ie (y0:Int) NH NH,Int.tmod_eq_emod_of_nonneg NH,ie _ NH NH];omega
 have hc:aConvert Tryz.prog h 5 3 (.int .u8 (y0:Int))=some (.int .i64 (awrap .i64 (y0:Int)),h):=by simp only[aConvert,qS28,Ac]
 have c196:¬((196:Int)=0):=by decide
 simp only[HO,Nat.reduceLT,↓reduceIte,Nat.reduceEqDiff,reduceCtorEq,hc,c196,hrem];refine gU.intro (fun n fr hq=>∃(j:Nat) (lv:Value),n=k-j∧j≤k∧fr=mkF [(3,.int .i64 (k:Nat)),(4,lv),(15,.int .i64 (k:Nat)),(16,.int .i64 (j:Nat))]∧GP hq lv (dwL k j))
  k [(3,.int .i64 (k:Nat)),(4,.slice none 0 0),(15,.int .i64 (k:Nat)),(16,.int .i64 (0:Nat))] fD
  ⟨0,_,rfl,vZ _,rfl,GP.nil _⟩ ?_
 clear hc;rintro n fr hq hwq ⟨j,lv,rfl,hj,rfl,gl⟩;simp only[HO,Nat.reduceLT,↓reduceIte,Nat.reduceEqDiff,reduceCtorEq];refine Kl.intro (fun ht=>?_) (fun hf=>?_)
 ·have hlt : j < k := CC ht
  clear ht;have aw:=Tw j NH;have awk:awrap .i64 ((k:Int)+1)=((k+1:Nat):Int):=Tw k NH;have nz:¬((k:Int)=0):=NH;have tm:((j+1:Nat):Int).tmod (k:Int)=(((j+1)%k:Nat):Int):=by rw[show((j+1:Nat):Int)=(j:Int)+1 by omega,JG NH]
  obtain⟨h4,e4,l4,w4,o4⟩:=Tt hwq (Iu (dw3 k j))
  have px:PR h4 (.slice (some ⟨hq.next,0,none⟩) 3 3) (dw3 k j):=by
   have:=CS.own (k:=2) (off:=0) (n:=3) (cap:=3) o4 (by rw[Ta];simp[dw3]);exact this
  have mk:=mkP3 hq ((j:Int),(((j+1)%k:Nat):Int)) ((j:Int),(k:Int)) ((j:Int),((k+1:Nat):Int));rw[show Iu [((j:Int),(((j+1)%k:Nat):Int)),((j:Int),(k:Int)),((j:Int),((k+1:Nat):Int))]=Iu (dw3 k j)from rfl,e4]at mk;obtain⟨v',h5,e5,g5,w5,-,-⟩:=(gl.le l4).join w4 px (by rw[aaj];simp[dw3];omega);rw[←aaz]at g5;simp only[HO,Nat.reduceLT,↓reduceIte,Nat.reduceEqDiff,reduceCtorEq,aw,awk,nz,tm,xe,mk,e5];exact tn (k-(j+1)) [(3,.int .i64 (k:Nat)),(4,v'),(15,.int .i64 (k:Nat)),(16,.int .i64 (j+1:Nat))] NH fD ⟨j+1,v',rfl,hlt,rfl,g5⟩
 have hge:k≤j:=vp hf;obtain rfl:j=k:=NH;clear hge hf hj;have awk2:awrap .i64 ((j:Int)+2)=((j+2:Nat):Int):=by rw[ie _ NH NH];omega
 have hll:(dwL j j).length=3*j:=aaj j j;have o1:=aaG h3 h198;have r1:=o1.right;simp only[HO,Nat.reduceLT,↓reduceIte,Nat.reduceEqDiff,reduceCtorEq,awk2];refine TC.intro PJ ⟨Tryz.func29,rfl,WY⟩ (gZ W0 ((j+2:Nat):Int) lv _ hq gl.pr NH) ?_;rintro x h1 w1 ⟨l1,⟨hno,-⟩|⟨-,ev1,rfl,ge1,ae1⟩⟩
 ·exact absurd o1 hno
 obtain⟨h2,h3',e2,e3,l3,w3,oX,-⟩:=newGo w1 (n:=((j+2:Nat):Int)) ge1.pr;have ge3:=ge1.le l3
 generalize h1.next=X at*
 have lX:∀g,Le h3' g→aload Tryz.prog g 24 ⟨X,0,none⟩=some (.agg #[.int .i64 ((j+2:Nat):Int),ev1])∧aload Tryz.prog g 3 ⟨X,0,none⟩=some (.int .i64 ((j+2:Nat):Int))∧aload Tryz.prog g 22 ⟨X,1,none⟩=some ev1:=fun g l=>
  ⟨ldGo ge1.pr (l.own _ _ oX),Fq Ac rfl (l.own _ _ oX),Fq Uh rfl (l.own _ _ oX)⟩
 simp only[HO,Nat.reduceLT,↓reduceIte,Nat.reduceEqDiff,reduceCtorEq,e2,e3,(lX h3' (Le.refl _)).1];refine TC.intro PJ ⟨NQ,rfl,WY⟩ (Im W0 _ ⟨((j+2:Nat):Int),sg (dwL j j)⟩ h3' ⟨ev1,rfl,ge3.pr,GS.Ov ge3⟩) ?_;rintro x h4 w4 ⟨l4,rv,e,rfl,I⟩;simp only[Hw,yY]at I;rcases I with⟨q,-⟩|⟨-,q,-⟩|⟨-,-,-,q,-⟩|⟨-,-,rs,-,R,F,rfl,hrv⟩
 ·exact absurd r1 q
 ·exact absurd (dw_twoG h3 h198) q
 ·exact absurd (dw_pl h3 h198) q
 have aw0:awrap .i64 ((0:Int)+0)=0:=ie _ NH NH;have d00:decide ((0:Int)=0)=true:=by decide
 have ge4:=ge3.le l4;simp only[HO,Nat.reduceLT,↓reduceIte,Nat.reduceEqDiff,reduceCtorEq,bne,aw0,d00,(lX h4 l4).1];refine TC.intro PJ ⟨Tryz.func27,rfl,WY⟩ (VS W0 _ rv ⟨((j+2:Nat):Int),sg (dwL j j)⟩ rs h4 ⟨ev1,rfl,ge4.pr⟩ hrv) ?_;rintro x h5 w5 ⟨⟨bb,rfl,hbb⟩,l5⟩;have hb:bb=true:=hbb.2 (by rw[yY];exact⟨r1,R,(En r1.GD r1.q9 R).2 F⟩);subst hb;have L5:=lX h5 (l4.trans l5);have ll:∀g,aLen Tryz.prog g 22 ev1=some (.int .i64 ((3*j:Nat):Int)):=fun g=>by
  have:=ge1.pr.len g;rw[show(sg (dwL j j)).length=3*j by rw[ZS,im,hll]]at this;exact this
 have w1':awrap .i64 (3*((j+2:Nat):Int))=3*((j+2:Nat):Int):=ie _ NH NH;have w2':awrap .i64 (3*((j+2:Nat):Int)-6)=((3*j:Nat):Int):=by rw[ie _ NH NH];omega
 have dn:decide (((3*j:Nat):Int)=((3*j:Nat):Int))=true:=decide_eq_true rfl;have gl5:=(((gl.le l1).le l3).le l4).le l5;have lv5:=fun g=>gl5.pr.len g;rw[hll]at lv5;by_cases c594:3*j=594
 ·have d594 : decide (((3 * j : Nat) : Int) = 594) = true := decide_eq_true NH
  simp only[HO,Nat.reduceLT,↓reduceIte,Nat.reduceEqDiff,reduceCtorEq,bne,Ii,Di,Ip,XJ,L5.2.1,L5.2.2,ll,w1',w2',dn,lv5,d594];refine TC.intro PJ ⟨Tryz.func17,rfl,WY⟩ (jS W0 h5) ?_;rintro x h6 w6 ⟨rfl,l6⟩;simp only[HO,Nat.reduceLT,↓reduceIte,Nat.reduceEqDiff,reduceCtorEq]
 have d594:decide (((3*j:Nat):Int)=594)=false:=decide_eq_false NH;have awk1:awrap .i64 ((j:Int)+1)=((j+1:Nat):Int):=Tw j NH;obtain⟨v2,g1,g2,q1,q2,gm,v5,-,-,-⟩:=gl5.push w5 ((j:Int),((j+1:Nat):Int)) (lg_b h198 hll);have o2:=aaH h3 (lg_a h198 c594);have r2:=o2.right;have tM:=dw_twoM h3 (lg_a h198 c594);simp only[HO,Nat.reduceLT,↓reduceIte,Nat.reduceEqDiff,reduceCtorEq,bne,Ii,Di,Ip,XJ,L5.2.1,L5.2.2,ll,w1',w2',dn,lv5,d594,awk2,awk1,xe,q1,q2];have hlm:(dwL j j++[((j:Int),((j+1:Nat):Int))]).length=3*j+1:=by rw[jf,hll];rfl
 have no:¬XU (j+2) (eN (j+2) (sg (dwL j j++[((j:Int),((j+1:Nat):Int))]))):=aaF r2 tM (by rw[ZS,im,hlm];exact lg_c);refine TC.intro PJ ⟨Tryz.func29,rfl,WY⟩ (gZ W0 ((j+2:Nat):Int) v2 _ g2 gm.pr (by rw[hlm];exact lg_b h198 rfl)) ?_;rintro x h6 w6 ⟨l6,⟨hno,-⟩|⟨-,ev2,rfl,ge6,ae2⟩⟩
 ·exact absurd o2 hno
 obtain⟨h7,h8,e7,e8,l8,w8,oZ,-⟩:=newGo w6 (n:=((j+2:Nat):Int)) ge6.pr;have ge8:=ge6.le l8;have lZ:=ldGo ge6.pr oZ;simp only[HO,Nat.reduceLT,↓reduceIte,Nat.reduceEqDiff,reduceCtorEq,e7,e8,lZ];refine TC.intro PJ ⟨NQ,rfl,WY⟩ (Im W0 _ ⟨((j+2:Nat):Int),sg (dwL j j++[((j:Int),((j+1:Nat):Int))])⟩ h8 ⟨ev2,rfl,ge8.pr,GS.Ov ge8⟩) ?_;rintro x h9 w9 ⟨l9,rv2,e,rfl,I⟩;simp only[Hw,yY]at I;have d90:decide ((90:Int)=90)=true:=by decide
 rcases I with⟨q,-⟩|⟨-,q,-⟩|⟨-,-,-,-,rfl,-⟩|⟨-,-,rs2,-,R2,F2,-⟩
 ·exact absurd r2 q
 ·exact absurd tM q
 ·simp only [HO, Nat.reduceLT, ↓reduceIte, Nat.reduceEqDiff, reduceCtorEq, d00, d90]
  refine TC.intro PJ ⟨Tryz.func17,rfl,WY⟩ (jS W0 h9) ?_;rintro x h10 w10 ⟨rfl,l10⟩;simp only[HO,Nat.reduceLT,↓reduceIte,Nat.reduceEqDiff,reduceCtorEq]
 ·exact absurd (Vg r2.GD r2.q9 R2 F2) no
end
section
open Go.Proofs Go.ChangeShapes Go.WideShapes Go.RowKit Go.ChangeAt
open Go.Proofs.YtkccdnmaaelbiaaGreat
def aai (os:Os) (started:os.Started) (H:Type) (enc:TypeId×Value->H):
  ReturnsInHanded {} Tryz.checked os 7 .any (Rows.embedLargeSpec.pre6 enc Tryz.prog Tryz.f7 Rows.embedLargeRow.domain false) (Rows.embedLargeSpec.post enc Tryz.prog Tryz.f7 false true false false):=by
 have own:ownKnob Tryz.prog.godebug=Option.none:=Ji;have laidOut:laidOutB Tryz.prog=true:=Ji;refine returnsInHanded_of_change (C:=Tryz.checked) own started Ji Tryz.func7
  (ChangeSpec.witness6 (enc:=enc) (C:=Tryz.checked) false ⟨#[],#[.int .u8 0],[]⟩ 8 Ji Ji Ji Ji) ?_
 intro W base args ds gs before c i k _;have b:∀(j:Nat) t v,Tryz.f7.params[j]?=some t->args[j]?=some v->Value.okWide Tryz.prog W .any base t v:=c;have f:=i;obtain⟨p,q,g,n,rfl,o,r⟩:=i;have hA:DataW.TrodAll enc Tryz.prog W 0 (fun _=>true) true Tryz.f7.params.toList args.toList ds p:=g;rw[Tryz.params7]at hA b;obtain⟨l,w,y,z,A,B,a,rfl,rfl,m,hA⟩:=trodAll_cons hA;obtain⟨rfl,rfl,rfl⟩:=trodAll_nil hA;obtain rfl:args=#[l]:=by cases args;simp_all
 obtain⟨rfl,rfl⟩:=trodVars_none n;obtain⟨x0,rfl,rfl,rfl,h⟩:=open_int qS28 (b 0 5 l rfl rfl) m;refine(aaK (LA.of W) x0 (MR W) h [] (fun _=>⟨0,0,0⟩) W [.int .u8 x0] (Rel.start W _) ?_).mono ?_
 .exact .cons (.flat rfl) ((.nil _ _))
 .rintro e s ⟨x, x', D, h', rfl, R, -, -, u, rfl, -⟩
  obtain rfl:=u.YE;have hb:=R.below;have d:DataW.Trod enc Tryz.prog s W.heap.size (fun _=>false) false 4 (.bool true) (.lit (.bool true)) []:=⟨1,by simp[DataW.trod,Value.cells,AV]⟩;have a:=
   tcons (Below.trod laidOut Ji (of_decide_eq_true Ji) m hb Ma) (trodAll_mk0)
  try simp only[JR,Q9]at a
  exact⟨_,rfl,_,_,_,[],_,[],f,trodAll_mk1 d,a,rfl,hb.frame _,fun e=>by cases e⟩
def embedLarge_said:Rows.EmbedLargeSaid:=
 OpenClaim.holds_of_wide 7 Tryz.f7 rfl rfl rfl rfl rfl rfl rfl ⟨rfl,rfl,rfl,rfl,rfl⟩ rfl rfl rfl rfl rfl Ji Tryz.func7 Ji
  (of_decide_eq_true Ji) (by unfold Func.isWrapper;first|(rw[if_pos iw];kernel_rfl)|(rw[if_neg iw];exact⟨rfl,rfl⟩))
  (fun os started H enc _=>aai os started H enc)
end
end Go.Fw
