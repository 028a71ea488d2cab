/- A text. -/
import Derived.Test.YtigllaheamfhaaaGreatFwKD1
set_option linter.all false
set_option maxRecDepth 99999
set_option maxHeartbeats 9999999
open Go.Proofs
open Option renaming some→Z,none→Y
open Bool renaming true→tT,false→fF
open List renaming replicate→rP,range→rG
open Go.Value renaming slice→sL,pointer→pT
open Go renaming Value→vV
open Go.Proofs.Tryz renaming prog→pG
open Go.Proofs.Tryz
open List
namespace Go.Fw
section
attribute [local instance] Classical.propDecidable
attribute [local irreducible] Kp MQ lU KO1 KO KN KX KE VK Kl ZJ TC aab
variable {F:Cs} {h:aai} {i m:Nat} {w:II}
theorem RL.tail{v:vV}{x:RZ}{xs:AM}(r:RL (RL RP) h v (x::xs))(o:okc 1 v):
  ∃v',abf pG 45 v (Z (.int .i64 1)) Y Y=Z v'/\RL (RL RP) h v' xs/\okc 1 v':=by
 have⟨vs,rs,ln,rd⟩:=r;obtain⟨a,n,c,rfl,f⟩:=o;have⟨a',c',e,hs⟩:=rs.sl;injection e with p s e3;subst p s;have k:0<vs.length:=by rw[ln];simp
 obtain⟨a,rfl⟩:=abV.1 (hs k);have g:UA pG 47=1:=Ji;have rest:∀c',RL (RL RP) h (sL (Z (Ip a 1)) (vs.length-1) c') xs:=fun c'=>by have l:=rs.part (cap':=c') (lo:=1) (hi:=vs.length) k (qL0 _) rfl;rw[HV Ma]at l;refine⟨vs.drop 1,l,hGr,fun i y u m h2=>?_⟩;grind
 have b:(1:Int)<=(vs.length:Int):=NH;rcases f with⟨m,h2⟩|⟨rfl,-⟩
 .have d:¬UNK<=c:=Bc.2 h2;by_cases q:c=1
  .subst q;have e:vs.length=1:=NH;refine⟨sL (Z a) 0 0,?_,?_,⟨_,_,_,rfl,.inl ⟨qL0 _,WY⟩⟩⟩
   .simp[abf,qS6,Mb,g,abm,abL,d,e]
   .have:xs=[]:=ak3.1 hGr;rw[this];exact⟨[],⟨⟨_,_,rfl,Ma⟩,fun i x j=>by cases j⟩,rfl,fun i x u j=>by cases j⟩
  .refine⟨sL (Z (Ip a 1)) (vs.length-1) (c-1),?_,rest _,⟨_,_,_,rfl,.inl ⟨NH,NH⟩⟩⟩;simp[abf,qS6,Mb,g,abm,abL,d,m,q,b]
 .refine⟨sL (Z (Ip a 1)) (vs.length-1) (UNK+1),?_,rest _,⟨_,_,_,rfl,.inr ⟨rfl,rfl⟩⟩⟩;simp[abf,qS6,Mb,g,abm,abL,b]
def akR:Cs->Cs->Prop
 |[],_=>True
 |w::ws,F=>∃i,i<F.length/\w.headD 0∈F.getD i []/\Ni w∈F.getD i []/\akR ws (kY F i w)
theorem oneM_len{f w:II}(a:0<f.length)(h:f.length<=m)(hw:w.length<=20):(Ee f w).length<=m+20/\(kP f w).length<=m+20:=by grind[amo,jc,Ee,kP]
theorem aoc(hi:i<F.length)(a:w.headD 0∈F.getD i [])(c:∀x∈F,x.length<=m)(hw:w.length<=20):∀x∈kY F i w,x.length<=m+20:=by have b:0<(F.getD i []).length:=aho a;have hf:(F.getD i []).length<=m:=hGr;have:=oneM_len b hf hw;grind[kY]
def anF(c:abw)(ws:Cs):Prop:=∀(F:Cs)(m:Nat)(b a:vV)(h:aai),RL (RL RP) h b (F.map kz)->RL (RL RP) h a (ws.map kz)->okc 1 a->(∀w∈ws,2<=w.length/\w.length<=20)->(∀x∈F,x.length<=m)->m+20*ws.length<=1000->F.length+ws.length<=1000->
  AC pG c 47 [b,a] h fun x h'=>adP (akR ws F) x/\Le h h'
theorem Drawn_nil(a:abw):anF a []:=by
 intro F m c e h f hw _ _ _ _ _;refine AC.vF func47 ntmps47 results47 fun b=>?_;have lw:=fun g=>hw.qP5 g;have l0:((([]:Cs).map kz).length:Int)=0:=rfl;have d:decide (((([]:Cs).map kz).length:Int)=0)=tT:=by decide
 simp only[HO,seval,lw,d];exact⟨adP.t trivial,Le.refl _⟩
theorem aot(E:abw)(w:II)(ws:Cs)(ih:anF E ws):anF E (w::ws):=by
 intro F m fv wv h B hw hc G C O P;refine AC.vF func47 ntmps47 results47 fun ag=>?_;have lw:=fun g=>hw.qP5 g;have lf:=fun g=>B.qP5 g;rw[wI]at lf;have dw:decide ((((w::ws).map kz).length:Int)=0)=fF:=Sb (by simp;omega);have H:=hw.NS 0 Ma;simp only[Gg]at H;have⟨I,Q,c⟩:=hw.Wm 0 Ma;have R:((w::ws).map kz)[0]'(by simp)=kz w:=rfl
 rw[R]at c;have⟨h2,S⟩:=G w Ma;simp only[HO,seval,lw,dw,H,Q h (Le.refl _)];refine lIn (fun k fr J=>∃i:Nat,k=F.length-i/\i<=F.length/\fr=mkF [(0,fv),(1,wv),(5,I),(6,(i:Nat))]/\Le h J/\∀j,j<i->¬(w.headD 0∈F.getD j []/\Ni w∈F.getD j []/\akR ws (kY F j w))) ⟨0,rfl,Z6 _,rfl,Le.refl _,fun j u=>absurd u (y5 j)⟩ ?_;rintro k fr J wq ⟨i,rfl,hi,rfl,a,T⟩;refine Sk lf ?_;refine Kl.intro (fun ht=>?_) (fun hf=>?_)
 rotate_left
 .have U:F.length<=i:=vp hf;refine Uy ?_;exact⟨adP.f fun⟨j,h1,h2⟩=>T j (V9 h1 U) h2,a⟩
 have d:i<F.length:=acb ht;clear ht;have n:=B.NS i (by rw[wI];exact d);have⟨rv,o,V⟩:=B.Wm i (by rw[wI];exact d);have R:(F.map kz)[i]'(by grind)=kz (F.getD i []):=hGr
 rw[R]at V;have ai:(F.getD i []).length<=1000:=hGr;have s:=fun g=>c.TA g;rw[y6]at s;have K:=fun j (u:j<w.length)=>c.DH j (by rw[y6];exact u);have L:∀g,Le h g->∀j (u:j<w.length),aaC pG g 3 (aaq I j)=Z (.int .i64 ((w.getD j 0:Nat):Int)):=fun g l j u=>by rw[(c.le Nn.RP l).Uc j (by rw[y6];exact u),sY u,D4 u]
 have z:=K 0 NH;simp only[Gg]at z;have l0:∀g,Le h g->aaC pG g 3 (aaq I 0)=Z (.int .i64 ((w.headD 0:Nat):Int)):=fun g l=>by have:=L g l 0 NH;rwa[show w.getD 0 0=w.headD 0 by cases w<;>rfl]at this
 have a1:=K (w.length-1) NH;have l1:∀g,Le h g->aaC pG g 3 (aaq I (w.length-1))=Z (.int .i64 ((Ni w:Nat):Int)):=fun g l=>L g l (w.length-1) NH;have w1:aaY .i64 ((w.length:Int)-1)=((w.length-1:Nat):Int):=by grind[ie]
 have W:=aaa i NH;have dn:decide ((-1:Int)>=0)=fF:=by decide
 have next:¬(w.headD 0∈F.getD i []/\Ni w∈F.getD i []/\akR ws (kY F i w))->∀j,j<i+1->¬(w.headD 0∈F.getD j []/\Ni w∈F.getD j []/\akR ws (kY F j w)):=fun hn j u=>by grind
 refine Uy ?_;refine gh (fRn 0 7 (JQ 7 [3,6] (fRn 8 12 (JQ 20 [9,13,19] (fRn 21 6 (tA [28,29] (JQ 27 [23,24,25,26] (JQ 30 [23,27,29] (tA [31] .done))))))))) ?_;simp only[HO,seval,Qg,n,o J a,z,l0 J a];refine kGi ap6 (ahz E rv _ _ J (V.le Nn.RP a) (by rw[y6];omega)) ?_;rintro x h' aj ⟨hp,rfl⟩;by_cases c1:w.headD 0∈F.getD i []
 rotate_left
 .have:x=.int .i64 (-1):=by
   rcases hp with⟨-,q⟩|⟨j,-,q,-⟩
   .exact q
   .refine absurd (BS q) fun C=>c1 ?_;have⟨y,hy,e⟩:=aev.1 C;have:y=w.headD 0:=NH;grind
  subst this;simp only[HO,seval,Qg,n,o h' a,z,l0 h' a,dn,W]
  exact lgA NH ⟨i+1,rfl,d,rfl,a,next fun q=>c1 q.1⟩
 obtain⟨rfl,i1⟩:=ak9 c1 hp;have d1:decide (((Dn (F.getD i []) (w.headD 0):Nat):Int)>=0)=tT:=EL NH;simp only[HO,seval,Qg,n,o h' a,z,l0 h' a,d1,s,w1,a1,l1 h' a];refine kGi ap6 (ahz E rv _ _ h' (V.le Nn.RP a) (by rw[y6];omega)) ?_;rintro x p ae ⟨M,rfl⟩;by_cases c2:Ni w∈F.getD i []
 rotate_left
 .have:x=.int .i64 (-1):=by
   rcases M with⟨-,q⟩|⟨j,-,q,-⟩
   .exact q
   .refine absurd (BS q) fun C=>c2 ?_;have⟨y,hy,e⟩:=aev.1 C;have:y=Ni w:=NH;grind
  subst this;simp only[HO,seval,Qg,n,o p a,z,l0 p a,d1,s,w1,a1,l1 p a,dn,W]
  exact lgA NH ⟨i+1,rfl,d,rfl,a,next fun q=>c2 q.2.1⟩
 obtain⟨rfl,i2⟩:=ak9 c2 M;have d2:decide (((Dn (F.getD i []) (Ni w):Nat):Int)>=0)=tT:=EL NH;have X:RL (RL RP) p wv ((w::ws).map kz):=hw.le (Nn.RL Nn.RP) a;have⟨aa,N,rt,ot⟩:=RL.tail (x:=kz w) (xs:=ws.map kz) X hc;simp only[HO,seval,Qg,n,o p a,z,l0 p a,d1,s,w1,a1,l1 p a,d2,N];refine kGi func67 (laid_any E fv I F i w p (B.le (Nn.RL Nn.RP) a) (c.le Nn.RP a) d h2 c1 c2 NH NH (fun x hx=>by have:=C x hx;omega)) ?_;rintro nv h3 w3 ⟨gn,l3⟩;have A:=a.trans l3;simp only[HO,seval,Qg,n,o h3 A,z,l0 h3 A,d1,s,w1,a1,l1 h3 A,d2,N];refine kGi func47 (ih (kY F i w) (m+20) nv aa h3 gn (rt.le (Nn.RL Nn.RP) l3) ot (fun v B=>G v (by simp[B])) (aoc d c1 C S) (by simp at O;omega) (by rw[Yz];simp at P;omega)) ?_;rintro bv D w4 ⟨⟨b,rfl,hb⟩,l4⟩;have r:=A.trans l4;cases b with
 |true=>simp only[HO,seval,Qg,n,o D r,z,l0 D r,d1,s,w1,a1,l1 D r,d2,N];exact⟨adP.t ⟨i,d,c1,c2,hb.1 rfl⟩,r⟩
 |false=>
  simp only[HO,seval,Qg,n,o D r,z,l0 D r,d1,s,w1,a1,l1 D r,d2,N,W]
  exact lgA NH ⟨i+1,rfl,d,rfl,r,next fun q=>by cases hb.2 q.2.2⟩
theorem Drawn_any(a:abw)(ws:Cs):anF a ws:=by
 induction ws<;>grind[Drawn_nil,aot]
def pathOf(w:Way):II:=aaF w.1 w.2.1 w.2.2
theorem amG{F:Cs}{i:Nat}(hi:i<F.length)(w:II):(Ee (F.getD i []) w::kP (F.getD i []) w::F.erase (F.getD i [])).Perm (kY F i w):=by grind[kY]
def am7(E:Nat->II)(H:Nat->Nat->Prop)(F:Cs):Prop:=∀f∈F,f.Nodup/\∀x∈f,∃w∈E x,H x w
section
variable{n:Nat}{E:Nat->II}(hE:V7 n E){H:Nat->Nat->Prop}{F:Cs}{a b:Nat}{inn:II}
include hE
theorem aod(V:am7 E H F)(W:Ka E H a inn b){f A B:II}(hf:f∈F)(cy:Cyc f ((a::A)++(b::B))):
  ((half a A b inn).Nodup/\∀x∈half a A b inn,∃w∈E x,H x w\/Ay a inn b x w)/\((Go.Fw.half b B a inn.reverse).Nodup/\∀x∈Go.Fw.half b B a inn.reverse,∃w∈E x,H x w\/Ay a inn b x w):=by
 have⟨m,s⟩:=V f hf;have g:=(cy.perm.nodup_iff).1 m;have hw:=W.nd;rw[aaF,VU,j9]at hw;obtain⟨-,o,-,-⟩:=hw;have mem:∀x,x∈f↔x=a\/x∈A\/x=b\/x∈B:=fun x=>by rw[cy.perm.mem_iff];grind
 have off:∀x∈inn,x∉f:=fun x c p=>by grind[Ka.off]
 have d:∀x∈inn,∃w∈E x,H x w\/Ay a inn b x w:=fun x c=>by
  obtain⟨i,hi,rfl⟩:=Yi.1 c;have k:(aaF a inn b)[i+1]?=Z inn[i]:=by show(inn++[b])[i]?=_;grind
  have q:i<(aaF a inn b).length:=hGr;have l:=CA q;have r:=(W.UQ i _ _ l k).1;exact⟨_,hE.sy _ _ r,.inr (.inr ⟨i,l,k⟩)⟩
 have qi:∀x∈f,∃w∈E x,H x w\/Ay a inn b x w:=fun x c=>by grind
 have j:(a::(A++b::inn.reverse)).Nodup/\(b::(B++a::inn)).Nodup:=by have e:=off;simp only[mem]at e;have t:inn.reverse.Nodup:=(ags inn).nodup_iff.2 o;simp only[WS,VU,j9,aax,Og,Yq]at g ⊢;grind
 refine⟨⟨j.1,fun x c=>?_⟩,⟨by grind[half],fun x c=>?_⟩⟩
 .rw[am0]at c;rcases c with h|h|h|h
  .exact qi x ((mem x).2 (.inl h))
  .exact qi x ((mem x).2 (.inr (.inl h)))
  .exact qi x ((mem x).2 (.inr (.inr (.inl h))))
  .exact d x h
 .rw[am0,Yq]at c;rcases c with h|h|h|h
  .exact qi x ((mem x).2 (.inr (.inr (.inl h))))
  .exact qi x ((mem x).2 (.inr (.inr (.inr h))))
  .exact qi x ((mem x).2 (.inl h))
  .exact d x h
theorem amH(V:am7 E H F)(W:Ka E H a inn b){i:Nat}(hi:i<F.length)(ha:a∈F.getD i [])(hb:b∈F.getD i []):
  ∃A B,Cyc (F.getD i []) ((a::A)++(b::B))/\(half a A b inn::Go.Fw.half b B a inn.reverse::F.erase (F.getD i [])).Perm (kY F i (aaF a inn b))/\am7 E (fun x y=>H x y\/Ay a inn b x y) (kY F i (aaF a inn b)):=by
 have hf:F.getD i []∈F:=hGr;have⟨A,B,cy⟩:=aoR ha hb W.ab;have e:=(V _ hf).1;have⟨g,h⟩:=Gf (inn:=inn) e cy;have c:=amG hi (aaF a inn b);rw[g,h]at c;refine⟨A,B,cy,c,fun f d=>?_⟩;have h2:=aod hE V W hf cy;rcases Og.1 (c.mem_iff.2 d)with rfl|q
 .exact h2.1
 rcases Og.1 q with rfl|q
 .exact h2.2
 have⟨k1,k2⟩:=V f (mem_of_mem_erase q);grind
theorem drawn_eq:∀{ws:List Way}{H:Nat->Nat->Prop},aid E H ws->∀{F G:Cs},am7 E H G->F.Perm G->(akR (ws.map pathOf) G↔alY F ws):=fun W=>by
 induction W with
 |nil _=>intro F G _ _;exact⟨fun _=>.nil,fun _=>trivial⟩
 |@cons H a b inn ws W _ j=>
  intro F G V d;have⟨t,k,l⟩:=Oy a b inn;show(∃i,i<G.length/\(aaF a inn b).headD 0∈G.getD i []/\Ni (aaF a inn b)∈G.getD i []/\akR (ws.map pathOf) (kY G i (aaF a inn b)))↔_;rw[k,l];constructor
  .rintro⟨i,hi,m,h2,h3⟩;have⟨A,B,cy,pm,g⟩:=amH hE V W hi m h2;have hf:G.getD i []∈G:=hGr;refine .cons (d.mem_iff.2 hf) cy ?_ ((j g (.refl _)).1 h3);grind
  .intro D;cases D with
   |@cons _ u f A B _ _ _ _ hf cy pm D=>
    have⟨i,hi,e⟩:=Yi.1 (d.mem_iff.1 hf);have h:G.getD i []=f:=hGr;have ha:a∈G.getD i []:=by rw[h,cy.perm.mem_iff];simp
    have hb:b∈G.getD i []:=by rw[h,cy.perm.mem_iff];simp
    refine⟨i,hi,ha,hb,?_⟩;have⟨v,w,o,p,g⟩:=amH hE V W hi ha hb;have q:=(V f (d.mem_iff.1 hf)).1;refine(j g ?_).2 D;have c:=amG hi (aaF a inn b);have⟨r,s⟩:=Gf (inn:=inn) q cy;rw[h,r,s]at c;exact(pm.symm.trans (((d.erase _).cons _).cons _)).trans c
end
variable {a b t v:Nat} {es:List Pr}
def Tw2(A:Nat->Nat->Prop):Prop:=∀c u v,(∃w,A u w)->(∃w,A v w)->u≠c->v≠c->Rc A c u v
theorem Tw2.upon{A B:Nat->Nat->Prop}(T:Tw2 A)(sy:∀x y,A x y->A y x)(ab:A a b)(ne:a≠b)(iso:∀w,¬A v w)(f:∃w,A t w)(t1:t≠a)(g:t≠b)(hB:∀x y,B x y↔upA A a b v x y):Tw2 B:=by
 have nv:∀{x y},A x y->x≠v/\y≠v:=hGr;have m:∀x y,B x y->B y x:=by grind[upA]
 have l:∀c,c≠v->a≠c->b≠c->Rc B c a b:=fun c d h2 h3=>(Rc.one (v:=v) ((hB _ _).2 (.inr hGr)) h2 (EH d)).trans (Rc.one ((hB _ _).2 (.inr hGr)) (EH d) h3);have other:Rc B v a b:=by
  have d:Rc B v a t:=by
   have:=T b a t ⟨_,ab⟩ f ne g;clear f t1 g
   induction this with
   |refl=>exact .refl
   |step _ q h i j=>exact j.trans ((Rc.one ((hB _ _).2 (.inl hGr)) (nv q).1 (nv q).2))
  have h2:Rc B v b t:=by
   have:=T a b t hGr f (EH ne) t1;clear f t1 g d
   induction this with
   |refl=>exact .refl
   |step _ q h i j=>exact j.trans ((Rc.one ((hB _ _).2 (.inl hGr)) (nv q).1 (nv q).2))
  grind[Rc.trans,Rc.symm]
 have n:∀c,a≠c->b≠c->Rc B c a b:=fun c d h2=>by grind
 have qi:∀c u w,(∃x,A u x)->(∃x,A w x)->u≠c->w≠c->Rc B c u w:=fun c u w d h2 h3 k=>by
  refine(T c u w d h2 h3 k).sub fun x y q h i=>?_;by_cases o:x=a/\y=b
  .grind
  by_cases p:x=b/\y=a
  .grind[Rc.symm]
  .exact Rc.one ((hB _ _).2 (.inl ⟨q,o,p⟩)) h i
 have new:∀c u,(∃w,B u w)->u≠c->∃t,(∃w,A t w)/\t≠c/\Rc B c u t:=fun c u ⟨w,hw⟩ h3=>by
  by_cases e:u=v
  .subst e;by_cases e:a=c
   .exact⟨b,hGr,hGr,Rc.one ((hB _ _).2 (.inr hGr)) h3 hGr⟩
   .exact⟨a,⟨_,ab⟩,e,Rc.one ((hB _ _).2 (.inr hGr)) h3 e⟩
  .refine⟨u,?_,h3,.refl⟩;rcases(hB _ _).1 hw with⟨q,-⟩|⟨q,-⟩|⟨-,rfl|rfl⟩
   all_goals grind
 intro c u w d h2 h3 k;have⟨t,t1,g,r⟩:=new c u d h3;have⟨s,s1,s2,z⟩:=new c w h2 k;grind[Rc.trans,Rc.symm]
theorem up_ex(d:bX ⟨((200:Nat):Int),es⟩)(h2:((Zh 200 es).getD v []).length=2)(ha:Jp es v a)(hb:Jp es v b)(ne:a≠b)(j:¬Jp es a b):
  ∃L,bX ⟨((200:Nat):Int),L⟩/\UpK L es a b v:=by
 have hR:=d.GD;have hA:=d.q9;have only:∀w,Jp es v w->w=a\/w=b:=by grind[ahQ]
 have nva:v≠a:=hGr;have nvb:v≠b:=by grind[Xa]
 have m:=(ha.lt hR);have n:=(hb.lt hR);have f:∀p∈es,lZ p=p:=fun p c=>by have:=hR p c;grind[lZ]
 have i:∀p,p∈es.filter (fun p=>!aO p (v:Int))↔p∈es/\p.1≠(v:Int)/\p.2≠(v:Int):=by grind[aO]
 have nd:es.Nodup:=hA.nodup;have OT:es.length=(es.filter fun p=>!aO p (v:Int)).length+2:=by
  have e:(es.filter fun p=>aO p (v:Int)).Perm [GW v a,GW v b]:=(aoC (nd.filter _) (by grind[afc])).2 fun p=>by
   rw[K4,Og,xD];constructor
   .rintro⟨c,o⟩;obtain⟨x,y,r,s,l,rfl⟩:=aiu hR c;have:v=x\/v=y:=by grind[ac0]
    grind[Jp.symm,so]
   grind[H4,ac0]
  have:=(qL173 (fun p=>aO p (v:Int)) es).length_eq;grind[List.Perm.length_eq,length_cons]
 have k:YG ((200:Nat):Int) (((a:Int),(b:Int))::es.filter fun p=>!aO p (v:Int)):=by
  have t:=d.len;refine⟨NH,NH,hGr,fun p c=>?_,?_⟩
  .rcases Og.1 c with rfl|c
   .simp only[lZ];omega
   .have c:=((i p).1 c).1;rw[f p c];have:=hR p c;omega
  .rw[QD,Qn (g:=id) hGr,alZ,VU];refine⟨fun h=>j ?_,nd.filter _⟩;have h:=((i _).1 h).1;simp only[lZ]at h;rcases qL246 a b with q|q
   .left;grind
   .right;grind
 have ad:∀x y:Nat,Jp (sg (((a:Int),(b:Int))::es.filter fun p=>!aO p (v:Int))) x y↔(x=a/\y=b)\/(x=b/\y=a)\/(Jp es x y/\x≠v/\y≠v):=fun x y=>by rw[ai8];unfold Jp;simp only[Og,i,jf];grind
 refine⟨_,k.right,k.right.GD,hR,k.right.q9,hA,hGr,fun w h=>?_,fun x y=>?_,?_⟩
 .grind
 all_goals grind[upA,Jp.symm,ZS]
end
end Go.Fw
namespace Go.Fw
attribute [local instance] Classical.propDecidable
def aj6:II->xLP
 |[]=>[]
 |x::l=>l.map (fun y=>GW x y)++aj6 l
theorem ahj:∀{l:II},l.Nodup->∀{p:Pr},p∈aj6 l↔∃x y,x∈l/\y∈l/\x≠y/\p=GW x y
 |[],_,p=>by simp[aj6]
 |a::l,nd,p=>by have⟨b,h2⟩:=VU.1 nd;rw[aj6,aax,aev,ahj h2];grind[so]
theorem alI:∀{l:II},l.Nodup->(aj6 l).Nodup
 |[],_=>by simp[aj6]
 |a::l,nd=>by
  have⟨b,h2⟩:=VU.1 nd;rw[aj6,j9];refine⟨?_,alI h2,fun p c q d e=>?_⟩
  all_goals grind[ahj,afc]
def aln(A B:II):xLP:=A.flatMap fun a=>B.map fun b=>GW a b
theorem aiG{A B:II}{p:Pr}:p∈aln A B↔∃a b,a∈A/\b∈B/\p=GW a b:=by grind[aln]
theorem crs_nd{A B:II}(nd:(A++B).Nodup):(aln A B).Nodup:=by grind[aln,List.Pairwise.imp_of_mem,afc]
theorem amu(A B:II):(aln A B).length=A.length*B.length:=by
 unfold aln
 induction A<;>grind
structure akY (es:xLP) (E:Nat) (ks:xLP):Prop where
 e3:3<=E
 e4:E<=4
 deg:∀c∈aad (Zh 200 es),((Zh 200 es).getD c []).length=E
 two:∀v w,Jp es v w->v∉aad (Zh 200 es)->((Zh 200 es).getD v []).length=2
 all:aaU (Zh 200 es) (aad (Zh 200 es))=2*es.length
 nd:ks.Nodup
 len:(aaj (Zh 200 es) (aad (Zh 200 es))).length=2*ks.length
 n9:9<=ks.length
 w2:∀k∈ks,aaI (Zh 200 es) (aad (Zh 200 es)) k=2
 ends:∀k∈ks,∃a b,a∈aad (Zh 200 es)/\b∈aad (Zh 200 es)/\a≠b/\k=GW a b
def ShapeK(cs:II)(ks:xLP):Prop:=(cs.length=5/\ks=aj6 cs)\/∃A B,(A++B).Perm cs/\A.length=3/\B.length=3/\ks=aln A B
theorem ahk{es:xLP}(hr:bX ⟨((200:Nat):Int),es⟩)(f:aaN es≠0):∃E ks,akY es E ks/\ShapeK (aad (Zh 200 es)) ks:=by
 rw[agP]at f;by_cases hb:(Zh 200 es).any aaW=tT
 .grind
 rw[abE hb]at f;have two:∀v w,Jp es v w->v∉aad (Zh 200 es)->((Zh 200 es).getD v []).length=2:=fun v w h p=>by
  have C:=(h.lt hr.GD).1;have D:v<(Zh 200 es).length:=by grind[Xq]
  have n0:((Zh 200 es).getD v []).length≠0:=by rw[<-agb];have:=(acu hr.GD).2 h;grind
  have r:aaW ((Zh 200 es).getD v [])=fF:=hGr;have g:¬aaA (Zh 200 es) v=tT:=fun q=>p (K4.2 hGr);grind[aaW,aaA]
 have g:(aad (Zh 200 es)).Nodup:=uV.filter _;have o:∀E,aa8 (Zh 200 es) (aad (Zh 200 es)) es.length E≠0->(∀c∈aad (Zh 200 es),((Zh 200 es).getD c []).length=E)/\aaU (Zh 200 es) (aad (Zh 200 es))=2*es.length/\(E=4->abh (aaI (Zh 200 es) (aad (Zh 200 es))) (aad (Zh 200 es)) (aad (Zh 200 es))=tT)/\(E≠4->aa1 (aaI (Zh 200 es) (aad (Zh 200 es))) (aad (Zh 200 es))=tT):=fun E h=>by grind[aa8]
 by_cases i:(aad (Zh 200 es)).length=5
 .rw[abe i]at f;obtain⟨j,h2,h3,-⟩:=o 4 f;have h3:=h3 rfl;have l:(aj6 (aad (Zh 200 es))).length=10:=by
   match aad (Zh 200 es),i with
   |[a,b,c,d,e],_=>rfl
  refine⟨4,aj6 (aad (Zh 200 es)),⟨NH,NH,j,two,h2,alI g,by rw[abp j,i,l],NH,fun k f=>?_,fun k f=>?_⟩,.inl ⟨i,rfl⟩⟩
  .obtain⟨x,y,s,t,ne,rfl⟩:=(ahj g).1 f;have:=fj.1 (fj.1 h3 x s) y t;rw[Dj]at this;rcases this with q|q
   .grind
   .exact ag1 q
  grind[ahj]
 .rw[abE i]at f;by_cases m:(aad (Zh 200 es)).length=6
  rotate_left
  .grind
  rw[abe m]at f;obtain⟨j,h2,-,h3⟩:=o 3 f;have h3:=h3 WY;have u:=abp j;rw[m]at u;have⟨A,B,T⟩:=(aht (L:=(aaj (Zh 200 es) (aad (Zh 200 es))).map (aaH (Zh 200 es))) g m (ajr _) hGr).1 h3;have⟨t1,F,G,z⟩:=T;have n:=(t1.nodup_iff).2 g;refine⟨3,aln A B,⟨NH,NH,j,two,h2,crs_nd n,by grind[amu],by grind[amu],fun k f=>?_,fun k f=>?_⟩,.inr hGr⟩
  .obtain⟨a,b,ha,hb,rfl⟩:=aiG.1 f;exact z a ha b hb
  grind[aiG]
section
variable{es:List Pr}(hr:bX ⟨((200:Nat):Int),es⟩){E:Nat}{ks:List Pr}(K:akY es E ks)
include hr K
omit hr in
theorem akY.zero{p:Pr}(b:p∉ks):aaI (Zh 200 es) (aad (Zh 200 es)) p=0:=by
 have:=ahO (VU.2 ⟨b,K.nd⟩) ((aaj (Zh 200 es) (aad (Zh 200 es))).map (aaH (Zh 200 es)));rw[QD,alw,wI,K.len]at this;have s:∀l:xLP,(∀k∈l,k∈ks)->(l.map fun k=>((aaj (Zh 200 es) (aad (Zh 200 es))).map (aaH (Zh 200 es))).count k).sum=2*l.length:=by
  intro l
  induction l with
  |nil=>intro _;rfl
  |cons a l c=>intro h;have e:((aaj (Zh 200 es) (aad (Zh 200 es))).map (aaH (Zh 200 es))).count a=2:=K.w2 a (h a Ma);grind
 grind[aaI]
omit hr K in
theorem agS:∀c∈aad (Zh 200 es),c<200/\((Zh 200 es).getD c []).length≠2:=fun c h=>agY h
omit K in
theorem ahx{c w:Nat}(h:c∈aad (Zh 200 es))(a:Jp es c w):(c,w)∈aaj (Zh 200 es) (aad (Zh 200 es)):=by rw[afR,uu];grind[acu,bX.GD]
omit hr K in
theorem cnt_in{l:List (Nat×Nat)}{p:Pr}(nd:l.Nodup)(h:∀d∈l,d∈aaj (Zh 200 es) (aad (Zh 200 es))/\aaH (Zh 200 es) d=p):l.length<=aaI (Zh 200 es) (aad (Zh 200 es)) p:=by unfold aaI;rw[List.count,qL224,qL159];exact acK nd hGr
omit hr in
theorem akY.in1{d:Nat×Nat}(h:d∈aaj (Zh 200 es) (aad (Zh 200 es))):aaH (Zh 200 es) d∈ks:=by refine ZT fun q=>?_;have:=cnt_in (l:=[d]) Ma (p:=aaH (Zh 200 es) d) (fun x a=>by rw[xD.1 a];exact⟨h,rfl⟩);grind[akY.zero]
omit K in
theorem ah5{c w:Nat}(h:c∈aad (Zh 200 es))(a:Jp es c w){M:Nat}{e:Nat×Nat}(r:agC 200 es (c,w) M e)(b:e.2∈aad (Zh 200 es)):aaH (Zh 200 es) (c,w)=GW c e.2:=by rw[ahP,aph hr.GD hr.q9 (qL0 _) a (agY h).2 r (agY b).2]
theorem akY.apart{v a b:Nat}(h2:((Zh 200 es).getD v []).length=2)(c:a∈aad (Zh 200 es))(ha:Jp es v a)(hb:Jp es v b)(ne:a≠b):¬Jp es a b:=fun ab=>by
 have hR:=hr.GD;have hA:=hr.q9;have nva:v≠a:=by grind[Xa]
 have nvb:v≠b:=by grind[Xa]
 have r1:agC 200 es (a,v) 1 (v,b):=by grind[agC.one,ahc]
 by_cases cb:b∈aad (Zh 200 es)
 .have r2:agC 200 es (b,v) 1 (v,a):=by grind[agC.one,ahc]
  have f:=ah5 hr c ha.symm r1 cb;have g:=ah5 hr cb hb.symm r2 c;have e3:=ah5 hr c ab (M:=0) ⟨rfl,hGr⟩ cb;have:=cnt_in (l:=[(a,v),(b,v),(a,b)]) (p:=GW a b) (by simp;omega) fun d hd=>by
   simp only[Og,ai4,or_false]at hd;rcases hd with rfl|rfl|rfl
   .exact⟨ahx hr c ha.symm,f⟩
   .grind[ahx,Jp.symm,so]
   .exact⟨ahx hr c ab,e3⟩
  simp only[Fu,alv]at this;by_cases q:GW a b∈ks
  all_goals grind[akY.w2,akY.zero]
 .have d2:=K.two b v hb.symm cb;have r2:agC 200 es (v,b) 1 (b,a):=by grind[agC.one,ahc,Jp.symm]
  have e:=ah5 hr c ha.symm (r1.trans r2) c;have:=K.in1 (ahx hr c ha.symm);grind[akY.ends,afc]
def akY.find{u:Nat}(h2:((Zh 200 es).getD u []).length=2):∃v a b,((Zh 200 es).getD v []).length=2/\a∈aad (Zh 200 es)/\Jp es v a/\Jp es v b/\a≠b:=by
 have hR:=hr.GD;have hA:=hr.q9;obtain⟨x,y,-,-,h3,j,-⟩:=abg hR hA h2;have m:=akU hR hA agS (uV.filter _) K.all h3;have⟨d,hd,m⟩:=uu.1 m;have⟨i,hi,m⟩:=aev.1 m;have hi:=j3.1 hi;have⟨k1,k2,e⟩:=agM hR agS hd;obtain⟨⟨-,r2⟩,-,-⟩:=agB hR hA agS hd;have f:0<(aal (Zh 200 es) d).2:=by
  rcases i with _|i
  .exact absurd h2 (by rw[show u=d.1 from(congrArg Prod.fst m).symm];exact k2)
  .omega
 have c:=r2 0 f;obtain⟨z,g,h,-⟩:=ahQ hR hA (y:=d.2) c k1.symm;exact⟨d.2,d.1,z,c,e,k1.symm,h,EH g⟩
theorem akY.base(no:∀v,((Zh 200 es).getD v []).length≠2)(x y:Nat):Jp es x y↔GW x y∈ks:=by
 have hR:=hr.GD;have a:∀{v w},Jp es v w->v∈aad (Zh 200 es):=fun{v w} h=>ZT fun q=>no v (K.two v w h q);constructor
 .intro h;have:=K.in1 (ahx hr (a h) h);rwa[ah5 hr (a h) h (M:=0) ⟨rfl,hGr⟩ (a h.symm)]at this
 .intro h;have w:=K.w2 _ h;unfold aaI at w;have:GW x y∈(aaj (Zh 200 es) (aad (Zh 200 es))).map (aaH (Zh 200 es)):=hGr;have⟨d,hd,e⟩:=aev.1 this;have⟨k1,k2,b⟩:=agM hR agS hd;have c:aaH (Zh 200 es) d=GW d.1 d.2:=ah5 hr b k1 (M:=0) ⟨rfl,hGr⟩ (a k1.symm);grind[afc,Jp.symm]
end
end Go.Fw
namespace Go.Fw
section
attribute [local instance] Classical.propDecidable
def ajN(n:Nat)(c:II):II:=c++(rG n).filter fun v=>!c.contains v
def ofC(n:Nat)(c:II)(i:Nat):Nat:=(ajN n c).getD i 0
def toC(n:Nat)(c:II)(v:Nat):Nat:=(ajN n c).idxOf v
section
variable{n:Nat}{c:II}(nd:c.Nodup)(lt:∀v∈c,v<n)
include nd lt
theorem ah8:(ajN n c).Perm (rG n):=by
 refine(aoC ?_ uV).2 fun v=>?_
 all_goals grind[ajN,nodup_range]
def ordC_nd:(ajN n c).Nodup:=(ah8 nd lt).nodup_iff.2 uV
theorem alo:(ajN n c).length=n:=by rw[(ah8 nd lt).length_eq,amP]
theorem aiH{i:Nat}(h:i<n):∃q:i<(ajN n c).length,ofC n c i=(ajN n c)[i]:=by
 have a:i<(ajN n c).length:=by grind[alo]
 exact⟨a,D4 a⟩
theorem ren_C:Ren n (toC n c) (ofC n c):=by
 have mem:∀v,v∈ajN n c↔v<n:=by grind[ah8]
 refine⟨fun v h=>?_,fun v h=>?_,fun v h=>?_,fun v h=>?_⟩
 .have:=qL160 ((mem v).2 h);rwa[alo nd lt]at this
 .obtain⟨q,e⟩:=aiH nd lt h;grind[getElem_mem]
 .obtain⟨q,e⟩:=aiH nd lt h;rw[e];exact qL214 (ordC_nd nd lt) v q
 grind[ofC,toC]
theorem ake{i:Nat}(h:i<n):ofC n c i∈c↔i<c.length:=by
 obtain⟨q,e⟩:∃q:i<(c++(rG n).filter fun v=>!c.contains v).length,ofC n c i=(c++(rG n).filter fun v=>!c.contains v)[i]'q:=aiH nd lt h
 grind
theorem ofC_inj{i j:Nat}(hi:i<n)(a:j<n)(e:ofC n c i=ofC n c j):i=j:=by have N:=ren_C nd lt;grind[Ren.pq]
theorem ofC_at{i:Nat}(hi:i<c.length)(a:i<n):ofC n c i=c[i]:=by
 obtain⟨q,e⟩:∃q:i<(c++(rG n).filter fun v=>!c.contains v).length,ofC n c i=(c++(rG n).filter fun v=>!c.contains v)[i]'q:=aiH nd lt a
 grind
end
theorem shape_no{es:xLP}(hR:InR 200 es){cs:II}(d:cs.Nodup)(lt:∀v∈cs,v<200){ks:xLP}(S:ShapeK cs ks)(j:∀x y,Jp es x y↔GW x y∈ks):Tw2 (Jp es)/\¬XU 200 (eN 200 es):=by
 rcases S with⟨m,rfl⟩|⟨A,B,p,k,lB,rfl⟩
 .have ad:∀x y,Jp es x y↔x∈cs/\y∈cs/\x≠y:=fun x y=>by grind[ahj,afc]
  refine⟨fun c u v ⟨w,g⟩ ⟨z,h⟩ a h2=>?_,fun P=>?_⟩
  .by_cases e:u=v
   .rw[e];exact .refl
   grind[Rc.one]
  .refine k5_no (n:=200) NH (P.ren (ren_C d lt) fun v w=>?_);rw[pZ];constructor
   .rintro⟨a,h2,h3⟩;refine⟨NH,NH,(vD hR).2 ((ad _ _).2 ⟨by grind[ake],(by grind[ake]),fun e=>h3 (ofC_inj d lt NH NH e).symm⟩)⟩
   grind[vD,ake]
 .have nd:=p.nodup_iff.2 d;have f:∀v∈A++B,v<200:=hGr;have o:=(j9.1 nd).2.2;have ad:∀x y,Jp es x y↔(x∈A/\y∈B)\/(x∈B/\y∈A):=fun x y=>by grind[aiG,afc]
  refine⟨fun c u v ⟨w,g⟩ ⟨z,h⟩ a h2=>?_,fun P=>?_⟩
  .have two:∀X:II,X.length=3->X.Nodup->∃b∈X,b≠c:=fun X l3 nX=>by
    match X,l3 with
    |[x,y,z],_=>
     by_cases q:x=c
     .exact⟨y,Ma,hGr⟩
     .exact⟨x,Ma,q⟩
   have nA:=(j9.1 nd).1;have nB:=(j9.1 nd).2.1;rcases(ad _ _).1 g with⟨a1,-⟩|⟨a1,-⟩<;>rcases(ad _ _).1 h with⟨l,-⟩|⟨l,-⟩
   .obtain⟨b,hb,nb⟩:=two B lB nB;exact(Rc.one hGr a nb).trans (by grind[Rc.one])
   .grind[Rc.one]
   .grind[Rc.one]
   .obtain⟨b,hb,nb⟩:=two A k nA;exact(Rc.one hGr a nb).trans (by grind[Rc.one])
  .have r:∀{i},i<200->(ofC 200 (A++B) i∈A↔i<3):=fun{i} hi=>by grind[ake,ofC_at]
   have s:∀{i},i<200->(ofC 200 (A++B) i∈B↔3<=i/\i<6):=fun{i} hi=>by grind[ake]
   refine k33_no (n:=200) NH (P.ren (ren_C nd f) fun v w=>?_);grind[agU,vD]
theorem kind_no:∀(m:Nat)(es:xLP),es.length=m->bX ⟨((200:Nat):Int),es⟩->aaN es≠0->Tw2 (Jp es)/\¬XU 200 (eN 200 es):=by
 intro m
 induction m with
 |zero=>
  intro es G d g;obtain⟨E,ks,K,-⟩:=ahk d g;have:=vis_le d.GD d.q9 agS (uV.filter _);have H:=K.n9;have I:=K.len;rw[<-aiA]at this;have:(aaj (Zh 200 es) (aad (Zh 200 es))).length<=(ahg (Zh 200 es) (aad (Zh 200 es))).length:=by
   unfold ahg;generalize aaj (Zh 200 es) (aad (Zh 200 es))=D
   induction D<;>grind
  omega
 |succ m r=>
  intro es J d g;have⟨E,ks,K,S⟩:=ahk d g;have hR:=d.GD;by_cases i:∃u,((Zh 200 es).getD u []).length=2
  rotate_left
  .exact shape_no hR (uV.filter _) (fun v h=>(agY h).1) S (by grind[akY.base])
  have⟨u,i⟩:=i;have⟨v,a,b,h2,M,ha,hb,ne⟩:=K.find d i;have⟨L,k,U⟩:=up_ex d h2 ha hb ne (by grind[akY.apart]);have f:aaN L≠0:=by grind[UpK.kind]
  have⟨T,P⟩:=r L (by grind[UpK.len]) k f;have⟨E',s,o,z⟩:=ahk k f;have e:∃t∈aad (Zh 200 L),t≠a/\t≠b:=by
   have l3:3<=(aad (Zh 200 L)).length:=by
    rcases z with⟨h,-⟩|⟨A,B,p,N,lB,-⟩
    all_goals grind[List.Perm.length_eq,List.length_append]
   refine ZT fun q=>?_;have:=acK (A:=aad (Zh 200 L)) (B:=[a,b]) (uV.filter _) fun x O=>by grind
   grind
  have⟨t,C,t1,F⟩:=e;have j:∃w,Jp L t w:=by
   have hd:=o.deg t C;have:=o.e3;rw[<-agb]at hd;rcases h:agX (Zh 200 L) t with _|⟨w,l⟩
   .grind
   .exact⟨w,(acu U.r1).1 (by rw[h];simp)⟩
  refine⟨T.upon (fun x y h=>h.symm) U.ab U.nab U.iso j t1 F U.up,fun Q=>P ?_⟩;have em:eN 200 L v=[]:=by
   rcases h:eN 200 L v with _|⟨w,l⟩
   .rfl
   .exact absurd ((vD U.r1).1 hGr) (U.iso w)
  exact(aj4.planar (n:=200) (a:=a) (b:=b) (m:=v) ⟨MG U.r1 U.a1,MG U.r2 U.a2,(vD U.r1).2 U.ab,em,(ha.lt hR).1,fun x y=>by rw[vD U.r1,vD U.r2,U.up];rfl⟩).1 Q
def bX.up200{n:Nat}{es:xLP}(h:bX ⟨(n:Int),es⟩):bX ⟨((200:Nat):Int),es⟩:=by have b:(n:Int)<=200:=h.n1;refine bX.of NH h.len (fun p a=>?_) h.q9;have:=h.GD p a;omega
end
section
attribute [local irreducible] Kp MQ lU KO1 KO KN KX KE VK Kl ZJ TC aab
structure ac1 (es:xLP) (s t:Nat) (c:II):Prop where
 ne:0<c.length
 hd:c[0]?=Z s
 lst:c[c.length-1]?=Z t
 ad:∀x y,Vj c x y->Jp es x y
theorem ac1.one(es:xLP)(s:Nat):ac1 es s s [s]:=⟨Ma,rfl,rfl,fun x y ⟨i,a,h2⟩=>by simp at h2⟩
theorem ac1.snoc{es:xLP}{s t w:Nat}{c:II}(h:ac1 es s t c)(ha:Jp es t w):ac1 es s w (c++[w]):=by
 refine⟨Ma,?_,Ma,fun x y ⟨i,a,h2⟩=>?_⟩
 .grind[ac1.ne,ac1.hd]
 .have b:=(Ny.1 h2).1;rw[Eh,vY]at b;rw[si NH]at a;by_cases c1:i+1<c.length
  .rw[si c1]at h2;exact h.ad x y ⟨i,a,h2⟩
  .have e:i=c.length-1:=NH;subst e;rw[h.lst]at a;grind
def aou(es:xLP)(s:Nat)(L:RZ)(u:Nat)(x:RZ):Prop:=∃c,x=kz c/\ac1 es s u c/\(c.length:Int)=L.getD u 0+1
section
variable{n:Nat}{es:List Pr}{s:Nat}{L:RZ}(hr:InR n es)(R:RA n es s L)(hc:∀p∈es,amY L p)
include hr R hc
omit hr R in
theorem aoe{u w:Nat}(ha:Jp es u w)(b:0<=L.getD u 0):0<=L.getD w 0/\L.getD w 0<=L.getD u 0+1:=by
 have a:afI L u w=fF:=by
  rcases ha with ha|ha
  .have:=(hc _ ha).1;grind
  .have:=(hc _ ha).2;grind
 grind[afI]
theorem far_min{t:Nat}{c:II}(h:ac1 es s t c):L.getD t 0+1<=(c.length:Int):=by
 have key:∀(i x:Nat),c[i]?=Z x->0<=L.getD x 0/\L.getD x 0<=(i:Int):=by
  intro i
  induction i with
  |zero=>intro x a;rw[h.hd]at a;grind[RA.s0]
  |succ i b=>intro x a;have e:=(Ny.1 a).1;have hi:=CA (show i<c.length by omega);have⟨d,f⟩:=b _ hi;have:=aoe hc (h.ad _ _ ⟨i,hi,a⟩) d;omega
 have:=(key _ t h.lst).2;grind[ac1.ne]
theorem far_pre{w:Nat}(hw:w<n){k:Int}(a:L.getD w 0=k)(c:1<=k):∃v,v<n/\Jp es v w/\L.getD v 0=k-1:=by
 have d:w<L.length:=hGr;have b:L[w]?=Z k:=hGr;rcases R.pre w k b NH with⟨-,q⟩|⟨v,y,ha,f,g,hle⟩
 .omega
 .have e:L.getD v 0=y:=hGr;have:=aoe hc ha.symm hGr;rw[e,a]at this;exact⟨v,(ha.lt hr).2,ha.symm,NH⟩
end
theorem Rlt_any(r:abw)(m bv:vV)(a b:RZ)(h:aai)(ha:RL RP h m a)(hb:RL RP h bv b)(w:a.length=b.length)(z:a.length<=100000):
  AC pG r 100 [m,bv] h fun x h'=>(∃c,x=.bool c)/\h'=h:=by
 refine AC.vF func100 ntmps100 results100 fun t=>?_;have u:=fun g=>ha.TA g;refine Uy ?_;refine lIn (fun k fr o=>∃i:Nat,k=a.length-i/\i<=a.length/\fr=mkF [(0,m),(1,bv),(5,i)]/\o=h) ⟨0,rfl,Z6 _,rfl,rfl⟩ ?_;rintro k fr o v ⟨i,rfl,hi,rfl,rfl⟩;refine Sk u ?_;refine Kl.intro (fun q=>?_) (fun hf=>?_)
 rotate_left
 .refine Uy ?_;grind
 have d:i<a.length:=acb q;clear q;have e:=ha.DH i d;have f:=ha.Uc i d;have j:=hb.DH i NH;have l:=hb.Uc i NH;generalize a[i]=x at*;generalize b[i]'(by omega)=y at*
 have aw:=aaa i NH;refine Uy ?_;refine gh (fRn 0 9 .done) ?_;by_cases c:x=y
 .have dc:decide (x=y)=tT:=EL c;simp only[HO,seval,Qg,e,f,j,l,bne,dc,aw];exact lgA (JS d) ⟨i+1,rfl,d,rfl,rfl⟩
 .have dc:decide (x=y)=fF:=Sb c;refine CO (bG e f j l @bne.eq_1.{0} dc) ?_
  refine gh (fRn 0 10 .done) ?_;refine CO (xU e f j l) ?_;grind
theorem afg.grow{r h h':aai}{W n c:Nat}{us:xLV}{xs:AM}(o:afg r h (sL (Z W) n c) us xs)(l:Le h h'):afg (h'.kill W) h' (sL (Z W) n c) us xs:=by have a:r.own W=Y:=o.ap W rfl;exact⟨o.g.le l,Le.Qz h' W,fun b hb=>by injection hb with hb;grind[aai.Dg],o.ln,fun i x u d h2=>(o.rd i x u d h2).le Nn.RP ((o.lr.trans l).aiY a)⟩
theorem afg.row{r h:aai}{v:vV}{us:xLV}{xs:AM}(o:afg r h v us xs){i:Nat}(hi:i<xs.length):∃u,us[i]?=Z u/\(∀g,Le h g->aaC pG g 47 (aaq v i)=Z u)/\RL RP h u xs[i]:=by
 have a:i<us.length:=by grind[afg.ln]
 have rs:RS h v us:=by have:=o.g.cs.rs;grind
 refine⟨us[i],CA a,fun g l=>?_,(o.rd i _ _ (CA hi) (CA a)).le Nn.RP o.lr⟩;rw[Bj Mb rfl];grind[Le.read,RS.get]
theorem afg.new{h h':aai}{W n:Nat}(a:h'.own W=Z (.cells (rP n (.slice Y 0 0))))(l:Le h h')(c:h.own W=Y)(h2:n<1000000000000):afg h h' (sL (Z W) n n) (rP n (.slice Y 0 0)) (rP n []):=by
 refine⟨?_,l,fun b hb=>by injection hb with hb;grind,Ma,fun i x u d h2=>?_⟩
 all_goals grind[GS.full,RL.nil]
structure ahB (n:Nat) (es:xLP) (s:Nat) (L:RZ) (D:Nat->Prop) (xs:AM):Prop where
 ln:xs.length=n
 ok:∀(u:Nat) x,xs[u]?=Z x->x=[]\/aou es s L u x
 dn:∀(u:Nat) x,D u->xs[u]?=Z x->aou es s L u x
theorem ahB.mono{n:Nat}{es:xLP}{s:Nat}{L:RZ}{D D':Nat->Prop}{xs:AM}(I:ahB n es s L D xs)(h:∀u,u<n->D' u->D u):ahB n es s L D' xs:=⟨I.ln,I.ok,fun u x hd a=>I.dn u x (h u (by grind[ahB.ln]) hd) a⟩
theorem ahB.set{n:Nat}{es:xLP}{s:Nat}{L:RZ}{D:Nat->Prop}{xs:AM}(I:ahB n es s L D xs){w:Nat}{x:RZ}(b:aou es s L w x):ahB n es s L (fun u=>D u\/u=w) (xs.set w x):=by
 refine⟨by grind[ahB.ln],fun u y a=>?_,fun u y hd a=>?_⟩
 all_goals grind[ahB.ok,ahB.dn]
theorem aou.ne{es:xLP}{s:Nat}{L:RZ}{u:Nat}{x:RZ}(h:aou es s L u x):(x.length:Int)=L.getD u 0+1/\0<x.length:=by obtain⟨c,rfl,a,h2⟩:=h;grind[y6,ac1.ne]
theorem ahB.keep{n:Nat}{es:xLP}{s:Nat}{L:RZ}{D:Nat->Prop}{xs:AM}(I:ahB n es s L D xs){w:Nat}{x:RZ}(a:xs[w]?=Z x)(b:x≠[]):ahB n es s L (fun u=>D u\/u=w) xs:=⟨I.ln,I.ok,fun u y hd c=>by grind[ahB.dn,ahB.ok]⟩
theorem anv (W0:abw) (v:Value) (n s t:Nat) (es:List Pr) (h:aai) (hg:GR h v ⟨(n:Int),es⟩) (hr:bX ⟨(n:Int),es⟩) (hs:s<n) (d:t<n):
  AC Tryz.prog W0 63 [v,.int .i64 (s:Int),.int .i64 (t:Int)] h fun x h'=>Le h h'/\((¬Pu es s t/\x=.tuple #[.slice none 0 0,.int .i64 60])\/(Pu es s t/\∃a c,x=.tuple #[a,.int .i64 0]/\RL RP h' a (kz c)/\Z2 h a/\ac1 es s t c/\c.length<=n/\∀c',ac1 es s t c'->c.length<=c'.length)):=by
 have T:=hg
 obtain⟨ev,rfl,hp⟩:=hg.open
 have cd:(n:Int)<=200:=hr.n1;have hR:=hr.GD;refine AC.vF Tryz.func63 Tryz.ntmps63 Tryz.results63 fun bH=>?_;obtain⟨h1,b1,j,cg,-,lA⟩:=r8 (n:=(n:Int)) bH hp
 generalize h.next=B at*
 have bI:=lA h1 (Le.refl _);have d0:decide ((0:Int)=0)=true:=by decide
 refine Sk (XC b1 bI.1) ?_;refine TC.intro PJ ⟨Tryz.func62,rfl,WY⟩ (ami W0 _ n s es h1 (T.le j) hr hs) ?_;rintro x h2 w2 ⟨rfl,l2⟩;refine Sk (XC d0 ((lA h2 l2).1)) ?_;refine TC.intro PJ ⟨Tryz.func62,rfl,WY⟩ (ami W0 _ n t es h2 (T.le (j.trans l2)) hr d) ?_;rintro x h3 w3 ⟨rfl,l3⟩;have ag:=l2.trans l3;refine Sk (Yb @bne.eq_1.{0} d0 ((lA h3 ag).1)) ?_
 refine TC.intro PJ ⟨Tryz.func43,rfl,WY⟩ (amZ W0 _ n s es h3 (T.le (j.trans ag)) hr hs) ?_;rintro x m w4 ⟨A,L,rfl,gd,hL,aC,l4,-,RR,aF⟩;have C:=ag.trans l4;have rd:=gd.rl;have ai:=fun(u:Nat) (D:u<n)=>rd.DH u (by rw[hL];exact D);have H:=fun(g:aai) (lg:Le m g) (u:Nat) (D:u<n)=>show aaC Tryz.prog g 3 (aaq A u)=some (.int .i64 (L.getD u 0)) by
  rw[(rd.le Nn.RP lg).Uc u (by rw[hL];exact D),D4]
 have U:∀u,u<n->L[u]?=some (L.getD u 0):=fun u D=>by grind
 have bN:∀u,u<n->-1<=L.getD u 0/\L.getD u 0<(n:Int):=fun u D=>by
  have h1:=(RR.bp u _ (U u D)).1;have h2:=RR.bd u _ (U u D);grind [ams]
 have aT:=ai t d;have bQ:=aC t _ (U t d);have cj:=bN t d;by_cases c0:L.getD t 0<0
 .have dc:decide (L.getD t 0<0)=true:=EL c0;have tc:(L.getD t 0<0)=True:=eq_true c0;refine Sk (xU aT (H m (Le.refl _) t d) dc tc) ?_;grind [Le.trans]
 have dc:decide (L.getD t 0<0)=false:=Sb c0;have tc:(L.getD t 0<0)=False:=eq_false c0;have mk:=Ye (P:=Tryz.prog) (t:=45) (z:=.slice none 0 0) m qS6 rfl rfl rfl rfl Ji Mb Ji n NH;obtain⟨h5,e5,l5,w5,o5⟩:=Tt w4 (List.replicate n (.slice none 0 0));rw[e5]at mk
 have nW:m.own m.next=none:=(Le.refl m).next w4 (qL0 _)
 have O5:=afg.new o5 l5 nW NH
 generalize m.next=W at*
 obtain⟨h6,e6,l6,w6,o6⟩:=Tt w5 [.int .i64 s];have bs:=DQ h5 (s:Int);rw[e6]at bs
 have aH:RL RP h6 (.slice (some ⟨h5.next,0,none⟩) 1 1) (kz [s]):=RL.Wh (RS.whole o6 rfl)
 have aJ:h5.next≠W:=fun e=>by have:=w5.lt o5;omega
 have O6:=O5.grow l6;obtain⟨h7,a7,s7,O7,w7⟩:=O6.store w6 (aH.anW (F:=W) fun hb=>by injection hb with hb;exact aJ hb) (i:=s) hGr;have aK:Le m h7:=((l5.trans l6).aiY nW).trans O7.lr;have aL:aou es s L s (kz [s]):=⟨[s],rfl,ac1.one es s,by grind [RA.s0]⟩;have I0:ahB n es s L (fun _=>False) (List.replicate n []):=⟨Ma,(fun u x hx=>by grind),fun u x hd _=>hd.elim⟩;have I7:=(I0.set aL).mono (D':=fun u=>0<=L.getD u 0/\L.getD u 0<1) fun u D ⟨q1,q2⟩=>by
  have hx:=U u D;rcases RR.pre u _ hx q1 with⟨q,-⟩|⟨w,y,-,-,q3,q4⟩
  all_goals grind
 have aN:=lA m C;simp only[HO,Nat.reduceLT,↓reduceIte,Nat.reduceEqDiff,reduceCtorEq,aT,H m (Le.refl _) t d,dc,tc,Ii,Ip,Gc,aN.2.1,mk,bs,a7,s7]
 have aP:∀u∈(List.replicate n (Value.slice none 0 0)).set s (.slice (some ⟨h5.next,0,none⟩) 1 1),Z2 h u:=fun u D=>by
  rcases PN D with q|q
  .rw[aiM q];intro b hb;cases hb
  .rw[q];intro b hb;simp only[blk,ag4]at hb;rw[<-hb]
   exact(j.trans (C.trans l5)).none ((Le.refl h5).next w5 (qL0 _))
 clear O6 O5 I0 aL aH bs o6 w6 l6 e6 o5 w5 l5 e5 mk a7 s7 aN;generalize aX:(Value.slice (some ⟨W,0,none⟩) n n)=a at*;have bW:blk a=some W:=by rw[<-aX];rfl
 have grow:∀{r h h':aai} {us:List Value} {xs:AM},afg r h a us xs->Le h h'->afg (h'.kill W) h' a us xs:=fun o l=>by grind [afg.grow]
 clear aX;have ck:∀{f:Nat},(f:Int)<=L.getD t 0+1->f<=n:=fun h=>by omega
 have a6:∀{w:Nat},w<n->∀{k:Int},L.getD w 0=k->1<=k->∃v,v<n/\Jp es v w/\L.getD v 0=k-1:=fun hw k h1 hk=>far_pre hR RR aF hw h1 hk;refine aab.intro (fun k fr hq=>∃(f:Nat) (us:List Value) (xs:AM) (r:aai),k=(L.getD t 0+1-f).toNat/\1<=f/\(f:Int)<=L.getD t 0+1/\fr=mkF [(2,.int .i64 (t:Int)),(3,.pointer (some ⟨B,0,none⟩)),(9,A),(11,a),(12,.int .i64 (f:Int))]/\afg r hq a us xs/\(∀u∈us,Z2 h u)/\Le m hq/\ahB n es s L (fun u=>0<=L.getD u 0/\L.getD u 0<(f:Int)) xs)
  (L.getD t 0).toNat [(2,.int .i64 (t:Int)),(3,.pointer (some ⟨B,0,none⟩)),(9,A),(11,a),(12,.int .i64 (1:Nat))] hAs
  ⟨1,_,_,_,NH,qL0 _,NH,rfl,O7,aP,aK,I7⟩ ?_
 clear O7 aP aK I7 w7 aJ;clear h7 h6 h5;rintro k fr hq bT ⟨f,us,xs,r,rfl,cm,cp,rfl,O,E,lq,I⟩;have aj:=H hq lq t d;by_cases cf:(f:Int)<=L.getD t 0
 rotate_left
 .have df:decide ((f:Int)<=L.getD t 0)=false:=Sb cf;have tf:((f:Int)<=L.getD t 0)=False:=eq_false cf;have al:t<xs.length:=by grind [ahB.ln]
  have bY:=O.rl.NS t al;obtain⟨u1,bZ,V,J⟩:=O.row al;obtain⟨c,e1,aq,b0⟩:=I.dn t _ ⟨NH,NH⟩ (CA al);rw[e1]at J;refine Sk (bG aT aj df tf bY (V hq (Le.refl _))) ?_;exact⟨(j.trans C).trans lq,.inr ⟨bQ.1 NH,u1,c,rfl,J,E u1 (BS bZ),aq,NH,fun c' b2=>by have:=far_min hR RR aF b2;omega⟩⟩
 have df:decide ((f:Int)<=L.getD t 0)=true:=EL cf;have tf:((f:Int)<=L.getD t 0)=True:=eq_true cf;have b3:=aaa f NH;have a8:aaY .i64 ((f:Int)-1)=(f:Int)-1:=ie _ NH NH;refine Sk (xU aT aj df tf) ?_;refine aab.intro (fun k fr hz=>∃(w:Nat) (us:List Value) (xs:AM) (r:aai),k=n-w/\w<=n/\fr=mkF [(2,.int .i64 (t:Int)),(3,.pointer (some ⟨B,0,none⟩)),(9,A),(11,a),(12,.int .i64 (f:Int)),(13,.int .i64 (w:Int))]/\afg r hz a us xs/\(∀u∈us,Z2 h u)/\Le m hz/\ahB n es s L (fun u=>(0<=L.getD u 0/\L.getD u 0<(f:Int))\/(L.getD u 0=(f:Int)/\u<w)) xs)
  n [(2,.int .i64 (t:Int)),(3,.pointer (some ⟨B,0,none⟩)),(9,A),(11,a),(12,.int .i64 (f:Int)),(13,.int .i64 (0:Nat))] hAs
  ⟨0,us,xs,r,rfl,Z6 _,rfl,O,E,lq,I.mono fun u _ q=>q.resolve_right fun q=>absurd q.2 (y5 _)⟩ ?_
 clear O E lq I bT aj;clear hq us xs r;rintro k fr hz b4 ⟨w,us,xs,r,rfl,hw,rfl,O,E,lz,I⟩;have ar:=lA hz (C.trans lz);by_cases cw:w<n
 rotate_left
 .have dw:decide ((w:Int)<(n:Int))=false:=Sb NH;have tw:((w:Int)<(n:Int))=False:=eq_false NH;simp only[HO,Nat.reduceLT,↓reduceIte,Nat.reduceEqDiff,reduceCtorEq,Ii,Ip,Gc,ar.2.1,dw,tw,b3];exact tn (L.getD t 0+1-(f+1:Nat)).toNat [(2,.int .i64 (t:Int)),(3,.pointer (some ⟨B,0,none⟩)),(9,A),(11,a),(12,.int .i64 (f+1:Nat))] NH hAs
   ⟨f+1,us,xs,r,rfl,NH,NH,rfl,O,E,lz,I.mono fun u D ⟨q1,q2⟩=>by grind⟩
 have dw:decide ((w:Int)<(n:Int))=true:=EL NH;have tw:((w:Int)<(n:Int))=True:=eq_true NH;have aW:=ai w cw;have ba:=aaa w NH;simp only[HO,Nat.reduceLT,↓reduceIte,Nat.reduceEqDiff,reduceCtorEq,Ii,Ip,Gc,ar.2.1,dw,tw];refine aab.intro (fun k fr hy=>∃(v:Nat) (us:List Value) (xs:AM) (r:aai),k=n-v/\v<=n/\fr=mkF [(2,.int .i64 (t:Int)),(3,.pointer (some ⟨B,0,none⟩)),(9,A),(11,a),(12,.int .i64 (f:Int)),(13,.int .i64 (w:Int)),(14,.int .i64 (v:Int))]/\afg r hy a us xs/\(∀u∈us,Z2 h u)/\Le m hy/\ahB n es s L (fun u=>(0<=L.getD u 0/\L.getD u 0<(f:Int))\/(L.getD u 0=(f:Int)/\u<w)) xs/\((∃v',v'<v/\L.getD v' 0=(f:Int)-1/\Jp es v' w)->∃x,xs[w]?=some x/\x≠[]))
  n [(2,.int .i64 (t:Int)),(3,.pointer (some ⟨B,0,none⟩)),(9,A),(11,a),(12,.int .i64 (f:Int)),(13,.int .i64 (w:Int)),(14,.int .i64 (0:Nat))] hAs
  ⟨0,us,xs,r,rfl,Z6 _,rfl,O,E,lz,I,fun⟨v',q,_⟩=>absurd q (y5 _)⟩ ?_
 clear O E lz I b4 ar;clear hz us xs r;rintro k fr hy cq ⟨v,us,xs,r,rfl,hv,rfl,O,E,ly,I,bb⟩;have K:=lA hy (C.trans ly);have lW:=H hy ly w cw;have M:w<xs.length:=by grind [ahB.ln]
 have fin:(L.getD w 0=(f:Int)->v=n)->ahB n es s L (fun u=>(0<=L.getD u 0/\L.getD u 0<(f:Int))\/(L.getD u 0=(f:Int)/\u<w+1)) xs:=fun cx=>by
  by_cases e:L.getD w 0=(f:Int)
  .obtain⟨v',q1,q2,q3⟩:=a6 cw e NH;obtain⟨x,hx,h0⟩:=bb ⟨v',hGr,q3,q2⟩;exact(I.keep hx h0).mono fun u _ q=>by
    rcases q with q|⟨q,q'⟩
    .grind
    grind
  .exact I.mono fun u _ q=>by
    rcases q with q|⟨q,q'⟩
    .exact .inl q
    grind
 by_cases cv:v<n
 rotate_left
 .have Q:decide ((v:Int)<(n:Int))=false:=Sb NH;have tv:((v:Int)<(n:Int))=False:=eq_false NH;refine Sk (rE @Ii @Ip.eq_1 @Gc K.2.1 Q tv ba) ?_;exact tn (n-(w+1)) [(2,.int .i64 (t:Int)),(3,.pointer (some ⟨B,0,none⟩)),(9,A),(11,a),(12,.int .i64 (f:Int)),(13,.int .i64 (w+1:Nat))] (JS cw) hAs
   ⟨w+1,us,xs,r,rfl,cw,rfl,O,E,ly,fin fun _=>by omega⟩
 have Q:decide ((v:Int)<(n:Int))=true:=EL NH;have tv:((v:Int)<(n:Int))=True:=eq_true NH;by_cases ce:L.getD w 0=(f:Int)
 rotate_left
 .have de:decide (L.getD w 0=(f:Int))=false:=Sb ce;refine Sk (Pj @Ii @Ip.eq_1 @Gc K.2.1 Q tv aW lW de ba) ?_;exact tn (n-(w+1)) [(2,.int .i64 (t:Int)),(3,.pointer (some ⟨B,0,none⟩)),(9,A),(11,a),(12,.int .i64 (f:Int)),(13,.int .i64 (w+1:Nat))] (JS cw) hAs
   ⟨w+1,us,xs,r,rfl,cw,rfl,O,E,ly,fin fun q=>absurd q ce⟩
 have de:decide (L.getD w 0=(f:Int))=true:=EL ce;have aV:=ai v cv;have lV:=H hy ly v cv;have S:=aaa v NH;have skip:¬(L.getD v 0=(f:Int)-1/\Jp es v w)->((∃v',v'<v+1/\L.getD v' 0=(f:Int)-1/\Jp es v' w)->∃x,xs[w]?=some x/\x≠[]):=fun hn ⟨v',q1,q2⟩=>by
  rcases Nat.lt_succ_iff_lt_or_eq.1 q1 with c|c
  .exact bb ⟨v',c,q2⟩
  grind
 by_cases cl:L.getD v 0=(f:Int)-1
 rotate_left
 .have dl:decide (L.getD v 0=(f:Int)-1)=false:=Sb cl;simp only[HO,Nat.reduceLT,↓reduceIte,Nat.reduceEqDiff,reduceCtorEq,Ii,Ip,Gc,K.2.1,Q,tv,aW,lW,de,aV,lV,a8,bne,dl,S];exact tn (n-(v+1)) [(2,.int .i64 (t:Int)),(3,.pointer (some ⟨B,0,none⟩)),(9,A),(11,a),(12,.int .i64 (f:Int)),(13,.int .i64 (w:Int)),(14,.int .i64 (v+1:Nat))] (JS cv) hAs
   ⟨v+1,us,xs,r,rfl,cv,rfl,O,E,ly,I,skip fun q=>cl q.1⟩
 have dl:decide (L.getD v 0=(f:Int)-1)=true:=EL cl;simp only[HO,Nat.reduceLT,↓reduceIte,Nat.reduceEqDiff,reduceCtorEq,Ii,Ip,Gc,K.2.1,K.1,Q,tv,aW,lW,de,aV,lV,a8,bne,dl];refine TC.intro PJ ⟨Tryz.func99,rfl,WY⟩ (RHas_any W0 _ n v w es hy (T.le (j.trans (C.trans ly))) hr) ?_;rintro x G w8 ⟨rfl,l8⟩;have av:=ly.trans l8;have O8:=grow O l8;by_cases ca:Jp es v w
 rotate_left
 .have da:decide (Jp es v w)=false:=Sb ca;refine Sk (XC da S) ?_;exact tn (n-(v+1)) [(2,.int .i64 (t:Int)),(3,.pointer (some ⟨B,0,none⟩)),(9,A),(11,a),(12,.int .i64 (f:Int)),(13,.int .i64 (w:Int)),(14,.int .i64 (v+1:Nat))] (JS cv) hAs
   ⟨v+1,us,xs,_,rfl,cv,rfl,O8,E,av,I,skip fun q=>ca q.2⟩
 have da:decide (Jp es v w)=true:=EL ca;have ay:v<xs.length:=by grind [ahB.ln]
 have bg:=O8.rl.NS v ay;obtain⟨u1,V,J⟩:=O8.rl.Wm v ay;obtain⟨c,ec,aq,b0⟩:=I.dn v _ (.inl ⟨NH,NH⟩) (CA ay);rw[ec]at J;have cz:c.length<=n:=hGr;obtain⟨hA,eA,X,wA,oA⟩:=Tt w8 []
 have bh:aas Tryz.prog G 47 0 []=some (.slice (some ⟨G.next,0,none⟩) 0 0,hA):=by rw[<-eA];rfl
 have nB:G.own G.next=none:=(Le.refl G).next w8 (qL0 _)
 have g0:GI hA (.slice (some ⟨G.next,0,none⟩) 0 0) []:=GS.full oA rfl WY
 have b5:Z2 G (.slice (some ⟨G.next,0,none⟩) 0 0):=fun b hb=>by
  simp only[blk,ag4]at hb;grind
 generalize G.next=N at*
 obtain⟨j1,hB,eB,gB,wB,fB,-⟩:=GI.join g0 wA (J.le Nn.RP X) (by simp[kz];omega);obtain⟨lB,aB⟩:=fB G X b5;obtain⟨j2,hC,hD,eC,eD,gD,wD,lC,fD,-⟩:=gB.push wB (w:Int) (by simp[kz];omega);obtain⟨lD,aD⟩:=fD G lB aB;have aa:aou es s L w (kz (c++[w])):=⟨c++[w],rfl,aq.snoc ca,by rw[Eh,vY];omega⟩;have b6:[]++kz c++[(w:Int)]=kz (c++[w]):=by simp[kz]
 rw[b6]at gD;have bk:=av.trans lD;have OD:=grow O8 lD;have b8:G.own W≠none:=by
  obtain⟨hl,⟨q,-⟩|⟨id,c',cap,q,ho,-⟩⟩:=O8.g
  .rw[q]at bW;cases bW
  .rw[q]at bW;injection bW with bW;grind
 have bj:blk j2≠some W:=fun hb=>b8 (aD W hb);have hj:=gD.rl.anW bj;have bm:=OD.rl.NS w M;obtain⟨u2,bo,br⟩:=OD.rl.Wm w M;have bx:=fun g=>br.TA g;obtain⟨hE,aE,sE,OE,wE⟩:=OD.store wD hj (i:=w) M;have nE:m.own W=none:=nW;have bz:Le m hE:=(bk.aiY nW).trans OE.lr;have bA:∀u∈us.set w j2,Z2 h u:=fun u D=>by
  rcases PN D with q|q
  .exact E u q
  .rw[q];intro b hb;exact(j.trans (C.trans av)).none (aD b hb)
 have IE:=(I.set aa).mono (D':=fun u=>(0<=L.getD u 0/\L.getD u 0<(f:Int))\/(L.getD u 0=(f:Int)/\u<w)) fun u _ q=>.inl q;have bB:((∃v',v'<v+1/\L.getD v' 0=(f:Int)-1/\Jp es v' w)->∃x,(xs.set w (kz (c++[w])))[w]?=some x/\x≠[]):=fun _=>⟨_,by rw[Tn,abe rfl,abe M],by simp[kz]⟩;have bF:=CA M;generalize xs[w]=x2 at*;by_cases b9:x2.length=0
 .have az:decide ((x2.length:Int)=0)=true:=EL NH;refine Sk (Da da bh bg (V hA X) eB eC eD bm (bo hD (Le.refl _)) bx az aE sE S) ?_;exact tn (n-(v+1)) [(2,.int .i64 (t:Int)),(3,.pointer (some ⟨B,0,none⟩)),(9,A),(11,a),(12,.int .i64 (f:Int)),(13,.int .i64 (w:Int)),(14,.int .i64 (v+1:Nat))] (JS cv) hAs
   ⟨v+1,_,_,_,rfl,cv,rfl,OE,bA,bz,IE,bB⟩
 have az:decide ((x2.length:Int)=0)=false:=Sb NH;have ae:x2≠[]:=fun e=>b9 (by rw[e];rfl);have aA:=(I.ok w x2 bF).resolve_left ae;refine Sk (rk da bh bg (V hA X) eB eC eD bm (bo hD (Le.refl _)) bx az) ?_;refine TC.intro PJ ⟨Tryz.func100,rfl,WY⟩ (Rlt_any W0 j2 u2 _ x2 hD gD.rl br (by have h1:=aA.ne.1;have h2:=aa.ne.1;omega) (by rw[y6,Eh,vY];omega)) ?_;rintro y h9 w9 ⟨⟨cc,rfl⟩,rfl⟩;cases cc with
 |true=>
  refine Sk (Yb aE sE S) ?_;exact tn (n-(v+1)) [(2,.int .i64 (t:Int)),(3,.pointer (some ⟨B,0,none⟩)),(9,A),(11,a),(12,.int .i64 (f:Int)),(13,.int .i64 (w:Int)),(14,.int .i64 (v+1:Nat))] (JS cv) hAs
   ⟨v+1,_,_,_,rfl,cv,rfl,OE,bA,bz,IE,bB⟩
 |false=>
  refine Sk S ?_;exact tn (n-(v+1)) [(2,.int .i64 (t:Int)),(3,.pointer (some ⟨B,0,none⟩)),(9,A),(11,a),(12,.int .i64 (f:Int)),(13,.int .i64 (w:Int)),(14,.int .i64 (v+1:Nat))] (JS cv) hAs
   ⟨v+1,_,_,_,rfl,cv,rfl,OD,E,bk,I,fun _=>⟨x2,bF,ae⟩⟩
variable {D:Nat->Nat->Prop} {bo:Option II} {es ls:List Pr} {i k n s t:Nat} {th:II}
theorem ac1.bp{c:II}(h:ac1 es s t c):Pu es s t:=by
 have key:∀(i x:Nat),c[i]?=Z x->Pu es s x:=by
  intro i
  induction i with
  |zero=>intro x a;rw[h.hd]at a;grind[Pu.refl]
  |succ i b=>intro x a;have d:=(Ny.1 a).1;have hi:=CA (show i<c.length by omega);exact tM (b _ hi) (h.ad _ _ ⟨i,hi,a⟩)
 exact key _ t h.lst
def agT(n:Nat)(ls:xLP)(th:II)(D:Nat->Nat->Prop):Option II->Prop
 |none=>∀(i k u v:Nat),D i k->i≠k->th[i]?=Z u->th[k]?=Z v->¬Pu ls u v
 |some c=>(∃i k u v:Nat,i≠k/\th[i]?=Z u/\th[k]?=Z v/\ac1 ls u v c/\c.length<=n)/\∀(i k u v:Nat),D i k->i≠k->th[i]?=Z u->th[k]?=Z v->∀c',ac1 ls u v c'->c.length<=c'.length
theorem agT.mono{D D':Nat->Nat->Prop}(B:agT n ls th D bo)(h:∀i k,i<th.length->k<th.length->D' i k->D i k):agT n ls th D' bo:=by
 have lt:∀{i u:Nat},th[i]?=Z u->i<th.length:=fun h=>(Ny.1 h).1;cases bo with
 |none=>exact fun i k u v d ne a b=>B i k u v (h i k (lt a) (lt b) d) ne a b
 |some c=>exact⟨B.1,fun i k u v d ne a b=>B.2 i k u v (h i k (lt a) (lt b) d) ne a b⟩
def aof(a h:aai)(bv:vV):Option II->Prop
 |none=>bv=.slice Y 0 0
 |some c=>RL RP h bv (kz c)/\Z2 a bv
theorem aof.le{d h h':aai}{bv:vV}{a:Option II}(b:aof d h bv a)(l:Le h h'):aof d h' bv a:=by
 cases a with
 |none=>exact b
 |some c=>exact⟨RL.le Nn.RP b.1 l,b.2⟩
theorem agT.add(B:agT n ls th D bo)(h:i=k\/∀u v,th[i]?=Z u->th[k]?=Z v->match bo with|none=>¬Pu ls u v|some c=>∀c',ac1 ls u v c'->c.length<=c'.length):agT n ls th (fun a b=>D a b\/(a=i/\b=k)) bo:=by
 cases bo with
 |none=>
  intro a b u v d ne e f;rcases d with d|⟨rfl,rfl⟩
  .exact B a b u v d ne e f
  grind
 |some c=>
  refine⟨B.1,fun a b u v d ne e f=>?_⟩;rcases d with d|⟨rfl,rfl⟩
  .exact B.2 a b u v d ne e f
  grind
theorem way1_any(W0:abw)(v P:vV)(n:Nat)(ls:xLP)(th:II)(h:aai)(hg:GR h v ⟨(n:Int),ls⟩)(hr:bX ⟨(n:Int),ls⟩)(H:RL RP h P (kz th))(Q:∀u∈th,u<n)(hl:th.length<=1000)(hex:∃i k u v:Nat,i≠k/\th[i]?=Z u/\th[k]?=Z v/\Pu ls u v):
  AC pG W0 65 [v,P] h fun x h'=>Le h h'/\∃c,RL RP h' x (kz c)/\Z2 h x/\agT n ls th (fun _ _=>True) (Z c):=by
 have aj:=hg
 obtain⟨ev,rfl,hp⟩:=hg.open
 refine AC.vF func65 ntmps65 results65 fun al=>?_;obtain⟨h1,b1,I,aH,-,lA⟩:=r8 (n:=(n:Int)) al hp
 generalize h.next=B at*
 have lt:=fun g=>H.TA g;rw[y6]at lt;have R:=fun(i:Nat)(hi:i<th.length)=>H.DH i (by rw[y6];exact hi);have S:=fun(g:aai)(T:Le h g)(i:Nat)(hi:i<th.length)=>show aaC pG g 3 (aaq P i)=Z (.int .i64 (th[i]:Nat)) by rw[(H.le Nn.RP T).Uc i (by rw[y6];exact hi),sY hi]
 refine Sk b1 ?_;refine lIn (fun k fr hq=>∃(i:Nat)(bv:vV)(l:Option II),k=th.length-i/\i<=th.length/\fr=mkF [(1,P),(2,pT (Z ⟨B,0,Y⟩)),(5,bv),(6,.int .i64 i)]/\Le h1 hq/\aof h hq bv l/\agT n ls th (fun a _=>a<i) l) ⟨0,_,Y,rfl,Z6 _,rfl,Le.refl _,rfl,fun i k u v d=>absurd d (y5 _)⟩ ?_;rintro k fr hq aq ⟨i,bv,l,rfl,hi,rfl,lq,F,s⟩;simp only[HO,seval,lt];refine Kl.intro (fun U=>?_) (fun hf=>?_)
 rotate_left
 .have ar:th.length<=i:=vp hf;refine Uy ?_;have⟨a,b,u,v,ne,hu,hv,V⟩:=hex;have la:=(Ny.1 hu).1;cases l with
  |none=>exact absurd V (s a b u v NH ne hu hv)
  |some c=>exact⟨I.trans lq,c,F.1,F.2,s.mono fun a b ha _ _=>by omega⟩
 have o:i<th.length:=acb U;clear U;have av:=aaa i NH;have a1:=R i o;have ay:th[i]<n:=Q _ (aaf o);have W:=CA o;have l1:=fun g T=>S g T i o;generalize th[i]=u at*;refine Uy ?_;refine lIn (fun k fr J=>∃(j:Nat)(bv:vV)(l:Option II),k=th.length-j/\j<=th.length/\fr=mkF [(1,P),(2,pT (Z ⟨B,0,Y⟩)),(5,bv),(6,.int .i64 i),(7,j)]/\Le h1 J/\aof h J bv l/\agT n ls th (fun a b=>a<i\/(a=i/\b<j)) l) ⟨0,bv,l,rfl,Z6 _,rfl,lq,F,s.mono fun a b _ _ d=>d.resolve_right fun q=>absurd q.2 (y5 _)⟩ ?_;clear lq F s aq;clear hq bv l;rintro k fr J aJ ⟨j,bv,l,rfl,hj,rfl,lz,F,s⟩;simp only[HO,seval,lt];refine Kl.intro (fun U=>?_) (fun hf=>?_)
 rotate_left
 .have ar:th.length<=j:=vp hf;refine Sk av ?_;exact lgA (JS o) ⟨i+1,bv,l,rfl,o,rfl,lz,F,s.mono fun a b ha hb d=>by grind⟩
 have f:j<th.length:=acb U;clear U;have p:=aaa j NH;have a2:=R j f;have az:th[j]<n:=Q _ (aaf f);have X:=CA f;have l2:=fun g T=>S g T j f;generalize th[j]=w at*;have A:=I.trans lz;have r:∀{l},agT n ls th (fun a b=>(a<i\/(a=i/\b<j))\/(a=i/\b=j)) l->agT n ls th (fun a b=>a<i\/(a=i/\b<j+1)) l:=fun B=>B.mono fun a b _ _ d=>by grind
 have aa:∀{x:Nat},th[i]?=Z x->x=u:=fun q=>(Option.some.inj (W.symm.trans q)).symm;have ae:∀{x:Nat},th[j]?=Z x->x=w:=fun q=>(Option.some.inj (X.symm.trans q)).symm;refine Uy ?_;refine gh (fRn 0 9 (JQ 9 [0,4,8] (tA [10,11,12,13,14] .done))) ?_;simp only[HO,seval,Qg,(lA J lz).1,a1,l1 J A,a2,l2 J A];refine kGi func63 (anv W0 _ n u w ls J (aj.le A) hr ay az) ?_;rintro x G w8 ⟨l8,K⟩;have t:=F.le l8;have m:=lz.trans l8;have C:=I.trans m;have aA:decide ((60:Int)=0)=fF:=by decide
 have L:decide ((0:Int)=0)=tT:=by decide
 rcases K with⟨aK,rfl⟩|⟨-,wv,c,rfl,ag,aB,aC,aD,aF⟩
 rotate_left
 have ai:RL RP G wv (kz c)/\Z2 h wv:=⟨ag,fun b hb=>A.none (aB b hb)⟩
 rotate_left
 .have z:agT n ls th (fun a b=>(a<i\/(a=i/\b<j))\/(a=i/\b=j)) l:=s.add (.inr fun x y N O=>by
   obtain rfl:=aa N;obtain rfl:=ae O;cases l<;>grind[ac1.bp])
  simp only[HO,seval,Qg,(lA G m).1,a1,l1 G C,a2,l2 G C];by_cases e:i=j
  .have D:decide ((i:Int)=(j:Int))=tT:=EL NH;refine Sk (Yb @bne.eq_1.{0} D p) ?_
   exact lgA (JS f) ⟨j+1,bv,l,rfl,f,rfl,m,t,r z⟩
  .have D:decide ((i:Int)=(j:Int))=fF:=Sb NH;refine Sk (xU @bne.eq_1.{0} D aA p) ?_
   exact lgA (JS f) ⟨j+1,bv,l,rfl,f,rfl,m,t,r z⟩
 simp only[HO,seval,Qg,(lA G m).1,a1,l1 G C,a2,l2 G C];by_cases e:i=j
 .have D:decide ((i:Int)=(j:Int))=tT:=EL NH;have z:agT n ls th (fun a b=>(a<i\/(a=i/\b<j))\/(a=i/\b=j)) l:=s.add (.inl e);refine Sk (Yb @bne.eq_1.{0} D p) ?_
  exact lgA (JS f) ⟨j+1,bv,l,rfl,f,rfl,m,t,r z⟩
 have D:decide ((i:Int)=(j:Int))=fF:=Sb NH;have own:∃i k u v:Nat,i≠k/\th[i]?=Z u/\th[k]?=Z v/\ac1 ls u v c/\c.length<=n:=⟨i,j,u,w,e,W,X,aC,aD⟩;have lw:=fun g=>ag.TA g;rw[y6]at lw;cases l with
 |none=>
  have E:bv=.slice Y 0 0:=F;subst E;have z:agT n ls th (fun a b=>(a<i\/(a=i/\b<j))\/(a=i/\b=j)) (Z c):=⟨own,fun a b x y d ne N O c' M=>by
   rcases d with d|⟨rfl,rfl⟩
   .exact absurd M.bp (s a b x y d ne N O)
   grind⟩
  simp only[HO,seval,bne,D,L,aEq,Mb,qL201,p];exact lgA (JS f) ⟨j+1,wv,Z c,rfl,f,rfl,m,ai,r z⟩
 |some b=>
  have rb:RL RP G bv (kz b):=t.1;have aL:0<b.length:=by obtain⟨_,_,_,_,-,-,-,q,-⟩:=s.1;exact q.ne
  have lb:=fun g=>rb.TA g;rw[y6]at lb;have⟨ba,bc,E,aE⟩:=rb.sl;obtain⟨ba,rfl⟩:=abV.1 (aE (by grind[y6]));by_cases cl:c.length<b.length
  .have dl:decide ((c.length:Int)<(b.length:Int))=tT:=EL NH;have tl:((c.length:Int)<(b.length:Int))=True:=eq_true NH;have z:agT n ls th (fun a b=>(a<i\/(a=i/\b<j))\/(a=i/\b=j)) (Z c):=⟨own,fun a b' x y d ne N O c' M=>by
    rcases d with d|⟨rfl,rfl⟩
    .have:=s.2 a b' x y d ne N O c' M;omega
    grind⟩
   subst E;simp only[HO,seval,bne,D,L,aEq,Mb,Ex,lw,lb,dl,tl,p];exact lgA (JS f) ⟨j+1,wv,Z c,rfl,f,rfl,m,ai,r z⟩
  .have dl:decide ((c.length:Int)<(b.length:Int))=fF:=Sb NH;have tl:((c.length:Int)<(b.length:Int))=False:=eq_false NH;have z:agT n ls th (fun a b=>(a<i\/(a=i/\b<j))\/(a=i/\b=j)) (Z b):=s.add (.inr fun x y N O=>by grind);subst E;simp only[HO,seval,bne,D,L,aEq,Mb,Ex,lw,lb,dl,tl,p];exact lgA (JS f) ⟨j+1,_,Z b,rfl,f,rfl,m,⟨rb,t.2⟩,r z⟩
theorem alp{es:xLP}{a b x y:Nat}:Jp (akC es (a:Int) (b:Int)) x y↔Jp es x y/\¬((x=a/\y=b)\/(x=b/\y=a)):=by grind[Jp,akC,afX]
def anw(es:xLP)(a b:Int):(akC es a b).Sublist es:=EP
def alq(es:xLP)(w:RZ):∀i,(afn es w i).Sublist es
 |0=>ann _
 |i+1=>(anw _ _ _).trans (alq es w i)
theorem am8(w:II)(i:Nat):(kz w).getD i 0=((w.getD i 0:Nat):Int):=by grind[kz]
theorem am9{es:xLP}{w:II}{x y:Nat}:∀i,i<w.length->(Jp (afn es (kz w) i) x y↔Jp es x y/\¬∃k,k<i/\((w.getD k 0=x/\w.getD (k+1) 0=y)\/(w.getD k 0=y/\w.getD (k+1) 0=x)))
 |0,_=>⟨fun h=>⟨h,fun⟨k,a,_⟩=>absurd a (y5 _)⟩,fun h=>h.1⟩
 |i+1,hi=>by show Jp (akC (afn es (kz w) i) ((kz w).getD i 0) ((kz w).getD (i+1) 0)) x y↔_;rw[am8,am8,alp,am9 i NH];grind
theorem adjL_getD{w:II}{x y:Nat}:Vj w x y↔∃k,k+1<w.length/\w.getD k 0=x/\w.getD (k+1) 0=y:=by
 constructor
 .rintro⟨k,a,h2⟩;grind
 .rintro⟨k,a,h2,h3⟩;refine⟨k,?_,?_⟩
  all_goals grind
theorem anx{es:xLP}{w:II}(h:0<w.length){x y:Nat}:Jp (afn es (kz w) (w.length-1)) x y↔Jp es x y/\¬(Vj w x y\/Vj w y x):=by grind[am9,adjL_getD]
section
variable{es:List Pr}{s t:Nat}{c:II}
theorem ac1.take(h:ac1 es s t c){i x:Nat}(d:c[i]?=Z x):ac1 es s x (c.take (i+1)):=by
 have hi:=(Ny.1 d).1;have e:(c.take (i+1)).length=i+1:=hGr;refine⟨NH,by grind[ac1.hd],hGr,fun a b ⟨k,f,h2⟩=>h.ad a b ⟨k,?_,?_⟩⟩
 all_goals grind
theorem ac1.cut(h:ac1 es s t c){i j x:Nat}(l:i<j)(hi:c[i]?=Z x)(g:c[j]?=Z x):ac1 es s t (c.take i++c.drop j)/\(c.take i++c.drop j).length<c.length:=by
 have o:=(Ny.1 g).1;have p:(c.take i).length=i:=hGr;have q:(c.drop j).length=c.length-j:=aeP;have len:(c.take i++c.drop j).length=i+(c.length-j):=hGr;have e:∀k,k<i->(c.take i++c.drop j)[k]?=c[k]?:=fun k m=>by grind
 have d:∀k,i<=k->(c.take i++c.drop j)[k]?=c[j+(k-i)]?:=fun k m=>by grind
 refine⟨⟨NH,?_,?_,fun a b ⟨k,f,h2⟩=>?_⟩,NH⟩
 .by_cases r:i=0
  all_goals grind[ac1.hd]
 .rw[len,d _ NH,show j+(i+(c.length-j)-1-i)=c.length-1 by omega];exact h.lst
 .have l2:=(Ny.1 h2).1;rw[len]at l2;by_cases c1:k+1<i
  .rw[e k NH]at f;rw[e (k+1) c1]at h2;exact h.ad a b ⟨k,f,h2⟩
  by_cases c2:k<i
  .have:k+1=i:=NH;rw[e k c2]at f;rw[d (k+1) NH,show j+(k+1-i)=j by omega,g]at h2;rw[<-this]at hi;exact h.ad a b ⟨k,f,hGr⟩
  .rw[d k NH]at f;rw[d (k+1) NH,show j+(k+1-i)=j+(k-i)+1 by omega]at h2;exact h.ad a b ⟨_,f,h2⟩
theorem ac1.nodup(h:ac1 es s t c)(b:∀c',ac1 es s t c'->c.length<=c'.length):c.Nodup:=by rw[iy,Lm];intro i j hi d a e;have⟨f,h2⟩:=h.cut a (CA hi) hGr;grind
theorem ac1.path(h:ac1 es s t c)(ne:s≠t):∃inn,c=aaF s inn t:=by
 obtain⟨a,f,h2,-⟩:=h
 match c,a with
 |[x],_=>grind
 |x::y::r,_=>
  have b:x=s:=hGr;subst b;rcases ah1 (y::r)with e|⟨l,z,e⟩
  .cases e
  rw[qL184]at e;rw[e]at h2 ⊢;have d:z=t:=by
   have:(x::(l++[z])).length-1=l.length+1:=by simp
   grind
  subst d;exact⟨l,rfl⟩
end
def HdW(es left:xLP)(x y:Nat):Prop:=Jp es x y/\¬Jp left x y
structure anG (n:Nat) (es left:xLP) (th:II):Prop where
 sub:left.Sublist es
 nd:th.Nodup
 lt:∀u∈th,u<n
 on:∀u∈th,∃w,HdW es left u w
 all:∀x y,HdW es left x y->x∈th
 three:3<=th.length
def amv{es left:xLP}(h:left.Sublist es){x y:Nat}(a:Jp left x y):Jp es x y:=a.imp (fun q=>h.subset q) (fun q=>h.subset q)
theorem hitT{left es:xLP}{T:Nat->Prop}(b:∀p q,Jp es p q->¬T p->Jp left p q){on:Nat->Bool}{x z:Nat}(h:Cn on es x z)(d:¬T x)(a:T z):∃v,T v/\on v=fF/\Pu left x v:=by
 have key:(¬T z/\Pu left x z)\/∃v,T v/\on v=fF/\Pu left x v:=by
  clear a
  induction h<;>grind[Pu.refl,tM]
 grind
section
variable{n:Nat}{es left:List Pr}{th:II}(hr:bX ⟨(n:Int),es⟩)(T2:zW n es)
include hr T2
theorem off_con{c x z:Nat}(b:x<n)(d:z<n)(a:x≠c)(h2:z≠c):Cn (wo c) es x z:=by
 have hR:=hr.GD;have D:=T2.Z7 hR;have ne:∀{v},v<n->eN n es v≠[]:=fun{v} e=>by grind[zW.ne,aU]
 exact crW hR a (D.Z7 c x z a h2 (ne b) (ne d))
theorem anG.two(I:anG n es left th)(d:left≠[]):∃i k u v:Nat,i≠k/\th[i]?=Z u/\th[k]?=Z v/\Pu left u v:=by
 have hR:=hr.GD;have idx:∀{u v},u∈th->v∈th->u≠v->Pu left u v->∃i k u v:Nat,i≠k/\th[i]?=Z u/\th[k]?=Z v/\Pu left u v:=fun h o ne A=>by grind[mem_iff_getElem?]
 have j:∀p q,Jp es p q->¬p∈th->Jp left p q:=fun p q a f=>ZT fun b=>f (I.all p q ⟨a,b⟩);have off:∀{x},x<n->x∉th->∃i k u v:Nat,i≠k/\th[i]?=Z u/\th[k]?=Z v/\Pu left u v:=fun{x} g b=>by
  have h3:=I.three;have m0:th[0]∈th:=aaf _;obtain⟨u,h,-,cu⟩:=hitT (T:=(·∈th)) j (T2.bp g (I.lt _ m0)) b m0;obtain⟨z,m,r⟩:∃z∈th,z≠u:=by
   by_cases e:th[0]=u
   .refine⟨th[1],aaf _,fun q=>?_⟩;have:=afM I.nd (CA (show 0<th.length by omega)) (by rw[CA (show 1<th.length by omega),q,e]);omega
   grind
  have nx:x≠u:=fun e=>b (e▸h);have⟨v,o,B,cv⟩:=hitT (T:=(·∈th)) j (off_con hr T2 g (I.lt _ m) nx r) b m;grind[Cn.symm,Cn.trans]
 have⟨p,l,e⟩:=eR d;have f:p∈left:=by rw[e];simp
 obtain⟨x,y,g,C,ha,-⟩:=aiu (fun q w=>hR q (I.sub.subset w)) f;by_cases c1:x∈th
 .by_cases c2:y∈th
  .exact idx c1 c2 (fun e=>by rw[e]at ha;exact Xa hR (amv I.sub ha)) (abu ha)
  grind
 grind
end
def alT(th c:II):II:=c.foldl (fun t x=>if x∈t then t else t++[x]) th
theorem amO:∀(c th:II),th.Nodup->(alT th c).Nodup/\∀x,x∈alT th c↔x∈th\/x∈c
 |[],th,h=>⟨h,fun x=>by simp[alT]⟩
 |y::c,th,h=>by
  have e:alT th (y::c)=alT (if y∈th then th else th++[y]) c:=rfl
  rw[e];by_cases b:y∈th
  .rw[abe b];have⟨d,h2⟩:=amO c th h;grind
  .rw[abE b];have a:(th++[y]).Nodup:=hGr;have⟨d,h2⟩:=amO c (th++[y]) a;grind
theorem addM_take{th c:II}{i:Nat}(h:i<c.length):alT th (c.take (i+1))=if c[i]∈alT th (c.take i)then alT th (c.take i)else alT th (c.take i)++[c[i]]:=by grind[alT,take_succ_eq_append_getElem]
section
variable{n:Nat}{es left:List Pr}{th:II}(hr:bX ⟨(n:Int),es⟩)
include hr
theorem anG.step(I:anG n es left th){c:II}(B:agT n left th (fun _ _=>True) (Z c)):
  ∃a inn b,c=aaF a inn b/\Ka (eN n es) (HdW es left) a inn b/\anG n es (afn left (kz c) (c.length-1)) (alT th c)/\
   (∀x y,HdW es (afn left (kz c) (c.length-1)) x y↔HdW es left x y\/Ay a inn b x y)/\(afn left (kz c) (c.length-1)).length<left.length/\2<=c.length/\c.length<=n/\∀x∈c,x<n:=by
 have hR:=hr.GD;have⟨⟨i,k,u,v,p,z,C,d,D⟩,g⟩:=B;have E:u≠v:=fun e=>by subst e;exact p (afM I.nd z C)
 have mn:∀c',ac1 left u v c'->c.length<=c'.length:=fun c' h=>g i k u v trivial p z C c' h;have nd:=d.nodup mn;have⟨inn,e⟩:=d.path E;have h2:2<=c.length:=by grind[aaF]
 have r:∀{x y},Ay u inn v x y↔Vj c x y\/Vj c y x:=fun{x y}=>by rw[e];exact Iff.rfl
 have wl:∀{x y},Ay u inn v x y->Jp left x y:=fun h=>(r.1 h).elim (fun q=>d.ad _ _ q) fun q=>(d.ad _ _ q).symm;have Q:∀x y,Jp (afn left (kz c) (c.length-1)) x y↔Jp left x y/\¬Ay u inn v x y:=fun x y=>by grind[anx]
 have R:∀x y,HdW es (afn left (kz c) (c.length-1)) x y↔HdW es left x y\/Ay u inn v x y:=fun x y=>by
  unfold HdW;rw[Q];constructor
  .grind
  .rintro(⟨m,h2⟩|h)
   .grind
   .exact⟨amv I.sub (wl h),fun q=>q.2 h⟩
 have F:∀x∈c,x<n:=fun x f=>by
  obtain⟨j,A,rfl⟩:=Yi.1 f;by_cases G:j+1<c.length
  .exact((amv I.sub (d.ad _ _ ⟨j,CA A,CA G⟩)).lt hR).1
  .have m:=CA (show j-1<c.length by omega);have o:c[j-1+1]?=Z c[j]:=hGr;exact((amv I.sub (d.ad _ _ ⟨j-1,m,o⟩)).lt hR).2
 have H:∀{x y},Ay u inn v x y->x∈c:=fun h=>by
  rcases r.1 h with⟨j,W,-⟩|⟨j,-,X⟩
  all_goals grind
 have O:∀x∈c,∃y,Ay u inn v x y:=fun x f=>by
  obtain⟨j,A,rfl⟩:=Yi.1 f;by_cases G:j+1<c.length
  .exact⟨_,r.2 (.inl ⟨j,CA A,CA G⟩)⟩
  .have m:=CA (show j-1<c.length by omega);have o:c[j-1+1]?=Z c[j]:=hGr;exact⟨_,r.2 (.inr ⟨j-1,m,o⟩)⟩
 have S:u∈th:=BS z;have T:v∈th:=BS C;have⟨J,l⟩:=amO c th I.nd;refine⟨u,inn,v,e,⟨hGr,fun j x y m h2=>?_,fun x f w hw K=>?_,?_,?_⟩,⟨(alq _ _ _).trans I.sub,J,fun x f=>?_,fun x f=>?_,fun x y h=>?_,?_⟩,R,?_,h2,D,F⟩
 .rw[<-e]at m h2;have a:=d.ad x y ⟨j,m,h2⟩;exact⟨(vD hR).2 (amv I.sub a),fun q=>q.2 a⟩
 .have L:=I.all x w K;have⟨j,A,U⟩:=Yi.1 f;have P:c[j+1]?=Z x:=by
   rw[e];show(inn++[v])[j]?=_;grind
  have l1:j+2<c.length:=by rw[e];unfold aaF;simp;omega
  have M:x≠u:=fun q=>by have:=afM nd P (by rw[q];exact d.hd);omega
  have⟨V,N⟩:=vZ.1 L;have:=g i V u x trivial (fun q=>M hGr) z N _ (d.take P);grind
 .obtain⟨w,hw⟩:=I.on u S;exact⟨w,(vD hR).2 hw.1,hw⟩
 .obtain⟨w,hw⟩:=I.on v T;exact⟨w,(vD hR).2 hw.1,hw⟩
 .grind[anG.lt]
 .rcases(l x).1 f with q|q
  .obtain⟨w,hw⟩:=I.on x q;grind
  grind
 .grind[anG.all]
 .exact jz I.three (acK I.nd fun x f=>(l x).2 (.inl f))
 .have hs:=alq left (kz c) (c.length-1);refine qL202 hs.length_le fun q=>?_;have eq:=hs.eq_of_length q;have w0:Ay u inn v c[0] c[1]:=r.2 (.inl ⟨0,CA NH,CA NH⟩);grind
end
theorem adjL_ring{c:II}(nd:c.Nodup)(f:0<c.length){a x y:Nat}(i:c[c.length-1]?=Z a):Vj (a::c) x y↔x∈c/\nx c x=y:=by
 have d:∀j (b:j<c.length),nx c c[j]=c[(j+1)%c.length]'(Q4 _ f):=fun j b=>by have:=dN nd b;grind
 have g:c[c.length-1]'(by omega)=a:=hGr
 constructor
 .rintro⟨k,l,h2⟩;have l2:=(Ny.1 h2).1;rw[amJ]at h2;have m:k<c.length:=hGr;have⟨_,o⟩:=Ny.1 h2;cases k<;>grind[Nat.mod_self,Nat.mod_eq_of_lt]
 .rintro⟨h,rfl⟩;obtain⟨j,b,rfl⟩:=Yi.1 h;rw[d j b];by_cases c1:j+1<c.length
  .refine⟨j+1,hGr,?_⟩;grind[Nat.mod_eq_of_lt]
  .have e:j=c.length-1:=NH;refine⟨0,?_,?_⟩
   all_goals grind[Nat.mod_self]
section
variable{n:Nat}{es:List Pr}(hr:bX ⟨(n:Int),es⟩)(T2:zW n es)
include hr T2
theorem ring_con{a b:Nat}(ha:a<n)(hb:b<n)(ne:a≠b):Pu (akC es (a:Int) (b:Int)) b a:=(by grind[zW.less,bX.GD,alp])
omit T2 in
theorem aow{a b:Nat}(m:Jp es a b){c:II}(h:ac1 (akC es (a:Int) (b:Int)) b a c)(o:∀c',ac1 (akC es (a:Int) (b:Int)) b a c'->c.length<=c'.length):
  c.Nodup/\3<=c.length/\(∀v∈c,nx c v∈eN n es v)/\anG n es (afn es (kz (a::c)) ((a::c).length-1)) c/\∀x y,HdW es (afn es (kz (a::c)) ((a::c).length-1)) x y↔Ei c x y:=by
 have hR:=hr.GD;have ne:a≠b:=fun e=>by grind[Xa]
 have nd:=h.nodup o;have p:=h.ne;have h3:3<=c.length:=by
  have s:=h.hd;have j:=h.lst;by_cases t:c.length=1
  .grind
  by_cases l:c.length=2
  .rw[l]at j;have:=(alp.1 (h.ad b a ⟨0,s,j⟩)).2;omega
  .omega
 have rg:∀x y,Vj (a::c) x y↔x∈c/\nx c x=y:=fun x y=>adjL_ring nd p h.lst;have ad:∀x y,Vj (a::c) x y->Jp es x y:=fun x y ⟨k,d,h2⟩=>by
  rw[amJ]at h2;cases k with
  |zero=>simp at d;rw[h.hd]at h2;grind
  |succ k=>rw[amJ]at d;exact(alp.1 (h.ad x y ⟨k,d,h2⟩)).1
 have w:∀x y,Jp (afn es (kz (a::c)) ((a::c).length-1)) x y↔Jp es x y/\¬(Vj (a::c) x y\/Vj (a::c) y x):=fun x y=>anx Ma;have f:∀x y,HdW es (afn es (kz (a::c)) ((a::c).length-1)) x y↔Ei c x y:=fun x y=>by grind[HdW,Ei,Jp.symm]
 have cl:∀v∈c,Jp es v (nx c v):=fun v g=>ad _ _ ((rg v (nx c v)).2 ⟨g,rfl⟩);refine⟨nd,h3,fun v g=>(vD hR).2 (cl v g),⟨alq _ _ _,nd,fun u i=>((cl u i).lt hR).1,fun u i=>⟨nx c u,(f _ _).2 (.inl ⟨i,rfl⟩)⟩,fun x y q=>?_,h3⟩,f⟩;rcases(f x y).1 q with⟨q,-⟩|⟨q,l⟩
 all_goals grind[ZP]
end
structure WsS (r hq:aai) (X n:Nat) (xv tv lv:vV) (us:xLV) (rows:AM) (th:II) (left:xLP):Prop where
 O:afg r hq xv us rows
 gt:GI hq tv (kz th)
 at_:Z2 r tv
 oX:hq.own X=Z (.cells [n,lv])
 nX:r.own X=Y
 dx:blk xv≠Z X
 dt:blk tv≠Z X
 d:∀b,blk xv=Z b->blk tv≠Z b
 pl:PR r lv left
theorem RL.remK{u:vV}{x:RZ}:∀{l:II}{h:aai},RL RP h u x->(∀b∈l,blk u≠Z b)->RL RP (rem l h) u x
 |[],_,r,_=>r
 |a::l,h,r,hb=>(RL.remK r hGr).anW (hb a Ma)
section
variable{r hq:aai}{X n:Nat}{xv tv lv:vV}{us:List vV}{rows:AM}{th:II}{left:List Pr}
def WsS.ownx(S:WsS r hq X n xv tv lv us rows th left){b:Nat}(h:blk xv=Z b\/blk tv=Z b\/b=X):hq.own b≠Y:=by
 rcases h with h|h|rfl
 .exact GS.Sy S.O.g h
 .exact GS.Sy S.gt h
 .rw[S.oX];simp
theorem WsS.frz(S:WsS r hq X n xv tv lv us rows th left){h':aai}(l:Le hq h'):∃a,WsS a h' X n xv tv lv us rows th left/\Le r a/\(∀u x,RL RP h' u x->Z2 hq u->RL RP a u x)/\∀g,Le g h'->(∀b,blk xv=Z b\/blk tv=Z b\/b=X->g.own b=Y)->Le g a:=by
 have mem:∀b,b∈X::(bl xv++bl tv)↔blk xv=Z b\/blk tv=Z b\/b=X:=fun b=>by grind[Zr]
 have own:∀b,blk xv=Z b\/blk tv=Z b\/b=X->(rem (X::(bl xv++bl tv)) h').own b=Y:=fun b hb=>by grind[DC]
 have lr:Le r (rem (X::(bl xv++bl tv)) h'):=(S.O.lr.trans l).iV fun b hb=>by
  rcases(mem b).1 hb with q|q|q
  .exact S.O.ap b q
  .exact S.at_ b q
  grind[WsS.nX]
 refine⟨rem (X::(bl xv++bl tv)) h',⟨⟨S.O.g.le l,Sa _ _,fun b hb=>own b (.inl hb),S.O.ln,fun i x u e h2=>(S.O.rd i x u e h2).le Nn.RP lr⟩,S.gt.le l,fun b hb=>own b (.inr (.inl hb)),l.own _ _ S.oX,own X (.inr (.inr rfl)),S.dx,S.dt,S.d,S.pl.le lr⟩,lr,fun u x f ha=>?_,fun g h hg=>h.iV fun b hb=>hg b ((mem b).1 hb)⟩;exact RL.remK f fun b hb c=>S.ownx ((mem b).1 hb) (ha b c)
theorem WsS.push(S:WsS r hq X n xv tv lv us rows th left)(l:WF hq){u:vV}{x:RZ}(s:RL RP r u x)(G:rows.length<=100000):
  ∃f h j,aas pG hq 45 1 [(0,u)]=Z (sL (Z hq.next) 1 1,f)/\aaR pG f 45 45 xv (sL (Z hq.next) 1 1)=Z (h,j)/\WsS r j X n h tv lv (us++[u]) (rows++[x]) th left/\WF j:=by
 have u1:=s.one;have⟨f,e4,l4,m,B⟩:=Tt l [u]
 have bl:aas pG hq 45 1 [(0,u)]=Z (sL (Z hq.next) 1 1,hq.alloc (.cells [u])):=by obtain⟨a,c,rfl,-⟩:=s.sl;rfl
 have C:CS 1 f (sL (Z hq.next) 1 1) 1 [u]:=CS.own (k:=1) (off:=0) (n:=1) (cap:=1) B Ma
 have⟨v',j,v,H,hf⟩:=GS.append (P:=pG) (t:=45) (xt:=45) (k:=1) Ji (S.O.g.le l4) (fun e D=>CS.src D C) S.O.one (by simp[u1]) Ma (by have:=S.O.ln;omega);have⟨l5,E⟩:=hf r m (S.O.lr.trans l4) S.O.ap;have keep:=fun{b:Nat}{o:fK}(p:hq.own b=Z o)(hb:blk xv≠Z b)=>aG hf m (l4.own _ _ p) hb;have z:=keep S.oX S.dx;refine⟨f,v',j,by rw[bl,e4],v,⟨⟨hGr,l5,E,by simp[S.O.ln],fun i y w A h2=>?_⟩,GS.kept S.gt fun b o hb p=>(keep p fun q=>S.d b q hb).1,S.at_,z.1,S.nX,z.2,S.dt,fun b hb F=>?_,S.pl⟩,xr m v⟩
 .have ln:=S.O.ln;by_cases c:i<us.length
  .rw[si NH]at A;rw[si c]at h2;exact S.O.rd i y w A h2
  grind
 .have:∃o,hq.own b=Z o:=by
   cases q:hq.own b with
   |none=>exact absurd q (GS.Sy S.gt F)
   |some o=>grind
  grind[WsS.d]
theorem WsS.addT(S:WsS r hq X n xv tv lv us rows th left)(i:WF hq)(v:Nat)(A:th.length<=100000):
  ∃a h f,aas pG hq 47 1 [(0,v)]=Z (sL (Z hq.next) 1 1,h)/\aaR pG h 47 47 tv (sL (Z hq.next) 1 1)=Z (a,f)/\WsS r f X n xv a lv us rows (th++[v]) left/\WF f:=by
 have⟨a,h,f,e4,t,k,u,l4,hf,l⟩:=S.gt.push i (v:Int) (by grind[y6]);have⟨l5,w⟩:=hf r S.O.lr S.at_;have m:=l X _ S.oX S.dt;have j:kz th++[(v:Int)]=kz (th++[v]):=by simp[kz]
 rw[j]at k;have gs:GS 1 f xv us.length us:=by
  obtain⟨p,⟨q,x⟩|⟨id,c,cap,q,y,s,z⟩⟩:=S.O.g
  .exact⟨p,.inl ⟨q,x⟩⟩
  .exact⟨p,.inr ⟨id,c,cap,q,(l id _ y fun e=>S.d id (by rw[q];rfl) e).1,s,z⟩⟩
 refine⟨a,h,f,e4,t,⟨⟨gs,l5,S.O.ap,S.O.ln,S.O.rd⟩,k,w,m.1,S.nX,S.dx,m.2,fun b hb s=>?_,S.pl⟩,u⟩;have:∃o,hq.own b=Z o:=by
  cases q:hq.own b with
  |none=>exact absurd q (GS.Sy S.O.g hb)
  |some o=>grind
 grind[WsS.d]
def WsS.setX(S:WsS r hq X n xv tv lv us rows th left)(c:WF hq){b:vV}{a:xLP}(e:PR r b a):∃h',aaK pG hq 24 (pT (Z X)) (.agg #[n,b])=Z h'/\WsS r h' X n xv tv b us rows th a/\WF h':=by refine⟨_,aib S.oX e.sl.one e.sl.cell,⟨⟨GS.put S.O.g _ S.dx,S.O.lr.put _ S.nX,S.O.ap,S.O.ln,S.O.rd⟩,GS.put S.gt _ S.dt,S.at_,aai.Y3 _ _ _,S.nX,S.dx,S.dt,S.d,e⟩,c.put _ (c.lt S.oX)⟩
end
end
end Go.Fw
